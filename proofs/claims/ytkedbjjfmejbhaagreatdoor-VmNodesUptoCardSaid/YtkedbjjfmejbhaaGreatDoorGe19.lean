/- Sums of lists of deltas, on plain data: the program's (sorted, neighbours joined) and the reference's (halves, merged) are the same. -/
import Derived.Test.YtkedbjjfmejbhaaGreatDoorGe1
import Derived.Test.YtkedbjjfmejbhaaGreatDoorGe3
import Derived.Test.YtkedbjjfmejbhaaGreatDoorGe4
import Derived.Test.YtkedbjjfmejbhaaGreatDoorGe5
import Derived.Test.YtkedbjjfmejbhaaGreatDoorGe12
import Derived.Test.YtkedbjjfmejbhaaGreatDoorGe14
import Derived.Test.YtkedbjjfmejbhaaGreatDoorGe15
set_option linter.unusedSimpArgs false
set_option linter.unusedVariables false
namespace Go.Proofs.YtkedbjjfmejbhaaGreatDoor
open Go.RowKit Go.Lib Go.Sort
structure PO {α : Type} (c : α -> α -> Int) : Prop where
 self : ∀ x, c x x = 0
 anti : ∀ x y, c x y < 0 ↔ 0 < c y x
 trans : ∀ x y z, c x y < 0 -> c y z < 0 -> c x z < 0
 cong : ∀ x y z, c x y = 0 -> (c x z < 0 ↔ c y z < 0)
section
variable {α β : Type}
theorem PO.zero {c : α -> α -> Int} (h : PO c) {x y : α} (e : c x y = 0) : c y x = 0 := by
 have h1 := h.anti x y
 have h2 := h.anti y x
 omega
theorem PO.cong2 {c : α -> α -> Int} (h : PO c) {x y : α} (z : α) (e : c x y = 0) : (c z x < 0 ↔ c z y < 0) /\ (c z x = 0 ↔ c z y = 0) /\ (c x z = 0 ↔ c y z = 0) := by
 have h1 := h.anti x z
 have h2 := h.anti y z
 have h3 := h.anti z x
 have h4 := h.anti z y
 have h5 := h.cong x y z e
 by_cases k : c z x < 0
 .have : c z y < 0 := by
   by_cases k2 : c z y < 0
   .exact k2
   .by_cases k3 : c z y = 0
    .have := (h.cong z y x k3).1 k
     have := h.zero e
     omega
    .have := h.trans y z x (by omega) k
     have := h.zero e
     omega
  omega
 .by_cases k2 : c z y < 0
  .have : c z x < 0 := by
    by_cases k3 : c z x = 0
    .have := (h.cong z x y k3).1 k2
     omega
    .have := h.trans x z y (by omega) k2
     omega
   omega
  .omega
theorem PO.swo {c : α -> α -> Int} (h : PO c) : SWO fun x y => decide (c x y < 0) where
 irrefl := fun x => by simp [h.self]
 trans := fun x y z h1 h2 => by simp only [decide_eq_true_eq] at *; exact h.trans x y z h1 h2
 ntrans := fun x y z h1 h2 => by
  simp only [decide_eq_false_iff_not] at *
  intro h3
  by_cases k : c x y = 0
  .exact h2 ((h.cong x y z k).1 h3)
  .exact h2 (h.trans y x z (by have := h.anti y x; omega) h3)
theorem PO.comap {c : β -> β -> Int} (h : PO c) (f : α -> β) : PO fun x y => c (f x) (f y) :=
 ⟨fun _ => h.self _, fun _ _ => h.anti _ _, fun _ _ _ => h.trans _ _ _, fun _ _ _ => h.cong _ _ _⟩
theorem PO.comb {c1 c2 : α -> α -> Int} (h1 : PO c1) (h2 : PO c2) : PO fun x y => if c1 x y ≠ 0 then c1 x y else c2 x y where
 self := fun x => by simp [h1.self, h2.self]
 anti := fun x y => by
  have a1 := h1.anti x y
  have a2 := h1.anti y x
  have a3 := h2.anti x y
  split <;> split <;> omega
 trans := fun x y z k1 k2 => by
  have a1 := h1.trans x y z
  have a2 := h2.trans x y z
  by_cases e1 : c1 x y = 0
  .have g := h1.cong2 z e1
   rw [if_neg (by simpa using e1)] at k1
   by_cases e2 : c1 y z = 0
   .have := g.2.2.2 e2
    rw [if_neg (by simpa using e2)] at k2
    rw [if_neg (by simpa using this)]
    exact a2 k1 k2
   .rw [if_pos e2] at k2
    have := (h1.cong x y z e1).2 k2
    rw [if_pos (by omega)]; exact this
  .rw [if_pos e1] at k1
   by_cases e2 : c1 y z = 0
   .have := ((h1.cong2 x e2).1).1 k1
    rw [if_pos (by omega)]; exact this
   .rw [if_pos e2] at k2
    have := a1 k1 k2
    rw [if_pos (by omega)]; exact this
 cong := fun x y z k => by
  have e1 : c1 x y = 0 := by
   by_cases e : c1 x y = 0
   .exact e
   .rw [if_pos e] at k; exact k
  rw [if_neg (by simpa using e1)] at k
  have g1 := h1.cong x y z e1
  have g2 := h1.cong2 z e1
  have g3 := h2.cong x y z k
  by_cases e2 : c1 x z = 0
  .rw [if_neg (by simpa using e2), if_neg (by simpa using g2.2.2.1 e2)]; exact g3
  .rw [if_pos e2, if_pos (fun e => e2 (g2.2.2.2 e))]; exact g1
def lexC (c : α -> α -> Int) : List α -> List α -> Int
 | [], [] => 0
 | [], _ :: _ => -1
 | _ :: _, [] => 1
 | a :: xs, b :: bs => if c a b ≠ 0 then c a b else lexC c xs bs
theorem qtj {c : α -> α -> Int} (h : PO c) : ∀ l, lexC c l l = 0
 | [] => rfl
 | a :: l => by rw [lexC, if_neg (by simp [h.self]), qtj h l]
theorem qth {c : α -> α -> Int} (h : PO c) : ∀ a b, lexC c a b < 0 ↔ 0 < lexC c b a
 | [], [] => by simp [lexC]
 | [], _ :: _ => by simp [lexC]
 | _ :: _, [] => by simp [lexC]
 | a :: xs, b :: bs => by
  have a1 := h.anti a b
  have a2 := h.anti b a
  have ih := qth h xs bs
  rw [lexC, lexC]
  split <;> split <;> omega
theorem qom {c : α -> α -> Int} (h : PO c) : ∀ x y z, lexC c x y < 0 -> lexC c y z < 0 -> lexC c x z < 0
 | [], [], _, h1, _ => by simp [lexC] at h1
 | [], _ :: _, [], _, h2 => by simp [lexC] at h2
 | [], _ :: _, _ :: _, _, _ => by simp [lexC]
 | _ :: _, [], _, h1, _ => by simp [lexC] at h1
 | _ :: _, _ :: _, [], _, h2 => by simp [lexC] at h2
 | a :: xs, b :: bs, d :: ds, h1, h2 => by
  have ih := qom h xs bs ds
  rw [lexC] at *
  by_cases e1 : c a b = 0
  .rw [if_neg (by simpa using e1)] at h1
   have g := h.cong2 d e1
   by_cases e2 : c b d = 0
   .rw [if_neg (by simpa using e2)] at h2
    rw [if_neg (by simpa using g.2.2.2 e2)]
    exact ih h1 h2
   .rw [if_pos e2] at h2
    have := (h.cong a b d e1).2 h2
    rw [if_pos (by omega)]; exact this
  .rw [if_pos e1] at h1
   by_cases e2 : c b d = 0
   .have := ((h.cong2 a e2).1).1 h1
    rw [if_pos (by omega)]; exact this
   .rw [if_pos e2] at h2
    have := h.trans a b d h1 h2
    rw [if_pos (by omega)]; exact this
theorem qti {c : α -> α -> Int} (h : PO c) : ∀ x y z, lexC c x y = 0 -> (lexC c x z < 0 ↔ lexC c y z < 0)
 | [], [], _, _ => Iff.rfl
 | [], _ :: _, _, h1 => by simp [lexC] at h1
 | _ :: _, [], _, h1 => by simp [lexC] at h1
 | _ :: _, _ :: _, [], _ => by simp [lexC]
 | a :: xs, b :: bs, d :: ds, h1 => by
  rw [lexC] at h1
  have e1 : c a b = 0 := by
   by_cases e : c a b = 0
   .exact e
   .rw [if_pos e] at h1; exact h1
  rw [if_neg (by simpa using e1)] at h1
  have ih := qti h xs bs ds h1
  have g := h.cong2 d e1
  have g1 := h.cong a b d e1
  rw [lexC, lexC]
  by_cases e2 : c a d = 0
  .rw [if_neg (by simpa using e2), if_neg (by simpa using g.2.2.1 e2)]; exact ih
  .rw [if_pos e2, if_pos (fun e => e2 (g.2.2.2 e))]; exact g1
theorem PO.lex {c : α -> α -> Int} (h : PO c) : PO (lexC c) := ⟨qtj h, qth h, qom h, qti h⟩
end
theorem qym : PO compareInt where
 self := fun x => by simp [compareInt]
 anti := fun x y => by unfold compareInt; split <;> split <;> (try split) <;> (try split) <;> omega
 trans := fun x y z h1 h2 => by
  unfold compareInt at *
  split at h1
  .split at h2
   .rw [if_pos (by omega)]; omega
   .split at h2 <;> omega
  .split at h1 <;> omega
 cong := fun x y z h => by
  have : x = y := by
   unfold compareInt at h
   split at h
   .omega
   .split at h <;> omega
  rw [this]
def cmpB (a b : UInt8) : Int := compareInt a.toNat b.toNat
theorem qrv : ∀ a b, compareBytes a b = lexC cmpB a b
 | [], [] => rfl
 | [], _ :: _ => rfl
 | _ :: _, [] => rfl
 | a :: xs, b :: bs => by
  rw [compareBytes, lexC, qrv xs bs]
  have e : cmpB a b = if a.toNat < b.toNat then -1 else if b.toNat < a.toNat then 1 else 0 := by
   unfold cmpB compareInt
   by_cases h1 : a.toNat < b.toNat
   .rw [if_pos h1, if_pos (by omega)]
   .by_cases h2 : b.toNat < a.toNat
    .rw [if_neg h1, if_pos h2, if_neg (by omega), if_pos (by omega)]
    .rw [if_neg h1, if_neg h2, if_neg (by omega), if_neg (by omega)]
  rw [e]
  simp only [UInt8.lt_iff_toNat_lt]
  by_cases h1 : a.toNat < b.toNat
  .rw [if_pos h1, if_pos h1, if_pos (by decide)]
  .by_cases h2 : b.toNat < a.toNat
   .rw [if_neg h1, if_pos h2, if_neg h1, if_pos h2, if_pos (by decide)]
   .rw [if_neg h1, if_neg h2, if_neg h1, if_neg h2, if_neg (by decide)]
theorem qka1 : PO compareBytes := by
 have : compareBytes = lexC cmpB := by funext a b; exact qrv a b
 rw [this]
 exact (qym.comap fun a : UInt8 => (a.toNat : Int)).lex
theorem qsc1 : PO cmpV := by
 have h := (qym.comap fun v : Val => v.k).comb ((qym.comap fun v : Val => v.n).comb (qka1.comap fun v : Val => v.s.data.toList))
 have : cmpV = fun x y => if compareInt x.k y.k ≠ 0 then compareInt x.k y.k else if compareInt x.n y.n ≠ 0 then compareInt x.n y.n else compareBytes x.s.data.toList y.s.data.toList := by
  funext x y
  unfold cmpV orI orI orI orI
  split
  .rfl
  .split
   .rfl
   .split
    .rfl
    .omega
 rw [this]; exact h
def cmpR : List Val -> List Val -> Int := lexC cmpV
def cmpD (x y : Delta) : Int := if compareInt x.time y.time ≠ 0 then compareInt x.time y.time else cmpR x.row y.row
theorem qbe : PO cmpD := (qym.comap fun d : Delta => d.time).comb (qsc1.lex.comap fun d : Delta => d.row)
def ltD (x y : Delta) : Bool := decide (cmpD x y < 0)
def cnt (z : Delta) : List Delta -> Int
 | [] => 0
 | x :: l => (if cmpD x z = 0 then x.n else 0) + cnt z l
def totD : List Delta -> Int
 | [] => 0
 | x :: l => x.n + totD l
def posD (l : List Delta) : Prop := ∀ x ∈ l, 0 < x.n
structure Canon (l : List Delta) : Prop where
 up : l.Pairwise fun x y => cmpD x y < 0
 pos : posD l
theorem qlj (z : Delta) : ∀ a b, cnt z (a ++ b) = cnt z a + cnt z b
 | [], b => by simp [cnt]
 | x :: a, b => by rw [List.cons_append, cnt, cnt, qlj z a b]; omega
theorem qjt : ∀ a b, totD (a ++ b) = totD a + totD b
 | [], b => by simp [totD]
 | x :: a, b => by rw [List.cons_append, totD, totD, qjt a b]; omega
theorem qii1 (z : Delta) {a b : List Delta} (h : a.Perm b) : cnt z a = cnt z b := by
 induction h with
 | nil => rfl
 | cons x _ ih => rw [cnt, cnt, ih]
 | swap x y l => rw [cnt, cnt, cnt, cnt]; omega
 | trans _ _ h1 h2 => rw [h1, h2]
theorem qkt1 {a b : List Delta} (h : a.Perm b) : totD a = totD b := by
 induction h with
 | nil => rfl
 | cons x _ ih => rw [totD, totD, ih]
 | swap x y l => rw [totD, totD, totD, totD]; omega
 | trans _ _ h1 h2 => rw [h1, h2]
theorem qpt {z : Delta} : ∀ {l : List Delta}, (∀ x ∈ l, cmpD x z ≠ 0) -> cnt z l = 0
 | [], _ => rfl
 | x :: l, h => by rw [cnt, if_neg (h x (by simp)), qpt fun y hy => h y (by simp [hy])]; rfl
theorem qdk : ∀ {l : List Delta}, posD l -> 0 <= totD l
 | [], _ => Int.le_refl _
 | x :: l, h => by
  have h1 := h x (by simp)
  have h2 := qdk (l := l) fun y hy => h y (by simp [hy])
  rw [totD]; omega
theorem Canon.tail {x : Delta} {l : List Delta} (h : Canon (x :: l)) : Canon l := ⟨(List.pairwise_cons.1 h.up).2, fun y hy => h.pos y (by simp [hy])⟩
theorem Canon.head_cnt {x : Delta} {l : List Delta} (h : Canon (x :: l)) : cnt x (x :: l) = x.n := by
 rw [cnt, if_pos (qbe.self x), qpt fun y hy => ?_]
 .omega
 .have h1 := (List.pairwise_cons.1 h.up).1 y hy
  have h2 := qbe.anti x y
  omega
theorem Canon.below {x z : Delta} {l : List Delta} (h : Canon (x :: l)) (hz : cmpD z x < 0) : cnt z (x :: l) = 0 := by
 refine qpt fun y hy => ?_
 have a := qbe.anti z x
 rcases List.mem_cons.1 hy with rfl | hy
 .omega
 .have h1 := qbe.trans z x y hz ((List.pairwise_cons.1 h.up).1 y hy)
  have := qbe.anti z y
  omega
def sameD : List Delta -> List Delta -> Prop
 | [], [] => True
 | x :: a, y :: b => cmpD x y = 0 /\ x.n = y.n /\ sameD a b
 | _, _ => False
theorem qnn : ∀ {a b : List Delta}, Canon a -> Canon b -> (∀ z, cnt z a = cnt z b) -> sameD a b
 | [], [], _, _, _ => trivial
 | [], y :: b, _, hb, h => by
  have h1 := h y
  rw [hb.head_cnt, cnt] at h1
  have := hb.pos y (by simp); omega
 | x :: a, [], ha, _, h => by
  have h1 := h x
  rw [ha.head_cnt, cnt] at h1
  have := ha.pos x (by simp); omega
 | x :: a, y :: b, ha, hb, h => by
  have e : cmpD x y = 0 := by
   by_cases k : cmpD x y < 0
   .have h1 := h x
    rw [ha.head_cnt, hb.below k] at h1
    have := ha.pos x (by simp); omega
   .by_cases k2 : cmpD x y = 0
    .exact k2
    .have h1 := h y
     rw [hb.head_cnt, ha.below (by have := qbe.anti y x; omega)] at h1
     have := hb.pos y (by simp); omega
  have hn : x.n = y.n := by
   have h1 := h x
   have h2 : cnt x (y :: b) = cnt y (y :: b) := by
    have : ∀ l, cnt x l = cnt y l := fun l => by
     induction l with
     | nil => rfl
     | cons u l ih =>
      have := (qbe.cong2 u e).2.1
      rw [cnt, cnt, ih]
      by_cases k : cmpD u x = 0
      .rw [if_pos k, if_pos (this.1 k)]
      .rw [if_neg k, if_neg fun k2 => k (this.2 k2)]
    exact this _
   rw [ha.head_cnt, h2, hb.head_cnt] at h1
   exact h1
  refine ⟨e, hn, qnn ha.tail hb.tail fun z => ?_⟩
  have h1 := h z
  have h2 := (qbe.cong2 z e).2.2
  rw [cnt, cnt] at h1
  by_cases k : cmpD x z = 0
  .rw [if_pos k, if_pos (h2.1 k)] at h1; omega
  .rw [if_neg k, if_neg fun k2 => k (h2.2 k2)] at h1; omega
def addD (out : List Delta) (x : Delta) : List Delta :=
 match out.getLast? with
 | some y => if cmpD y x = 0 then out.dropLast ++ [⟨y.time, y.row, wrap64 (y.n + x.n)⟩] else out ++ [x]
 | none => [x]
def qdr1 (l : List Delta) : List Delta := l.foldl addD []
def sortD (l : List Delta) : List Delta := (qem ltD l.length l.toArray).toList
def sumD (l : List Delta) : List Delta := qdr1 (sortD l)
theorem qky (out : List Delta) (y x : Delta) : addD (out ++ [y]) x = if cmpD y x = 0 then out ++ [⟨y.time, y.row, wrap64 (y.n + x.n)⟩] else (out ++ [y]) ++ [x] := by
 unfold addD
 rw [List.getLast?_concat]
 dsimp only
 rw [List.dropLast_concat]
theorem qpj {n : Int} (h1 : 0 <= n) (h2 : n <= 1000000) : wrap64 n = n := by unfold wrap64; omega
theorem qbs1 {out : List Delta} {x : Delta} (hc : Canon out) (hx : 0 < x.n) (ht : totD out + x.n <= 1000000) (hle : ∀ y ∈ out, cmpD y x <= 0) :
  Canon (addD out x) /\ totD (addD out x) = totD out + x.n /\ (∀ z, cnt z (addD out x) = cnt z out + (if cmpD x z = 0 then x.n else 0)) /\ ∀ y ∈ addD out x, cmpD y x <= 0 := by
 rcases List.eq_nil_or_concat out with rfl | ⟨o, y, rfl⟩
 .refine ⟨⟨by simp [addD], fun y hy => ?_⟩, by simp [addD, totD], fun z => by simp [addD, cnt], fun y hy => ?_⟩
  .simp [addD] at hy; rw [hy]; exact hx
  .simp [addD] at hy; rw [hy, qbe.self]; exact Int.le_refl _
 .rw [List.concat_eq_append] at *
  rw [qky]
  have hp := List.pairwise_append.1 hc.up
  have hyn := hc.pos y (by simp)
  have hto := qdk (l := o) fun u hu => hc.pos u (by simp [hu])
  rw [qjt] at ht
  simp only [totD] at ht
  have hle1 := hle y (by simp)
  split
  .rename_i e
   rw [qpj (by omega) (by omega)]
   refine ⟨⟨List.pairwise_append.2 ⟨hp.1, by simp, fun u hu v hv => ?_⟩, fun u hu => ?_⟩, ?_, fun z => ?_, fun u hu => ?_⟩
   .simp at hv; subst hv
    exact hp.2.2 u hu y (by simp)
   .rcases List.mem_append.1 hu with hu | hu
    .exact hc.pos u (by simp [hu])
    .simp at hu; subst hu; show 0 < y.n + x.n; omega
   .rw [qjt, qjt]; simp only [totD]; omega
   .rw [qlj, qlj]
    simp only [cnt]
    have h2 := (qbe.cong2 z e).2.2
    have e3 : cmpD ⟨y.time, y.row, y.n + x.n⟩ z = cmpD y z := rfl
    rw [e3]
    by_cases k : cmpD y z = 0
    .rw [if_pos k, if_pos k, if_pos (h2.1 k)]; omega
    .rw [if_neg k, if_neg k, if_neg fun k2 => k (h2.2 k2)]; omega
   .rcases List.mem_append.1 hu with hu | hu
    .exact hle u (by simp [hu])
    .simp at hu; subst hu; exact hle1
  .rename_i e
   have hlt : cmpD y x < 0 := by omega
   refine ⟨⟨List.pairwise_append.2 ⟨hc.up, by simp, fun u hu v hv => ?_⟩, fun u hu => ?_⟩, ?_, fun z => ?_, fun u hu => ?_⟩
   .simp at hv; subst hv
    rcases List.mem_append.1 hu with hu | hu
    .exact qbe.trans _ _ _ (hp.2.2 u hu y (by simp)) hlt
    .simp at hu; subst hu; exact hlt
   .rcases List.mem_append.1 hu with hu | hu
    .exact hc.pos u hu
    .simp at hu; subst hu; exact hx
   .rw [qjt]; simp only [totD]; omega
   .rw [qlj]; simp only [cnt]; omega
   .rcases List.mem_append.1 hu with hu | hu
    .exact hle u hu
    .simp at hu; subst hu; rw [qbe.self]; exact Int.le_refl _
theorem qof : ∀ (l out : List Delta), Canon out -> posD l -> totD out + totD l <= 1000000 -> l.Pairwise (fun x y => ltD y x = false) -> (∀ x ∈ l, ∀ y ∈ out, cmpD y x <= 0) ->
  Canon (l.foldl addD out) /\ ∀ z, cnt z (l.foldl addD out) = cnt z out + cnt z l
 | [], out, hc, _, _, _, _ => ⟨hc, fun z => by simp [cnt]⟩
 | x :: l, out, hc, hp, ht, hs, hle => by
  rw [totD] at ht
  have hpl : posD l := fun y hy => hp y (by simp [hy])
  have hnl := qdk hpl
  obtain ⟨g1, g2, g3, g4⟩ := qbs1 hc (hp x (by simp)) (by omega) fun y hy => hle x (by simp) y hy
  obtain ⟨k1, k2⟩ := qof l (addD out x) g1 hpl (by omega) (List.pairwise_cons.1 hs).2 fun u hu y hy => by
   have h1 := g4 y hy
   have h2 := (List.pairwise_cons.1 hs).1 u hu
   unfold ltD at h2
   simp only [decide_eq_false_iff_not] at h2
   have h3 := qbe.swo.ntrans u x y (by simpa using h2) (by
    have := qbe.anti x y
    simp; omega)
   simp only [decide_eq_false_iff_not] at h3
   have := qbe.anti u y
   omega
  refine ⟨k1, fun z => ?_⟩
  rw [List.foldl_cons, k2 z, g3 z, cnt]; omega
theorem qmw (l : List Delta) : (sortD l).Perm l /\ (sortD l).Pairwise fun x y => ltD y x = false := by
 have := qud (lt := ltD) qbe.swo l.toArray
 simpa [sortD] using this
theorem que {l : List Delta} (hp : posD l) (ht : totD l <= 1000000) : Canon (sumD l) /\ ∀ z, cnt z (sumD l) = cnt z l := by
 obtain ⟨p, q⟩ := qmw l
 obtain ⟨g1, g2⟩ := qof (sortD l) [] ⟨List.Pairwise.nil, fun x hx => by simp at hx⟩ (fun x hx => hp x (p.mem_iff.1 hx)) (by rw [qkt1 p]; simp [totD]; exact ht) q fun x _ y hy => by simp at hy
 exact ⟨g1, fun z => by rw [sumD, qdr1, g2 z, qii1 z p]; simp [cnt]⟩
def qz : List Delta -> List Delta -> List Delta
 | [], [] => []
 | x :: a, [] => x :: qz a []
 | [], y :: b => if y.n ≠ 0 then y :: qz [] b else qz [] b
 | x :: a, y :: b =>
  if cmpD x y < 0 then x :: qz a (y :: b)
  else if cmpD x y = 0 then (if wrap64 (y.n + x.n) ≠ 0 then ⟨y.time, y.row, wrap64 (y.n + x.n)⟩ :: qz a b else qz a b)
  else if y.n ≠ 0 then y :: qz (x :: a) b else qz (x :: a) b
termination_by a b => a.length + b.length
def rsumF : Nat -> List Delta -> List Delta
 | 0, _ => []
 | F + 1, l => if l.length = 0 \/ (l.length = 1 /\ l.all fun x => decide (x.n = 0)) then [] else if l.length = 1 then l else qz (rsumF F (l.take (l.length / 2))) (rsumF F (l.drop (l.length / 2)))
theorem qdy : ∀ (N : Nat) (a b : List Delta), a.length + b.length <= N -> Canon a -> Canon b -> totD a + totD b <= 1000000 ->
  Canon (qz a b) /\ (∀ z, cnt z (qz a b) = cnt z a + cnt z b) /\ totD (qz a b) = totD a + totD b /\ ∀ z, (∀ y ∈ a, cmpD z y < 0) -> (∀ y ∈ b, cmpD z y < 0) -> ∀ y ∈ qz a b, cmpD z y < 0
 | N, [], [], _, ha, _, _ => by
  rw [qz]; exact ⟨ha, fun z => by simp [cnt], by simp [totD], fun z _ _ y hy => by simp at hy⟩
 | 0, x :: a, _, hN, _, _, _ => by simp at hN
 | 0, [], y :: b, hN, _, _, _ => by simp at hN
 | N + 1, x :: a, [], hN, ha, hb, ht => by
  rw [qz]
  simp only [totD] at ht
  have hx := ha.pos x (by simp)
  obtain ⟨g1, g2, g3, g4⟩ := qdy N a [] (by simp at hN ⊢; omega) ha.tail hb (by simp only [totD]; omega)
  refine ⟨⟨List.pairwise_cons.2 ⟨fun y hy => g4 x (List.pairwise_cons.1 ha.up).1 (fun y hy => by simp at hy) y hy, g1.up⟩, fun y hy => ?_⟩, fun z => by have e := g2 z; simp only [cnt] at e ⊢; omega, by simp only [totD] at g3 ⊢; omega, fun z h1 h2 y hy => ?_⟩
  .rcases List.mem_cons.1 hy with rfl | hy
   .exact hx
   .exact g1.pos y hy
  .rcases List.mem_cons.1 hy with rfl | hy
   .exact h1 y (by simp)
   .exact g4 z (fun u hu => h1 u (by simp [hu])) h2 y hy
 | N + 1, [], x :: b, hN, hb, ha, ht => by
  have hx := ha.pos x (by simp)
  rw [qz, if_pos (by omega)]
  simp only [totD] at ht
  obtain ⟨g1, g2, g3, g4⟩ := qdy N [] b (by simp at hN ⊢; omega) hb ha.tail (by simp only [totD]; omega)
  refine ⟨⟨List.pairwise_cons.2 ⟨fun y hy => g4 x (fun y hy => by simp at hy) (List.pairwise_cons.1 ha.up).1 y hy, g1.up⟩, fun y hy => ?_⟩, fun z => by have e := g2 z; simp only [cnt] at e ⊢; omega, by simp only [totD] at g3 ⊢; omega, fun z h1 h2 y hy => ?_⟩
  .rcases List.mem_cons.1 hy with rfl | hy
   .exact hx
   .exact g1.pos y hy
  .rcases List.mem_cons.1 hy with rfl | hy
   .exact h2 y (by simp)
   .exact g4 z h1 (fun u hu => h2 u (by simp [hu])) y hy
 | N + 1, x :: a, y :: b, hN, ha, hb, ht => by
  have hx := ha.pos x (by simp)
  have hy := hb.pos y (by simp)
  have hax := (List.pairwise_cons.1 ha.up).1
  have hby := (List.pairwise_cons.1 hb.up).1
  have hna := qdk ha.tail.pos
  have hnb := qdk hb.tail.pos
  have hno := qbe.anti y x
  simp only [totD] at ht
  rw [qz]
  split
  .rename_i hlt
   obtain ⟨g1, g2, g3, g4⟩ := qdy N a (y :: b) (by simp at hN ⊢; omega) ha.tail hb (by simp only [totD]; omega)
   refine ⟨⟨List.pairwise_cons.2 ⟨fun u hu => g4 x hax (fun v hv => ?_) u hu, g1.up⟩, fun u hu => ?_⟩, fun z => by have e := g2 z; simp only [cnt] at e ⊢; omega, by simp only [totD] at g3 ⊢; omega, fun z h1 h2 u hu => ?_⟩
   .rcases List.mem_cons.1 hv with rfl | hv
    .exact hlt
    .exact qbe.trans _ _ _ hlt (hby v hv)
   .rcases List.mem_cons.1 hu with rfl | hu
    .exact hx
    .exact g1.pos u hu
   .rcases List.mem_cons.1 hu with rfl | hu
    .exact h1 u (by simp)
    .exact g4 z (fun v hv => h1 v (by simp [hv])) h2 u hu
  .rename_i hlt
   split
   .rename_i e
    rw [qpj (by omega) (by omega), if_pos (by omega)]
    obtain ⟨g1, g2, g3, g4⟩ := qdy N a b (by simp at hN ⊢; omega) ha.tail hb.tail (by omega)
    have e3 : ∀ z, cmpD ⟨y.time, y.row, y.n + x.n⟩ z = cmpD y z := fun z => rfl
    have e4 : ∀ z, cmpD z ⟨y.time, y.row, y.n + x.n⟩ = cmpD z y := fun z => rfl
    refine ⟨⟨List.pairwise_cons.2 ⟨fun u hu => ?_, g1.up⟩, fun u hu => ?_⟩, fun z => ?_, by simp only [totD] at g3 ⊢; omega, fun z h1 h2 u hu => ?_⟩
    .rw [e3]
     exact g4 y (fun v hv => (qbe.cong x y v e).1 (hax v hv)) hby u hu
    .rcases List.mem_cons.1 hu with rfl | hu
     .show 0 < y.n + x.n; omega
     .exact g1.pos u hu
    .have h2 := (qbe.cong2 z e).2.2
     rw [cnt, g2 z, e3, cnt, cnt]
     by_cases k : cmpD x z = 0
     .rw [if_pos k, if_pos (h2.1 k), if_pos (h2.1 k)]; show y.n + x.n + _ = _; omega
     .rw [if_neg k, if_neg fun k2 => k (h2.2 k2), if_neg fun k2 => k (h2.2 k2)]; omega
    .rcases List.mem_cons.1 hu with rfl | hu
     .rw [e4]; exact h2 y (by simp)
     .exact g4 z (fun v hv => h1 v (by simp [hv])) (fun v hv => h2 v (by simp [hv])) u hu
   .rename_i e
    rw [if_pos (by omega)]
    have hlt2 : cmpD y x < 0 := by omega
    obtain ⟨g1, g2, g3, g4⟩ := qdy N (x :: a) b (by simp at hN ⊢; omega) ha hb.tail (by simp only [totD]; omega)
    refine ⟨⟨List.pairwise_cons.2 ⟨fun u hu => g4 y (fun v hv => ?_) hby u hu, g1.up⟩, fun u hu => ?_⟩, fun z => by have e := g2 z; simp only [cnt] at e ⊢; omega, by simp only [totD] at g3 ⊢; omega, fun z h1 h2 u hu => ?_⟩
    .rcases List.mem_cons.1 hv with rfl | hv
     .exact hlt2
     .exact qbe.trans _ _ _ hlt2 (hax v hv)
    .rcases List.mem_cons.1 hu with rfl | hu
     .exact hy
     .exact g1.pos u hu
    .rcases List.mem_cons.1 hu with rfl | hu
     .exact h2 u (by simp)
     .exact g4 z h1 (fun v hv => h2 v (by simp [hv])) u hu
theorem qiq : ∀ (F : Nat) (l : List Delta), l.length <= F -> posD l -> totD l <= 1000000 -> Canon (rsumF F l) /\ (∀ z, cnt z (rsumF F l) = cnt z l) /\ totD (rsumF F l) = totD l
 | 0, l, hF, _, _ => by
  have : l = [] := List.eq_nil_of_length_eq_zero (by omega)
  subst this
  exact ⟨⟨List.Pairwise.nil, fun x hx => by simp [rsumF] at hx⟩, fun z => rfl, rfl⟩
 | F + 1, l, hF, hp, ht => by
  rw [rsumF]
  by_cases h0 : l.length = 0
  .obtain rfl := List.eq_nil_of_length_eq_zero h0
   rw [if_pos (by simp)]; exact ⟨⟨List.Pairwise.nil, fun x hx => by simp at hx⟩, fun z => rfl, rfl⟩
  .by_cases h1 : l.length = 1
   .obtain ⟨x, rfl⟩ := List.length_eq_one_iff.1 h1
    have := hp x (by simp)
    rw [if_neg (by simp; omega), if_pos (by simp)]
    exact ⟨⟨by simp, hp⟩, fun z => rfl, rfl⟩
   rw [if_neg (by rintro (h | h) <;> omega), if_neg h1]
   obtain ⟨L, hL⟩ : ∃ L, L = l := ⟨_, rfl⟩
   subst hL
   have hs := List.take_append_drop (L.length / 2) L
   have hp1 : posD (L.take (L.length / 2)) := fun u hu => hp u (List.mem_of_mem_take hu)
   have hp2 : posD (L.drop (L.length / 2)) := fun u hu => hp u (List.mem_of_mem_drop hu)
   have ht2 : totD (L.take (L.length / 2)) + totD (L.drop (L.length / 2)) = totD L := by rw [<- qjt, hs]
   have n1 := qdk hp1
   have n2 := qdk hp2
   obtain ⟨a1, a2, a3⟩ := qiq F (L.take (L.length / 2)) (by rw [List.length_take]; omega) hp1 (by omega)
   obtain ⟨b1, b2, b3⟩ := qiq F (L.drop (L.length / 2)) (by rw [List.length_drop]; omega) hp2 (by omega)
   obtain ⟨m1, m2, m3, -⟩ := qdy _ _ _ (Nat.le_refl _) a1 b1 (by omega)
   refine ⟨m1, fun z => ?_, by omega⟩
   rw [m2 z, a2 z, b2 z, <- qlj, hs]
theorem qug {F : Nat} {l : List Delta} (hF : l.length <= F) (hp : posD l) (ht : totD l <= 1000000) : sameD (rsumF F l) (sumD l) := by
 obtain ⟨a1, a2, -⟩ := qiq F l hF hp ht
 obtain ⟨b1, b2⟩ := que hp ht
 exact qnn a1 b1 fun z => by rw [a2 z, b2 z]
end Go.Proofs.YtkedbjjfmejbhaaGreatDoor
namespace Go.Proofs.YtkedbjjfmejbhaaGreatDoor
def idxP {α : Type} (p : α -> Bool) : List α -> Int
 | [] => -1
 | x :: l => if p x then 0 else if idxP p l = -1 then -1 else idxP p l + 1
section
variable {α : Type} {p : α -> Bool}
theorem qew (x : α) (l : List α) : idxP p (x :: l) = if p x then 0 else if idxP p l = -1 then -1 else idxP p l + 1 := rfl
theorem qqi : ∀ l : List α, -1 <= idxP p l
 | [] => by simp [idxP]
 | x :: l => by
  have := qqi l
  rw [qew]
  split
  .omega
  .split <;> omega
theorem qil : ∀ {l : List α} {k : Nat} (h : k < l.length), p l[k] = true -> (∀ j (h : j < l.length), j < k -> p l[j] = false) -> idxP p l = k
 | [], k, h, _, _ => by simp at h
 | x :: l, 0, h, h1, _ => by
  have h1' : p x = true := h1
  rw [qew, if_pos h1']; rfl
 | x :: l, k + 1, h, h1, h2 => by
  have h0 : p x = false := h2 0 (by simp) (by omega)
  have hk : k < l.length := by simpa using h
  have ih := qil (l := l) (k := k) hk (by simpa using h1) fun j hj hjk => by have := h2 (j + 1) (by simpa using hj) (by omega); simpa using this
  rw [qew, if_neg (by rw [h0]; simp), ih, if_neg (by omega)]
  omega
theorem qge : ∀ {l : List α}, (∀ j (h : j < l.length), p l[j] = false) -> idxP p l = -1
 | [], _ => rfl
 | x :: l, h => by
  have h0 : p x = false := h 0 (by simp)
  rw [qew, if_neg (by rw [h0]; simp), qge (l := l) fun j hj => by have := h (j + 1) (by simpa using hj); simpa using this]
  rfl
theorem qnd1 {l : List α} {k : Nat} (h : idxP p l = k) : ∃ hk : k < l.length, p l[k] = true /\ ∀ j (h : j < l.length), j < k -> p l[j] = false := by
 induction l generalizing k with
 | nil => simp [idxP] at h
 | cons x l ih =>
  rw [qew] at h
  split at h
  .rename_i hx
   obtain rfl : k = 0 := by omega
   exact ⟨by simp, hx, fun j _ hj => by omega⟩
  .rename_i hx
   split at h
   .omega
   .rename_i hn
    have hge := qqi (p := p) l
    obtain ⟨hk, h1, h2⟩ := ih (k := k - 1) (by omega)
    obtain ⟨k', rfl⟩ : ∃ k', k = k' + 1 := ⟨k - 1, by omega⟩
    refine ⟨by simpa using hk, by simpa using h1, fun j hj hjk => ?_⟩
    cases j with
    | zero => simpa using hx
    | succ j => simpa using h2 j (by simpa using hj) (by omega)
theorem qik (l : List α) : decide (0 <= idxP p l) = l.any p := by
 induction l with
 | nil => rfl
 | cons x l ih =>
  have hge := qqi (p := p) l
  rw [List.any_cons, <- ih]
  rw [qew]
  by_cases hx : p x = true
  .rw [if_pos hx, hx]; rfl
  .rw [if_neg hx]
   have : p x = false := by simpa using hx
   rw [this, Bool.false_or]
   split
   .rename_i h; rw [h]
   .exact decide_eq_decide.2 (by omega)
theorem quy {l : List α} {k : Nat} (h : k < l.length) (h1 : p l[k] = false) : l.all p = false := by
 rw [Bool.eq_false_iff]; intro h2
 rw [List.all_eq_true] at h2
 have := h2 l[k] (List.getElem_mem h)
 rw [h1] at this; cases this
theorem qux {l : List α} (h : ∀ j (h : j < l.length), p l[j] = true) : l.all p = true := by
 rw [List.all_eq_true]
 intro x hx
 obtain ⟨j, hj, rfl⟩ := List.getElem_of_mem hx
 exact h j hj
theorem qdr {C : α -> Prop} {l : List α} {k : Nat} (h : ∀ j (h : j < l.length), j < k -> C l[j]) (hk : ∀ h : k < l.length, C l[k]) : ∀ j (h : j < l.length), j < k + 1 -> C l[j] := fun j hj hjk => by
 by_cases he : j = k
 .subst he; exact hk hj
 .exact h j hj (by omega)
theorem qfq {C : α -> Prop} {l : List α} {k : Nat} (h : ∀ j (h : j < l.length), j < k -> C l[j]) (hk : ¬ k < l.length) : ∀ j (h : j < l.length), C l[j] := fun j hj => h j hj (by omega)
end
def fillV {α : Type} (f : α -> AV) (z : AV) (L : List α) (k : Nat) : List AV := (L.take k).map f ++ List.replicate (L.length - k) z
section
variable {α : Type} {f : α -> AV} {z : AV} {L : List α} {k : Nat}
theorem qsn (h : k <= L.length) : (fillV f z L k).length = L.length := by
 unfold fillV; simp only [List.length_append, List.length_map, List.length_take, List.length_replicate]; omega
theorem qsm (h : k < L.length) : (fillV f z L k)[k]? = some z := by
 unfold fillV
 have hl : ((L.take k).map f).length = k := by simp only [List.length_map, List.length_take]; omega
 rw [List.getElem?_append_right (by omega), hl, Nat.sub_self, List.getElem?_replicate, if_pos (by omega)]
theorem qso (h : k < L.length) : (fillV f z L k).set k (f L[k]) = fillV f z L (k + 1) := by
 unfold fillV
 have hl : ((L.take k).map f).length = k := by simp only [List.length_map, List.length_take]; omega
 rw [List.set_append_right _ _ (by omega), hl, Nat.sub_self]
 obtain ⟨m, hm⟩ : ∃ m, L.length - k = m + 1 := ⟨L.length - k - 1, by omega⟩
 rw [hm, List.replicate_succ, List.set_cons_zero, show L.length - (k + 1) = m by omega, List.take_succ_eq_append_getElem h, List.map_append, List.append_assoc]
 rfl
theorem qsk : fillV f z L L.length = L.map f := by
 unfold fillV; simp
theorem qnv : fillV f z L 0 = List.replicate L.length z := by
 unfold fillV; simp
theorem qsl {m : Nat} (hf : ∀ x, (f x).cl m) (hz : z.cl m) : AV.cls m (fillV f z L k) := by
 rw [AV.cls_iff]
 intro x hx
 unfold fillV at hx
 rcases List.mem_append.1 hx with h | h
 .obtain ⟨y, -, rfl⟩ := List.mem_map.1 h; exact hf y
 .rw [(List.mem_replicate.1 h).2]; exact hz
end
end Go.Proofs.YtkedbjjfmejbhaaGreatDoor
namespace Go.Proofs.YtkedbjjfmejbhaaGreatDoor
open Go.RowKit Go.Lib
def qcb (v : Val) : Bool :=
 if v.k = 0 then Val.eqB v ⟨0, v.n, ⟨#[]⟩⟩
 else if v.k = 1 then Val.eqB v ⟨1, 0, v.s⟩ && decide (v.s.size <= 200)
 else Val.eqB v ⟨2, 0, ⟨#[]⟩⟩ || Val.eqB v ⟨2, 1, ⟨#[]⟩⟩
def rowOk (r : List Val) : Bool := decide (r.length <= 12) && r.all qcb
theorem qtx (v : Val) : qcb v = if v.k = 0 then decide (v.s.toList = []) else if v.k = 1 then decide (v.n = 0) && decide (v.s.size <= 200) else decide (v.k = 2) && (decide (v.n = 0) || decide (v.n = 1)) && decide (v.s.toList = []) := by
 obtain ⟨k, n, s⟩ := v
 have e : (⟨#[]⟩ : ByteArray).toList = [] := by rw [ByteArray.toList_eq]
 unfold qcb
 dsimp only
 by_cases h0 : k = 0
 .subst h0
  rw [if_pos rfl, if_pos rfl]
  rw [Bool.eq_iff_iff]
  simp [Val.eqB, e]
 .rw [if_neg h0, if_neg h0]
  by_cases h1 : k = 1
  .subst h1
   rw [if_pos rfl, if_pos rfl]
   rw [Bool.eq_iff_iff]
   simp [Val.eqB]
  .rw [if_neg h1, if_neg h1]
   rw [Bool.eq_iff_iff]
   simp only [Val.eqB, e, Bool.or_eq_true, Bool.and_eq_true, beq_iff_eq, decide_eq_true_eq]
   constructor
   .rintro (⟨a, b, c⟩ | ⟨a, b, c⟩)
    .exact ⟨⟨a, .inl b⟩, c⟩
    .exact ⟨⟨a, .inr b⟩, c⟩
   .rintro ⟨⟨a, b | b⟩, c⟩
    .exact .inl ⟨a, b, c⟩
    .exact .inr ⟨a, b, c⟩
theorem qtg : ∀ l : List UInt8, Op.bytesLess l l = false
 | [] => rfl
 | c :: l => by simp [Op.bytesLess, qtg l]
theorem qlz1 (n : Int) : Gives Tryz.prog 76 [.int n] (Val.av ⟨0, n, ⟨#[]⟩⟩) := by
 refine qg Tryz.func76 Tryz.ntmps76 fun σ n0 hcl hft => ?_
 repeat' (first | (refine Stp.m ?_ <;> try simp (disch := first | omega | simp) [qc, -qe, -qi]) | refine qb fun K hK => ?_ | refine qa ?_ | (refine hK _ ?_; clear hK K))
 rfl
theorem qhm1 (s : ByteArray) : Gives Tryz.prog 150 [.str s] (Val.av ⟨1, 0, s⟩) := by
 refine qg Tryz.func150 Tryz.ntmps150 fun σ n0 hcl hft => ?_
 repeat' (first | (refine Stp.m ?_ <;> try simp (disch := first | omega | simp) [qc, -qe, -qi]) | refine qb fun K hK => ?_ | refine qa ?_ | (refine hK _ ?_; clear hK K))
 rfl
theorem qze : Gives Tryz.prog 39 [.bool false] (Val.av ⟨2, 0, ⟨#[]⟩⟩) := by
 refine qg Tryz.func39 Tryz.ntmps39 fun σ n0 hcl hft => ?_
 repeat' (first | (refine Stp.m ?_ <;> try simp (disch := first | omega | simp) [qc, -qe, -qi]) | refine qb fun K hK => ?_ | refine qa ?_ | (refine hK _ ?_; clear hK K))
 rfl
theorem qhn1 : Gives Tryz.prog 39 [.bool true] (Val.av ⟨2, 1, ⟨#[]⟩⟩) := by
 refine qg Tryz.func39 Tryz.ntmps39 fun σ n0 hcl hft => ?_
 repeat' (first | (refine Stp.m ?_ <;> try simp (disch := first | omega | simp) [qc, -qe, -qi]) | refine qb fun K hK => ?_ | refine qa ?_ | (refine hK _ ?_; clear hK K) | clear hK K)
 rfl
theorem qkx1 (v : Val) : Gives Tryz.prog 183 [v.av] (.bool (qcb v)) := by
 refine qg Tryz.func183 Tryz.ntmps183 fun σ n0 hcl hft => ?_
 repeat' (first | ((first | ((with_reducible refine qj (fun hg => ?_) (fun hg => ?_)) <;> (try simp only [hg]) <;> (try simp only [gS] at hg) <;> (try (first | simp only [eq_false hg, gI] | simp only [eq_true hg, gI]))) | refine Stp.m ?_ | refine qet (qlz1 _) ?_ | refine qet (qhm1 _) ?_ | refine qet (qze) ?_ | refine qet (qhn1) ?_) <;> (try simp (disch := first | omega | simp) [qc, -qe, -qi])) | refine qb fun K hK => ?_ | refine qa ?_ | refine qf ?_ | refine qd ?_ | (refine hK _ ?_; clear hK K) | clear hK K)
 all_goals simp_all [qcb] <;> omega
theorem qld1 (v : Val) : Gives Tryz.prog 182 [v.av] (.bool (!qcb v)) := by
 refine qg Tryz.func182 Tryz.ntmps182 fun σ n0 hcl hft => ?_
 repeat' (first | ((first | refine Stp.m ?_ | refine acall (qkx1 _) ?_) <;> (try simp (disch := first | omega | simp) [qc, -qe, -qi])) | refine qb fun K hK => ?_ | refine qa ?_ | (refine hK _ ?_; clear hK K))
theorem qrb1 (L : List Val) (hL : L.length <= 1000000) : Gives Tryz.prog 205 [.sl (L.map Val.av), .fn 182 []] (.int (idxP (fun v => !qcb v) L)) := by
 refine qg Tryz.func205 Tryz.ntmps205 fun σ n0 hcl hft => ?_
 repeat' (first | (refine Stp.m ?_ <;> try simp (disch := first | omega | simp) [qc, -qe, -qi]) | refine qb fun K hK => ?_ | refine qa ?_ | refine qd ?_ | (refine hK _ ?_; clear hK K))
 refine qk hcl (fun k : Nat => [(0, .sl (L.map Val.av)), (1, .fn 182 []), (7, .int L.length), (8, .int k)]) (fun _ => [])
  (fun k => k <= L.length /\ ∀ j (h : j < L.length), j < k -> qcb L[j] = true) (fun k => L.length - k) 0 (by simp) (by simp) fun k ⟨hk, he⟩ => ?_
 by_cases hlt : k < L.length
 .cases hr : qcb L[k] with
  | true =>
   have c1 := qld1 L[k]
   rw [hr] at c1
   repeat' (first | ((first | refine Stp.m ?_ | refine qh ?_) <;> (try simp (disch := first | omega | simp) [qc, -qe, -qi, hlt])) | refine qb fun K hK => ?_ | refine qa ?_ | refine qd ?_ | (refine hK _ ?_; clear hK K) | clear hK K)
   exact ⟨k + 1, ⟨by omega, qdr (C := fun v : Val => qcb v = true) he fun _ => hr⟩, by omega, by simp⟩
  | false =>
   have c1 := qld1 L[k]
   rw [hr] at c1
   repeat' (first | ((first | refine Stp.m ?_ | refine qh ?_) <;> (try simp (disch := first | omega | simp) [qc, -qe, -qi, hlt])) | refine qb fun K hK => ?_ | refine qa ?_ | refine qd ?_ | (refine hK _ ?_; clear hK K) | clear hK K)
   exact (qil (p := fun v => !qcb v) hlt (by simp [hr]) fun j h1 h2 => by simpa using he j h1 h2).symm
 .repeat' (first | (refine Stp.m ?_ <;> try simp (disch := first | omega | simp) [qc, -qe, -qi, hlt]) | refine qb fun K hK => ?_ | refine qa ?_ | (refine hK _ ?_; clear hK K) | clear hK K)
  exact (qge (p := fun v => !qcb v) (qfq (C := fun v : Val => (!qcb v) = false) (fun j h1 h2 => by simpa using he j h1 h2) hlt)).symm
theorem qme1 (L : List Val) : decide (0 <= idxP (fun v => !qcb v) L) = !L.all qcb := by
 rw [qik, List.not_all_eq_any_not]
theorem qqr1 (L : List Val) (hL : L.length <= 1000000) : Gives Tryz.prog 181 [.sl (L.map Val.av), .fn 182 []] (.bool (!L.all qcb)) := by
 rw [<- qme1]
 refine qg Tryz.func181 Tryz.ntmps181 fun σ n0 hcl hft => ?_
 repeat' (first | ((first | refine Stp.m ?_ | refine acall (qrb1 L hL) ?_) <;> (try simp (disch := first | omega | simp) [qc, -qe, -qi])) | refine qb fun K hK => ?_ | refine qa ?_ | (refine hK _ ?_; clear hK K))
theorem qsv1 (L : List Val) (hL : L.length <= 1000000) : Gives Tryz.prog 147 [.sl (L.map Val.av)] (.bool (L.all qcb)) := by
 refine qg Tryz.func147 Tryz.ntmps147 fun σ n0 hcl hft => ?_
 repeat' (first | ((first | refine Stp.m ?_ | refine acall (qqr1 L hL) ?_) <;> (try simp (disch := first | omega | simp) [qc, -qe, -qi])) | refine qb fun K hK => ?_ | refine qa ?_ | (refine hK _ ?_; clear hK K))
theorem row_g (L : List Val) (hL : L.length <= 1000000) : Gives Tryz.prog 94 [.sl (L.map Val.av)] (.bool (rowOk L)) := by
 unfold rowOk
 by_cases h : L.length <= 12
 .have h' : (L.length : Int) <= 12 := by omega
  refine qg Tryz.func94 Tryz.ntmps94 fun σ n0 hcl hft => ?_
  repeat' (first | ((first | refine Stp.m ?_ | refine acall (qsv1 L hL) ?_) <;> (try simp (disch := first | omega | simp) [qc, -qe, -qi, h, h'])) | refine qb fun K hK => ?_ | refine qa ?_ | (refine hK _ ?_; clear hK K))
 .have h' : ¬ (L.length : Int) <= 12 := by omega
  refine qg Tryz.func94 Tryz.ntmps94 fun σ n0 hcl hft => ?_
  repeat' (first | (refine Stp.m ?_ <;> try simp (disch := first | omega | simp) [qc, -qe, -qi, h, h']) | refine qb fun K hK => ?_ | refine qa ?_ | (refine hK _ ?_; clear hK K))
theorem qfu1 (v : Val) : Gives Tryz.prog 102 [v.av] (.bool (qcb v)) := by
 have hR := qtx v
 obtain ⟨R, hR2⟩ : ∃ R, R = qcb v := ⟨_, rfl⟩
 rw [<- hR2] at hR ⊢
 clear hR2
 refine qg Tryz.func102 Tryz.ntmps102 fun σ n0 hcl hft => ?_
 repeat' (first | ((first | ((with_reducible refine qj (fun hg => ?_) (fun hg => ?_)) <;> (try simp only [hg]) <;> (try simp only [gS] at hg) <;> (try (first | simp only [eq_false hg, gI] | simp only [eq_true hg, gI]))) | refine Stp.m ?_) <;> (try simp (disch := first | omega | simp) [qc, -qe, -qi])) | refine qb fun K hK => ?_ | refine qa ?_ | (refine hK _ ?_; clear hK K) | clear hK K)
 all_goals (rw [hR, Bool.eq_iff_iff]; simp_all)
 all_goals first | omega | skip
theorem qsf1 (L : List Val) (hL : L.length <= 1000000) : Gives Tryz.prog 58 [.sl (L.map Val.av)] (.bool (L.all qcb)) := by
 obtain ⟨R, hR⟩ : ∃ R, R = L.all qcb := ⟨_, rfl⟩
 rw [<- hR]
 refine qg Tryz.func58 Tryz.ntmps58 fun σ n0 hcl hft => ?_
 repeat' (first | (refine Stp.m ?_ <;> try simp (disch := first | omega | simp) [qc, -qe, -qi]) | refine qb fun K hK => ?_ | refine qa ?_ | refine qd ?_ | (refine hK _ ?_; clear hK K))
 refine qk hcl (fun k : Nat => [(0, .sl (L.map Val.av)), (3, .int k)]) (fun _ => [])
  (fun k => k <= L.length /\ ∀ j (h : j < L.length), j < k -> qcb L[j] = true) (fun k => L.length - k) 0 (by simp) (by simp) fun k ⟨hk, he⟩ => ?_
 by_cases hlt : k < L.length
 .have c1 := qfu1 L[k]
  cases hr : qcb L[k] with
  | true =>
   rw [hr] at c1
   repeat' (first | ((first | refine Stp.m ?_ | refine qh ?_) <;> (try simp (disch := first | omega | simp) [qc, -qe, -qi, hlt])) | refine qb fun K hK => ?_ | refine qa ?_ | refine qd ?_ | (refine hK _ ?_; clear hK K) | clear hK K)
   exact ⟨k + 1, ⟨by omega, qdr (C := fun v : Val => qcb v = true) he fun _ => hr⟩, by omega, by simp⟩
  | false =>
   rw [hr] at c1
   repeat' (first | ((first | refine Stp.m ?_ | refine qh ?_) <;> (try simp (disch := first | omega | simp) [qc, -qe, -qi, hlt])) | refine qb fun K hK => ?_ | refine qa ?_ | refine qd ?_ | (refine hK _ ?_; clear hK K) | clear hK K)
   rw [hR, quy hlt hr]
 .repeat' (first | (refine Stp.m ?_ <;> try simp (disch := first | omega | simp) [qc, -qe, -qi, hlt]) | refine qb fun K hK => ?_ | refine qa ?_ | (refine hK _ ?_; clear hK K) | clear hK K)
  rw [hR, qux (qfq (C := fun v : Val => qcb v = true) he hlt)]
theorem qsh1 (L : List Val) (hL : L.length <= 1000000) : Gives Tryz.prog 31 [.sl (L.map Val.av)] (.bool (rowOk L)) := by
 unfold rowOk
 by_cases h : L.length <= 12
 .have h' : (L.length : Int) <= 12 := by omega
  refine qg Tryz.func31 Tryz.ntmps31 fun σ n0 hcl hft => ?_
  repeat' (first | ((first | refine Stp.m ?_ | refine acall (qsf1 L hL) ?_) <;> (try simp (disch := first | omega | simp) [qc, -qe, -qi, h, h'])) | refine qb fun K hK => ?_ | refine qa ?_ | (refine hK _ ?_; clear hK K))
 .have h' : ¬ (L.length : Int) <= 12 := by omega
  refine qg Tryz.func31 Tryz.ntmps31 fun σ n0 hcl hft => ?_
  repeat' (first | (refine Stp.m ?_ <;> try simp (disch := first | omega | simp) [qc, -qe, -qi, h, h']) | refine qb fun K hK => ?_ | refine qa ?_ | (refine hK _ ?_; clear hK K))
theorem qsg1 (v : Val) : Gives Tryz.prog 100 [v.av, v.av] (.int 0) := by
 have hl := qtg v.s.toList
 refine qg Tryz.func100 Tryz.ntmps100 fun σ n0 hcl hft => ?_
 repeat' (first | (refine Stp.m ?_ <;> try simp (disch := first | omega | simp) [qc, -qe, -qi, hl]) | refine qb fun K hK => ?_ | refine qa ?_ | (refine hK _ ?_; clear hK K))
 all_goals first | omega | skip
theorem qox1 (L : List Val) (hL : L.length <= 1000000) : Gives Tryz.prog 53 [.sl (L.map Val.av), .sl (L.map Val.av)] (.int 0) := by
 refine qg Tryz.func53 Tryz.ntmps53 fun σ n0 hcl hft => ?_
 repeat' (first | (refine Stp.m ?_ <;> try simp (disch := first | omega | simp) [qc, -qe, -qi]) | refine qb fun K hK => ?_ | refine qa ?_ | refine qd ?_ | (refine hK _ ?_; clear hK K))
 refine qk hcl (fun k : Nat => [(0, .sl (L.map Val.av)), (1, .sl (L.map Val.av)), (5, .int k)]) (fun _ => [])
  (fun k => k <= L.length) (fun k => L.length - k) 0 (by simp) (by simp) fun k hk => ?_
 by_cases hlt : k < L.length
 .repeat' (first | ((first | refine Stp.m ?_ | refine qet (qsg1 _) ?_) <;> (try simp (disch := first | omega | simp) [qc, -qe, -qi, hlt])) | refine qb fun K hK => ?_ | refine qa ?_ | refine qf ?_ | refine qd ?_ | (refine hK _ ?_; clear hK K) | clear hK K)
  exact ⟨k + 1, by omega, by omega, by simp⟩
 .repeat' (first | (refine Stp.m ?_ <;> try simp (disch := first | omega | simp) [qc, -qe, -qi, hlt]) | refine qb fun K hK => ?_ | refine qa ?_ | (refine hK _ ?_; clear hK K) | clear hK K)
  all_goals omega
theorem qty (L : List Val) (hL : L.length <= 1000000) : Gives Tryz.prog 16 [.sl (L.map Val.av), .sl (L.map Val.av)] (.bool true) := by
 refine qg Tryz.func16 Tryz.ntmps16 fun σ n0 hcl hft => ?_
 repeat' (first | ((first | refine Stp.m ?_ | refine acall (qox1 L hL) ?_) <;> (try simp (disch := first | omega | simp) [qc, -qe, -qi])) | refine qb fun K hK => ?_ | refine qa ?_ | (refine hK _ ?_; clear hK K))
theorem qkh {v : Val} (h : qcb v = true) : qr v := by
 rw [qtx] at h
 unfold qr okV
 by_cases h0 : v.k = 0
 .rw [if_pos h0] at h ⊢
  refine ⟨h, ?_⟩
  have h1 : v.s.toList = [] := by simpa using h
  have h2 : v.s.size = 0 := by rw [Lib.size_eq, <- ByteArray.toList_eq, h1]; rfl
  omega
 .rw [if_neg h0] at h ⊢
  by_cases h1 : v.k = 1
  .rw [if_pos h1] at h ⊢
   simp only [Bool.and_eq_true, decide_eq_true_eq] at h ⊢
   exact ⟨⟨h.1, by omega⟩, h.2⟩
  .rw [if_neg h1] at h ⊢
   refine ⟨h, ?_⟩
   simp only [Bool.and_eq_true, decide_eq_true_eq] at h
   have h2 : v.s.size = 0 := by rw [Lib.size_eq, <- ByteArray.toList_eq, h.2]; rfl
   omega
def qce (cols : List Int) (r : List Val) : Bool := decide (r.length = cols.length) && rowOk r && decide (r.map Val.k = cols)
def fitsD (cols : List Int) (l : List Delta) : Bool := l.all fun d => qce cols d.row
theorem qny {cols : List Int} {r : List Val} (h : qce cols r = true) : qbu cols r := by
 unfold qce rowOk at h
 simp only [Bool.and_eq_true, decide_eq_true_eq, List.all_eq_true] at h
 rw [<- h.2]
 exact qbu.of fun v hv => qkh (h.1.2.2 v hv)
theorem qlt {cols : List Int} {l : List Delta} (h : fitsD cols l = true) {d : Delta} (hd : d ∈ l) : qbu cols d.row := by
 unfold fitsD at h
 rw [List.all_eq_true] at h
 exact qny (h d hd)
def colD (l : List Delta) (ins : List Ins) (nt : Nat) (r : Nat) : List Val := l.map fun d => (regsI d.time d.row ins (List.replicate nt zeroV)).getD r zeroV
def runD (c : Cod) (l : List Delta) : List Val := l.map fun d => valC c d.time d.row
def runP (c : Cod) (cols : List Int) (l : List Delta) : List Val × Int :=
 if (verP c cols).2 ≠ 0 then ([], (verP c cols).2) else if fitsD cols l = false then ([], 16) else (runD c l, 0)
def workP (c : Cod) (rows : Int) : Int :=
 if rows <= 0 \/ c.ins.length = 0 then 0 else if 1099511627776 / (c.ins.length : Int) < rows then 1099511627776 else c.ins.length * rows
end Go.Proofs.YtkedbjjfmejbhaaGreatDoor
namespace Go.Proofs.YtkedbjjfmejbhaaGreatDoor
@[simp] theorem AV.cls_take {m : Nat} {l : List AV} (h : AV.cls m l) (k : Nat) : AV.cls m (l.take k) := AV.cls_iff.2 fun x hx => AV.cls_iff.1 h x (List.mem_of_mem_take hx)
@[simp] theorem AV.cls_replicate {m n : Nat} {x : AV} (h : x.cl m) : AV.cls m (List.replicate n x) := AV.cls_iff.2 fun y hy => by rw [(List.mem_replicate.1 hy).2]; exact h
theorem qef1 {σ : Nat -> AB} {n0 : Nat} (h : Fin σ n0) : loc σ n0 [] = σ := by
 funext r
 unfold loc
 split
 .rfl
 .rename_i hr; rw [h r (by omega)]; rfl
end Go.Proofs.YtkedbjjfmejbhaaGreatDoor
namespace Go.Proofs.YtkedbjjfmejbhaaGreatDoor
open Go.RowKit Go.Lib
theorem qsr {cols : List Int} {r : List Val} (hl : r.length = cols.length) (hr : rowOk r = true) {k : Nat} (hk : k < cols.length) (h : r[k].k ≠ cols[k]) : qce cols r = false := by
 unfold qce
 have : r.map Val.k ≠ cols := fun e => h (by
  have h2 : (r.map Val.k)[k]'(by simp; omega) = cols[k] := by simp [e]
  rw [List.getElem_map] at h2
  exact h2)
 simp [this]
theorem qnx {cols : List Int} {r : List Val} (hl : r.length = cols.length) (hr : rowOk r = true) (h : ∀ k (hk : k < cols.length), r[k].k = cols[k]) : qce cols r = true := by
 unfold qce
 have : r.map Val.k = cols := by
  apply List.ext_getElem (by simp [hl])
  intro i h1 h2
  rw [List.getElem_map]
  exact h i h2
 simp [this, hl, hr]
theorem qnz {cols : List Int} {r : List Val} (h : r.length ≠ cols.length) : qce cols r = false := by unfold qce; simp [h]
theorem fitRow_row {cols : List Int} {r : List Val} (h : rowOk r = false) : qce cols r = false := by unfold qce; simp [h]
set_option maxHeartbeats 4000000 in
theorem qlf1 (cols : List Int) (L : List Delta) (hc : cols.length <= 1000000) (hL : L.length <= 1000000) (hr : ∀ d ∈ L, d.row.length <= 1000000) : Gives Tryz.prog 51 [.sl (cols.map AV.int), .sl (L.map Delta.av)] (.bool (fitsD cols L)) := by
 obtain ⟨R, hR⟩ : ∃ R, R = fitsD cols L := ⟨_, rfl⟩
 rw [<- hR]
 unfold fitsD at hR
 refine qg Tryz.func51 Tryz.ntmps51 fun σ n0 hcl hft => ?_
 repeat' (first | (refine Stp.m ?_ <;> try simp (disch := first | omega | simp) [qc, -qe, -qi]) | refine qb fun K hK => ?_ | refine qa ?_ | refine qd ?_ | (refine hK _ ?_; clear hK K))
 refine qk hcl (fun k : Nat => [(0, .sl (cols.map AV.int)), (9, .sl (L.map Delta.av)), (10, .int L.length), (11, .int k)]) (fun _ => [])
  (fun k => k <= L.length /\ ∀ j (h : j < L.length), j < k -> qce cols L[j].row = true) (fun k => L.length - k) 0 (by simp) (by simp) fun k ⟨hk, he⟩ => ?_
 by_cases hlt : k < L.length
 .have hbad : qce cols L[k].row = false -> R = false := fun h => by
   rw [hR, quy hlt h]
  have hnext : qce cols L[k].row = true -> ∃ b', (b' <= L.length /\ ∀ j (h : j < L.length), j < b' -> qce cols L[j].row = true) /\ L.length - b' < L.length - k /\ (k : Int) + 1 = b' := fun h =>
   ⟨k + 1, ⟨by omega, qdr (C := fun d : Delta => qce cols d.row = true) he fun _ => h⟩, by omega, by omega⟩
  have c1 := row_g L[k].row (hr _ (List.getElem_mem _))
  by_cases hl : L[k].row.length = cols.length
  .cases hro : rowOk L[k].row
   .rw [hro] at c1
    have hb := hbad (fitRow_row hro)
    repeat' (first | ((first | refine Stp.m ?_ | refine qh ?_) <;> (try simp (disch := first | omega | simp) [qc, -qe, -qi, hlt, hl])) | refine qb fun K hK => ?_ | refine qa ?_ | refine qd ?_ | (refine hK _ ?_; clear hK K) | clear hK K)
    exact hb
   .rw [hro] at c1
    repeat' (first | ((first | refine Stp.m ?_ | refine qh ?_) <;> (try simp (disch := first | omega | simp) [qc, -qe, -qi, hlt, hl])) | refine qb fun K hK => ?_ | refine qa ?_ | refine qd ?_ | (refine hK _ ?_; clear hK K))
    refine qk hcl (fun i : Nat => [(0, .sl (cols.map AV.int)), (6, .ptr n0 0), (9, .sl (L.map Delta.av)), (10, .int L.length), (11, .int k), (27, .sl (cols.map AV.int)), (28, .int cols.length), (29, .int i)]) (fun _ => [.cells [.int L[k].time, .sl (L[k].row.map Val.av), .int L[k].n] 55])
     (fun i => i <= cols.length /\ ∀ j (h : j < cols.length), j < i -> L[k].row[j].k = cols[j]) (fun i => cols.length - i) 0 (by simp) (by simp) fun i ⟨hi, hei⟩ => ?_
    by_cases hlt2 : i < cols.length
    .have hi2 : i < L[k].row.length := by omega
     by_cases hkk : L[k].row[i].k = cols[i]
     .repeat' (first | (refine Stp.m ?_ <;> try simp (disch := first | omega | simp) [qc, -qe, -qi, hlt2, hi2, hkk]) | refine qb fun K hK => ?_ | refine qa ?_ | refine qd ?_ | (refine hK _ ?_; clear hK K) | clear hK K)
      exact ⟨i + 1, ⟨by omega, fun j hj hji => by
       by_cases hji2 : j = i
       .subst hji2; exact hkk
       .exact hei j hj (by omega)⟩, by omega, by omega⟩
     .have hb := hbad (qsr hl hro hlt2 hkk)
      repeat' (first | ((first | ((with_reducible refine qj (fun hg => ?_) (fun hg => ?_)) <;> (try simp only [hg]) <;> (try simp only [gS] at hg) <;> (try (first | simp only [eq_false hg, gI] | simp only [eq_true hg, gI]))) | refine Stp.m ?_) <;> (try simp (disch := first | omega | simp) [qc, -qe, -qi, hlt2, hi2, hkk])) | refine qb fun K hK => ?_ | refine qa ?_ | refine qd ?_ | (refine hK _ ?_; clear hK K) | clear hK K)
      all_goals first | exact hb | exact absurd (by assumption) hkk
    .have hn := hnext (qnx hl hro fun j hj => hei j hj (by omega))
     repeat' (first | (refine Stp.m ?_ <;> try simp (disch := first | omega | simp) [qc, -qe, -qi, hlt2]) | refine qb fun K hK => ?_ | refine qa ?_ | (refine hK _ ?_; clear hK K) | clear hK K)
     exact hn
  .have hb := hbad (qnz hl)
   repeat' (first | ((first | ((with_reducible refine qj (fun hg => ?_) (fun hg => ?_)) <;> (try simp only [hg]) <;> (try simp only [gS] at hg) <;> (try (first | simp only [eq_false hg, gI] | simp only [eq_true hg, gI]))) | refine Stp.m ?_) <;> (try simp (disch := first | omega | simp) [qc, -qe, -qi, hlt, hl])) | refine qb fun K hK => ?_ | refine qa ?_ | refine qd ?_ | (refine hK _ ?_; clear hK K) | clear hK K)
   all_goals first | exact hb | (exfalso; omega)
 .repeat' (first | (refine Stp.m ?_ <;> try simp (disch := first | omega | simp) [qc, -qe, -qi, hlt]) | refine qb fun K hK => ?_ | refine qa ?_ | (refine hK _ ?_; clear hK K) | clear hK K)
  rw [hR, qux (qfq (C := fun d : Delta => qce cols d.row = true) he hlt)]
end Go.Proofs.YtkedbjjfmejbhaaGreatDoor
