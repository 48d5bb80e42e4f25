/- Plain: what holds of the sums of rows that fit. -/
import Derived.Test.YtkedbjjfmejbhaaGreatDoorGe3
import Derived.Test.YtkedbjjfmejbhaaGreatDoorGe5
import Derived.Test.YtkedbjjfmejbhaaGreatDoorGe14
import Derived.Test.YtkedbjjfmejbhaaGreatDoorGe15
import Derived.Test.YtkedbjjfmejbhaaGreatDoorGe19
import Derived.Test.YtkedbjjfmejbhaaGreatDoorGe20
import Derived.Test.YtkedbjjfmejbhaaGreatDoorGe22
set_option linter.unusedSimpArgs false
set_option linter.unusedVariables false
namespace Go.Proofs.YtkedbjjfmejbhaaGreatDoor
open Go.RowKit Go.Lib
theorem qez : ∀ (N : Nat) (a b : List Delta), a.length + b.length <= N -> ∀ x ∈ qz a b, ∃ y, (y ∈ a \/ y ∈ b) /\ y.time = x.time /\ y.row = x.row
 | N, [], [], _, x, h => by rw [qz] at h; simp at h
 | 0, u :: a, _, hN, x, h => by simp at hN
 | 0, [], v :: b, hN, x, h => by simp at hN
 | N + 1, u :: a, [], hN, x, h => by
  rw [qz] at h
  rcases List.mem_cons.1 h with rfl | h
  .exact ⟨x, .inl (by simp), rfl, rfl⟩
  .obtain ⟨y, h1 | h1, h2⟩ := qez N a [] (by simp at hN ⊢; omega) x h
   .exact ⟨y, .inl (by simp [h1]), h2⟩
   .simp at h1
 | N + 1, [], v :: b, hN, x, h => by
  have ih := qez N [] b (by simp at hN ⊢; omega) x
  have key : x = v \/ x ∈ qz [] b := by
   rw [qz] at h
   split at h
   .exact List.mem_cons.1 h
   .exact .inr h
  rcases key with rfl | h
  .exact ⟨x, .inr (by simp), rfl, rfl⟩
  .obtain ⟨y, h1 | h1, h2⟩ := ih h
   .simp at h1
   .exact ⟨y, .inr (by simp [h1]), h2⟩
 | N + 1, u :: a, v :: b, hN, x, h => by
  have i1 := qez N a (v :: b) (by simp at hN ⊢; omega) x
  have i2 := qez N a b (by simp at hN ⊢; omega) x
  have i3 := qez N (u :: a) b (by simp at hN ⊢; omega) x
  have lift : ∀ {a' b' : List Delta}, (∃ y, (y ∈ a' \/ y ∈ b') /\ y.time = x.time /\ y.row = x.row) -> (∀ y ∈ a', y ∈ u :: a) -> (∀ y ∈ b', y ∈ v :: b) -> ∃ y, (y ∈ u :: a \/ y ∈ v :: b) /\ y.time = x.time /\ y.row = x.row := fun ⟨y, h1, h2⟩ g1 g2 => ⟨y, h1.elim (fun h => .inl (g1 y h)) (fun h => .inr (g2 y h)), h2⟩
  rw [qz] at h
  split at h
  .rcases List.mem_cons.1 h with rfl | h
   .exact ⟨x, .inl (by simp), rfl, rfl⟩
   .exact lift (i1 h) (fun y hy => by simp [hy]) (fun y hy => hy)
  .split at h
   .split at h
    .rcases List.mem_cons.1 h with rfl | h
     .exact ⟨v, .inr (by simp), rfl, rfl⟩
     .exact lift (i2 h) (fun y hy => by simp [hy]) (fun y hy => by simp [hy])
    .exact lift (i2 h) (fun y hy => by simp [hy]) (fun y hy => by simp [hy])
   .split at h
    .rcases List.mem_cons.1 h with rfl | h
     .exact ⟨x, .inr (by simp), rfl, rfl⟩
     .exact lift (i3 h) (fun y hy => hy) (fun y hy => by simp [hy])
    .exact lift (i3 h) (fun y hy => hy) (fun y hy => by simp [hy])
theorem qku : ∀ (F : Nat) (l : List Delta), ∀ x ∈ rsumF F l, ∃ y ∈ l, y.time = x.time /\ y.row = x.row
 | 0, l, x, h => by simp [rsumF] at h
 | F + 1, l, x, h => by
  rw [rsumF] at h
  split at h
  .simp at h
  .split at h
   .exact ⟨x, h, rfl, rfl⟩
   .obtain ⟨y, h1, h2, h3⟩ := qez _ _ _ (Nat.le_refl _) x h
    rcases h1 with h1 | h1
    .obtain ⟨z, g1, g2, g3⟩ := qku F _ y h1
     exact ⟨z, List.mem_of_mem_take g1, g2.trans h2, g3.trans h3⟩
    .obtain ⟨z, g1, g2, g3⟩ := qku F _ y h1
     exact ⟨z, List.mem_of_mem_drop g1, g2.trans h2, g3.trans h3⟩
theorem qlx1 : ∀ {l : List Delta}, (∀ x ∈ l, x.n <= 5) -> totD l <= 5 * l.length
 | [], _ => by simp [totD]
 | x :: l, h => by
  have h1 := h x (by simp)
  have h2 := qlx1 (l := l) fun y hy => h y (by simp [hy])
  rw [totD, List.length_cons]; omega
theorem qpe (p : Delta -> Bool) : ∀ {l : List Delta}, posD l -> totD (l.filter p) <= totD l
 | [], _ => Int.le_refl _
 | x :: l, h => by
  have h1 := h x (by simp)
  have h2 := qpe p (l := l) fun y hy => h y (by simp [hy])
  rw [List.filter_cons]
  split
  .rw [totD, totD]; omega
  .rw [totD]; omega
theorem qgr1 (F : List Fn) (es : List Ex) : ∀ l : List Delta, totD (mapD F es l) = totD l
 | [] => rfl
 | x :: l => by
  have := qgr1 F es l
  unfold mapD at this ⊢
  rw [List.map_cons, totD, totD, this]
theorem qop1 (F : List Fn) (es : List Ex) {l : List Delta} (h : posD l) : posD (mapD F es l) := fun x hx => by
 obtain ⟨d, hd, rfl⟩ := List.mem_map.1 hx
 exact h d hd
theorem qmt1 {cols : List Int} {l : List Delta} (h : fit21 cols l = true) : l.length <= 30 /\ posD l /\ totD l <= 150 /\ posD (rsumF l.length l) /\ totD (rsumF l.length l) <= 150 /\ (rsumF l.length l).length <= 30 /\ fitsD cols (rsumF l.length l) = true := by
 unfold fit21 at h
 simp only [Bool.and_eq_true, decide_eq_true_eq, List.all_eq_true] at h
 obtain ⟨h1, h2⟩ := h
 have h3 : ∀ d ∈ l, (0 <= d.time /\ d.time <= 2199023255552 /\ 1 <= d.n /\ d.n <= 5) /\ qce cols d.row = true := fun d hd => by
  have := h1 d hd
  unfold fit1 at this
  simpa using this
 have hp : posD l := fun x hx => by have := (h3 x hx).1; omega
 have ht : totD l <= 150 := by have := qlx1 fun x hx => (h3 x hx).1.2.2.2; omega
 obtain ⟨g1, g2, g3⟩ := qiq l.length l (Nat.le_refl _) hp (by omega)
 refine ⟨h2, hp, ht, g1.pos, by omega, ?_, ?_⟩
 .have := qfn l.length l
  omega
 .unfold fitsD
  rw [List.all_eq_true]
  intro x hx
  obtain ⟨y, hy, -, e⟩ := qku _ _ x hx
  rw [<- e]
  exact (h3 y hy).2
end Go.Proofs.YtkedbjjfmejbhaaGreatDoor
namespace Go.Proofs.YtkedbjjfmejbhaaGreatDoor
open Go.RowKit Go.Lib Go.Sort
theorem qjh1 : Gives Tryz.prog 168 [.sl [], .int 0, .int 0, .fn 88 []] (.tup []) := by
 refine qg Tryz.func168 Tryz.ntmps168 fun σ n0 hcl hft => ?_
 repeat' (first | (refine Stp.m ?_ <;> try simp (disch := first | omega | simp) [qc, -qe, -qi]) | refine qb fun K hK => ?_ | refine qa ?_ | refine qd ?_ | (refine hK _ ?_; clear hK K))
 refine qk hcl (fun _ : Nat => [(2, .int 0), (8, .int 1)]) (fun _ => []) (fun _ => True) (fun _ => 0) 0 trivial (by simp) fun k _ => ?_
 repeat' (first | (refine Stp.m ?_ <;> try simp (disch := first | omega | simp) [qc, -qe, -qi]) | refine qb fun K hK => ?_ | refine qa ?_ | (refine hK _ ?_; clear hK K))
theorem qwo : Gives Tryz.prog 130 [.sl [], .int 0, .fn 88 []] (.tup []) := by
 have c1 := qjh1
 refine qg Tryz.func130 Tryz.ntmps130 fun σ n0 hcl hft => ?_
 repeat' (first | (refine Stp.m ?_ <;> try simp (disch := first | omega | simp) [qc, -qe, -qi]) | refine qb fun K hK => ?_ | refine qa ?_ | refine qd ?_ | (refine hK _ ?_; clear hK K))
 refine qk hcl (fun _ : Nat => [(0, .sl []), (1, .int 0), (2, .fn 88 []), (6, .int 20), (7, .int 0), (8, .int 20)]) (fun _ => []) (fun _ => True) (fun _ => 0) 0 trivial (by simp) fun k _ => ?_
 repeat' (first | ((first | refine Stp.m ?_ | refine qh ?_) <;> (try simp (disch := first | omega | simp) [qc, -qe, -qi])) | refine qb fun K hK => ?_ | refine qa ?_ | refine qd ?_ | (refine hK _ ?_; clear hK K) | clear hK K)
 refine qk hcl (fun _ : Nat => [(1, .int 0), (6, .int 20)]) (fun _ => []) (fun _ => True) (fun _ => 0) 0 trivial (by simp) fun k _ => ?_
 repeat' (first | (refine Stp.m ?_ <;> try simp (disch := first | omega | simp) [qc, -qe, -qi]) | refine qb fun K hK => ?_ | refine qa ?_ | (refine hK _ ?_; clear hK K))
theorem qgf1 : Gives Tryz.prog 78 [.sl [], .fn 88 []] (.tup []) := by
 have c1 := qwo
 refine qg Tryz.func78 Tryz.ntmps78 fun σ n0 hcl hft => ?_
 repeat' (first | ((first | refine Stp.m ?_ | refine qh ?_) <;> (try simp (disch := first | omega | simp) [qc, -qe, -qi])) | refine qa ?_)
theorem qjf1 : Gives Tryz.prog 143 [.sl [], .fn 90 []] (.int (-1)) := by
 refine qg Tryz.func143 Tryz.ntmps143 fun σ n0 hcl hft => ?_
 repeat' (first | (refine Stp.m ?_ <;> try simp (disch := first | omega | simp) [qc, -qe, -qi]) | refine qb fun K hK => ?_ | refine qa ?_ | refine qd ?_ | (refine hK _ ?_; clear hK K))
 refine qk hcl (fun _ : Nat => [(7, .int 0), (8, .int 0)]) (fun _ => []) (fun _ => True) (fun _ => 0) 0 trivial (by simp) fun k _ => ?_
 repeat' (first | (refine Stp.m ?_ <;> try simp (disch := first | omega | simp) [qc, -qe, -qi]) | refine qb fun K hK => ?_ | refine qa ?_ | (refine hK _ ?_; clear hK K) | clear hK K)
theorem qim1 : Gives Tryz.prog 89 [.sl [], .fn 90 []] (.sl []) := by
 have c1 := qjf1
 refine qg Tryz.func89 Tryz.ntmps89 fun σ n0 hcl hft => ?_
 repeat' (first | ((first | refine Stp.m ?_ | refine qh ?_) <;> (try simp (disch := first | omega | simp) [qc, -qe, -qi])) | refine qb fun K hK => ?_ | refine qa ?_ | (refine hK _ ?_; clear hK K))
theorem qkn1 : Gives Tryz.prog 48 [.sl []] (.sl []) := by
 have c1 := cloDs [] (by simp)
 rw [List.map_nil] at c1
 have c2 := qgf1
 have c3 := qim1
 refine qg Tryz.func48 Tryz.ntmps48 fun σ n0 hcl hft => ?_
 repeat' (first | ((first | refine Stp.m ?_ | refine qh ?_) <;> (try simp (disch := first | omega | simp) [qc, -qe, -qi])) | refine qb fun K hK => ?_ | refine qa ?_ | refine qd ?_ | (refine hK _ ?_; clear hK K))
 refine qk hcl (fun _ : Nat => [(3, .v (.slice none 0 0)), (12, .int 0), (13, .int 0)]) (fun _ => []) (fun _ => True) (fun _ => 0) 0 trivial (by simp) fun k _ => ?_
 repeat' (first | ((first | refine Stp.m ?_ | refine qh ?_) <;> (try simp (disch := first | omega | simp) [qc, -qe, -qi])) | refine qb fun K hK => ?_ | refine qa ?_ | (refine hK _ ?_; clear hK K) | clear hK K)
theorem qlv1 (l : List Delta) (hL : l.length <= 1000000) (hp : posD l) (ht : totD l <= 1000000) (hr : ∀ x ∈ l, x.row.length <= 1000000) :
  Gives Tryz.prog 48 [.sl (l.map Delta.av)] (.sl ((sumD l).map Delta.av)) := by
 by_cases h0 : 0 < l.length
 .refine sum_g l h0 hL (fun x hx => ?_) hr
  have := (que hp ht).1.pos x hx
  omega
 .have : l = [] := List.eq_nil_of_length_eq_zero (by omega)
  subst this
  have h2 : sortD [] = [] := (qmw []).1.eq_nil
  have e : sumD [] = [] := by rw [sumD, h2]; rfl
  rw [e]
  exact qkn1
end Go.Proofs.YtkedbjjfmejbhaaGreatDoor
namespace Go.Proofs.YtkedbjjfmejbhaaGreatDoor
open Go.RowKit Go.Lib
def findE (L : List Ex) (e : Ex) : Int := idxP (fun x => sameB x e) L
mutual
def qbf : Ex -> List Ex -> List Ex
 | .mk o n s l, L => if findE (qo l L) (.mk o n s l) < 0 then qo l L ++ [.mk o n s l] else qo l L
def qo : List Ex -> List Ex -> List Ex
 | [], L => L
 | e :: l, L => qo l (qbf e L)
end
theorem qdw {L : List Ex} {e : Ex} {k : Nat} (h : findE L e = k) : L[k]? = some e := by
 obtain ⟨hk, h1, -⟩ := qnd1 h
 rw [List.getElem?_eq_getElem hk, qyx h1]
theorem qxk (L : List Ex) (e : Ex) : -1 <= findE L e := qqi L
theorem qcd {L : List Ex} {e : Ex} : 0 <= findE L e ↔ e ∈ L := by
 constructor
 .intro h
  exact List.mem_of_getElem? (qdw (k := (findE L e).toNat) (by omega))
 .intro h
  have h1 := qik (p := fun x => sameB x e) L
  have h2 : L.any (fun x => sameB x e) = true := List.any_eq_true.2 ⟨e, h, qoz e⟩
  rw [h2] at h1
  exact of_decide_eq_true h1
def qds (L : List Ex) : Prop := ∀ (i : Nat) (y : Ex), L[i]? = some y -> ∀ x ∈ y.args, ∃ j, j < i /\ L[j]? = some x
def DistE (L : List Ex) : Prop := ∀ (i j : Nat) (y : Ex), L[i]? = some y -> L[j]? = some y -> i = j
theorem qpz {L : List Ex} (hd : DistE L) {e : Ex} {k : Nat} (h : L[k]? = some e) : findE L e = k := by
 have h1 : 0 <= findE L e := qcd.2 (List.mem_of_getElem? h)
 have h2 := qdw (L := L) (e := e) (k := (findE L e).toNat) (by omega)
 have := hd _ _ _ h2 h
 omega
theorem qvi {L : List Ex} {e : Ex} (h : qds L) (he : ∀ x ∈ e.args, x ∈ L) : qds (L ++ [e]) := by
 intro i y hy x hx
 by_cases hi : i < L.length
 .rw [List.getElem?_append_left hi] at hy
  obtain ⟨j, hj, h2⟩ := h i y hy x hx
  exact ⟨j, hj, by rw [List.getElem?_append_left (by omega)]; exact h2⟩
 .rw [List.getElem?_append_right (by omega)] at hy
  have hi2 : i - L.length = 0 := by
   by_cases h0 : i - L.length = 0
   .exact h0
   .rw [List.getElem?_eq_none (by simp; omega)] at hy; cases hy
  rw [hi2] at hy
  cases hy
  obtain ⟨j, hj, h2⟩ := List.mem_iff_getElem.1 (he x hx)
  exact ⟨j, by omega, by rw [List.getElem?_append_left hj, List.getElem?_eq_getElem hj, h2]⟩
theorem qig {L : List Ex} {e : Ex} (h : DistE L) (he : e ∉ L) : DistE (L ++ [e]) := by
 have hlast : ∀ i y, (L ++ [e])[i]? = some y -> (i < L.length /\ L[i]? = some y) \/ (i = L.length /\ y = e) := fun i y hy => by
  by_cases hi : i < L.length
  .rw [List.getElem?_append_left hi] at hy; exact .inl ⟨hi, hy⟩
  .rw [List.getElem?_append_right (by omega)] at hy
   by_cases h0 : i - L.length = 0
   .rw [h0] at hy; cases hy; exact .inr ⟨by omega, rfl⟩
   .rw [List.getElem?_eq_none (by simp; omega)] at hy; cases hy
 intro i j y h1 h2
 rcases hlast i y h1 with ⟨g1, g2⟩ | ⟨g1, g2⟩ <;> rcases hlast j y h2 with ⟨g3, g4⟩ | ⟨g3, g4⟩
 .exact h i j y g2 g4
 .exact absurd (g4 ▸ List.mem_of_getElem? g2) he
 .exact absurd (g2 ▸ List.mem_of_getElem? g4) he
 .omega
structure qkx (P : Ex -> Prop) (L M : List Ex) : Prop where
 pre : ∃ r, M = L ++ r
 cl : qds M
 di : DistE M
 all : ∀ y ∈ M, P y
theorem qkx.mem {P : Ex -> Prop} {L M : List Ex} (h : qkx P L M) {x : Ex} (hx : x ∈ L) : x ∈ M := by
 obtain ⟨r, rfl⟩ := h.pre; exact List.mem_append_left _ hx
theorem qtr {P : Ex -> Prop} (hP : ∀ e, P e -> ∀ x ∈ e.args, P x) (e : Ex) : ∀ L, qds L -> DistE L -> (∀ y ∈ L, P y) -> P e -> qkx P L (qbf e L) /\ e ∈ qbf e L := by
 induction e using Ex.ind with
 | h o n s l ih =>
  intro L hc hd ha he
  have : ∀ (l : List Ex) (L : List Ex), (∀ x ∈ l, ∀ L, qds L -> DistE L -> (∀ y ∈ L, P y) -> P x -> qkx P L (qbf x L) /\ x ∈ qbf x L) -> qds L -> DistE L -> (∀ y ∈ L, P y) -> (∀ x ∈ l, P x) -> qkx P L (qo l L) /\ ∀ x ∈ l, x ∈ qo l L := fun l => by
   induction l with
   | nil => intro L _ hc hd ha _; rw [qo]; exact ⟨⟨⟨[], by simp⟩, hc, hd, ha⟩, by simp⟩
   | cons x l ih2 =>
    intro L hx hc hd ha hp
    obtain ⟨g1, g2⟩ := hx x (by simp) L hc hd ha (hp x (by simp))
    obtain ⟨g3, g4⟩ := ih2 (qbf x L) (fun z hz => hx z (by simp [hz])) g1.cl g1.di g1.all (fun z hz => hp z (by simp [hz]))
    rw [qo]
    obtain ⟨r1, e1⟩ := g1.pre
    obtain ⟨r2, e2⟩ := g3.pre
    refine ⟨⟨⟨r1 ++ r2, by rw [e2, e1, List.append_assoc]⟩, g3.cl, g3.di, g3.all⟩, fun z hz => ?_⟩
    rcases List.mem_cons.1 hz with rfl | hz
    .exact g3.mem g2
    .exact g4 z hz
  obtain ⟨g1, g2⟩ := this l L ih hc hd ha (hP _ he)
  rw [qbf]
  split
  .rename_i hf
   obtain ⟨r, e1⟩ := g1.pre
   refine ⟨⟨⟨r ++ [.mk o n s l], by rw [e1, List.append_assoc]⟩, qvi g1.cl g2, qig g1.di fun hm => ?_, fun y hy => ?_⟩, by simp⟩
   .have := qcd.2 hm; omega
   .rcases List.mem_append.1 hy with hy | hy
    .exact g1.all y hy
    .rw [List.mem_singleton] at hy; rw [hy]; exact he
  .rename_i hf
   exact ⟨g1, qcd.1 (by omega)⟩
theorem qop (e : Ex) : ∀ L, (qbf e L).length <= L.length + parts e := by
 induction e using Ex.ind with
 | h o n s l ih =>
  intro L
  have : ∀ (l : List Ex) (L : List Ex), (∀ x ∈ l, ∀ L, (qbf x L).length <= L.length + parts x) -> (qo l L).length <= L.length + qm l := fun l => by
   induction l with
   | nil => intro L _; rw [qo, qm]; omega
   | cons x l ih2 =>
    intro L hx
    have h1 := hx x (by simp) L
    have h2 := ih2 (qbf x L) fun z hz => hx z (by simp [hz])
    rw [qo, qm]; omega
  have := this l L ih
  rw [qbf, parts]
  split
  .simp; omega
  .omega
def argI (L : List Ex) (e : Ex) (k : Nat) : Int := match e.args[k]? with
 | some x => findE L x
 | none => 0
def insE (L : List Ex) (i : Nat) (e : Ex) : Ins := ⟨e.op, i, argI L e 0, argI L e 1, argI L e 2, e.n, e.s⟩
def typE (cols : List Int) (e : Ex) : Int := (typeP [] cols [] e).getD 0
def rawI (L : List Ex) : List Ex -> Nat -> List Ins
 | [], _ => []
 | e :: l, i => insE L i e :: rawI L l (i + 1)
def rawP (cols : List Int) (e : Ex) : Cod := ⟨rawI (qbf e []) (qbf e []) 0, (qbf e []).map (typE cols), findE (qbf e []) e⟩
theorem qqt (L : List Ex) : ∀ (l : List Ex) (i : Nat), (rawI L l i).length = l.length
 | [], _ => rfl
 | e :: l, i => by rw [rawI, List.length_cons, qqt L l, List.length_cons]
def TypE (cols : List Int) (e : Ex) : Prop := (∃ t, ty [] cols [] e = some t) /\ levels e <= 12
theorem qas1 {o n : Int} {s : ByteArray} {l : List Ex} {x : Ex} (hx : x ∈ l) : levels x < levels (.mk o n s l) := by
 have := qeh l 0 x hx
 rw [levels.eq_1 o n s l]; omega
theorem TypE.arg {cols : List Int} {e : Ex} (h : TypE cols e) : ∀ x ∈ e.args, TypE cols x := by
 obtain ⟨o, n, s, l⟩ := e
 intro x hx
 simp only [Ex.args] at hx
 obtain ⟨⟨t, ht⟩, hl⟩ := h
 obtain ⟨ts, h1, -⟩ := ty_mk ht
 have := qas1 (o := o) (n := n) (s := s) hx
 exact ⟨qgm l h1 x hx, by omega⟩
theorem TypE.typ {cols : List Int} {e : Ex} (h : TypE cols e) : ty [] cols [] e = some (typE cols e) := by
 obtain ⟨⟨t, ht⟩, hl⟩ := h
 unfold typE typeP
 rw [if_pos qjo]
 unfold tyD
 rw [if_neg (by omega), ht]; rfl
theorem qgz1 {cols : List Int} (e : Ex) : ∀ {t : Int}, ty [] cols [] e = some t -> 0 <= t /\ t < 3 := by
 induction e using Ex.ind with
 | h o n s l ih =>
  intro t h
  obtain ⟨ts, h1, h2⟩ := ty_mk h
  unfold tailT at h2
  split at h2
  .cases h2
  split at h2
  .unfold callT at h2
   split at h2
   .cases h2
   .simp at h2
  split at h2
  .have hp : ∀ {c : List Int} {t : Int}, pickT c n = some t -> 0 <= t /\ t < 3 := fun {c t} h => by
    unfold pickT at h
    split at h
    .cases h
    .split at h
     .split at h
      .cases h
       rename_i hk
       unfold kindB at hk
       simpa using hk
      .cases h
     .cases h
   unfold leafT at h2
   split at h2
   .cases h2; decide
   split at h2
   .split at h2 <;> cases h2
    decide
   split at h2
   .exact hp h2
   split at h2
   .exact hp h2
   split at h2
   .split at h2 <;> cases h2
    decide
   split at h2
   .split at h2 <;> cases h2
    decide
   .cases h2
  .by_cases h21 : o = 21
   .obtain rfl := qet1 h2 h21
    obtain ⟨x, y, z, rfl, -, hy, -⟩ := tys3 h1
    exact ih y (by simp) hy
   .unfold operT at h2
    rw [if_neg h21] at h2
    split at h2
    .cases h2
    split at h2
    .split at h2 <;> cases h2
     decide
    split at h2
    .split at h2 <;> cases h2
     decide
    split at h2
    .split at h2 <;> cases h2
     decide
    split at h2
    .split at h2 <;> cases h2
     decide
    split at h2
    .split at h2
     .split at h2 <;> cases h2
      decide
     .cases h2
    split at h2
    .split at h2 <;> cases h2
     decide
    split at h2
    .split at h2 <;> cases h2
     decide
    try rw [if_neg h21] at h2
    cases h2
theorem qru1 {o n t : Int} {ts : List Int} (h : operT o n ts = some t) : arO o = ts.length := by
 unfold operT at h
 split at h
 .cases h
 split at h
 .rename_i e1
  split at h <;> cases h
  rename_i e2; rw [e2, e1]; rfl
 split at h
 .rename_i e1
  split at h <;> cases h
  rename_i e2; rw [e2, e1]; rfl
 split at h
 .rename_i e1
  split at h <;> cases h
  rename_i e2; rw [e2, e1]; rfl
 have h2 : ∀ k : Int, 8 <= k /\ k <= 19 -> arO k = 2 := fun k hk => by
  unfold arO; rw [if_neg (by omega), if_neg (by omega), if_neg (by omega)]
 split at h
 .split at h <;> cases h
  rename_i e2; rw [e2, h2 o (by omega)]; rfl
 split at h
 .split at h
  .rw [h2 o (by omega)]; rfl
  .cases h
 split at h
 .split at h <;> cases h
  rename_i e2; rw [e2, h2 o (by omega)]; rfl
 split at h
 .split at h <;> cases h
  rename_i e2; rw [e2, h2 o (by omega)]; rfl
 split at h
 .rename_i e1
  split at h
  .rw [e1]; rfl
  .cases h
 .cases h
theorem qyz {cols : List Int} {o n t : Int} {s : ByteArray} {l : List Ex} (h : ty [] cols [] (.mk o n s l) = some t) : opOk o = true /\ arO o = l.length /\
  (if o = 0 \/ o = 3 then s.size = 0 else if o = 2 then s.size = 0 /\ (n = 0 \/ n = 1) else if o = 1 then n = 0 /\ s.size <= 200 else n = 0 /\ s.size = 0) /\ (o = 3 -> 0 <= n /\ n < cols.length) := by
 by_cases hl : l = []
 .subst hl
  obtain ⟨ts, h1, h2⟩ := ty_mk h
  rw [tys] at h1
  cases h1
  unfold tailT at h2
  split at h2
  .cases h2
  rename_i hs
  split at h2
  .unfold callT at h2
   split at h2
   .cases h2
   .simp at h2
  rw [if_pos rfl] at h2
  unfold leafT at h2
  have e0 : ∀ k : Int, o = k -> opOk k = true -> opOk o = true := fun k hk h => by rw [hk]; exact h
  have e1 : ∀ k : Int, o = k -> arO k = 0 -> arO o = ([] : List Ex).length := fun k hk h => by rw [hk]; exact h
  split at h2
  .rename_i ho
   exact ⟨e0 _ ho rfl, e1 _ ho rfl, by rw [if_pos (.inl ho)]; omega, by omega⟩
  split at h2
  .rename_i ho
   split at h2
   .exact ⟨e0 _ ho rfl, e1 _ ho rfl, by rw [if_neg (by omega), if_pos ho]; omega, by omega⟩
   .cases h2
  split at h2
  .rename_i ho
   obtain ⟨g1, g2⟩ := qml h2
   have := (List.getElem?_eq_some_iff.1 g2).1
   exact ⟨e0 _ ho rfl, e1 _ ho rfl, by rw [if_pos (.inr ho)]; omega, fun _ => ⟨g1, by omega⟩⟩
  split at h2
  .unfold pickT at h2
   split at h2
   .cases h2
   .simp at h2
  split at h2
  .rename_i ho
   split at h2
   .rename_i hh
    exact ⟨e0 _ ho rfl, e1 _ ho rfl, by rw [if_neg (by omega), if_neg (by omega), if_pos ho]; omega, by omega⟩
   .cases h2
  split at h2
  .rename_i ho
   split at h2
   .exact ⟨e0 _ ho rfl, e1 _ ho rfl, by rw [if_neg (by omega), if_neg (by omega), if_neg (by omega)]; omega, by omega⟩
   .cases h2
  .cases h2
 .have ho : o ≠ 22 := by
   rintro rfl
   obtain ⟨ts, h1, h2⟩ := ty_mk h
   unfold tailT at h2
   split at h2
   .cases h2
   rw [if_pos rfl] at h2
   unfold callT at h2
   split at h2
   .cases h2
   .simp at h2
  obtain ⟨ts, h1, h2, hn, hs, h6, h21⟩ := qhz h ho hl
  have hlen := qdl _ h1
  refine ⟨by unfold opOk; simp; omega, ?_, by rw [if_neg (by omega), if_neg (by omega), if_neg (by omega)]; omega, by omega⟩
  rw [<- hlen]
  exact qru1 h2
theorem qmz {cols : List Int} {e : Ex} {t : Int} (h : ty [] cols [] e = some t) : opOk e.op = true /\ arO e.op = e.args.length /\
  (if e.op = 0 \/ e.op = 3 then e.s.size = 0 else if e.op = 2 then e.s.size = 0 /\ (e.n = 0 \/ e.n = 1) else if e.op = 1 then e.n = 0 /\ e.s.size <= 200 else e.n = 0 /\ e.s.size = 0) /\ (e.op = 3 -> 0 <= e.n /\ e.n < cols.length) := by
 obtain ⟨o, n, s, l⟩ := e
 exact qyz h
theorem take3 {L : List Ex} {e : Ex} (h : e.args.length <= 3) : [argI L e 0, argI L e 1, argI L e 2].take e.args.length = e.args.map (findE L) := by
 unfold argI
 match e.args, h with
 | [], _ => rfl
 | [a], _ => rfl
 | [a, b], _ => rfl
 | [a, b, c], _ => rfl
theorem qxs {cols : List Int} {L : List Ex} {i : Nat} {e : Ex} (h : TypE cols e) : opsP (insE L i e) = e.args.map (findE L) := by
 obtain ⟨h1, h2, -, -⟩ := qmz h.typ
 unfold opsP
 show (if opOk e.op then [argI L e 0, argI L e 1, argI L e 2].take (arO e.op) else []) = _
 rw [if_pos h1, h2, take3 (by rw [<- h2]; exact qfx _)]
theorem qdx1 {cols : List Int} {L : List Ex} {i : Nat} {e : Ex} (h : TypE cols e) : qbp (insE L i e) = true := by
 obtain ⟨h1, h2, h3, -⟩ := qmz h.typ
 have hz : ∀ k, arO e.op <= k -> argI L e k = 0 := fun k hk => by
  unfold argI
  rw [List.getElem?_eq_none (by rw [<- h2]; exact hk)]
 unfold qbp insE
 dsimp only
 simp only [Bool.and_eq_true, decide_eq_true_eq]
 refine ⟨⟨h1, ⟨fun h => hz 2 (by omega), fun h => hz 1 (by omega)⟩, fun h => hz 0 (by omega)⟩, ?_⟩
 split at h3
 .rename_i hh; rw [if_pos hh]; exact decide_eq_true h3
 .rename_i hh
  rw [if_neg hh]
  split at h3
  .rename_i hh2; rw [if_pos hh2]; simp only [Bool.and_eq_true, decide_eq_true_eq]; exact h3
  .rename_i hh2
   rw [if_neg hh2]
   split at h3
   .rename_i hh3; rw [if_pos hh3]; simp only [Bool.and_eq_true, decide_eq_true_eq]; exact h3
   .rename_i hh3; rw [if_neg hh3]; simp only [Bool.and_eq_true, decide_eq_true_eq]; exact h3
theorem qqf {α : Type} {l : List α} {k : Nat} {x d : α} (h : l[k]? = some x) : l.getD k d = x := by rw [List.getD_eq_getElem?_getD, h]; rfl
theorem qhg1 {cols : List Int} : ∀ l : List Ex, (∀ x ∈ l, TypE cols x) -> tys [] cols [] l = some (l.map (typE cols))
 | [], _ => by rw [tys]; rfl
 | x :: l, h => by rw [tys, (h x (by simp)).typ, qhg1 l fun y hy => h y (by simp [hy])]; rfl
theorem qbv1 {L : List Ex} (hc : qds L) (hd : DistE L) {i : Nat} {y : Ex} (hy : L[i]? = some y) {x : Ex} (hx : x ∈ y.args) : ∃ j, j < i /\ L[j]? = some x /\ findE L x = j := by
 obtain ⟨j, hj, h⟩ := hc i y hy x hx
 exact ⟨j, hj, h, qpz hd h⟩
section
variable {cols : List Int} {L : List Ex} (hc : qds L) (hd : DistE L) (ha : ∀ y ∈ L, TypE cols y)
include hc hd ha
theorem qot1 {i : Nat} {y : Ex} (hy : L[i]? = some y) {done : List Bool} (hdone : ∀ j, j < i -> done.getD j false = true) : InsOk cols (L.map (typE cols)) done (insE L i y) := by
 have hm := ha y (List.mem_of_getElem? hy)
 have hi : i < L.length := (List.getElem?_eq_some_iff.1 hy).1
 obtain ⟨h1, h2, h3, h4⟩ := qmz hm.typ
 have hops := qxs (L := L) (i := i) hm
 have hargs : ∀ r ∈ opsP (insE L i y), 0 <= r /\ r < (L.map (typE cols)).length /\ done.getD r.toNat false = true := fun r hr => by
  rw [hops] at hr
  obtain ⟨x, hx, rfl⟩ := List.mem_map.1 hr
  obtain ⟨j, hj, g1, g2⟩ := qbv1 hc hd hy hx
  rw [g2]
  exact ⟨by omega, by simp; omega, by rw [Int.toNat_natCast]; exact hdone j hj⟩
 refine ⟨qdx1 hm, by show (0 : Int) <= i; omega, by show (i : Int) < _; simp; omega, hargs, h4, ?_⟩
 have hkinds : ∀ t ∈ L.map (typE cols), 0 <= t /\ t < 3 := fun t ht => by
  obtain ⟨x, hx, rfl⟩ := List.mem_map.1 ht
  exact qgz1 x (ha x hx).typ
 have hti : (L.map (typE cols)).getD (insE L i y).tgt.toNat 0 = typE cols y := by
  show (L.map (typE cols)).getD ((i : Int).toNat) 0 = _
  rw [Int.toNat_natCast]
  exact qqf (by rw [List.getElem?_map, hy]; rfl)
 rw [hti]
 refine qly1 (fun r hr => ⟨(hargs r hr).1, (hargs r hr).2.1⟩) hkinds ?_ ?_
 .have : y.op ≠ 4 := by unfold opOk at h1; simp at h1; exact h1.2
  exact this
 .have hmap : ((opsP (insE L i y)).map fun r => (L.map (typE cols)).getD r.toNat 0) = y.args.map (typE cols) := by
   rw [hops, List.map_map]
   refine List.map_congr_left fun x hx => ?_
   obtain ⟨j, hj, g1, g2⟩ := qbv1 hc hd hy hx
   show (L.map (typE cols)).getD (findE L x).toNat 0 = _
   rw [g2, Int.toNat_natCast]
   exact qqf (by rw [List.getElem?_map, g1]; rfl)
  rw [hmap]
  obtain ⟨o, n, s, l⟩ := y
  obtain ⟨ts, e1, e2⟩ := ty_mk hm.typ
  rw [qhg1 l fun x hx => hm.arg x hx] at e1
  cases e1
  exact e2
theorem qfk1 : ∀ (l pre : List Ex) (done : List Bool), L = pre ++ l -> done.length = L.length -> (∀ j, j < pre.length -> done.getD j false = true) ->
  AllOk cols (L.map (typE cols)) (rawI L l pre.length) done /\ ∀ j, j < L.length -> (doneL (rawI L l pre.length) done).getD j false = true
 | [], pre, done, hL, hl, hdone => ⟨trivial, fun j hj => hdone j (by rw [hL] at hj; simpa using hj)⟩
 | e :: l, pre, done, hL, hl, hdone => by
  have hy : L[pre.length]? = some e := by rw [hL, List.getElem?_append_right (Nat.le_refl _), Nat.sub_self]; rfl
  have hi : pre.length < L.length := (List.getElem?_eq_some_iff.1 hy).1
  have h1 := qot1 hc hd ha hy hdone
  obtain ⟨g1, g2⟩ := qfk1 l (pre ++ [e]) (done.set pre.length true) (by rw [hL]; simp) (by rw [List.length_set]; exact hl) (fun j hj => by
   rw [qq]
   by_cases hji : pre.length = j
   .rw [if_pos ⟨hji, by omega⟩]
   .rw [if_neg fun h => hji h.1]
    exact hdone j (by simp at hj; omega))
  rw [List.length_append, List.length_singleton] at g1 g2
  exact ⟨⟨h1, g1⟩, g2⟩
theorem qyo (time : Int) (row : List Val) : ∀ (l pre : List Ex) (regs : List Val), L = pre ++ l -> regs.length = L.length -> (∀ (j : Nat) x, j < pre.length -> L[j]? = some x -> regs.getD j zeroV = ev (fun _ _ => zeroV) time row [] x) ->
  ∀ (j : Nat) x, L[j]? = some x -> (regsI time row (rawI L l pre.length) regs).getD j zeroV = ev (fun _ _ => zeroV) time row [] x
 | [], pre, regs, hL, hl, hr => fun j x hx => hr j x (by have := (List.getElem?_eq_some_iff.1 hx).1; rw [hL] at this; simpa using this) hx
 | e :: l, pre, regs, hL, hl, hr => by
  have hy : L[pre.length]? = some e := by rw [hL, List.getElem?_append_right (Nat.le_refl _), Nat.sub_self]; rfl
  have hi : pre.length < L.length := (List.getElem?_eq_some_iff.1 hy).1
  have hm := ha e (List.mem_of_getElem? hy)
  have hval : opI time row (insE L pre.length e) (argsI regs (insE L pre.length e)) = ev (fun _ _ => zeroV) time row [] e := by
   have hargs : argsI regs (insE L pre.length e) = evs (fun _ _ => zeroV) time row [] e.args := by
    unfold argsI
    rw [qxs hm, List.map_map, qfk]
    refine List.map_congr_left fun x hx => ?_
    obtain ⟨j, hj, g1, g2⟩ := qbv1 hc hd hy hx
    show regs.getD (findE L x).toNat zeroV = _
    rw [g2, Int.toNat_natCast]
    exact hr j x hj g1
   rw [hargs]
   obtain ⟨o, n, s, l⟩ := e
   rw [ev_mk]
   rfl
  intro j x hx
  have := qyo time row l (pre ++ [e]) (stepI time row regs (insE L pre.length e)) (by rw [hL]; simp) (by unfold stepI; rw [List.length_set]; exact hl) (fun j x hj hx => by
   unfold stepI
   show (regs.set ((pre.length : Int).toNat) _).getD j zeroV = _
   rw [Int.toNat_natCast, qq]
   by_cases hji : pre.length = j
   .rw [if_pos ⟨hji, by omega⟩, hval]
    rw [<- hji, hy] at hx
    cases hx; rfl
   .rw [if_neg fun h => hji h.1]
    exact hr j x (by simp at hj; omega) hx) j x hx
  rw [List.length_append, List.length_singleton] at this
  exact this
end
theorem qfd1 {cols : List Int} {e : Ex} (h : TypE cols e) : qds (qbf e []) /\ DistE (qbf e []) /\ (∀ y ∈ qbf e [], TypE cols y) /\ e ∈ qbf e [] := by
 obtain ⟨g1, g2⟩ := qtr (P := TypE cols) (fun e he x hx => he.arg x hx) e [] (by intro i y hy; simp at hy) (by intro i j y hy; simp at hy) (by simp) h
 exact ⟨g1.cl, g1.di, g1.all, g2⟩
theorem qlr1 {cols : List Int} {e : Ex} (h : TypE cols e) (hp : parts e <= 1000) : CodOk (rawP cols e) cols /\ (∀ time row, valC (rawP cols e) time row = ev (fun _ _ => zeroV) time row [] e) /\ (rawP cols e).types.getD (rawP cols e).out.toNat 0 = typE cols e := by
 obtain ⟨hc, hd, ha, hm⟩ := qfd1 h
 have hlen := qop e []
 simp only [List.length_nil, Nat.zero_add] at hlen
 have h0 := qcd.2 hm
 have hk := qdw (L := qbf e []) (e := e) (k := (findE (qbf e []) e).toNat) (by omega)
 have hlt := (List.getElem?_eq_some_iff.1 hk).1
 obtain ⟨g1, g2⟩ := qfk1 hc hd ha (qbf e []) [] (List.replicate (qbf e []).length false) (by simp) (by simp) (by simp)
 refine ⟨⟨?_, ?_, ?_, ?_, h0, ?_, ?_⟩, fun time row => ?_, ?_⟩
 .show (rawI _ _ 0).length <= _; rw [qqt]; omega
 .show (List.map _ _).length <= _; rw [List.length_map]; omega
 .intro t ht
  obtain ⟨x, hx, rfl⟩ := List.mem_map.1 ht
  exact qgz1 x (ha x hx).typ
 .show AllOk cols _ (rawI _ _ 0) (List.replicate (List.map _ _).length false)
  rw [List.length_map]; exact g1
 .show findE _ _ < ((List.map _ _).length : Int)
  rw [List.length_map]; omega
 .show (doneL (rawI _ _ 0) (List.replicate (List.map _ _).length false)).getD (findE _ _).toNat false = true
  rw [List.length_map]; exact g2 _ hlt
 .show (regsI time row (rawI _ _ 0) (List.replicate (List.map _ _).length zeroV)).getD (findE _ _).toNat zeroV = _
  rw [List.length_map]
  exact qyo hc hd ha time row (qbf e []) [] (List.replicate (qbf e []).length zeroV) (by simp) (by simp) (by simp) _ e hk
 .show (List.map _ _).getD (findE _ _).toNat 0 = _
  exact qqf (by rw [List.getElem?_map, hk]; rfl)
end Go.Proofs.YtkedbjjfmejbhaaGreatDoor
namespace Go.Proofs.YtkedbjjfmejbhaaGreatDoor
open Go.RowKit Go.Lib
def regK (L : List Ex) (e : Ex) (k : Nat) : Int := match e.args[k]? with
 | some x => findE L x + 1
 | none => 0
def keyE (L : List Ex) (e : Ex) : Value := partV e.op e.n e.s (regK L e 0) (regK L e 1) (regK L e 2)
def entI (L : List Ex) : List Ex -> Nat -> List (Value × Int)
 | [], _ => []
 | e :: l, i => (keyE L e, (i : Int)) :: entI L l (i + 1)
theorem qqa {L r : List Ex} (hd : DistE (L ++ r)) {x : Ex} (hx : x ∈ L) : findE (L ++ r) x = findE L x := by
 have h0 := qcd.2 hx
 have h1 := qdw (L := L) (e := x) (k := (findE L x).toNat) (by omega)
 have h2 : (L ++ r)[(findE L x).toNat]? = some x := by
  rw [List.getElem?_append_left (List.getElem?_eq_some_iff.1 h1).1]; exact h1
 rw [qpz hd h2]; omega
theorem qdx {L M : List Ex} {e : Ex} (h : ∀ x ∈ e.args, findE M x = findE L x) (k : Nat) : argI M e k = argI L e k /\ regK M e k = regK L e k := by
 unfold argI regK
 cases hk : e.args[k]? with
 | none => exact ⟨rfl, rfl⟩
 | some x => have := h x (List.mem_of_getElem? hk); exact ⟨this, by dsimp only; rw [this]⟩
theorem qok {L M : List Ex} {e : Ex} (h : ∀ x ∈ e.args, findE M x = findE L x) : keyE M e = keyE L e := by
 unfold keyE; rw [(qdx h 0).2, (qdx h 1).2, (qdx h 2).2]
theorem qoh {L M : List Ex} {e : Ex} (h : ∀ x ∈ e.args, findE M x = findE L x) (i : Nat) : insE M i e = insE L i e := by
 unfold insE; rw [(qdx h 0).1, (qdx h 1).1, (qdx h 2).1]
theorem qtt {L M : List Ex} : ∀ (l : List Ex) (i : Nat), (∀ e ∈ l, ∀ x ∈ e.args, findE M x = findE L x) -> rawI M l i = rawI L l i /\ entI M l i = entI L l i
 | [], i, _ => ⟨rfl, rfl⟩
 | e :: l, i, h => by
  obtain ⟨h1, h2⟩ := qtt l (i + 1) fun y hy => h y (by simp [hy])
  rw [rawI, rawI, entI, entI, h1, h2, qoh (h e (by simp)), qok (h e (by simp))]
  exact ⟨rfl, rfl⟩
theorem qfl1 (M : List Ex) : ∀ (l l' : List Ex) (i : Nat), rawI M (l ++ l') i = rawI M l i ++ rawI M l' (i + l.length) /\ entI M (l ++ l') i = entI M l i ++ entI M l' (i + l.length)
 | [], l', i => ⟨rfl, rfl⟩
 | e :: l, l', i => by
  obtain ⟨h1, h2⟩ := qfl1 M l l' (i + 1)
  rw [List.cons_append, rawI, rawI, entI, entI, h1, h2, List.length_cons, show i + 1 + l.length = i + (l.length + 1) by omega]
  exact ⟨rfl, rfl⟩
theorem qgs {L : List Ex} (hc : qds L) {y x : Ex} (hy : y ∈ L) (hx : x ∈ y.args) : x ∈ L := by
 obtain ⟨i, hi, h⟩ := List.mem_iff_getElem.1 hy
 obtain ⟨j, -, h2⟩ := hc i y (by rw [List.getElem?_eq_getElem hi, h]) x hx
 exact List.mem_of_getElem? h2
theorem qyp {L : List Ex} {e : Ex} (hc : qds L) (hd : DistE (L ++ [e])) (he : ∀ x ∈ e.args, x ∈ L) :
  rawI (L ++ [e]) (L ++ [e]) 0 = rawI L L 0 ++ [insE L L.length e] /\ entI (L ++ [e]) (L ++ [e]) 0 = entI L L 0 ++ [(keyE L e, (L.length : Int))] := by
 obtain ⟨h1, h2⟩ := qfl1 (L ++ [e]) L [e] 0
 obtain ⟨h3, h4⟩ := qtt (L := L) (M := L ++ [e]) L 0 fun y hy x hx => qqa hd (qgs hc hy hx)
 have h5 : ∀ x ∈ e.args, findE (L ++ [e]) x = findE L x := fun x hx => qqa hd (he x hx)
 rw [h1, h2, h3, h4, rawI, rawI, entI, entI, qoh h5, qok h5, Nat.zero_add]
 exact ⟨rfl, rfl⟩
theorem qcv1 (M : List Ex) : ∀ (l : List Ex) (i : Nat), (entI M l i).length = l.length
 | [], _ => rfl
 | e :: l, i => by rw [entI, List.length_cons, qcv1 M l, List.length_cons]
theorem qlq {M : List Ex} : ∀ (l : List Ex) (i : Nat) (p : Value × Int), p ∈ entI M l i ↔ ∃ (k : Nat) (y : Ex), l[k]? = some y /\ p = (keyE M y, ((i + k : Nat) : Int))
 | [], i, p => by rw [entI]; simp
 | e :: l, i, p => by
  rw [entI, List.mem_cons, qlq l (i + 1)]
  constructor
  .rintro (rfl | ⟨k, y, h1, rfl⟩)
   .exact ⟨0, e, rfl, rfl⟩
   .exact ⟨k + 1, y, by simpa using h1, by rw [show i + 1 + k = i + (k + 1) by omega]⟩
  .rintro ⟨k, y, h1, rfl⟩
   cases k with
   | zero => cases h1; exact .inl rfl
   | succ k => exact .inr ⟨k, y, by simpa using h1, by rw [show i + 1 + k = i + (k + 1) by omega]⟩
theorem qwj {L : List Ex} {e f : Ex} (h1 : ∀ x ∈ e.args, x ∈ L) (h2 : ∀ x ∈ f.args, x ∈ L) {k : Nat} (h : regK L e k = regK L f k) : e.args[k]? = f.args[k]? := by
 unfold regK at h
 cases hk : e.args[k]? with
 | none =>
  cases hk' : f.args[k]? with
  | none => rfl
  | some y =>
   simp only [hk, hk'] at h
   have := qcd.2 (h2 y (List.mem_of_getElem? hk'))
   omega
 | some x =>
  have hx := qcd.2 (h1 x (List.mem_of_getElem? hk))
  cases hk' : f.args[k]? with
  | none => simp only [hk, hk'] at h; omega
  | some y =>
   simp only [hk, hk'] at h
   have hy := qcd.2 (h2 y (List.mem_of_getElem? hk'))
   have e1 := qdw (L := L) (e := x) (k := (findE L x).toNat) (by omega)
   have e2 := qdw (L := L) (e := y) (k := (findE L x).toNat) (by omega)
   rw [e1] at e2; exact e2
theorem qxu {L : List Ex} {e f : Ex} (he : ∀ x ∈ e.args, x ∈ L) (hf : ∀ x ∈ f.args, x ∈ L) (h3 : e.args.length <= 3) (g3 : f.args.length <= 3) (h : keyE L e = keyE L f) : e = f := by
 obtain ⟨o, n, s, l⟩ := e
 obtain ⟨o', n', s', l'⟩ := f
 obtain ⟨h0, h1, h2, a0, a1, a2⟩ := qfa1 h
 simp only [Ex.op, Ex.n, Ex.s] at h0 h1 h2
 subst h0 h1 h2
 have r0 := qwj he hf a0
 have r1 := qwj he hf a1
 have r2 := qwj he hf a2
 simp only [Ex.args] at h3 g3 r0 r1 r2
 have : l = l' := by
  apply List.ext_getElem?
  intro k
  match k with
  | 0 => exact r0
  | 1 => exact r1
  | 2 => exact r2
  | k + 3 => rw [List.getElem?_eq_none (by omega), List.getElem?_eq_none (by omega)]
 rw [this]
structure qfw (cols : List Int) (L : List Ex) : Prop where
 cl : qds L
 di : DistE L
 all : ∀ y ∈ L, TypE cols y /\ n64 y
theorem qhy1 (o : Int) : arO o <= 3 := by
 unfold arO
 repeat' split
 all_goals omega
theorem qix {cols : List Int} {e : Ex} (h : TypE cols e) : e.args.length <= 3 := by
 have h1 := (qmz h.typ).2.1
 have := qhy1 e.op
 omega
theorem qsu1 {cols : List Int} {e : Ex} (h : TypE cols e) : I64 e.op := by
 have h1 := (qmz h.typ).1
 unfold opOk at h1
 simp at h1
 unfold I64; omega
theorem qks {L : List Ex} (hl : L.length <= 1000000) (e : Ex) (k : Nat) : I64 (regK L e k) := by
 unfold regK
 split
 .rename_i x hx
  have h0 := qxk L x
  have h1 : findE L x <= L.length := by
   by_cases h : 0 <= findE L x
   .have := qdw (L := L) (e := x) (k := (findE L x).toNat) (by omega)
    have := (List.getElem?_eq_some_iff.1 this).1
    omega
   .omega
  unfold I64; omega
 .exact i64_0
theorem qql {cols : List Int} {L : List Ex} {e : Ex} (he : TypE cols e) (hn : n64 e) (hl : L.length <= 1000000) : ∃ kl, keyOf Tryz.prog 118 (keyE L e) = some kl := by
 obtain ⟨o, n, s, l⟩ := e
 obtain ⟨h1, -⟩ := qdc.1 hn
 exact qfb1 (qsu1 he) h1.1 (qks hl _ _) (qks hl _ _) (qks hl _ _) h1.2
def keyA (L : List Ex) (e : Ex) : AV := .agg [.v (.int .i64 e.op), .v (.int .i64 e.n), .v (.string e.s), .v (.int .i64 (regK L e 0)), .v (.int .i64 (regK L e 1)), .v (.int .i64 (regK L e 2))]
theorem qjk (L : List Ex) (e : Ex) : (keyA L e).whole = some (keyE L e) := rfl
theorem qpw {cols : List Int} {L : List Ex} (hg : qfw cols L) : ∀ p ∈ entI L L 0, ∀ q ∈ entI L L 0, p.1 = q.1 -> p = q := fun p hp q hq h => by
 obtain ⟨i, y, hi, rfl⟩ := (qlq L 0 p).1 hp
 obtain ⟨j, z, hj, rfl⟩ := (qlq L 0 q).1 hq
 have hy := List.mem_of_getElem? hi
 have hz := List.mem_of_getElem? hj
 have := qxu (fun x hx => qgs hg.cl hy hx) (fun x hx => qgs hg.cl hz hx) (qix (hg.all y hy).1) (qix (hg.all z hz).1) h
 subst this
 rw [hg.di i j y hi hj]
theorem qju1 {cols : List Int} {L : List Ex} (hg : qfw cols L) (hl : L.length <= 1000000) {e : Ex} (he : e ∈ L) :
  qjw Tryz.prog 84 (mapI (entI L L 0)) true (keyA L e) (.tup [.v (.int .i64 (findE L e)), .v (.bool true)]) := by
 obtain ⟨kl, hk⟩ := qql (L := L) (hg.all e he).1 (hg.all e he).2 hl
 have h0 := qcd.2 he
 have h1 := qdw (L := L) (e := e) (k := (findE L e).toNat) (by omega)
 refine qjm1 (qpw hg) (qjk L e) hk ((qlq L 0 _).2 ⟨_, e, h1, ?_⟩)
 rw [Nat.zero_add, Int.toNat_of_nonneg h0]
theorem qoo {cols : List Int} {L : List Ex} (hg : qfw cols L) {e : Ex} (hT : TypE cols e) (ha : ∀ x ∈ e.args, x ∈ L) (he : e ∉ L) : ∀ p ∈ entI L L 0, p.1 ≠ keyE L e := fun p hp h => by
 obtain ⟨i, y, hi, rfl⟩ := (qlq L 0 p).1 hp
 have hy := List.mem_of_getElem? hi
 have := qxu (fun x hx => qgs hg.cl hy hx) ha (qix (hg.all y hy).1) (qix hT) h
 subst this
 exact he hy
theorem qfc1 {cols : List Int} {L : List Ex} (hg : qfw cols L) (hl : L.length <= 1000000) {e : Ex} (hT : TypE cols e) (hn : n64 e) (ha : ∀ x ∈ e.args, x ∈ L) (he : e ∉ L) :
  qjw Tryz.prog 84 (mapI (entI L L 0)) true (keyA L e) (.tup [.v (.int .i64 0), .v (.bool false)]) := by
 obtain ⟨kl, hk⟩ := qql (L := L) hT hn hl
 exact qeg1 (qjk L e) hk (qoo hg hT ha he)
theorem qjv1 {cols : List Int} {L : List Ex} (hg : qfw cols L) (hl : L.length <= 1000000) {e : Ex} (hT : TypE cols e) (hn : n64 e) (ha : ∀ x ∈ e.args, x ∈ L) (he : e ∉ L) :
  IsMap (mapI (entI L L 0)) /\ UpdOk Tryz.prog 84 (mapI (entI L L 0)) (keyA L e) (.v (.int .i64 L.length)) (mapI (entI (L ++ [e]) (L ++ [e]) 0)) := by
 obtain ⟨kl, hk⟩ := qql (L := L) hT hn hl
 rw [(qyp hg.cl (qig hg.di he) ha).2]
 exact qnn1 (qjk L e) hk (qoo hg hT ha he) (by rw [qcv1]; unfold maxLen; omega) (by unfold I64; omega)
theorem qax1 {cols : List Int} {e : Ex} {L : List Ex} (hg : qfw cols L) (hT : TypE cols e) (hn : n64 e) : qfw cols (qbf e L) /\ e ∈ qbf e L /\ ∃ r, qbf e L = L ++ r := by
 obtain ⟨h1, h2⟩ := qtr (P := fun e => TypE cols e /\ n64 e) (fun e h x hx => ⟨h.1.arg x hx, by obtain ⟨o, n, s, l⟩ := e; exact (qdc.1 h.2).2 x hx⟩) e L hg.cl hg.di hg.all ⟨hT, hn⟩
 exact ⟨⟨h1.cl, h1.di, h1.all⟩, h2, h1.pre⟩
theorem qdq {cols : List Int} : ∀ {l : List Ex} {L : List Ex}, qfw cols L -> (∀ x ∈ l, TypE cols x /\ n64 x) -> qfw cols (qo l L) /\ (∀ x ∈ l, x ∈ qo l L) /\ ∃ r, qo l L = L ++ r
 | [], L, hg, _ => by rw [qo]; exact ⟨hg, by simp, [], by simp⟩
 | e :: l, L, hg, h => by
  obtain ⟨g1, g2, r1, e1⟩ := qax1 hg (h e (by simp)).1 (h e (by simp)).2
  obtain ⟨g3, g4, r2, e2⟩ := qdq (l := l) g1 fun x hx => h x (by simp [hx])
  rw [qo]
  refine ⟨g3, fun x hx => ?_, r1 ++ r2, by rw [e2, e1, List.append_assoc]⟩
  rcases List.mem_cons.1 hx with rfl | hx
  .rw [e2]; exact List.mem_append_left _ g2
  .exact g4 x hx
theorem qkf : ∀ (l : List Ex) (e : Ex) (L : List Ex), qo (l ++ [e]) L = qbf e (qo l L)
 | [], e, L => by rw [List.nil_append, qo, qo, qo]
 | x :: l, e, L => by rw [List.cons_append, qo, qkf l e, qo]
theorem qmi : ∀ (l l' : List Ex) (L : List Ex), qo (l ++ l') L = qo l' (qo l L)
 | [], l', L => by rw [List.nil_append, qo]
 | x :: l, l', L => by rw [List.cons_append, qo, qmi l l', qo]
theorem qfm : ∀ (l : List Ex) (L : List Ex), (qo l L).length <= L.length + qm l
 | [], L => by rw [qo, qm]; omega
 | e :: l, L => by
  have h1 := qfm l (qbf e L)
  have h2 := qop e L
  rw [qo, qm]; omega
theorem qra1 (L : List Int) (p : Int -> Bool) (q : Nat) (hq : enters Tryz.prog q = true) (b : Nat) (σ : Nat -> AB) {cs : List AV} {t : TypeId} (hb : σ b = .cells cs t) (h : ∀ x ∈ L, qbc Tryz.prog q [.int x, .ptr b 0] σ (.bool (p x))) (hL : L.length <= 1000000) :
  qbc Tryz.prog 144 [.sl (L.map AV.int), .fn q [.ptr b 0]] σ (.int (idxP p L)) := by
 refine qn Tryz.func144 Tryz.ntmps144 rfl rfl (by decide) rfl (by intro n; simp) fun n0 hfin hcl hft => ?_
 have hrn := qcu hfin hb (by simp)
 rw [<- qef1 hfin] at h
 repeat' (first | (refine Stp.m ?_ <;> try simp (disch := first | omega | simp) [qc, -qe, -qi]) | refine qb fun K hK => ?_ | refine qa ?_ | refine qd ?_ | (refine hK _ ?_; clear hK K))
 refine qk hcl (fun k : Nat => [(0, .sl (L.map AV.int)), (1, .fn q [.ptr b 0]), (7, .int L.length), (8, .int k)]) (fun _ => [])
  (fun k => k <= L.length /\ ∀ j (h : j < L.length), j < k -> p L[j] = false) (fun k => L.length - k) 0 (by simp) (by simp [hrn]) fun k ⟨hk, he⟩ => ?_
 by_cases hlt : k < L.length
 .have c1 := h L[k] (List.getElem_mem _)
  cases hp : p L[k]
  .rw [hp] at c1
   repeat' (first | ((first | refine Stp.m ?_ | refine qbk (c1) ?_) <;> (try simp (disch := first | omega | simp) [qc, -qe, -qi, hlt, hrn, hq])) | refine qb fun K hK => ?_ | refine qa ?_ | refine qd ?_ | (refine hK _ ?_; clear hK K) | clear hK K)
   exact ⟨k + 1, ⟨by omega, qdr (C := fun x : Int => p x = false) he fun _ => hp⟩, by omega, by simp [hrn]⟩
  .rw [hp] at c1
   repeat' (first | ((first | refine Stp.m ?_ | refine qbk (c1) ?_) <;> (try simp (disch := first | omega | simp) [qc, -qe, -qi, hlt, hrn, hq])) | refine qb fun K hK => ?_ | refine qa ?_ | refine qd ?_ | (refine hK _ ?_; clear hK K) | clear hK K)
   exact (qil hlt hp he).symm
 .repeat' (first | (refine Stp.m ?_ <;> try simp (disch := first | omega | simp) [qc, -qe, -qi, hlt]) | refine qb fun K hK => ?_ | refine qa ?_ | (refine hK _ ?_; clear hK K) | clear hK K)
  exact (qge (qfq (C := fun x : Int => p x = false) he hlt)).symm
theorem qqz1 (L : List Int) (p : Int -> Bool) (q : Nat) (hq : enters Tryz.prog q = true) (h : ∀ x ∈ L, Gives Tryz.prog q [.int x] (.bool (p x))) (hL : L.length <= 1000000) :
  Gives Tryz.prog 144 [.sl (L.map AV.int), .fn q []] (.int (idxP p L)) := by
 refine qg Tryz.func144 Tryz.ntmps144 fun σ n0 hcl hft => ?_
 repeat' (first | (refine Stp.m ?_ <;> try simp (disch := first | omega | simp) [qc, -qe, -qi]) | refine qb fun K hK => ?_ | refine qa ?_ | refine qd ?_ | (refine hK _ ?_; clear hK K))
 refine qk hcl (fun k : Nat => [(0, .sl (L.map AV.int)), (1, .fn q []), (7, .int L.length), (8, .int k)]) (fun _ => [])
  (fun k => k <= L.length /\ ∀ j (h : j < L.length), j < k -> p L[j] = false) (fun k => L.length - k) 0 (by simp) (by simp) fun k ⟨hk, he⟩ => ?_
 by_cases hlt : k < L.length
 .have c1 := h L[k] (List.getElem_mem _)
  cases hp : p L[k]
  .rw [hp] at c1
   repeat' (first | ((first | refine Stp.m ?_ | refine qh ?_) <;> (try simp (disch := first | omega | simp) [qc, -qe, -qi, hlt, hq])) | refine qb fun K hK => ?_ | refine qa ?_ | refine qd ?_ | (refine hK _ ?_; clear hK K) | clear hK K)
   exact ⟨k + 1, ⟨by omega, qdr (C := fun x : Int => p x = false) he fun _ => hp⟩, by omega, by simp⟩
  .rw [hp] at c1
   repeat' (first | ((first | refine Stp.m ?_ | refine qh ?_) <;> (try simp (disch := first | omega | simp) [qc, -qe, -qi, hlt, hq])) | refine qb fun K hK => ?_ | refine qa ?_ | refine qd ?_ | (refine hK _ ?_; clear hK K) | clear hK K)
   exact (qil hlt hp he).symm
 .repeat' (first | (refine Stp.m ?_ <;> try simp (disch := first | omega | simp) [qc, -qe, -qi, hlt]) | refine qb fun K hK => ?_ | refine qa ?_ | (refine hK _ ?_; clear hK K) | clear hK K)
  exact (qge (qfq (C := fun x : Int => p x = false) he hlt)).symm
theorem qcq1 (L : List Int) (p : Int -> Bool) (q : Nat) (hq : enters Tryz.prog q = true) (b : Nat) (σ : Nat -> AB) {cs : List AV} {t : TypeId} (hb : σ b = .cells cs t) (h : ∀ x ∈ L, qbc Tryz.prog q [.int x, .ptr b 0] σ (.bool (p x))) (hL : L.length <= 1000000) :
  qbc Tryz.prog 91 [.sl (L.map AV.int), .fn q [.ptr b 0]] σ (.bool (L.any p)) := by
 rw [<- qik]
 refine qn Tryz.func91 Tryz.ntmps91 rfl rfl (by decide) rfl (by intro n; simp) fun n0 hfin hcl hft => ?_
 have hrn := qcu hfin hb (by simp)
 have c1 := qra1 L p q hq b σ hb h hL
 rw [<- qef1 hfin] at c1
 repeat' (first | ((first | refine Stp.m ?_ | refine qbk (c1) ?_) <;> (try simp (disch := first | omega | simp) [qc, -qe, -qi])) | refine qb fun K hK => ?_ | refine qa ?_ | (refine hK _ ?_; clear hK K))
theorem qcp1 (L : List Int) (p : Int -> Bool) (q : Nat) (hq : enters Tryz.prog q = true) (h : ∀ x ∈ L, Gives Tryz.prog q [.int x] (.bool (p x))) (hL : L.length <= 1000000) :
  Gives Tryz.prog 91 [.sl (L.map AV.int), .fn q []] (.bool (L.any p)) := by
 rw [<- qik]
 refine qg Tryz.func91 Tryz.ntmps91 fun σ n0 hcl hft => ?_
 repeat' (first | ((first | refine Stp.m ?_ | refine acall (qqz1 L p q hq h hL) ?_) <;> (try simp (disch := first | omega | simp) [qc, -qe, -qi])) | refine qb fun K hK => ?_ | refine qa ?_ | (refine hK _ ?_; clear hK K))
end Go.Proofs.YtkedbjjfmejbhaaGreatDoor
