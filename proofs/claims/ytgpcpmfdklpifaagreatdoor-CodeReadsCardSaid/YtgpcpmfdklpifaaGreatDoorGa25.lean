/- Decimals, on plain data: what is written is read. -/
import Derived.Lib.ParseIntB
import Derived.Lib.ItoaLen
import Derived.Lib.FieldsP
import Derived.Test.YtgpcpmfdklpifaaGreatDoorGa11
import Derived.Test.YtgpcpmfdklpifaaGreatDoorGa13
import Derived.Test.YtgpcpmfdklpifaaGreatDoorGa24
set_option linter.unusedSimpArgs false
set_option linter.unusedVariables false
namespace Go.Proofs.YtgpcpmfdklpifaaGreatDoor
open Go.Lib
def i64 (v : Int) : Prop := -9223372036854775808 ≤ v ∧ v ≤ 9223372036854775807
theorem parse_i64 {l : List UInt8} {v : Int} (h : parseIntB 64 l = .ok v) : i64 v := by
  unfold parseIntB at h
  split at h
  · cases h
  · dsimp only at h
    split at h
    · cases h
    · cases h
    · split at h
      · cases h
      · split at h
        · cases h
        · cases h
          unfold i64
          rename_i u _ h3 h4
          simp only [Nat.reduceSub, Nat.reducePow] at h3 h4
          split <;> omega
def intP (l : List UInt8) : Option Int := match parseIntB 64 l with
  | .ok v => if itoa v = l then some v else none
  | _ => none
end Go.Proofs.YtgpcpmfdklpifaaGreatDoor

/- Decimals, on plain data: the reference's reader. -/
namespace Go.Proofs.YtgpcpmfdklpifaaGreatDoor
open Go.Lib
end Go.Proofs.YtgpcpmfdklpifaaGreatDoor

/- Patterns, on plain data: parts, what they match. -/
namespace Go.Proofs.YtgpcpmfdklpifaaGreatDoor
inductive Pt where
  | byte (b : UInt8)
  | star
  | any
  | cls (set : List UInt8) (neg : Bool)
  deriving DecidableEq, Inhabited
def closeI : List UInt8 → Option Nat
  | [] => none
  | _ :: r => (r.findIdx? (· == 93)).map (· + 1)
def head : List UInt8 → Pt × Nat
  | [] => (.byte 0, 0)
  | 92 :: b :: _ => (.byte b, 2)
  | 42 :: _ => (.star, 1)
  | 63 :: _ => (.any, 1)
  | 91 :: 33 :: r => match closeI r with
    | some n => (.cls (r.take n) true, n + 3)
    | none => match closeI (33 :: r) with
      | some n => (.cls ((33 :: r).take n) false, n + 2)
      | none => (.byte 91, 1)
  | 91 :: r => match closeI r with
    | some n => (.cls (r.take n) false, n + 2)
    | none => (.byte 91, 1)
  | c :: _ => (.byte c, 1)
theorem findIdx_lt {r : List UInt8} {n : Nat} (h : r.findIdx? (· == 93) = some n) : n < r.length ∧ r[n]? = some 93 := by
  rw [List.findIdx?_eq_some_iff_getElem] at h
  obtain ⟨h1, h2, -⟩ := h
  refine ⟨h1, ?_⟩
  rw [List.getElem?_eq_getElem h1]
  simpa using h2
theorem closeI_lt {r : List UInt8} {n : Nat} (h : closeI r = some n) : 1 ≤ n ∧ n < r.length ∧ r[n]? = some 93 := by
  cases r with
  | nil => simp [closeI] at h
  | cons c r =>
    simp only [closeI, Option.map_eq_some_iff] at h
    obtain ⟨m, h1, rfl⟩ := h
    obtain ⟨h2, h3⟩ := findIdx_lt h1
    exact ⟨by omega, by simp; omega, by simpa using h3⟩
theorem head_len {p : List UInt8} (h : p ≠ []) : 1 ≤ (head p).2 ∧ (head p).2 ≤ p.length := by
  unfold head
  split
  · exact absurd rfl h
  · simp
  · simp
  · simp
  · rename_i r
    split
    · rename_i n hn
      have := closeI_lt hn
      simp; omega
    · split
      · rename_i n hn
        have := closeI_lt hn
        simp at this ⊢; omega
      · simp
  · split
    · rename_i n hn
      have := closeI_lt hn
      simp; omega
    · simp
  · simp
def partsF : Nat → List UInt8 → List Pt
  | 0, _ => []
  | _ + 1, [] => []
  | n + 1, c :: p => (head (c :: p)).1 :: partsF n ((c :: p).drop (head (c :: p)).2)
def qdq (p : List UInt8) : List Pt := partsF p.length p
theorem partsF_any : ∀ {n m : Nat} {p : List UInt8}, p.length ≤ n → p.length ≤ m → partsF n p = partsF m p
  | 0, 0, _, _, _ => rfl
  | 0, m + 1, [], _, _ => rfl
  | n + 1, 0, [], _, _ => rfl
  | n + 1, m + 1, [], _, _ => rfl
  | 0, _, c :: p, h, _ => by simp at h
  | n + 1, 0, c :: p, _, h => by simp at h
  | n + 1, m + 1, c :: p, h, k => by
    have := head_len (p := c :: p) (by simp)
    rw [partsF, partsF, partsF_any (m := m)]
    · rw [List.length_drop]; omega
    · rw [List.length_drop]; omega
theorem partsP_cons {p : List UInt8} (h : p ≠ []) : qdq p = (head p).1 :: qdq (p.drop (head p).2) := by
  have hl := head_len h
  obtain ⟨c, q, rfl⟩ := List.exists_cons_of_ne_nil h
  unfold qdq
  rw [List.length_cons, partsF]
  congr 1
  refine partsF_any ?_ (Nat.le_refl _)
  rw [List.length_drop, List.length_cons]; omega
def inSet : List UInt8 → UInt8 → Bool
  | [], _ => false
  | a :: 45 :: b :: r, c => if a ≤ c ∧ c ≤ b then true else inSet r c
  | a :: r, c => if a = c then true else inSet r c
def fitsP : Pt → UInt8 → Bool
  | .byte b, c => b == c
  | .star, _ => false
  | .any, _ => true
  | .cls set neg, c => inSet set c != neg
def anySuf (f : List UInt8 → Bool) : List UInt8 → Bool
  | [] => f []
  | c :: s => f (c :: s) || anySuf f s
def mat : List Pt → List UInt8 → Bool
  | [] => fun s => s.isEmpty
  | .star :: l => anySuf (mat l)
  | x :: l => fun s => match s with
    | [] => false
    | c :: s => fitsP x c && mat l s
def patP (p s : List UInt8) : Bool := mat (qdq p) s
theorem mat_cons {x : Pt} {l : List Pt} (h : x ≠ .star) (s : List UInt8) : mat (x :: l) s = match s with | [] => false | c :: s => fitsP x c && mat l s := by
  cases x <;> first | exact absurd rfl h | rfl
theorem mat_consS {x : Pt} {l : List Pt} (h : x ≠ .star) (c : UInt8) (s : List UInt8) : mat (x :: l) (c :: s) = (fitsP x c && mat l s) := by rw [mat_cons h]
structure PInv (p s : List UInt8) (i at_ : Nat) (star : Option Nat) (again : Nat) : Prop where
  hi : i ≤ p.length
  ha : at_ ≤ s.length
  fr : star = none → patP p s = mat (qdq (p.drop i)) (s.drop at_)
  bk : ∀ st, star = some st → st < i ∧ again ≤ at_ ∧ ∃ pre, qdq (p.drop (st + 1)) = pre ++ qdq (p.drop i) ∧ (∀ x ∈ pre, x ≠ .star) ∧ pre.length = at_ - again ∧
    (patP p s = true ↔ mat (qdq (p.drop i)) (s.drop at_) = true ∨ ∃ k, again < k ∧ k ≤ s.length ∧ mat (qdq (p.drop (st + 1))) (s.drop k) = true)
section
variable {p s : List UInt8} {i at_ again : Nat} {star : Option Nat}
theorem drop_ne (hi : i < p.length) : p.drop i ≠ [] := fun h => by
  have := congrArg List.length h
  rw [List.length_drop] at this; simp at this; omega
theorem parts_at (hi : i < p.length) : qdq (p.drop i) = (head (p.drop i)).1 :: qdq (p.drop (i + (head (p.drop i)).2)) := by
  rw [partsP_cons (drop_ne hi), List.drop_drop]
theorem PInv.one (h : PInv p s i at_ star again) (hi : i < p.length) (ha : at_ < s.length) (hs : p[i] ≠ 42) (hst : (head (p.drop i)).1 ≠ .star) (hf : fitsP (head (p.drop i)).1 s[at_] = true) : PInv p s (i + (head (p.drop i)).2) (at_ + 1) star again := by
  have hR := parts_at hi
  have hl := head_len (drop_ne hi)
  rw [List.length_drop] at hl
  have key : mat (qdq (p.drop i)) (s.drop at_) = mat (qdq (p.drop (i + (head (p.drop i)).2))) (s.drop (at_ + 1)) := by
    rw [hR, List.drop_eq_getElem_cons ha, mat_consS hst, hf, Bool.true_and]
  refine ⟨by omega, ha, fun e => (h.fr e).trans key, fun st e => ?_⟩
  obtain ⟨h1, h2, pre, h3, h4, h5, h6⟩ := h.bk st e
  refine ⟨by omega, by omega, pre ++ [(head (p.drop i)).1], by rw [h3, hR]; simp, fun x hx => ?_, by simp; omega, by rw [h6, key]⟩
  rcases List.mem_append.1 hx with hx | hx
  · exact h4 x hx
  · rw [List.mem_singleton.1 hx]; exact hst
def Miss (p s : List UInt8) (i at_ : Nat) : Prop := mat (qdq (p.drop i)) (s.drop at_) = false
theorem PInv.back {st : Nat} (h : PInv p s i at_ (some st) again) (hm : Miss p s i at_) (hag : again < s.length) : PInv p s (st + 1) (again + 1) (some st) (again + 1) := by
  obtain ⟨h1, h2, pre, h3, h4, h5, h6⟩ := h.bk st rfl
  have := h.hi
  refine ⟨by omega, hag, (fun e => by cases e), fun st' e => ?_⟩
  cases e
  refine ⟨by omega, Nat.le_refl _, [], rfl, fun x hx => by simp at hx, by simp, ?_⟩
  rw [h6]
  unfold Miss at hm
  rw [hm]
  constructor
  · rintro (h7 | ⟨k, h7, h8, h9⟩)
    · cases h7
    · by_cases hk : k = again + 1
      · subst hk; exact .inl h9
      · exact .inr ⟨k, by omega, h8, h9⟩
  · rintro (h7 | ⟨k, h7, h8, h9⟩)
    · exact .inr ⟨again + 1, by omega, hag, h7⟩
    · exact .inr ⟨k, by omega, h8, h9⟩
theorem PInv.no (h : PInv p s i at_ star again) (hm : Miss p s i at_) (hag : star = none ∨ again = s.length) : patP p s = false := by
  unfold Miss at hm
  cases hst : star with
  | none => rw [h.fr hst, hm]
  | some st =>
    obtain ⟨-, -, pre, -, -, -, h6⟩ := h.bk st hst
    rw [Bool.eq_false_iff]
    intro h7
    rcases h6.1 h7 with h8 | ⟨k, h8, h9, -⟩
    · rw [hm] at h8; cases h8
    · rcases hag with hag | hag
      · rw [hst] at hag; cases hag
      · omega
end
end Go.Proofs.YtgpcpmfdklpifaaGreatDoor

/- Patterns, on plain data: rows of the reference, patterns put together, plain patterns. -/
namespace Go.Proofs.YtgpcpmfdklpifaaGreatDoor
end Go.Proofs.YtgpcpmfdklpifaaGreatDoor

/- Lines and fields, on plain data. -/
namespace Go.Proofs.YtgpcpmfdklpifaaGreatDoor
open Go.Lib
def brk (b : UInt8) : List UInt8 → List (List UInt8)
  | [] => [[]]
  | c :: r => if c = b then [] :: brk b r else match brk b r with
    | h :: t => (c :: h) :: t
    | [] => [[c]]
theorem brk_none {b : UInt8} : ∀ {l : List UInt8}, b ∉ l → brk b l = [l]
  | [], _ => rfl
  | c :: r, h => by
    rw [brk, if_neg (fun e => h (by simp [e])), brk_none (fun e => h (by simp [e]))]
theorem brk_app {b : UInt8} : ∀ {x r : List UInt8}, b ∉ x → brk b (x ++ b :: r) = x :: brk b r
  | [], r, _ => by rw [List.nil_append, brk, if_pos rfl]
  | c :: x, r, h => by
    rw [List.cons_append, brk, if_neg (fun e => h (by simp [e])), brk_app (fun e => h (by simp [e]))]
def linesP (l : List UInt8) : List (List UInt8) := if l = [] then [] else brk 10 (if l.getLast? = some 10 then l.dropLast else l)
end Go.Proofs.YtgpcpmfdklpifaaGreatDoor

/- Fields by runes are fields by bytes, if only bytes below 128 part them. -/
namespace Go.Proofs.YtgpcpmfdklpifaaGreatDoor
open Go.Lib
end Go.Proofs.YtgpcpmfdklpifaaGreatDoor

/- Contracts of the library: strconv, strings. -/
namespace Go.Proofs.YtgpcpmfdklpifaaGreatDoor
open Go.RowKit Go.Lib
theorem ba_eq {s : ByteArray} {l : List UInt8} (h : s.data.toList = l) : s = qbc l := by rw [← h, qdf]
theorem qdh {P : Program} {f : FuncId} {args : List AV} {x : AV} (h : ∀ X vals, SR X → RRl X args vals → Calls P f vals.toArray X.w fun r w' => Ext X.w w' ∧ ∃ v, r = .returned v ∧ RR (X.later w') x v) : Gives P f args x := by
  intro σ X vals nx hS hσ hfin ha
  refine (h X vals hS ha).mono ?_
  rintro r w' ⟨hE, v, rfl, hR⟩
  exact ⟨X.later w', v, x, rfl, rfl, ⟨rfl, hσ⟩, later_sr hS hE, qdo hS hE, hR⟩
theorem qdm {X : St} {x v : Value} (h : RR1 X (.v x) v) : v = x := by
  change RC X (.v x) [v] at h
  rw [RC] at h
  simpa using h
theorem tab10 {X : St} (hS : SR X) : Lib.TabIs Tryz.prog X.w "internal/strconv.uint64pow10" .u64 Lib.pow10Tab := by
  obtain ⟨-, ⟨-, -, ⟨t, fz, h⟩, -⟩, -⟩ := hS.glob
  unfold Lib.TabIs World.var?
  rw [show Tryz.prog.globalNamed "internal/strconv.uint64pow10" = some 6 by kernel_rfl]
  show (match X.w.heap[6]? with | some (.cells cs _ _) => some cs | _ => none) = _
  rw [h]
theorem tab10E {X : St} (hS : SR X) {w' : World} (hE : Ext X.w w') : Lib.TabIs Tryz.prog w' "internal/strconv.uint64pow10" .u64 Lib.pow10Tab := by
  obtain ⟨-, ⟨-, -, ⟨t, fz, h⟩, -⟩, -⟩ := hS.glob
  unfold Lib.TabIs World.var?
  rw [show Tryz.prog.globalNamed "internal/strconv.uint64pow10" = some 6 by kernel_rfl]
  show (match w'.heap[6]? with | some (.cells cs _ _) => some cs | _ => none) = _
  rw [hE.block 6 (Array.getElem?_eq_some_iff.1 h).1, h]
theorem itoa_g (n : Int) (h : i64 n) : Gives Tryz.prog 132 [.int n] (.str (qbc (itoa n))) :=
  qdh fun X vals hS ha => by
    obtain ⟨v0, _, rfl, h2, h4⟩ := ha
    cases h4
    cases qdm h2
    refine (Tryz.strconv_Itoa n h.1 h.2 X.w (tab10 hS)).mono ?_
    rintro e w' ⟨rfl, k, os, rfl⟩
    refine ⟨?_, _, rfl, RR.v.2 rfl⟩
    exact ⟨rfl, rfl, rfl, by show X.w.heap.size ≤ (X.w.heap ++ os).size; simp, fun b hb => by
      show (X.w.heap ++ os)[b]? = _
      rw [Array.getElem?_append_left hb]⟩
theorem grow_ext {w : World} (k : Nat) (os : Array Obj) : Ext w (Go.Sort.grow (w.drewN k) os) := ⟨rfl, rfl, rfl, by show w.heap.size ≤ (w.heap ++ os).size; simp, fun b hb => by
  show (w.heap ++ os)[b]? = _
  rw [Array.getElem?_append_left hb]⟩
theorem trimSuffix_g (s p : ByteArray) (hs : s.size ≤ 9223372036854775807) : Gives Tryz.prog 92 [.str s, .str p] (.str (qbc (Lib.trimSuffix s.data.toList p.data.toList))) :=
  qdh fun X vals hS ha => by
    obtain ⟨v0, _, rfl, h2, v1, _, rfl, h3, h4⟩ := ha
    cases h4
    cases qdm h2; cases qdm h3
    refine (Tryz.strings_TrimSuffix s p X.w hs).mono ?_
    rintro e w' ⟨rfl, rfl⟩
    exact ⟨Ext.refl _, _, rfl, RR.v.2 rfl⟩
theorem decimal_g (n : Int) (h : i64 n) : Gives Tryz.prog 105 [.int n] (.str (qbc (itoa n))) := by
  refine qn Tryz.func105 Tryz.ntmps105 rfl rfl (by decide) rfl (by intro n; simp) fun σ n0 hcl hft => ?_
  repeat' (first | ((first | ((with_reducible refine qo (fun hg => ?_) (fun hg => ?_)) <;> (try simp only [hg]) <;> (try simp only [gS] at hg) <;> (try (first | simp only [eq_false hg, gI] | simp only [eq_true hg, gI]))) | (with_reducible first | refine qc ?_ | refine qb ?_ | refine qi ?_ | refine qh ?_) | refine acall (itoa_g n h) ?_ | refine qp (itoa_g n h) ?_ | refine qe ?_ | refine qj ?_ | refine qk ?_ | refine qm ?_) <;> (try simp (disch := first | omega | simp) [qg, -qq, -qs])) | ((with_reducible refine sideT ?_ ?_); first | omega | assumption | (simp; done)) | (refine qf fun K hK => ?_) | (refine qa ?_) | refine ql ?_ | ((first | refine hK _ ?_ | (clear hK K; refine hK _ ?_) | (clear hK K; clear hK K; refine hK _ ?_)); clear hK K) | refine qd ?_)
theorem err_cell {X : St} (hS : SR X) : (∃ ev, X.w.cell? ⟨4, 0, none⟩ = some ev ∧ (ev = .nilIface ∨ ∃ te pe, ev = .iface te pe)) ∧ ∃ ev, X.w.cell? ⟨5, 0, none⟩ = some ev ∧ (ev = .nilIface ∨ ∃ te pe, ev = .iface te pe) := by
  obtain ⟨-, -, ⟨m1, h1, -⟩, ⟨m2, h2, -⟩, -⟩ := hS.glob
  exact ⟨⟨m1.1, h1.1, m1.2⟩, ⟨m2.1, h2.1, m2.2⟩⟩
theorem bytesWorld_ext (w : World) (e : TypeId) (t : ByteArray) : Ext w (Lib.bytesWorld w e t) := by
  unfold Lib.bytesWorld
  exact Lib.below_freeze ((Ext.refl w).drew.alloc _) (p := ⟨w.heap.size, _, none⟩) (Nat.le_refl _) _
set_option maxHeartbeats 1000000 in
theorem int_g (s : ByteArray) (hs : s.size ≤ 1000000) : Gives Tryz.prog 97 [.str s] (.tup [.int ((intP s.data.toList).getD 0), .bool (intP s.data.toList).isSome]) :=
  qdh fun X vals hS ha => by
    obtain ⟨v0, _, rfl, h2, h4⟩ := ha
    cases h4
    cases qdm h2
    obtain ⟨⟨e1, hc1, he1⟩, e2, hc2, he2⟩ := err_cell hS
    have ht := tab10 hS
    have fin : ∀ (r : Option Int) (w' : World), Ext X.w w' → Ext X.w w' ∧ ∃ v, Ending.returned (.tuple #[.int .i64 (r.getD 0), .bool r.isSome]) = .returned v ∧ RR (X.later w') (.tup [.int (r.getD 0), .bool r.isSome]) v := fun r w' hE =>
      ⟨hE, _, rfl, [_, _], rfl, _, _, rfl, RR1.of_one rfl (by rw [RC]), _, _, rfl, RR1.of_one rfl (by rw [RC]), rfl⟩
    have hE0 := Ext.refl X.w
    cases hp : Lib.parseIntB 64 s.data.toList
    · rename_i v
      have hv := parse_i64 hp
      have hr : intP s.data.toList = if itoa v = s.data.toList then some v else none := by unfold intP; rw [hp]
      by_cases hi : itoa v = s.data.toList
      · rw [if_pos hi] at hr
        rw [hr]
        have hi2 : (⟨(itoa v).toArray⟩ : ByteArray).toList = s.toList := by rw [ByteArray.toList_eq, ByteArray.toList_eq]; exact hi
        go_enter Tryz.func97, Tryz.ntmps97
        go_wp2_with (go_at_call 125; refine (Tryz.strconv_ParseInt_10_at64_ok s (by omega) v hp _).mono ?_)
        rintro e w1 ⟨rfl, hw1⟩
        have hE1 : Ext X.w w1 := by
          rcases hw1 with rfl | ⟨t, rfl⟩
          · exact Ext.refl _
          · exact bytesWorld_ext _ _ _
        go_wp2_with (go_at_call 126; refine (Tryz.strconv_FormatInt_10 v hv.1 hv.2 _ (tab10E hS hE1)).mono ?_)
        rintro e w2 ⟨rfl, k, os, rfl⟩
        have hE2 : Ext X.w (Go.Sort.grow (w1.drewN k) os) := hE1.trans (grow_ext k os)
        go_wp2
        go_ret2
        exact fin (some v) _ hE2
      · rw [if_neg hi] at hr
        rw [hr]
        have hi2 : (itoa v == s.toList) = false := by rw [ByteArray.toList_eq, beq_eq_false_iff_ne]; exact hi
        have hi3 : ¬ itoa v = s.toList := by rw [ByteArray.toList_eq]; exact hi
        go_enter Tryz.func97, Tryz.ntmps97
        go_wp2_with (go_at_call 125; refine (Tryz.strconv_ParseInt_10_at64_ok s (by omega) v hp _).mono ?_)
        rintro e w1 ⟨rfl, hw1⟩
        have hE1 : Ext X.w w1 := by
          rcases hw1 with rfl | ⟨t, rfl⟩
          · exact Ext.refl _
          · exact bytesWorld_ext _ _ _
        go_wp2_with (go_at_call 126; refine (Tryz.strconv_FormatInt_10 v hv.1 hv.2 _ (tab10E hS hE1)).mono ?_)
        rintro e w2 ⟨rfl, k, os, rfl⟩
        have hE2 : Ext X.w (Go.Sort.grow (w1.drewN k) os) := hE1.trans (grow_ext k os)
        go_wp2
        go_ret2
        exact fin none _ hE2
    · have hr : intP s.data.toList = none := by unfold intP; rw [hp]
      rw [hr]
      go_enter Tryz.func97, Tryz.ntmps97
      go_wp2_with (go_at_call 125; refine (Tryz.strconv_ParseInt_10_at64_syntax s (by omega) hp e1 _ hc1 he1).mono ?_)
      rintro e w1 ⟨N, rfl, -, -, hE1⟩
      go_wp2
      go_ret2
      exact fin none _ hE1
    · have hr : intP s.data.toList = none := by unfold intP; rw [hp]
      rw [hr]
      go_enter Tryz.func97, Tryz.ntmps97
      go_wp2_with (go_at_call 125; refine (Tryz.strconv_ParseInt_10_at64_range s (by omega) hp e2 _ hc2 he2).mono ?_)
      rintro e w1 ⟨N, rfl, -, -, hE1⟩
      go_wp2
      go_ret2
      exact fin none _ hE1
end Go.Proofs.YtgpcpmfdklpifaaGreatDoor
