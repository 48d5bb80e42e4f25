/- Decimals, on plain data: what is written is read. -/
import Derived.Lib.ParseIntB
import Derived.Lib.ItoaLen
import Derived.Lib.FieldsP
import Derived.Test.YtbkkjlcclddpdaaGreatDoorGbShelf
import Derived.Test.YtbkkjlcclddpdaaGreatDoorGb1
import Derived.Test.YtbkkjlcclddpdaaGreatDoorGb8
import Derived.Test.YtbkkjlcclddpdaaGreatDoorGb10
import Derived.Test.YtbkkjlcclddpdaaGreatDoorGb11
import Derived.Test.YtbkkjlcclddpdaaGreatDoorGb14
import Derived.Test.YtbkkjlcclddpdaaGreatDoorGb17
set_option linter.unusedSimpArgs false
set_option linter.unusedVariables false
namespace Go.Proofs.YtbkkjlcclddpdaaGreatDoor
open Go.Lib
theorem qfb {u : Nat} (h : u < 10) : decDigits u = [UInt8.ofNat (48 + u)] := by rw [decDigits, dif_pos h]
theorem qgd {u : Nat} (h : ¬ u < 10) : decDigits u = decDigits (u / 10) ++ [UInt8.ofNat (48 + u % 10)] := by rw [decDigits, dif_neg h]
theorem digit_nat {d : Nat} (h : d < 10) : (UInt8.ofNat (48 + d)).toNat = 48 + d := by
  rw [UInt8.toNat_ofNat']; omega
theorem decDigits_mem : ∀ (u : Nat), ∀ c ∈ decDigits u, 48 ≤ c.toNat ∧ c.toNat ≤ 57 := fun u => by
  induction u using Nat.strongRecOn with
  | _ u ih =>
    intro c hc
    by_cases h : u < 10
    · rw [qfb h] at hc
      rw [List.mem_singleton.1 hc, digit_nat h]; omega
    · rw [qgd h] at hc
      rcases List.mem_append.1 hc with hc | hc
      · exact ih (u / 10) (by omega) c hc
      · rw [List.mem_singleton.1 hc, digit_nat (by omega)]; omega
theorem decDigits_ne (u : Nat) : decDigits u ≠ [] := by
  by_cases h : u < 10
  · rw [qfb h]; simp
  · rw [qgd h]; simp
theorem qfu {M : Nat} : ∀ {l r : List UInt8} {a b : Nat}, parseUintM M a l = .ok b → parseUintM M a (l ++ r) = parseUintM M b r
  | [], r, a, b, h => by rw [parseUintM] at h; cases h; rfl
  | c :: l, r, a, b, h => by
    rw [parseUintM] at h
    rw [List.cons_append, parseUintM]
    split at h
    · rw [if_pos ‹_›]
      split at h
      · cases h
      · rw [if_neg ‹_›]
        split at h
        · cases h
        · rw [if_neg ‹_›]
          exact qfu h
    · cases h
theorem parse_digits {M : Nat} (hM : M ≤ 18446744073709551615) : ∀ (u : Nat), u ≤ M → parseUintM M 0 (decDigits u) = .ok u := fun u => by
  induction u using Nat.strongRecOn with
  | _ u ih =>
    intro hu
    by_cases h : u < 10
    · rw [qfb h, parseUintM, digit_nat h, if_pos (by omega), if_neg (by omega), if_neg (by omega), parseUintM]
      congr 1; omega
    · rw [qgd h, qfu (ih (u / 10) (by omega) (by omega)), parseUintM, digit_nat (by omega), if_pos (by omega), if_neg (by omega), if_neg (by omega), parseUintM]
      congr 1; omega
def i64 (v : Int) : Prop := -9223372036854775808 ≤ v ∧ v ≤ 9223372036854775807
theorem parse_itoa {v : Int} (h : i64 v) : parseIntB 64 (itoa v) = .ok v := by
  obtain ⟨h1, h2⟩ := h
  have hpu : ∀ u : Nat, u ≤ 18446744073709551615 → parseUintB 64 (decDigits u) = .ok u := fun u hu => by
    unfold parseUintB
    rw [if_neg (decDigits_ne u)]
    exact parse_digits (by decide) u (by simpa using hu)
  unfold itoa
  by_cases hn : v < 0
  · rw [if_pos hn]
    have e45 : (45 : UInt8).toNat = 45 := rfl
    unfold parseIntB
    dsimp only
    rw [if_pos (by rw [e45]; omega), hpu v.natAbs (by omega)]
    dsimp only
    rw [if_neg (by rw [e45]; omega), if_neg (by rw [e45]; simp; omega), if_pos e45]
    congr 1; omega
  · rw [if_neg hn]
    obtain ⟨c, r, hc⟩ := List.exists_cons_of_ne_nil (decDigits_ne v.toNat)
    have hcm := decDigits_mem v.toNat c (by rw [hc]; simp)
    have hp := hpu v.toNat (by omega)
    rw [hc] at hp ⊢
    unfold parseIntB
    dsimp only
    rw [if_neg (by omega), hp]
    dsimp only
    rw [if_neg (by simp; omega), if_neg (by omega), if_neg (by omega)]
    congr 1; omega
theorem parse_i64 {l : List UInt8} {v : Int} (h : parseIntB 64 l = .ok v) : i64 v := by
  unfold parseIntB at h
  split at h
  · cases h
  · dsimp only at h
    split at h
    · cases h
    · cases h
    · split at h
      · cases h
      · split at h
        · cases h
        · cases h
          unfold i64
          rename_i u _ h3 h4
          simp only [Nat.reduceSub, Nat.reducePow] at h3 h4
          split <;> omega
def intP (l : List UInt8) : Option Int := match parseIntB 64 l with
  | .ok v => if itoa v = l then some v else none
  | _ => none
theorem intP_iff {l : List UInt8} {v : Int} : intP l = some v ↔ i64 v ∧ itoa v = l := by
  unfold intP
  constructor
  · intro h
    split at h
    · rename_i u hu
      split at h
      · cases h
        exact ⟨parse_i64 hu, ‹_›⟩
      · cases h
    · cases h
  · rintro ⟨h1, rfl⟩
    rw [parse_itoa h1]
    dsimp only
    rw [if_pos rfl]
end Go.Proofs.YtbkkjlcclddpdaaGreatDoor

/- Decimals, on plain data: the reference's reader. -/
namespace Go.Proofs.YtbkkjlcclddpdaaGreatDoor
open Go.Lib
end Go.Proofs.YtbkkjlcclddpdaaGreatDoor

/- Patterns, on plain data: parts, what they match. -/
namespace Go.Proofs.YtbkkjlcclddpdaaGreatDoor
inductive Pt where
  | byte (b : UInt8)
  | star
  | any
  | cls (set : List UInt8) (neg : Bool)
  deriving DecidableEq, Inhabited
def closeI : List UInt8 → Option Nat
  | [] => none
  | _ :: r => (r.findIdx? (· == 93)).map (· + 1)
def head : List UInt8 → Pt × Nat
  | [] => (.byte 0, 0)
  | 92 :: b :: _ => (.byte b, 2)
  | 42 :: _ => (.star, 1)
  | 63 :: _ => (.any, 1)
  | 91 :: 33 :: r => match closeI r with
    | some n => (.cls (r.take n) true, n + 3)
    | none => match closeI (33 :: r) with
      | some n => (.cls ((33 :: r).take n) false, n + 2)
      | none => (.byte 91, 1)
  | 91 :: r => match closeI r with
    | some n => (.cls (r.take n) false, n + 2)
    | none => (.byte 91, 1)
  | c :: _ => (.byte c, 1)
theorem findIdx_lt {r : List UInt8} {n : Nat} (h : r.findIdx? (· == 93) = some n) : n < r.length ∧ r[n]? = some 93 := by
  rw [List.findIdx?_eq_some_iff_getElem] at h
  obtain ⟨h1, h2, -⟩ := h
  refine ⟨h1, ?_⟩
  rw [List.getElem?_eq_getElem h1]
  simpa using h2
theorem closeI_lt {r : List UInt8} {n : Nat} (h : closeI r = some n) : 1 ≤ n ∧ n < r.length ∧ r[n]? = some 93 := by
  cases r with
  | nil => simp [closeI] at h
  | cons c r =>
    simp only [closeI, Option.map_eq_some_iff] at h
    obtain ⟨m, h1, rfl⟩ := h
    obtain ⟨h2, h3⟩ := findIdx_lt h1
    exact ⟨by omega, by simp; omega, by simpa using h3⟩
theorem head_len {p : List UInt8} (h : p ≠ []) : 1 ≤ (head p).2 ∧ (head p).2 ≤ p.length := by
  unfold head
  split
  · exact absurd rfl h
  · simp
  · simp
  · simp
  · rename_i r
    split
    · rename_i n hn
      have := closeI_lt hn
      simp; omega
    · split
      · rename_i n hn
        have := closeI_lt hn
        simp at this ⊢; omega
      · simp
  · split
    · rename_i n hn
      have := closeI_lt hn
      simp; omega
    · simp
  · simp
def partsF : Nat → List UInt8 → List Pt
  | 0, _ => []
  | _ + 1, [] => []
  | n + 1, c :: p => (head (c :: p)).1 :: partsF n ((c :: p).drop (head (c :: p)).2)
def qfl (p : List UInt8) : List Pt := partsF p.length p
theorem partsF_any : ∀ {n m : Nat} {p : List UInt8}, p.length ≤ n → p.length ≤ m → partsF n p = partsF m p
  | 0, 0, _, _, _ => rfl
  | 0, m + 1, [], _, _ => rfl
  | n + 1, 0, [], _, _ => rfl
  | n + 1, m + 1, [], _, _ => rfl
  | 0, _, c :: p, h, _ => by simp at h
  | n + 1, 0, c :: p, _, h => by simp at h
  | n + 1, m + 1, c :: p, h, k => by
    have := head_len (p := c :: p) (by simp)
    rw [partsF, partsF, partsF_any (m := m)]
    · rw [List.length_drop]; omega
    · rw [List.length_drop]; omega
theorem partsP_cons {p : List UInt8} (h : p ≠ []) : qfl p = (head p).1 :: qfl (p.drop (head p).2) := by
  have hl := head_len h
  obtain ⟨c, q, rfl⟩ := List.exists_cons_of_ne_nil h
  unfold qfl
  rw [List.length_cons, partsF]
  congr 1
  refine partsF_any ?_ (Nat.le_refl _)
  rw [List.length_drop, List.length_cons]; omega
def inSet : List UInt8 → UInt8 → Bool
  | [], _ => false
  | a :: 45 :: b :: r, c => if a ≤ c ∧ c ≤ b then true else inSet r c
  | a :: r, c => if a = c then true else inSet r c
def fitsP : Pt → UInt8 → Bool
  | .byte b, c => b == c
  | .star, _ => false
  | .any, _ => true
  | .cls set neg, c => inSet set c != neg
def anySuf (f : List UInt8 → Bool) : List UInt8 → Bool
  | [] => f []
  | c :: s => f (c :: s) || anySuf f s
def mat : List Pt → List UInt8 → Bool
  | [] => fun s => s.isEmpty
  | .star :: l => anySuf (mat l)
  | x :: l => fun s => match s with
    | [] => false
    | c :: s => fitsP x c && mat l s
def patP (p s : List UInt8) : Bool := mat (qfl p) s
theorem mat_cons {x : Pt} {l : List Pt} (h : x ≠ .star) (s : List UInt8) : mat (x :: l) s = match s with | [] => false | c :: s => fitsP x c && mat l s := by
  cases x <;> first | exact absurd rfl h | rfl
theorem mat_consS {x : Pt} {l : List Pt} (h : x ≠ .star) (c : UInt8) (s : List UInt8) : mat (x :: l) (c :: s) = (fitsP x c && mat l s) := by rw [mat_cons h]
structure PInv (p s : List UInt8) (i at_ : Nat) (star : Option Nat) (again : Nat) : Prop where
  hi : i ≤ p.length
  ha : at_ ≤ s.length
  fr : star = none → patP p s = mat (qfl (p.drop i)) (s.drop at_)
  bk : ∀ st, star = some st → st < i ∧ again ≤ at_ ∧ ∃ pre, qfl (p.drop (st + 1)) = pre ++ qfl (p.drop i) ∧ (∀ x ∈ pre, x ≠ .star) ∧ pre.length = at_ - again ∧
    (patP p s = true ↔ mat (qfl (p.drop i)) (s.drop at_) = true ∨ ∃ k, again < k ∧ k ≤ s.length ∧ mat (qfl (p.drop (st + 1))) (s.drop k) = true)
section
variable {p s : List UInt8} {i at_ again : Nat} {star : Option Nat}
theorem drop_ne (hi : i < p.length) : p.drop i ≠ [] := fun h => by
  have := congrArg List.length h
  rw [List.length_drop] at this; simp at this; omega
theorem parts_at (hi : i < p.length) : qfl (p.drop i) = (head (p.drop i)).1 :: qfl (p.drop (i + (head (p.drop i)).2)) := by
  rw [partsP_cons (drop_ne hi), List.drop_drop]
theorem PInv.one (h : PInv p s i at_ star again) (hi : i < p.length) (ha : at_ < s.length) (hs : p[i] ≠ 42) (hst : (head (p.drop i)).1 ≠ .star) (hf : fitsP (head (p.drop i)).1 s[at_] = true) : PInv p s (i + (head (p.drop i)).2) (at_ + 1) star again := by
  have hR := parts_at hi
  have hl := head_len (drop_ne hi)
  rw [List.length_drop] at hl
  have key : mat (qfl (p.drop i)) (s.drop at_) = mat (qfl (p.drop (i + (head (p.drop i)).2))) (s.drop (at_ + 1)) := by
    rw [hR, List.drop_eq_getElem_cons ha, mat_consS hst, hf, Bool.true_and]
  refine ⟨by omega, ha, fun e => (h.fr e).trans key, fun st e => ?_⟩
  obtain ⟨h1, h2, pre, h3, h4, h5, h6⟩ := h.bk st e
  refine ⟨by omega, by omega, pre ++ [(head (p.drop i)).1], by rw [h3, hR]; simp, fun x hx => ?_, by simp; omega, by rw [h6, key]⟩
  rcases List.mem_append.1 hx with hx | hx
  · exact h4 x hx
  · rw [List.mem_singleton.1 hx]; exact hst
def Miss (p s : List UInt8) (i at_ : Nat) : Prop := mat (qfl (p.drop i)) (s.drop at_) = false
theorem PInv.back {st : Nat} (h : PInv p s i at_ (some st) again) (hm : Miss p s i at_) (hag : again < s.length) : PInv p s (st + 1) (again + 1) (some st) (again + 1) := by
  obtain ⟨h1, h2, pre, h3, h4, h5, h6⟩ := h.bk st rfl
  have := h.hi
  refine ⟨by omega, hag, (fun e => by cases e), fun st' e => ?_⟩
  cases e
  refine ⟨by omega, Nat.le_refl _, [], rfl, fun x hx => by simp at hx, by simp, ?_⟩
  rw [h6]
  unfold Miss at hm
  rw [hm]
  constructor
  · rintro (h7 | ⟨k, h7, h8, h9⟩)
    · cases h7
    · by_cases hk : k = again + 1
      · subst hk; exact .inl h9
      · exact .inr ⟨k, by omega, h8, h9⟩
  · rintro (h7 | ⟨k, h7, h8, h9⟩)
    · exact .inr ⟨again + 1, by omega, hag, h7⟩
    · exact .inr ⟨k, by omega, h8, h9⟩
theorem PInv.no (h : PInv p s i at_ star again) (hm : Miss p s i at_) (hag : star = none ∨ again = s.length) : patP p s = false := by
  unfold Miss at hm
  cases hst : star with
  | none => rw [h.fr hst, hm]
  | some st =>
    obtain ⟨-, -, pre, -, -, -, h6⟩ := h.bk st hst
    rw [Bool.eq_false_iff]
    intro h7
    rcases h6.1 h7 with h8 | ⟨k, h8, h9, -⟩
    · rw [hm] at h8; cases h8
    · rcases hag with hag | hag
      · rw [hst] at hag; cases hag
      · omega
end
end Go.Proofs.YtbkkjlcclddpdaaGreatDoor

/- Patterns, on plain data: rows of the reference, patterns put together, plain patterns. -/
namespace Go.Proofs.YtbkkjlcclddpdaaGreatDoor
end Go.Proofs.YtbkkjlcclddpdaaGreatDoor

/- Lines and fields, on plain data. -/
namespace Go.Proofs.YtbkkjlcclddpdaaGreatDoor
open Go.Lib
end Go.Proofs.YtbkkjlcclddpdaaGreatDoor

/- Fields by runes are fields by bytes, if only bytes below 128 part them. -/
namespace Go.Proofs.YtbkkjlcclddpdaaGreatDoor
open Go.Lib
end Go.Proofs.YtbkkjlcclddpdaaGreatDoor

/- Contracts of the library: strconv, strings. -/
namespace Go.Proofs.YtbkkjlcclddpdaaGreatDoor
open Go.RowKit Go.Lib
theorem qft {P : Program} {f : FuncId} {args : List AV} {x : AV} (h : ∀ X vals, SR X → RRl X args vals → Calls P f vals.toArray X.w fun r w' => Ext X.w w' ∧ ∃ v, r = .returned v ∧ RR (X.later w') x v) : Gives P f args x := by
  intro σ X vals nx hS hσ hfin ha
  refine (h X vals hS ha).mono ?_
  rintro r w' ⟨hE, v, rfl, hR⟩
  exact ⟨X.later w', v, x, rfl, rfl, ⟨rfl, hσ⟩, later_sr hS hE, qev hS hE, hR⟩
theorem arg_vv {X : St} {x v : Value} (h : RR1 X (.v x) v) : v = x := by
  change RC X (.v x) [v] at h
  rw [RC] at h
  simpa using h
theorem pow_row {X : St} (hS : SR X) : ∃ t fz, X.w.heap[3]? = some (.cells (Go.Lib.pow10Tab.map fun z => Value.int .u64 z).toArray t fz) := by
  first
    | (obtain ⟨⟨-, -, ⟨t, fz, h⟩, -⟩, -⟩ := hS.glob; exact ⟨t, fz, h⟩)
    | (obtain ⟨-, ⟨-, -, ⟨t, fz, h⟩, -⟩, -⟩ := hS.glob; exact ⟨t, fz, h⟩)
    | (obtain ⟨-, -, ⟨-, -, ⟨t, fz, h⟩, -⟩, -⟩ := hS.glob; exact ⟨t, fz, h⟩)
theorem tab10 {X : St} (hS : SR X) : Lib.TabIs Tryz.prog X.w "internal/strconv.uint64pow10" .u64 Lib.pow10Tab := by
  obtain ⟨t, fz, h⟩ := pow_row hS
  unfold Lib.TabIs World.var?
  rw [show Tryz.prog.globalNamed "internal/strconv.uint64pow10" = some 3 by kernel_rfl]
  show (match X.w.heap[3]? with | some (.cells cs _ _) => some cs | _ => none) = _
  rw [h]
theorem tab10E {X : St} (hS : SR X) {w' : World} (hE : Ext X.w w') : Lib.TabIs Tryz.prog w' "internal/strconv.uint64pow10" .u64 Lib.pow10Tab := by
  obtain ⟨t, fz, h⟩ := pow_row hS
  unfold Lib.TabIs World.var?
  rw [show Tryz.prog.globalNamed "internal/strconv.uint64pow10" = some 3 by kernel_rfl]
  show (match w'.heap[3]? with | some (.cells cs _ _) => some cs | _ => none) = _
  rw [hE.block 3 (Array.getElem?_eq_some_iff.1 h).1, h]
theorem itoa_g (n : Int) (h : i64 n) : Gives Tryz.prog 126 [.int n] (.str (qs (itoa n))) :=
  qft fun X vals hS ha => by
    obtain ⟨v0, _, rfl, h2, h4⟩ := ha
    cases h4
    cases arg_vv h2
    refine (Tryz.strconv_Itoa n h.1 h.2 X.w (tab10 hS)).mono ?_
    rintro e w' ⟨rfl, k, os, rfl⟩
    refine ⟨?_, _, rfl, RR.v.2 rfl⟩
    exact ⟨rfl, rfl, rfl, by show X.w.heap.size ≤ (X.w.heap ++ os).size; simp, fun b hb => by
      show (X.w.heap ++ os)[b]? = _
      rw [Array.getElem?_append_left hb]⟩
theorem grow_ext {w : World} (k : Nat) (os : Array Obj) : Ext w (Go.Sort.grow (w.drewN k) os) := ⟨rfl, rfl, rfl, by show w.heap.size ≤ (w.heap ++ os).size; simp, fun b hb => by
  show (w.heap ++ os)[b]? = _
  rw [Array.getElem?_append_left hb]⟩
theorem indexByte_g (s : ByteArray) (c : Int) : Gives Tryz.prog 77 [.str s, .v (.int .u8 c)] (.int (Lib.indexByte s.data.toList c.toNat.toUInt8)) :=
  qft fun X vals hS ha => by
    obtain ⟨v0, _, rfl, h2, v1, _, rfl, h3, h4⟩ := ha
    cases h4
    cases arg_vv h2; cases arg_vv h3
    refine (Tryz.strings_IndexByte s c X.w).mono ?_
    rintro e w' ⟨rfl, rfl⟩
    exact ⟨Ext.refl _, _, rfl, RR.v.2 rfl⟩
theorem trimSuffix_g (s p : ByteArray) (hs : s.size ≤ 9223372036854775807) : Gives Tryz.prog 41 [.str s, .str p] (.str (qs (Lib.trimSuffix s.data.toList p.data.toList))) :=
  qft fun X vals hS ha => by
    obtain ⟨v0, _, rfl, h2, v1, _, rfl, h3, h4⟩ := ha
    cases h4
    cases arg_vv h2; cases arg_vv h3
    refine (Tryz.strings_TrimSuffix s p X.w hs).mono ?_
    rintro e w' ⟨rfl, rfl⟩
    exact ⟨Ext.refl _, _, rfl, RR.v.2 rfl⟩
theorem decimal_g (n : Int) (h : i64 n) : Gives Tryz.prog 75 [.int n] (.str (qs (itoa n))) := by
  refine qm Tryz.func75 Tryz.ntmps75 rfl rfl (by decide) rfl (by intro n; simp) fun σ n0 hcl hft => ?_
  repeat' (first | ((first | ((with_reducible refine qp (fun hg => ?_) (fun hg => ?_)) <;> (try simp only [hg]) <;> (try simp only [gS] at hg) <;> (try (first | simp only [eq_false hg, gI] | simp only [eq_true hg, gI]))) | (with_reducible first | refine qc ?_ | refine qb ?_ | refine qj ?_ | refine qi ?_) | refine acall (itoa_g n h) ?_ | refine qn (itoa_g n h) ?_ | refine qe ?_ | refine qk ?_ | refine qh ?_ | refine qo ?_) <;> (try simp (disch := first | omega | simp) [qg, -qq, -qu])) | ((with_reducible refine sideT ?_ ?_); first | omega | assumption | (simp; done)) | (refine qf fun K hK => ?_) | (refine qa ?_) | refine ql ?_ | ((first | refine hK _ ?_ | (clear hK K; refine hK _ ?_) | (clear hK K; clear hK K; refine hK _ ?_)); clear hK K) | refine qd ?_)
theorem err_cell {X : St} (hS : SR X) : (∃ ev, X.w.cell? ⟨1, 0, none⟩ = some ev ∧ (ev = .nilIface ∨ ∃ te pe, ev = .iface te pe)) ∧ ∃ ev, X.w.cell? ⟨2, 0, none⟩ = some ev ∧ (ev = .nilIface ∨ ∃ te pe, ev = .iface te pe) := by
  first
    | (obtain ⟨-, -, ⟨m1, h1, -⟩, ⟨m2, h2, -⟩, -⟩ := hS.glob; exact ⟨⟨m1.1, h1.1, m1.2⟩, ⟨m2.1, h2.1, m2.2⟩⟩)
    | (obtain ⟨-, ⟨m1, h1, -⟩, ⟨m2, h2, -⟩, -⟩ := hS.glob; exact ⟨⟨m1.1, h1.1, m1.2⟩, ⟨m2.1, h2.1, m2.2⟩⟩)
    | (obtain ⟨-, ⟨m1, h1, -⟩, ⟨m2, h2, -⟩, -⟩ := hS.glob; exact ⟨⟨m2.1, h2.1, m2.2⟩, ⟨m1.1, h1.1, m1.2⟩⟩)
theorem bytesWorld_ext (w : World) (e : TypeId) (t : ByteArray) : Ext w (Lib.bytesWorld w e t) := by
  unfold Lib.bytesWorld
  exact Lib.below_freeze ((Ext.refl w).drew.alloc _) (p := ⟨w.heap.size, _, none⟩) (Nat.le_refl _) _
set_option maxHeartbeats 1000000 in
theorem int_g (s : ByteArray) (hs : s.size ≤ 1000000) : Gives Tryz.prog 82 [.str s] (.tup [.int ((intP s.data.toList).getD 0), .bool (intP s.data.toList).isSome]) :=
  qft fun X vals hS ha => by
    obtain ⟨v0, _, rfl, h2, h4⟩ := ha
    cases h4
    cases arg_vv h2
    obtain ⟨⟨e1, hc1, he1⟩, e2, hc2, he2⟩ := err_cell hS
    have ht := tab10 hS
    have fin : ∀ (r : Option Int) (w' : World), Ext X.w w' → Ext X.w w' ∧ ∃ v, Ending.returned (.tuple #[.int .i64 (r.getD 0), .bool r.isSome]) = .returned v ∧ RR (X.later w') (.tup [.int (r.getD 0), .bool r.isSome]) v := fun r w' hE =>
      ⟨hE, _, rfl, [_, _], rfl, _, _, rfl, RR1.of_one rfl (by rw [RC]), _, _, rfl, RR1.of_one rfl (by rw [RC]), rfl⟩
    have hE0 := Ext.refl X.w
    cases hp : Lib.parseIntB 64 s.data.toList
    · rename_i v
      have hv := parse_i64 hp
      have hr : intP s.data.toList = if itoa v = s.data.toList then some v else none := by unfold intP; rw [hp]
      by_cases hi : itoa v = s.data.toList
      · rw [if_pos hi] at hr
        rw [hr]
        have hi2 : (⟨(itoa v).toArray⟩ : ByteArray).toList = s.toList := by rw [ByteArray.toList_eq, ByteArray.toList_eq]; exact hi
        go_enter Tryz.func82, Tryz.ntmps82
        go_wp2_with (go_at_call 128; refine (Tryz.strconv_ParseInt_10_at64_ok s (by omega) v hp _).mono ?_)
        rintro e w1 ⟨rfl, hw1⟩
        have hE1 : Ext X.w w1 := by
          rcases hw1 with rfl | ⟨t, rfl⟩
          · exact Ext.refl _
          · exact bytesWorld_ext _ _ _
        go_wp2_with (go_at_call 129; refine (Tryz.strconv_FormatInt_10 v hv.1 hv.2 _ (tab10E hS hE1)).mono ?_)
        rintro e w2 ⟨rfl, k, os, rfl⟩
        have hE2 : Ext X.w (Go.Sort.grow (w1.drewN k) os) := hE1.trans (grow_ext k os)
        go_wp2
        go_ret2
        exact fin (some v) _ hE2
      · rw [if_neg hi] at hr
        rw [hr]
        have hi2 : (itoa v == s.toList) = false := by rw [ByteArray.toList_eq, beq_eq_false_iff_ne]; exact hi
        have hi3 : ¬ itoa v = s.toList := by rw [ByteArray.toList_eq]; exact hi
        go_enter Tryz.func82, Tryz.ntmps82
        go_wp2_with (go_at_call 128; refine (Tryz.strconv_ParseInt_10_at64_ok s (by omega) v hp _).mono ?_)
        rintro e w1 ⟨rfl, hw1⟩
        have hE1 : Ext X.w w1 := by
          rcases hw1 with rfl | ⟨t, rfl⟩
          · exact Ext.refl _
          · exact bytesWorld_ext _ _ _
        go_wp2_with (go_at_call 129; refine (Tryz.strconv_FormatInt_10 v hv.1 hv.2 _ (tab10E hS hE1)).mono ?_)
        rintro e w2 ⟨rfl, k, os, rfl⟩
        have hE2 : Ext X.w (Go.Sort.grow (w1.drewN k) os) := hE1.trans (grow_ext k os)
        go_wp2
        go_ret2
        exact fin none _ hE2
    · have hr : intP s.data.toList = none := by unfold intP; rw [hp]
      rw [hr]
      go_enter Tryz.func82, Tryz.ntmps82
      go_wp2_with (go_at_call 128; refine (Tryz.strconv_ParseInt_10_at64_syntax s (by omega) hp e1 _ hc1 he1).mono ?_)
      rintro e w1 ⟨N, rfl, -, -, hE1⟩
      go_wp2
      go_ret2
      exact fin none _ hE1
    · have hr : intP s.data.toList = none := by unfold intP; rw [hp]
      rw [hr]
      go_enter Tryz.func82, Tryz.ntmps82
      go_wp2_with (go_at_call 128; refine (Tryz.strconv_ParseInt_10_at64_range s (by omega) hp e2 _ hc2 he2).mono ?_)
      rintro e w1 ⟨N, rfl, -, -, hE1⟩
      go_wp2
      go_ret2
      exact fin none _ hE1
end Go.Proofs.YtbkkjlcclddpdaaGreatDoor

/- Contracts of the library's string functions, abstract; whether a shape is right. -/
namespace Go.Proofs.YtbkkjlcclddpdaaGreatDoor
open Go.RowKit Go.Lib
end Go.Proofs.YtbkkjlcclddpdaaGreatDoor

/- Walks: shapes that are equal, few columns; right columns on plain data. -/
namespace Go.Proofs.YtbkkjlcclddpdaaGreatDoor
open Go.RowKit Go.Lib
def sameC : List Col → List Col → Bool
  | [], [] => true
  | a :: l, b :: m => Col.eqB a b && sameC l m
  | _, _ => false
theorem sameC_iff : ∀ (a b : List Col), sameC a b = true ↔ a = b
  | [], [] => by simp [sameC]
  | [], _ :: _ => by simp [sameC]
  | _ :: _, [] => by simp [sameC]
  | a :: l, b :: m => by rw [sameC, Bool.and_eq_true, Col.eqB_iff, sameC_iff l m, List.cons.injEq]
theorem wrongs_nil {L : List Col} : ∀ {k : Nat}, k ≤ L.length → qbr L k = [] → ∀ j (h : j < L.length), j < k → okC L j L[j] = true
  | 0, _, _, j, _, hj => by omega
  | k + 1, hk, h, j, hj, hjk => by
    rw [qbr, List.append_eq_nil_iff] at h
    by_cases he : j = k
    · subst he
      have h2 := h.2
      rw [List.getElem?_eq_getElem hj] at h2
      dsimp only at h2
      split at h2
      · assumption
      · cases h2
    · exact wrongs_nil (by omega) h.1 j hj (by omega)
theorem right_ok {L : List Col} (h : rightP L = true) : (∀ j (h : j < L.length), okC L j L[j] = true) ∧ 1 ≤ L.length ∧ L.length ≤ 12 := by
  unfold rightP at h
  simp only [Bool.and_eq_true, decide_eq_true_eq] at h
  exact ⟨fun j hj => wrongs_nil (Nat.le_refl _) h.1.1 j hj hj, h.1.2, h.2⟩
theorem right_of {L : List Col} (h1 : ∀ j (h : j < L.length), okC L j L[j] = true) (h2 : 1 ≤ L.length) (h3 : L.length ≤ 12) : rightP L = true := by
  have : ∀ k, k ≤ L.length → qbr L k = [] := fun k => by
    induction k with
    | zero => intro _; rfl
    | succ k ih =>
      intro hk
      rw [wrongs_ok (by omega) (h1 k (by omega))]
      exact ih (by omega)
  unfold rightP
  rw [decide_eq_true (this _ (Nat.le_refl _)), decide_eq_true h2, decide_eq_true h3]; rfl
structure OkCol (c : Col) : Prop where
  name : ownP c.name.toList = true
  type : 0 ≤ c.type ∧ c.type < 3
  unit : c.unit.toList = [] ∨ (c.type = 0 ∧ ownP c.unit.toList = true)
end Go.Proofs.YtbkkjlcclddpdaaGreatDoor

/- Walks: right values and rows; rows that fit a shape; the default row. -/
namespace Go.Proofs.YtbkkjlcclddpdaaGreatDoor
open Go.RowKit Go.Lib
def qbl (v : Val) : Bool :=
  if v.k = 0 then Val.eqB v ⟨0, v.n, ⟨#[]⟩⟩
  else if v.k = 1 then Val.eqB v ⟨1, 0, v.s⟩ && decide (v.s.size ≤ 200)
  else Val.eqB v ⟨2, 0, ⟨#[]⟩⟩ || Val.eqB v ⟨2, 1, ⟨#[]⟩⟩
def rowOk (r : List Val) : Bool := decide (r.length ≤ 12) && r.all qbl
def fitsC (r : List Val) (L : List Col) : Bool := decide (r.length = L.length) && rowOk r && decide (r.map Val.k = L.map Col.type)
def zeroV (c : Col) : Val := ⟨c.type, 0, ⟨#[]⟩⟩
def qbm (L : List Col) : List Val := L.map zeroV
theorem vzero_g (k : Int) : Gives Tryz.prog 122 [.int k] (Val.av ⟨k, 0, ⟨#[]⟩⟩) := by
  refine qm Tryz.func122 Tryz.ntmps122 rfl rfl (by decide) rfl (by intro n; simp) fun σ n0 hcl hft => ?_
  repeat' (first | ((first | ((with_reducible refine qp (fun hg => ?_) (fun hg => ?_)) <;> (try simp only [hg]) <;> (try simp only [gS] at hg) <;> (try (first | simp only [eq_false hg, gI] | simp only [eq_true hg, gI]))) | (with_reducible first | refine qc ?_ | refine qb ?_ | refine qj ?_ | refine qi ?_) | refine qe ?_ | refine qk ?_ | refine qh ?_ | refine qo ?_) <;> (try simp (disch := first | omega | simp) [qg, -qq, -qu])) | ((with_reducible refine sideT ?_ ?_); first | omega | assumption | (simp; done)) | (refine qf fun K hK => ?_) | (refine qa ?_) | refine ql ?_ | ((first | refine hK _ ?_ | (clear hK K; refine hK _ ?_) | (clear hK K; clear hK K; refine hK _ ?_)); clear hK K) | refine qd ?_)
  rfl
theorem qdi (n : Int) : Gives Tryz.prog 110 [.int n] (Val.av ⟨0, n, ⟨#[]⟩⟩) := by
  refine qm Tryz.func110 Tryz.ntmps110 rfl rfl (by decide) rfl (by intro n; simp) fun σ n0 hcl hft => ?_
  repeat' (first | ((first | ((with_reducible refine qp (fun hg => ?_) (fun hg => ?_)) <;> (try simp only [hg]) <;> (try simp only [gS] at hg) <;> (try (first | simp only [eq_false hg, gI] | simp only [eq_true hg, gI]))) | (with_reducible first | refine qc ?_ | refine qb ?_ | refine qj ?_ | refine qi ?_) | refine qe ?_ | refine qk ?_ | refine qh ?_ | refine qo ?_) <;> (try simp (disch := first | omega | simp) [qg, -qq, -qu])) | ((with_reducible refine sideT ?_ ?_); first | omega | assumption | (simp; done)) | (refine qf fun K hK => ?_) | (refine qa ?_) | refine ql ?_ | ((first | refine hK _ ?_ | (clear hK K; refine hK _ ?_) | (clear hK K; clear hK K; refine hK _ ?_)); clear hK K) | refine qd ?_)
  rfl
theorem qde (s : ByteArray) : Gives Tryz.prog 116 [.str s] (Val.av ⟨1, 0, s⟩) := by
  refine qm Tryz.func116 Tryz.ntmps116 rfl rfl (by decide) rfl (by intro n; simp) fun σ n0 hcl hft => ?_
  repeat' (first | ((first | ((with_reducible refine qp (fun hg => ?_) (fun hg => ?_)) <;> (try simp only [hg]) <;> (try simp only [gS] at hg) <;> (try (first | simp only [eq_false hg, gI] | simp only [eq_true hg, gI]))) | (with_reducible first | refine qc ?_ | refine qb ?_ | refine qj ?_ | refine qi ?_) | refine qe ?_ | refine qk ?_ | refine qh ?_ | refine qo ?_) <;> (try simp (disch := first | omega | simp) [qg, -qq, -qu])) | ((with_reducible refine sideT ?_ ?_); first | omega | assumption | (simp; done)) | (refine qf fun K hK => ?_) | (refine qa ?_) | refine ql ?_ | ((first | refine hK _ ?_ | (clear hK K; refine hK _ ?_) | (clear hK K; clear hK K; refine hK _ ?_)); clear hK K) | refine qd ?_)
  rfl
theorem vfalse_g : Gives Tryz.prog 117 [.bool false] (Val.av ⟨2, 0, ⟨#[]⟩⟩) := by
  refine qm Tryz.func117 Tryz.ntmps117 rfl rfl (by decide) rfl (by intro n; simp) fun σ n0 hcl hft => ?_
  repeat' (first | ((first | ((with_reducible refine qp (fun hg => ?_) (fun hg => ?_)) <;> (try simp only [hg]) <;> (try simp only [gS] at hg) <;> (try (first | simp only [eq_false hg, gI] | simp only [eq_true hg, gI]))) | (with_reducible first | refine qc ?_ | refine qb ?_ | refine qj ?_ | refine qi ?_) | refine qe ?_ | refine qk ?_ | refine qh ?_ | refine qo ?_) <;> (try simp (disch := first | omega | simp) [qg, -qq, -qu])) | ((with_reducible refine sideT ?_ ?_); first | omega | assumption | (simp; done)) | (refine qf fun K hK => ?_) | (refine qa ?_) | refine ql ?_ | ((first | refine hK _ ?_ | (clear hK K; refine hK _ ?_) | (clear hK K; clear hK K; refine hK _ ?_)); clear hK K) | refine qd ?_)
  rfl
theorem qbo : Gives Tryz.prog 117 [.bool true] (Val.av ⟨2, 1, ⟨#[]⟩⟩) := by
  refine qm Tryz.func117 Tryz.ntmps117 rfl rfl (by decide) rfl (by intro n; simp) fun σ n0 hcl hft => ?_
  repeat' (first | ((first | ((with_reducible refine qp (fun hg => ?_) (fun hg => ?_)) <;> (try simp only [hg]) <;> (try simp only [gS] at hg) <;> (try (first | simp only [eq_false hg, gI] | simp only [eq_true hg, gI]))) | (with_reducible first | refine qc ?_ | refine qb ?_ | refine qj ?_ | refine qi ?_) | refine qe ?_ | refine qk ?_ | refine qh ?_ | refine qo ?_) <;> (try simp (disch := first | omega | simp) [qg, -qq, -qu])) | ((with_reducible refine sideT ?_ ?_); first | omega | assumption | (simp; done)) | (refine qf fun K hK => ?_) | (refine qa ?_) | refine ql ?_ | ((first | refine hK _ ?_ | (clear hK K; refine hK _ ?_) | (clear hK K; clear hK K; refine hK _ ?_)); clear hK K) | refine qd ?_)
  rfl
theorem vright_g (v : Val) : Gives Tryz.prog 70 [v.av] (.bool (qbl v)) := by
  refine qm Tryz.func70 Tryz.ntmps70 rfl rfl (by decide) rfl (by intro n; simp) fun σ n0 hcl hft => ?_
  repeat' (first | ((first | ((with_reducible refine qp (fun hg => ?_) (fun hg => ?_)) <;> (try simp only [hg]) <;> (try simp only [gS] at hg) <;> (try (first | simp only [eq_false hg, gI] | simp only [eq_true hg, gI]))) | (with_reducible first | refine qc ?_ | refine qb ?_ | refine qj ?_ | refine qi ?_) | refine acall (qdi _) ?_ | refine qn (qdi _) ?_ | refine acall (qde _) ?_ | refine qn (qde _) ?_ | refine acall (vfalse_g) ?_ | refine qn (vfalse_g) ?_ | refine acall (qbo) ?_ | refine qn (qbo) ?_ | refine qe ?_ | refine qk ?_ | refine qh ?_ | refine qo ?_) <;> (try simp (disch := first | omega | simp) [qg, -qq, -qu])) | ((with_reducible refine sideT ?_ ?_); first | omega | assumption | (simp; done)) | (refine qf fun K hK => ?_) | (refine qa ?_) | refine ql ?_ | ((first | refine hK _ ?_ | (clear hK K; refine hK _ ?_) | (clear hK K; clear hK K; refine hK _ ?_)); clear hK K) | refine qd ?_)
  all_goals simp_all [qbl] <;> omega
theorem all1_g (v : Val) : Gives Tryz.prog 135 [v.av] (.bool (!qbl v)) := by
  refine qm Tryz.func135 Tryz.ntmps135 rfl rfl (by decide) rfl (by intro n; simp) fun σ n0 hcl hft => ?_
  repeat' (first | ((first | ((with_reducible refine qp (fun hg => ?_) (fun hg => ?_)) <;> (try simp only [hg]) <;> (try simp only [gS] at hg) <;> (try (first | simp only [eq_false hg, gI] | simp only [eq_true hg, gI]))) | (with_reducible first | refine qc ?_ | refine qb ?_ | refine qj ?_ | refine qi ?_) | refine acall (vright_g _) ?_ | refine qn (vright_g _) ?_ | refine qe ?_ | refine qk ?_ | refine qh ?_ | refine qo ?_) <;> (try simp (disch := first | omega | simp) [qg, -qq, -qu])) | ((with_reducible refine sideT ?_ ?_); first | omega | assumption | (simp; done)) | (refine qf fun K hK => ?_) | (refine qa ?_) | refine ql ?_ | ((first | refine hK _ ?_ | (clear hK K; refine hK _ ?_) | (clear hK K; clear hK K; refine hK _ ?_)); clear hK K) | refine qd ?_)
theorem idxV_g (L : List Val) (hL : L.length ≤ 1000000) : Gives Tryz.prog 147 [.sl (L.map Val.av), .fn 135 []] (.int (idxP (fun v => !qbl v) L)) := by
  refine qm Tryz.func147 Tryz.ntmps147 rfl rfl (by decide) rfl (by intro n; simp) fun σ n0 hcl hft => ?_
  repeat' (first | ((first | ((with_reducible refine qp (fun hg => ?_) (fun hg => ?_)) <;> (try simp only [hg]) <;> (try simp only [gS] at hg) <;> (try (first | simp only [eq_false hg, gI] | simp only [eq_true hg, gI]))) | (with_reducible first | refine qc ?_ | refine qb ?_ | refine qj ?_ | refine qi ?_) | refine qe ?_ | refine qk ?_ | refine qh ?_ | refine qo ?_) <;> (try simp (disch := first | omega | simp) [qg, -qq, -qu])) | ((with_reducible refine sideT ?_ ?_); first | omega | assumption | (simp; done)) | (refine qf fun K hK => ?_) | (refine qa ?_) | refine ql ?_ | ((first | refine hK _ ?_ | (clear hK K; refine hK _ ?_) | (clear hK K; clear hK K; refine hK _ ?_)); clear hK K) | refine qd ?_)
  refine qbq hcl (fun k : Nat => [(0, .sl (L.map Val.av)), (1, .fn 135 []), (7, .int L.length), (8, .int k)]) (fun _ => [])
    (fun k => k ≤ L.length ∧ ∀ j (h : j < L.length), j < k → qbl L[j] = true) (fun k => L.length - k) 0 (by simp) (by simp) fun k ⟨hk, he⟩ => ?_
  by_cases hlt : k < L.length
  · cases hr : qbl L[k] with
    | true =>
      have c1 := all1_g L[k]
      rw [hr] at c1
      repeat' (first | ((first | ((with_reducible refine qp (fun hg => ?_) (fun hg => ?_)) <;> (try simp only [hg]) <;> (try simp only [gS] at hg) <;> (try (first | simp only [eq_false hg, gI] | simp only [eq_true hg, gI]))) | (with_reducible first | refine qc ?_ | refine qb ?_ | refine qj ?_ | refine qi ?_) | refine acall (c1) ?_ | refine qn (c1) ?_ | refine qe ?_ | refine qk ?_ | refine qh ?_ | refine qo ?_) <;> (try simp (disch := first | omega | simp) [qg, -qq, -qu, hlt])) | ((with_reducible refine sideT ?_ ?_); first | omega | assumption | (simp; done)) | (refine qf fun K hK => ?_) | (refine qa ?_) | refine ql ?_ | ((first | refine hK _ ?_ | (clear hK K; refine hK _ ?_) | (clear hK K; clear hK K; refine hK _ ?_)); clear hK K) | refine qd ?_)
      exact ⟨k + 1, ⟨by omega, qff (C := fun v : Val => qbl v = true) he fun _ => hr⟩, by omega, by simp⟩
    | false =>
      have c1 := all1_g L[k]
      rw [hr] at c1
      repeat' (first | ((first | ((with_reducible refine qp (fun hg => ?_) (fun hg => ?_)) <;> (try simp only [hg]) <;> (try simp only [gS] at hg) <;> (try (first | simp only [eq_false hg, gI] | simp only [eq_true hg, gI]))) | (with_reducible first | refine qc ?_ | refine qb ?_ | refine qj ?_ | refine qi ?_) | refine acall (c1) ?_ | refine qn (c1) ?_ | refine qe ?_ | refine qk ?_ | refine qh ?_ | refine qo ?_) <;> (try simp (disch := first | omega | simp) [qg, -qq, -qu, hlt])) | ((with_reducible refine sideT ?_ ?_); first | omega | assumption | (simp; done)) | (refine qf fun K hK => ?_) | (refine qa ?_) | refine ql ?_ | ((first | refine hK _ ?_ | (clear hK K; refine hK _ ?_) | (clear hK K; clear hK K; refine hK _ ?_)); clear hK K) | refine qd ?_)
      exact (idxP_hit (p := fun v => !qbl v) hlt (by simp [hr]) fun j h1 h2 => by simpa using he j h1 h2).symm
  · repeat' (first | ((first | ((with_reducible refine qp (fun hg => ?_) (fun hg => ?_)) <;> (try simp only [hg]) <;> (try simp only [gS] at hg) <;> (try (first | simp only [eq_false hg, gI] | simp only [eq_true hg, gI]))) | (with_reducible first | refine qc ?_ | refine qb ?_ | refine qj ?_ | refine qi ?_) | refine qe ?_ | refine qk ?_ | refine qh ?_ | refine qo ?_) <;> (try simp (disch := first | omega | simp) [qg, -qq, -qu, hlt])) | ((with_reducible refine sideT ?_ ?_); first | omega | assumption | (simp; done)) | (refine qf fun K hK => ?_) | (refine qa ?_) | refine ql ?_ | ((first | refine hK _ ?_ | (clear hK K; refine hK _ ?_) | (clear hK K; clear hK K; refine hK _ ?_)); clear hK K) | refine qd ?_)
    exact (idxP_miss (p := fun v => !qbl v) (upto_all (C := fun v : Val => (!qbl v) = false) (fun j h1 h2 => by simpa using he j h1 h2) hlt)).symm
theorem all_idx (L : List Val) : decide (0 ≤ idxP (fun v => !qbl v) L) = !L.all qbl := by
  rw [idxP_any, List.not_all_eq_any_not]
theorem cont_g (L : List Val) (hL : L.length ≤ 1000000) : Gives Tryz.prog 134 [.sl (L.map Val.av), .fn 135 []] (.bool (!L.all qbl)) := by
  rw [← all_idx]
  refine qm Tryz.func134 Tryz.ntmps134 rfl rfl (by decide) rfl (by intro n; simp) fun σ n0 hcl hft => ?_
  repeat' (first | ((first | ((with_reducible refine qp (fun hg => ?_) (fun hg => ?_)) <;> (try simp only [hg]) <;> (try simp only [gS] at hg) <;> (try (first | simp only [eq_false hg, gI] | simp only [eq_true hg, gI]))) | (with_reducible first | refine qc ?_ | refine qb ?_ | refine qj ?_ | refine qi ?_) | refine acall (idxV_g L hL) ?_ | refine qn (idxV_g L hL) ?_ | refine qe ?_ | refine qk ?_ | refine qh ?_ | refine qo ?_) <;> (try simp (disch := first | omega | simp) [qg, -qq, -qu])) | ((with_reducible refine sideT ?_ ?_); first | omega | assumption | (simp; done)) | (refine qf fun K hK => ?_) | (refine qa ?_) | refine ql ?_ | ((first | refine hK _ ?_ | (clear hK K; refine hK _ ?_) | (clear hK K; clear hK K; refine hK _ ?_)); clear hK K) | refine qd ?_)
theorem vall_g (L : List Val) (hL : L.length ≤ 1000000) : Gives Tryz.prog 104 [.sl (L.map Val.av)] (.bool (L.all qbl)) := by
  refine qm Tryz.func104 Tryz.ntmps104 rfl rfl (by decide) rfl (by intro n; simp) fun σ n0 hcl hft => ?_
  repeat' (first | ((first | ((with_reducible refine qp (fun hg => ?_) (fun hg => ?_)) <;> (try simp only [hg]) <;> (try simp only [gS] at hg) <;> (try (first | simp only [eq_false hg, gI] | simp only [eq_true hg, gI]))) | (with_reducible first | refine qc ?_ | refine qb ?_ | refine qj ?_ | refine qi ?_) | refine acall (cont_g L hL) ?_ | refine qn (cont_g L hL) ?_ | refine qe ?_ | refine qk ?_ | refine qh ?_ | refine qo ?_) <;> (try simp (disch := first | omega | simp) [qg, -qq, -qu])) | ((with_reducible refine sideT ?_ ?_); first | omega | assumption | (simp; done)) | (refine qf fun K hK => ?_) | (refine qa ?_) | refine ql ?_ | ((first | refine hK _ ?_ | (clear hK K; refine hK _ ?_) | (clear hK K; clear hK K; refine hK _ ?_)); clear hK K) | refine qd ?_)
theorem row_g (L : List Val) (hL : L.length ≤ 1000000) : Gives Tryz.prog 57 [.sl (L.map Val.av)] (.bool (rowOk L)) := by
  unfold rowOk
  by_cases h : L.length ≤ 12
  · have h' : (L.length : Int) ≤ 12 := by omega
    refine qm Tryz.func57 Tryz.ntmps57 rfl rfl (by decide) rfl (by intro n; simp) fun σ n0 hcl hft => ?_
    repeat' (first | ((first | ((with_reducible refine qp (fun hg => ?_) (fun hg => ?_)) <;> (try simp only [hg]) <;> (try simp only [gS] at hg) <;> (try (first | simp only [eq_false hg, gI] | simp only [eq_true hg, gI]))) | (with_reducible first | refine qc ?_ | refine qb ?_ | refine qj ?_ | refine qi ?_) | refine acall (vall_g L hL) ?_ | refine qn (vall_g L hL) ?_ | refine qe ?_ | refine qk ?_ | refine qh ?_ | refine qo ?_) <;> (try simp (disch := first | omega | simp) [qg, -qq, -qu, h, h'])) | ((with_reducible refine sideT ?_ ?_); first | omega | assumption | (simp; done)) | (refine qf fun K hK => ?_) | (refine qa ?_) | refine ql ?_ | ((first | refine hK _ ?_ | (clear hK K; refine hK _ ?_) | (clear hK K; clear hK K; refine hK _ ?_)); clear hK K) | refine qd ?_)
  · have h' : ¬ (L.length : Int) ≤ 12 := by omega
    refine qm Tryz.func57 Tryz.ntmps57 rfl rfl (by decide) rfl (by intro n; simp) fun σ n0 hcl hft => ?_
    repeat' (first | ((first | ((with_reducible refine qp (fun hg => ?_) (fun hg => ?_)) <;> (try simp only [hg]) <;> (try simp only [gS] at hg) <;> (try (first | simp only [eq_false hg, gI] | simp only [eq_true hg, gI]))) | (with_reducible first | refine qc ?_ | refine qb ?_ | refine qj ?_ | refine qi ?_) | refine acall (vall_g L hL) ?_ | refine qn (vall_g L hL) ?_ | refine qe ?_ | refine qk ?_ | refine qh ?_ | refine qo ?_) <;> (try simp (disch := first | omega | simp) [qg, -qq, -qu, h, h'])) | ((with_reducible refine sideT ?_ ?_); first | omega | assumption | (simp; done)) | (refine qf fun K hK => ?_) | (refine qa ?_) | refine ql ?_ | ((first | refine hK _ ?_ | (clear hK K; refine hK _ ?_) | (clear hK K; clear hK K; refine hK _ ?_)); clear hK K) | refine qd ?_)
theorem fits_g (a : List Val) (b : List Col) (hL : a.length ≤ 1000000) (hb : b.length ≤ 1000000) : Gives Tryz.prog 24 [.sl (a.map Val.av), .sl (b.map Col.av)] (.bool (fitsC a b)) := by
  obtain ⟨R, hR⟩ : ∃ R, R = fitsC a b := ⟨_, rfl⟩
  rw [← hR]
  unfold fitsC at hR
  have hrow := row_g a hL
  by_cases hlen : a.length = b.length
  · have hlen' : (a.length : Int) = b.length := by omega
    rw [decide_eq_true hlen, Bool.true_and] at hR
    cases hro : rowOk a with
    | false =>
      rw [hro] at hrow hR
      refine qm Tryz.func24 Tryz.ntmps24 rfl rfl (by decide) rfl (by intro n; simp) fun σ n0 hcl hft => ?_
      repeat' (first | ((first | ((with_reducible refine qp (fun hg => ?_) (fun hg => ?_)) <;> (try simp only [hg]) <;> (try simp only [gS] at hg) <;> (try (first | simp only [eq_false hg, gI] | simp only [eq_true hg, gI]))) | (with_reducible first | refine qc ?_ | refine qb ?_ | refine qj ?_ | refine qi ?_) | refine acall (hrow) ?_ | refine qn (hrow) ?_ | refine qe ?_ | refine qk ?_ | refine qh ?_ | refine qo ?_) <;> (try simp (disch := first | omega | simp) [qg, -qq, -qu, hlen'])) | ((with_reducible refine sideT ?_ ?_); first | omega | assumption | (simp; done)) | (refine qf fun K hK => ?_) | (refine qa ?_) | refine ql ?_ | ((first | refine hK _ ?_ | (clear hK K; refine hK _ ?_) | (clear hK K; clear hK K; refine hK _ ?_)); clear hK K) | refine qd ?_)
      rw [hR]; rfl
    | true =>
      rw [hro, Bool.true_and] at hR
      rw [hro] at hrow
      refine qm Tryz.func24 Tryz.ntmps24 rfl rfl (by decide) rfl (by intro n; simp) fun σ n0 hcl hft => ?_
      repeat' (first | ((first | ((with_reducible refine qp (fun hg => ?_) (fun hg => ?_)) <;> (try simp only [hg]) <;> (try simp only [gS] at hg) <;> (try (first | simp only [eq_false hg, gI] | simp only [eq_true hg, gI]))) | (with_reducible first | refine qc ?_ | refine qb ?_ | refine qj ?_ | refine qi ?_) | refine acall (hrow) ?_ | refine qn (hrow) ?_ | refine qe ?_ | refine qk ?_ | refine qh ?_ | refine qo ?_) <;> (try simp (disch := first | omega | simp) [qg, -qq, -qu, hlen'])) | ((with_reducible refine sideT ?_ ?_); first | omega | assumption | (simp; done)) | (refine qf fun K hK => ?_) | (refine qa ?_) | refine ql ?_ | ((first | refine hK _ ?_ | (clear hK K; refine hK _ ?_) | (clear hK K; clear hK K; refine hK _ ?_)); clear hK K) | refine qd ?_)
      refine qbq hcl (fun k : Nat => [(0, .sl (a.map Val.av)), (1, .sl (b.map Col.av)), (17, .sl (b.map Col.av)), (18, .int b.length), (19, .int k)]) (fun _ => [])
        (fun k => k ≤ b.length ∧ (a.map Val.k).take k = (b.map Col.type).take k) (fun k => b.length - k) 0 (by simp) (by simp) fun k ⟨hk, he⟩ => ?_
      by_cases hlt : k < b.length
      · have hlt2 : k < a.length := by omega
        have e1 : (a.map Val.k)[k]'(by simpa using hlt2) = a[k].k := by simp
        have e2 : (b.map Col.type)[k]'(by simpa using hlt) = b[k].type := by simp
        by_cases hgk : a[k].k = b[k].type
        · repeat' (first | ((first | ((with_reducible refine qp (fun hg => ?_) (fun hg => ?_)) <;> (try simp only [hg]) <;> (try simp only [gS] at hg) <;> (try (first | simp only [eq_false hg, gI] | simp only [eq_true hg, gI]))) | (with_reducible first | refine qc ?_ | refine qb ?_ | refine qj ?_ | refine qi ?_) | refine qe ?_ | refine qk ?_ | refine qh ?_ | refine qo ?_) <;> (try simp (disch := first | omega | simp) [qg, -qq, -qu, hlt, hlt2, hgk])) | ((with_reducible refine sideT ?_ ?_); first | omega | assumption | (simp; done)) | (refine qf fun K hK => ?_) | (refine qa ?_) | refine ql ?_ | ((first | refine hK _ ?_ | (clear hK K; refine hK _ ?_) | (clear hK K; clear hK K; refine hK _ ?_)); clear hK K) | refine qd ?_)
          refine ⟨k + 1, ⟨by omega, ?_⟩, by omega, by simp [qg]⟩
          rw [List.take_succ_eq_append_getElem (by simpa using hlt2), List.take_succ_eq_append_getElem (by simpa using hlt), he, e1, e2, hgk]
        · have : ¬ a.map Val.k = b.map Col.type := fun e => hgk (by rw [← e1, ← e2]; simp only [e])
          rw [decide_eq_false this] at hR
          repeat' (first | ((first | ((with_reducible refine qp (fun hg => ?_) (fun hg => ?_)) <;> (try simp only [hg]) <;> (try simp only [gS] at hg) <;> (try (first | simp only [eq_false hg, gI] | simp only [eq_true hg, gI]))) | (with_reducible first | refine qc ?_ | refine qb ?_ | refine qj ?_ | refine qi ?_) | refine qe ?_ | refine qk ?_ | refine qh ?_ | refine qo ?_) <;> (try simp (disch := first | omega | simp) [qg, -qq, -qu, hlt, hlt2, hgk])) | ((with_reducible refine sideT ?_ ?_); first | omega | assumption | (simp; done)) | (refine qf fun K hK => ?_) | (refine qa ?_) | refine ql ?_ | ((first | refine hK _ ?_ | (clear hK K; refine hK _ ?_) | (clear hK K; clear hK K; refine hK _ ?_)); clear hK K) | refine qd ?_)
          all_goals first | exact absurd (by assumption) hgk | rw [hR]
      · repeat' (first | ((first | ((with_reducible refine qp (fun hg => ?_) (fun hg => ?_)) <;> (try simp only [hg]) <;> (try simp only [gS] at hg) <;> (try (first | simp only [eq_false hg, gI] | simp only [eq_true hg, gI]))) | (with_reducible first | refine qc ?_ | refine qb ?_ | refine qj ?_ | refine qi ?_) | refine qe ?_ | refine qk ?_ | refine qh ?_ | refine qo ?_) <;> (try simp (disch := first | omega | simp) [qg, -qq, -qu, hlt])) | ((with_reducible refine sideT ?_ ?_); first | omega | assumption | (simp; done)) | (refine qf fun K hK => ?_) | (refine qa ?_) | refine ql ?_ | ((first | refine hK _ ?_ | (clear hK K; refine hK _ ?_) | (clear hK K; clear hK K; refine hK _ ?_)); clear hK K) | refine qd ?_)
        rw [hR]
        have h1 : k = b.length := by omega
        subst h1
        have : a.map Val.k = b.map Col.type := by
          rw [List.take_of_length_le (by simp [hlen]), List.take_of_length_le (by simp)] at he
          exact he
        rw [decide_eq_true this]
  · have hlen' : ¬ (a.length : Int) = b.length := by omega
    rw [decide_eq_false hlen] at hR
    refine qm Tryz.func24 Tryz.ntmps24 rfl rfl (by decide) rfl (by intro n; simp) fun σ n0 hcl hft => ?_
    repeat' (first | ((first | ((with_reducible refine qp (fun hg => ?_) (fun hg => ?_)) <;> (try simp only [hg]) <;> (try simp only [gS] at hg) <;> (try (first | simp only [eq_false hg, gI] | simp only [eq_true hg, gI]))) | (with_reducible first | refine qc ?_ | refine qb ?_ | refine qj ?_ | refine qi ?_) | refine acall (hrow) ?_ | refine qn (hrow) ?_ | refine qe ?_ | refine qk ?_ | refine qh ?_ | refine qo ?_) <;> (try simp (disch := first | omega | simp) [qg, -qq, -qu, hlen'])) | ((with_reducible refine sideT ?_ ?_); first | omega | assumption | (simp; done)) | (refine qf fun K hK => ?_) | (refine qa ?_) | refine ql ?_ | ((first | refine hK _ ?_ | (clear hK K; refine hK _ ?_) | (clear hK K; clear hK K; refine hK _ ?_)); clear hK K) | refine qd ?_)
    all_goals first | (rw [hR]; rfl) | omega
end Go.Proofs.YtbkkjlcclddpdaaGreatDoor

/- Layer 14 on plain data: steps of migrations. -/
namespace Go.Proofs.YtbkkjlcclddpdaaGreatDoor
open Go.RowKit Go.Lib
def ownA (s : ByteArray) : Bool := ownP s.toList
def strE (s : ByteArray) : Bool := decide (s.toList = [])
def sepB (s : ByteArray) : Bool := decide (1 ≤ s.size) && decide (s.size ≤ 200)
def val0 : Val := ⟨0, 0, ⟨#[]⟩⟩
def val0B (v : Val) : Bool := Val.eqB v val0
def usedB (x : Lens) (b c sep n v : Bool) : Bool :=
  (if b then ownA x.b else strE x.b) && (if c then ownA x.c else strE x.c) && (if sep then sepB x.sep else strE x.sep) && (n || decide (x.n = 0)) && (if v then qbl x.value else val0B x.value)
def qct (x : Lens) : Bool :=
  ownA x.a &&
  if x.op = 0 then usedB x (!strE x.b) false false false true && (strE x.b || decide (x.value.k = 0))
  else if x.op = 1 then usedB x false false false false true
  else if x.op = 2 then usedB x true false false false false
  else if x.op = 3 then usedB x true true true false false
  else if x.op = 4 then usedB x true true true false false && decide (x.a.toList ≠ x.b.toList)
  else if x.op = 5 then usedB x false false false true true && (decide (0 ≤ x.n) && (decide (x.n < 3) && decide (x.value.k = x.n)))
  else if x.op = 6 then usedB x (!strE x.b) false false true false && decide (x.n ≠ 0)
  else false
def takenB (cols : List Col) (s : List UInt8) (but : List (List UInt8)) : Bool := decide (0 ≤ findP cols s) && !but.contains s
def colAt (cols : List Col) (i : Nat) : Col := cols.getD i ⟨⟨#[]⟩, 0, ⟨#[]⟩⟩
def qdj (x : Lens) (cols : List Col) (i : Nat) : Int :=
  if x.op = 1 then (if (colAt cols i).type ≠ x.value.k then 13 else if cols.length < 2 then 1 else 0)
  else if x.op = 2 then (if takenB cols x.b.toList [] then 5 else 0)
  else if x.op = 3 then (if (colAt cols i).type ≠ 1 then 13 else if x.b.toList = x.c.toList ∨ takenB cols x.b.toList [x.a.toList] ∨ takenB cols x.c.toList [x.a.toList] then 5 else if 12 ≤ cols.length then 6 else 0)
  else if x.op = 4 then (if (colAt cols i).type ≠ 1 ∨ (colAt cols (findP cols x.b.toList).toNat).type ≠ 1 then 13 else if takenB cols x.c.toList [x.a.toList, x.b.toList] then 5 else 0)
  else if x.op = 5 then (if (colAt cols i).type = x.n then 13 else 0)
  else if x.op = 6 then (if (colAt cols i).type ≠ 0 then 13 else 0)
  else 0
def nextP (x : Lens) (cols : List Col) (i k : Nat) : List Col :=
  if x.op = 1 then cols.eraseIdx i
  else if x.op = 2 then cols.set i ⟨x.b, (colAt cols i).type, (colAt cols i).unit⟩
  else if x.op = 3 then cols.take i ++ [⟨x.b, 1, ⟨#[]⟩⟩, ⟨x.c, 1, ⟨#[]⟩⟩] ++ cols.drop (i + 1)
  else if x.op = 4 then (cols.set i ⟨x.c, (colAt cols i).type, (colAt cols i).unit⟩).eraseIdx k
  else if x.op = 5 then cols.set i ⟨(colAt cols i).name, x.n, ⟨#[]⟩⟩
  else if x.op = 6 then cols.set i ⟨(colAt cols i).name, (colAt cols i).type, x.b⟩
  else cols
def oneP (x : Lens) (cols : List Col) : List Col × Int :=
  if qct x = false then ([], 1)
  else if x.op = 0 then (if 0 ≤ findP cols x.a.toList then ([], 5) else if 12 ≤ cols.length then ([], 6) else (cols ++ [⟨x.a, x.value.k, x.b⟩], 0))
  else if findP cols x.a.toList < 0 ∨ x.op = 4 ∧ findP cols x.b.toList < 0 then ([], 12)
  else if qdj x cols (findP cols x.a.toList).toNat ≠ 0 then ([], qdj x cols (findP cols x.a.toList).toNat)
  else (nextP x cols (findP cols x.a.toList).toNat (findP cols x.b.toList).toNat, 0)
def qv : List Lens → List Col → List (List Col) × Int
  | [], cols => ([cols], 0)
  | x :: l, cols => if (oneP x cols).2 ≠ 0 then ([], (oneP x cols).2) else if (qv l (oneP x cols).1).2 ≠ 0 then ([], (qv l (oneP x cols).1).2) else (cols :: (qv l (oneP x cols).1).1, 0)
def toP (l : List Lens) (cols : List Col) : List Col × Int := if 60 < l.length then ([], 6) else if (qv l cols).2 ≠ 0 then ([], (qv l cols).2) else ((qv l cols).1.getD l.length [], 0)
def cutV (s : List UInt8) : Val := ⟨1, 0, qs (s.take 200)⟩
def qby (s sep : List UInt8) : Val × Val := (cutV (Lib.cut s sep).1, cutV (Lib.cut s sep).2.1)
def wTrue : List UInt8 := [116, 114, 117, 101]
def qfx : List UInt8 := [102, 97, 108, 115, 101]
def bitV (b : Bool) : Val := ⟨2, if b then 1 else 0, ⟨#[]⟩⟩
def convP (v : Val) (to : Int) (other : Val) : Val :=
  if to = 1 ∧ v.k = 0 then cutV (itoa v.n)
  else if to = 1 then cutV (if v.n = 1 then wTrue else qfx)
  else if to = 0 ∧ v.k = 2 then ⟨0, v.n, ⟨#[]⟩⟩
  else if to = 0 then (match intP v.s.data.toList with | some n => ⟨0, n, ⟨#[]⟩⟩ | none => other)
  else if v.k = 0 then bitV (decide (v.n ≠ 0))
  else if v.s.toList = wTrue ∨ v.s.toList = qfx then bitV (decide (v.s.toList = wTrue))
  else other
def valAt (row : List Val) (i : Nat) : Val := row.getD i ⟨0, 0, ⟨#[]⟩⟩
def fwdP (x : Lens) (cols : List Col) (row : List Val) : List Val :=
  let i := (findP cols x.a.toList).toNat
  let k := (findP cols x.b.toList).toNat
  if x.op = 0 then row ++ [x.value]
  else if x.op = 1 then row.eraseIdx i
  else if x.op = 3 then row.take i ++ [(qby (valAt row i).s.data.toList x.sep.data.toList).1, (qby (valAt row i).s.data.toList x.sep.data.toList).2] ++ row.drop (i + 1)
  else if x.op = 4 then (row.set i (cutV ((valAt row i).s.data.toList ++ x.sep.data.toList ++ (valAt row k).s.data.toList))).eraseIdx k
  else if x.op = 5 then row.set i (convP (valAt row i) x.n x.value)
  else if x.op = 6 then row.set i ⟨0, IntKind.i64.wrap ((valAt row i).n * x.n), ⟨#[]⟩⟩
  else row
def bckP (x : Lens) (cols : List Col) (row : List Val) : List Val :=
  let i := (findP cols x.a.toList).toNat
  let k := (findP cols x.b.toList).toNat
  if x.op = 0 then row.take (row.length - 1)
  else if x.op = 1 then row.take i ++ [x.value] ++ row.drop i
  else if x.op = 3 then row.take i ++ [cutV ((valAt row i).s.data.toList ++ if (valAt row (i + 1)).s.toList = [] then [] else x.sep.data.toList ++ (valAt row (i + 1)).s.data.toList)] ++ row.drop (i + 2)
  else if x.op = 4 then
    let at' := if k < i then i - 1 else i
    let s := qby (valAt row at').s.data.toList x.sep.data.toList
    (row.set at' s.1).take k ++ [s.2] ++ (row.set at' s.1).drop k
  else if x.op = 5 then row.set i (convP (valAt row i) (colAt cols i).type ⟨(colAt cols i).type, 0, ⟨#[]⟩⟩)
  else if x.op = 6 then row.set i ⟨0, IntKind.i64.wrap ((valAt row i).n.tdiv x.n), ⟨#[]⟩⟩
  else row
def qcr : List Lens → List (List Col) → List Val → List Val
  | [], _, row => row
  | x :: l, ss, row => qcr l ss.tail (fwdP x (ss.headD []) row)
def qem : List Lens → List (List Col) → List Val → List Val
  | [], _, row => row
  | x :: l, ss, row => bckP x (ss.headD []) (qem l ss.tail row)
def qcp (x : Lens) (cols : List Col) : Option (List Val) :=
  let i := (findP cols x.a.toList).toNat
  let row := qbm cols
  let t := (colAt cols i).type
  if x.op = 1 then some (if Val.eqB (valAt row i) x.value then row.set i (if t = 0 then ⟨0, 1, ⟨#[]⟩⟩ else if t = 1 then ⟨1, 0, ⟨#[97]⟩⟩ else ⟨2, 1, ⟨#[]⟩⟩) else row)
  else if x.op = 3 ∨ x.op = 4 then some (row.set i ⟨1, 0, x.sep⟩)
  else if x.op = 5 then (if t = 2 ∨ t = 0 ∧ x.n = 1 then none else some (if t = 0 then row.set i ⟨0, 2, ⟨#[]⟩⟩ else row))
  else if x.op = 6 then (if x.n = 1 ∨ x.n = -1 then none else some (row.set i ⟨0, 9223372036854775807, ⟨#[]⟩⟩))
  else none
def lostP : List Lens → List (List Col) → Nat → Bool × Int × List Val
  | [], _, _ => (true, 0, [])
  | x :: l, ss, j => match qcp x (ss.headD []) with
    | some row => (false, j, row)
    | none => lostP l ss.tail (j + 1)
end Go.Proofs.YtbkkjlcclddpdaaGreatDoor

/- The law ShapeFinds: it returns true. -/
namespace Go.Proofs.YtbkkjlcclddpdaaGreatDoor
open Go.RowKit Go.Lib
theorem findP_hit {L : List Col} {s : List UInt8} {i : Nat} (h : i < L.length) (hs : L[i].name.toList = s) : 0 ≤ findP L s ∧ findP L s ≤ i := by
  have h1 := idxP_any (p := fun c : Col => c.name.toList == s) L
  have h2 : L.any (fun c : Col => c.name.toList == s) = true := List.any_eq_true.2 ⟨L[i], List.getElem_mem h, by simpa using hs⟩
  rw [h2, decide_eq_true_eq] at h1
  have h1 : 0 ≤ findP L s := h1
  refine ⟨h1, ?_⟩
  obtain ⟨k, hk⟩ : ∃ k : Nat, findP L s = k := ⟨(findP L s).toNat, by omega⟩
  obtain ⟨hk1, hk2, hk3⟩ := idxP_lt (p := fun c : Col => c.name.toList == s) hk
  by_cases hlt : i < k
  · have := hk3 i h hlt
    simp [hs] at this
  · omega
theorem findP_at {L : List Col} {s : List UInt8} {i : Nat} (h : findP L s = i) : ∃ hi : i < L.length, L[i].name.toList = s := by
  obtain ⟨hk1, hk2, -⟩ := idxP_lt (p := fun c : Col => c.name.toList == s) h
  exact ⟨hk1, by simpa using hk2⟩
end Go.Proofs.YtbkkjlcclddpdaaGreatDoor

/- The law ShapeFits: it returns true. -/
namespace Go.Proofs.YtbkkjlcclddpdaaGreatDoor
open Go.RowKit Go.Lib
end Go.Proofs.YtbkkjlcclddpdaaGreatDoor
