/- Scalars and lists of them as abstract values. -/
import Derived.Lib.ParseIntB
import Derived.Lib.ItoaLen
import Derived.Test.YtkhmlicikbnmdaaDoorGa9
set_option linter.unusedSimpArgs false
set_option linter.unusedVariables false
namespace Go.Proofs.YtkhmlicikbnmdaaDoor
open Go.RowKit Go.Lib

abbrev AV.int (n : Int) : AV := .v (.int .i64 n)
abbrev AV.str (s : ByteArray) : AV := .v (.string s)
abbrev AV.bool (b : Bool) : AV := .v (.bool b)
@[simp] theorem AV.wid_ints (l : List Int) : AV.wid (l.map AV.int) 1 := AV.wid_map (f := AV.int) (fun _ => rfl) l
@[simp] theorem AV.wid_strs (l : List ByteArray) : AV.wid (l.map AV.str) 1 := AV.wid_map (f := AV.str) (fun _ => rfl) l
@[simp] theorem AV.wid_bools (l : List Bool) : AV.wid (l.map AV.bool) 1 := AV.wid_map (f := AV.bool) (fun _ => rfl) l
@[simp] theorem AV.wid_bytes (l : List UInt8) : AV.wid (l.map AV.byte) 1 := AV.wid_map (f := AV.byte) (fun _ => rfl) l
@[simp] theorem AV.elms_bytes (l : List UInt8) : AV.elms (l.map AV.byte) := AV.elms_map (f := AV.byte) (fun _ => rfl) l
@[simp] theorem AV.elms_ints (l : List Int) : AV.elms (l.map AV.int) := AV.elms_map (f := AV.int) (fun _ => rfl) l
@[simp] theorem AV.elms_strs (l : List ByteArray) : AV.elms (l.map AV.str) := AV.elms_map (f := AV.str) (fun _ => rfl) l
@[simp] theorem AV.elms_bools (l : List Bool) : AV.elms (l.map AV.bool) := AV.elms_map (f := AV.bool) (fun _ => rfl) l
@[simp] theorem AV.cls_append (m : Nat) (a b : List AV) : AV.cls m (a ++ b) ↔ AV.cls m a ∧ AV.cls m b := by
  rw [AV.cls_iff, AV.cls_iff, AV.cls_iff]
  exact ⟨fun h => ⟨fun y hy => h y (by simp [hy]), fun y hy => h y (by simp [hy])⟩, fun h y hy => (List.mem_append.1 hy).elim (h.1 y) (h.2 y)⟩
@[simp] theorem AV.cls_map {α : Type} {f : α → AV} {m : Nat} (h : ∀ a, (f a).cl m) (l : List α) : AV.cls m (l.map f) := by
  rw [AV.cls_iff]
  intro x hx
  obtain ⟨a, -, rfl⟩ := List.mem_map.1 hx
  exact h a
@[simp] theorem AV.cls_ints (l : List Int) (m : Nat) : AV.cls m (l.map AV.int) := AV.cls_map (fun _ => by simp) l
@[simp] theorem AV.cls_strs (l : List ByteArray) (m : Nat) : AV.cls m (l.map AV.str) := AV.cls_map (fun _ => by simp) l
@[simp] theorem AV.cls_bools (l : List Bool) (m : Nat) : AV.cls m (l.map AV.bool) := AV.cls_map (fun _ => by simp) l
@[simp] theorem AV.cls_bytes (l : List UInt8) (m : Nat) : AV.cls m (l.map AV.byte) := AV.cls_map (fun _ => by simp) l
end Go.Proofs.YtkhmlicikbnmdaaDoor

/- Decimals, on plain data: what is written is read. -/
namespace Go.Proofs.YtkhmlicikbnmdaaDoor
open Go.Lib

theorem decDigits_small {u : Nat} (h : u < 10) : decDigits u = [UInt8.ofNat (48 + u)] := by rw [decDigits, dif_pos h]
theorem decDigits_big {u : Nat} (h : ¬ u < 10) : decDigits u = decDigits (u / 10) ++ [UInt8.ofNat (48 + u % 10)] := by rw [decDigits, dif_neg h]
theorem digit_nat {d : Nat} (h : d < 10) : (UInt8.ofNat (48 + d)).toNat = 48 + d := by
  rw [UInt8.toNat_ofNat']; omega
theorem decDigits_mem : ∀ (u : Nat), ∀ c ∈ decDigits u, 48 ≤ c.toNat ∧ c.toNat ≤ 57 := fun u => by
  induction u using Nat.strongRecOn with
  | _ u ih =>
    intro c hc
    by_cases h : u < 10
    · rw [decDigits_small h] at hc
      rw [List.mem_singleton.1 hc, digit_nat h]; omega
    · rw [decDigits_big h] at hc
      rcases List.mem_append.1 hc with hc | hc
      · exact ih (u / 10) (by omega) c hc
      · rw [List.mem_singleton.1 hc, digit_nat (by omega)]; omega
theorem decDigits_ne (u : Nat) : decDigits u ≠ [] := by
  by_cases h : u < 10
  · rw [decDigits_small h]; simp
  · rw [decDigits_big h]; simp
theorem parseUintM_append {M : Nat} : ∀ {l r : List UInt8} {a b : Nat}, parseUintM M a l = .ok b → parseUintM M a (l ++ r) = parseUintM M b r
  | [], r, a, b, h => by rw [parseUintM] at h; cases h; rfl
  | c :: l, r, a, b, h => by
    rw [parseUintM] at h
    rw [List.cons_append, parseUintM]
    split at h
    · rw [if_pos ‹_›]
      split at h
      · cases h
      · rw [if_neg ‹_›]
        split at h
        · cases h
        · rw [if_neg ‹_›]
          exact parseUintM_append h
    · cases h
theorem parse_digits {M : Nat} (hM : M ≤ 18446744073709551615) : ∀ (u : Nat), u ≤ M → parseUintM M 0 (decDigits u) = .ok u := fun u => by
  induction u using Nat.strongRecOn with
  | _ u ih =>
    intro hu
    by_cases h : u < 10
    · rw [decDigits_small h, parseUintM, digit_nat h, if_pos (by omega), if_neg (by omega), if_neg (by omega), parseUintM]
      congr 1; omega
    · rw [decDigits_big h, parseUintM_append (ih (u / 10) (by omega) (by omega)), parseUintM, digit_nat (by omega), if_pos (by omega), if_neg (by omega), if_neg (by omega), parseUintM]
      congr 1; omega
def i64 (v : Int) : Prop := -9223372036854775808 ≤ v ∧ v ≤ 9223372036854775807
theorem parse_itoa {v : Int} (h : i64 v) : parseIntB 64 (itoa v) = .ok v := by
  obtain ⟨h1, h2⟩ := h
  have hpu : ∀ u : Nat, u ≤ 18446744073709551615 → parseUintB 64 (decDigits u) = .ok u := fun u hu => by
    unfold parseUintB
    rw [if_neg (decDigits_ne u)]
    exact parse_digits (by decide) u (by simpa using hu)
  unfold itoa
  by_cases hn : v < 0
  · rw [if_pos hn]
    have e45 : (45 : UInt8).toNat = 45 := rfl
    unfold parseIntB
    dsimp only
    rw [if_pos (by rw [e45]; omega), hpu v.natAbs (by omega)]
    dsimp only
    rw [if_neg (by rw [e45]; omega), if_neg (by rw [e45]; simp; omega), if_pos e45]
    congr 1; omega
  · rw [if_neg hn]
    obtain ⟨c, r, hc⟩ := List.exists_cons_of_ne_nil (decDigits_ne v.toNat)
    have hcm := decDigits_mem v.toNat c (by rw [hc]; simp)
    have hp := hpu v.toNat (by omega)
    rw [hc] at hp ⊢
    unfold parseIntB
    dsimp only
    rw [if_neg (by omega), hp]
    dsimp only
    rw [if_neg (by simp; omega), if_neg (by omega), if_neg (by omega)]
    congr 1; omega
theorem parse_i64 {l : List UInt8} {v : Int} (h : parseIntB 64 l = .ok v) : i64 v := by
  unfold parseIntB at h
  split at h
  · cases h
  · dsimp only at h
    split at h
    · cases h
    · cases h
    · split at h
      · cases h
      · split at h
        · cases h
        · cases h
          unfold i64
          rename_i u _ h3 h4
          simp only [Nat.reduceSub, Nat.reducePow] at h3 h4
          split <;> omega
/-- what is read -/
def intP (l : List UInt8) : Option Int := match parseIntB 64 l with
  | .ok v => if itoa v = l then some v else none
  | _ => none
theorem intP_iff {l : List UInt8} {v : Int} : intP l = some v ↔ i64 v ∧ itoa v = l := by
  unfold intP
  constructor
  · intro h
    split at h
    · rename_i u hu
      split at h
      · cases h
        exact ⟨parse_i64 hu, ‹_›⟩
      · cases h
    · cases h
  · rintro ⟨h1, rfl⟩
    rw [parse_itoa h1]
    dsimp only
    rw [if_pos rfl]
theorem itoa_inj {v u : Int} (hv : i64 v) (hu : i64 u) (h : itoa v = itoa u) : v = u := by
  have h1 := parse_itoa hv
  rw [h, parse_itoa hu] at h1
  cases h1; rfl
end Go.Proofs.YtkhmlicikbnmdaaDoor

/- Decimals, on plain data: the reference's reader. -/
namespace Go.Proofs.YtkhmlicikbnmdaaDoor
open Go.Lib

theorem wrap_range (n : Int) : i64 (IntKind.i64.wrap n) := by
  unfold i64 IntKind.wrap
  simp (config := { decide := true }) only [IntKind.bits, IntKind.signed]
  simp only [Bool.true_and, decide_eq_true_eq, ge_iff_le, Nat.reduceSub]
  split <;> omega
/-- digits read as a negative number, wrapped -/
def rfold : List UInt8 → Int → Option Int
  | [], n => some n
  | c :: l, n => if c.toNat < 48 ∨ 57 < c.toNat then none else rfold l (IntKind.i64.wrap (IntKind.i64.wrap (n * 10) - (c.toNat - 48 : Nat)))
theorem rfold_append : ∀ {l r : List UInt8} {n : Int}, rfold (l ++ r) n = (rfold l n).bind (rfold r)
  | [], r, n => rfl
  | c :: l, r, n => by
    rw [List.cons_append, rfold, rfold]
    split
    · rfl
    · exact rfold_append
theorem wrap_id {n : Int} (h : i64 n) : IntKind.i64.wrap n = n := IntWalk.i64_in _ ⟨h.1, h.2⟩
theorem rfold_digits : ∀ (u : Nat), u ≤ 9223372036854775808 → rfold (decDigits u) 0 = some (-(u : Int)) := fun u => by
  induction u using Nat.strongRecOn with
  | _ u ih =>
    intro hu
    by_cases h : u < 10
    · rw [decDigits_small h, rfold, digit_nat h, if_neg (by omega), rfold, wrap_id (n := 0 * 10) (by unfold i64; omega), wrap_id (by unfold i64; omega)]
      congr 1; omega
    · rw [decDigits_big h, rfold_append, ih (u / 10) (by omega) (by omega)]
      show rfold _ _ = _
      rw [rfold, digit_nat (by omega), if_neg (by omega), rfold, wrap_id (n := -((u / 10 : Nat) : Int) * 10) (by unfold i64; omega), wrap_id (by unfold i64; omega)]
      congr 1; omega
/-- the digits of a string -/
def rbody (l : List UInt8) : List UInt8 := if l.head? = some 45 then l.tail else l
/-- what the reference reads -/
def rintP (l : List UInt8) : Option Int :=
  if l = [] ∨ 20 < l.length then none
  else match rfold (rbody l) 0 with
    | none => none
    | some n => let m := if l.head? = some 45 then n else IntKind.i64.wrap (-n)
      if itoa m = l then some m else none
theorem decDigits_len : ∀ (k u : Nat), u < 10 ^ k → 1 ≤ k → (decDigits u).length ≤ k
  | 0, _, _, h => by omega
  | k + 1, u, h, _ => by
    by_cases h10 : u < 10
    · rw [decDigits_small h10]; simp
    · rw [decDigits_big h10, List.length_append, List.length_singleton]
      have hk : 1 ≤ k := by
        cases k with
        | zero => simp at h; omega
        | succ k => omega
      have := decDigits_len k (u / 10) (by rw [Nat.pow_succ] at h; omega) hk
      omega
theorem itoa_len {v : Int} (h : i64 v) : (itoa v).length ≤ 20 ∧ itoa v ≠ [] := by
  obtain ⟨h1, h2⟩ := h
  unfold itoa
  split
  · have := decDigits_len 19 v.natAbs (by omega) (by decide)
    exact ⟨by rw [List.length_cons]; omega, by simp⟩
  · have := decDigits_len 19 v.toNat (by omega) (by decide)
    exact ⟨by omega, decDigits_ne _⟩
theorem rint_eq (l : List UInt8) : rintP l = intP l := by
  cases hi : intP l with
  | some v =>
    obtain ⟨h1, rfl⟩ := intP_iff.1 hi
    obtain ⟨h2, h3⟩ := itoa_len h1
    unfold rintP
    rw [if_neg (by rintro (h | h); exact h3 h; omega)]
    obtain ⟨h4, h5⟩ := h1
    by_cases hn : v < 0
    · have e : itoa v = 45 :: decDigits v.natAbs := by unfold itoa; rw [if_pos hn]
      have hb : rbody (itoa v) = decDigits v.natAbs := by rw [e]; rfl
      rw [hb, rfold_digits v.natAbs (by omega)]
      have hh : (itoa v).head? = some 45 := by rw [e]; rfl
      dsimp only
      rw [if_pos hh]
      have : (-(v.natAbs : Int)) = v := by omega
      rw [this, if_pos rfl]
    · have e : itoa v = decDigits v.toNat := by unfold itoa; rw [if_neg hn]
      have hh : ¬ (itoa v).head? = some 45 := by
        rw [e]
        obtain ⟨c, r, hc⟩ := List.exists_cons_of_ne_nil (decDigits_ne v.toNat)
        have hcm := decDigits_mem v.toNat c (by rw [hc]; simp)
        rw [hc]
        intro h
        cases h
        have e45 : (45 : UInt8).toNat = 45 := rfl
        omega
      have hb : rbody (itoa v) = decDigits v.toNat := by unfold rbody; rw [if_neg hh, e]
      rw [hb, rfold_digits v.toNat (by omega)]
      dsimp only
      rw [if_neg hh]
      have : (-(-(v.toNat : Int))) = v := by omega
      rw [this, wrap_id ⟨h4, h5⟩, if_pos rfl]
  | none =>
    unfold rintP
    split
    · rfl
    · cases hr : rfold (rbody l) 0 with
      | none => rfl
      | some n =>
        dsimp only
        have hm : i64 (if l.head? = some 45 then n else IntKind.i64.wrap (-n)) := by
          have key : ∀ (l : List UInt8) (n m : Int), i64 n → rfold l n = some m → i64 m := fun l => by
            induction l with
            | nil => intro n m h h2; rw [rfold] at h2; cases h2; exact h
            | cons c l ih =>
              intro n m h h2
              rw [rfold] at h2
              split at h2
              · cases h2
              · exact ih _ _ (wrap_range _) h2
          split
          · exact key _ 0 n (by unfold i64; omega) hr
          · exact wrap_range _
        generalize (if l.head? = some 45 then n else IntKind.i64.wrap (-n)) = m at hm
        by_cases he : itoa m = l
        · rw [intP_iff.2 ⟨hm, he⟩] at hi
          cases hi
        · rw [if_neg he]
end Go.Proofs.YtkhmlicikbnmdaaDoor
