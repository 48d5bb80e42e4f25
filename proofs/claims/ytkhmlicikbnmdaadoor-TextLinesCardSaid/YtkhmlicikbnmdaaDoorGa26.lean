/- The laws of chapter 02, on plain data. -/
import Derived.Test.YtkhmlicikbnmdaaDoorGa24
import Derived.Test.YtkhmlicikbnmdaaDoorGa25
set_option linter.unusedSimpArgs false
set_option linter.unusedVariables false
namespace Go.Proofs.YtkhmlicikbnmdaaDoor
open Go.RowKit Go.Lib

/- stars -/
theorem pat_star (p s : List UInt8) : patP (42 :: p) s = (List.range (s.length + 1)).any fun k => patP p (s.drop k) := by
  unfold patP
  rw [parts_star, Bool.eq_iff_iff, mat_star, List.any_eq_true]
  constructor
  · rintro ⟨k, hk, h⟩; exact ⟨k, List.mem_range.2 (by omega), h⟩
  · rintro ⟨k, hk, h⟩; exact ⟨k, by have := List.mem_range.1 hk; omega, h⟩
theorem pat_begin {p : List UInt8} (s : List UInt8) (h : p.getLast? ≠ some 92) : patP (p ++ [42]) s = (List.range (s.length + 1)).any fun k => patP p (s.take k) := by
  unfold patP
  rw [parts_snoc (Nat.le_refl _) h, Bool.eq_iff_iff, List.any_eq_true]
  have := mat_snoc_star (l := partsP p) (s := s) (k := s.length) (Nat.le_refl _)
  rw [List.take_length] at this
  rw [this]
  constructor
  · rintro ⟨k, hk, h⟩; exact ⟨k, List.mem_range.2 (by omega), h⟩
  · rintro ⟨k, hk, h⟩; exact ⟨k, by have := List.mem_range.1 hk; omega, h⟩
theorem pat_any (p s : List UInt8) : patP (63 :: p) s = (!s.isEmpty && patP p (s.drop 1)) := by
  unfold patP
  rw [parts_any]
  cases s with
  | nil => rw [mat_nilS (by simp)]; rfl
  | cons c s => rw [mat_consS (by simp)]; rfl
theorem pat_esc (t p s : List UInt8) : patP (escP t ++ p) (t ++ s) = patP p s := by
  unfold patP
  rw [parts_esc, mat_bytes]
theorem any_range_succ (f : Nat → Bool) (n : Nat) : (List.range (n + 1)).any f = ((List.range n).any f || f n) := by
  rw [List.range_succ, List.any_append]; simp
/- patterns without magic -/
theorem head_byte_len {p : List UInt8} (h : p ≠ []) {b : UInt8} {n : Nat} (hh : head p = (.byte b, n)) : n = 2 ∨ n = 1 ∧ p.take 1 = [b] := by
  obtain ⟨c, r, rfl⟩ := List.exists_cons_of_ne_nil h
  by_cases hc : c = 42 ∨ c = 63 ∨ c = 91 ∨ c = 92
  · rcases hc with rfl | rfl | rfl | rfl
    · cases hh
    · cases hh
    · cases r with
      | nil => cases hh; exact .inr ⟨rfl, rfl⟩
      | cons d r =>
        by_cases hd : d = 33
        · subst hd
          rw [head_91] at hh
          split at hh
          · cases hh
          · split at hh
            · cases hh
            · cases hh; exact .inr ⟨rfl, rfl⟩
        · rw [head_91' hd] at hh
          split at hh
          · cases hh
          · cases hh; exact .inr ⟨rfl, rfl⟩
    · cases r with
      | nil => cases hh; exact .inr ⟨rfl, rfl⟩
      | cons d r => cases hh; exact .inl rfl
  · rw [head_byte hc] at hh
    cases hh; exact .inr ⟨rfl, rfl⟩
theorem plain_parts : ∀ (n : Nat) (p : List UInt8), p.length ≤ n → magicP p = false → partsP p = (plainP p).map .byte := fun n => by
  induction n with
  | zero =>
    intro p h _
    have : p = [] := List.eq_nil_of_length_eq_zero (by omega)
    subst this; rfl
  | succ n ih =>
    intro p h hm
    by_cases hp : p = []
    · subst hp; rfl
    · have hl := head_len hp
      have h0 := magic_at (l := p) (i := 0) (by cases p with | nil => exact absurd rfl hp | cons c r => simp)
      rw [List.drop_zero, Nat.zero_add, hm] at h0
      have h1 := h0.symm
      rw [Bool.or_eq_false_iff] at h1
      rw [partsP_cons hp, plainP_cons hp, List.map_append, ← ih _ (by rw [List.length_drop]; omega) h1.2]
      cases hh : head p with
      | mk x k =>
        rw [hh] at h1
        cases x with
        | byte b =>
          have ht : ptxt p = [b] := by
            unfold ptxt
            rcases head_byte_len hp hh with rfl | ⟨rfl, e⟩
            · rw [hh]; rfl
            · rw [hh]; exact e
          rw [ht]; rfl
        | star => cases h1.1
        | any => cases h1.1
        | cls s g => cases h1.1
theorem pat_plain {p : List UInt8} (h : magicP p = false) (s : List UInt8) : patP p s = decide (s = plainP p) := by
  rw [Bool.eq_iff_iff, decide_eq_true_eq]
  unfold patP
  rw [plain_parts _ p (Nat.le_refl _) h]
  exact mat_bytes_iff
theorem magic_esc (t : List UInt8) : magicP (escP t) = false := by
  unfold magicP
  have := parts_esc t []
  rw [List.append_nil] at this
  rw [this, partsP_nil, List.append_nil, List.any_map, List.any_eq_false]
  intro x _
  exact Bool.false_ne_true
theorem plain_esc (t : List UInt8) : plainP (escP t) = t := by
  have h := pat_plain (magic_esc t) t
  have h2 := pat_esc t [] []
  rw [List.append_nil, List.append_nil] at h2
  rw [h2] at h
  have : patP [] [] = true := rfl
  rw [this] at h
  exact (of_decide_eq_true h.symm).symm
theorem pat_esc_self (t : List UInt8) : patP (escP t) t = true := by
  have h2 := pat_esc t [] []
  rw [List.append_nil, List.append_nil] at h2
  rw [h2]; rfl
end Go.Proofs.YtkhmlicikbnmdaaDoor
