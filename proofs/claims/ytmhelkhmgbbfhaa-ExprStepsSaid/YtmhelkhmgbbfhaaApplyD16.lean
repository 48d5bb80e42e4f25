/- The reference's operations, all of them. -/
import Derived.Test.YtmhelkhmgbbfhaaApply16
namespace Go.Proofs.Ytmhelkhmgbbfhaa
open Go.RowKit Go.Lib

theorem apply_any {F : List Fn} {c p ts : List Int} {op n t : Int} {s : ByteArray} (call : Int → List Val → Val) (time : Int) (R P vs : List Val) (hk : vs.map Val.k = ts) (hv : ∀ v ∈ vs, soundV v) (ht : tailT F c p op n s ts = some t)
    (h3 : op ≠ 3) (h4 : op ≠ 4) (h5 : op ≠ 5) (h21 : op ≠ 21) (h22 : op ≠ 22) (A : Option Addr) (len cap : Nat) (vl : Value) (w : World) (hl : Rd w Any (.sl (vs.map Val.d)) [vl]) :
    Calls Try.prog 44 #[.agg #[.int .i64 op, .int .i64 n, .string s, .slice A len cap], vl] w fun r w' => r = .returned (opV call time R P op n s vs).v ∧ Ext w w' := by
  unfold tailT at ht
  split at ht
  · cases ht
  try rw [if_neg h22] at ht
  split at ht
  · unfold leafT at ht
    split at ht
    · rename_i h1; subst h1; exact rap_int n s A len cap vl w
    split at ht
    · rename_i h1; subst h1; exact rap_bool n s A len cap vl w
    try rw [if_neg h3] at ht
    try rw [if_neg h4] at ht
    split at ht
    · rename_i h1; subst h1; exact rap_text n s A len cap vl w
    try rw [if_neg h5] at ht
    cases ht
  · unfold operT at ht
    split at ht
    · cases ht
    split at ht
    · rename_i h1
      split at ht
      · rename_i hts
        obtain ⟨x, rfl, -⟩ := one_of (hk.trans hts)
        subst h1; exact rap_not n s A len cap x vl w hl
      · cases ht
    split at ht
    · rename_i h1
      split at ht
      · rename_i hts
        obtain ⟨x, rfl, -⟩ := one_of (hk.trans hts)
        subst h1; exact rap_neg n s A len cap x vl w hl
      · cases ht
    split at ht
    · rename_i h1
      split at ht
      · rename_i hts
        obtain ⟨x, rfl, -⟩ := one_of (hk.trans hts)
        subst h1; exact rap_len n s A len cap x vl w hl
      · cases ht
    split at ht
    · rename_i h1
      split at ht
      · rename_i hts
        obtain ⟨x, y, rfl, -, -⟩ := two_of (hk.trans hts)
        have h2 : op = 8 ∨ op = 9 ∨ op = 10 ∨ op = 11 ∨ op = 12 := by omega
        rcases h2 with rfl | rfl | rfl | rfl | rfl
        · exact rap_add n s A len cap x y vl w hl
        · exact rap_sub n s A len cap x y vl w hl
        · exact rap_mul n s A len cap x y vl w hl
        · exact rap_div n s A len cap x y vl w hl
        · exact rap_mod n s A len cap x y vl w hl
      · cases ht
    split at ht
    · rename_i h1
      split at ht
      · rename_i a b
        split at ht
        · rename_i hab
          obtain ⟨x, y, rfl, hx, hy⟩ := two_of hk
          have hc := less_cmp (hv x (by simp)) (hv y (by simp)) (by rw [hx, hy, hab])
          have h2 : op = 13 ∨ op = 14 ∨ op = 15 ∨ op = 16 := by omega
          rcases h2 with rfl | rfl | rfl | rfl
          · exact rap_eq n s A len cap x y vl w hl
          · exact rap_ne n s A len cap x y vl w hl
          · have := rap_lt n s A len cap x y vl w hl
            have he : boolV (lessB x y) = opV call time R P 15 n s [x, y] := by
              show _ = boolV (decide (cmpV x y < 0))
              congr 1
              rw [Bool.eq_iff_iff, decide_eq_true_eq]; exact hc.1.symm
            rwa [he] at this
          · have := rap_le n s A len cap x y vl w hl
            have he : boolV (!lessB y x) = opV call time R P 16 n s [x, y] := by
              show _ = boolV (decide (cmpV x y ≤ 0))
              congr 1
              rw [Bool.eq_iff_iff, decide_eq_true_eq, hc.2]; simp
            rwa [he] at this
        · cases ht
      · cases ht
    split at ht
    · rename_i h1
      split at ht
      · rename_i hts
        obtain ⟨x, y, rfl, -, -⟩ := two_of (hk.trans hts)
        have h2 : op = 17 ∨ op = 18 := by omega
        rcases h2 with rfl | rfl
        · exact rap_and n s A len cap x y vl w hl
        · exact rap_or n s A len cap x y vl w hl
      · cases ht
    split at ht
    · rename_i h1
      split at ht
      · rename_i hts
        obtain ⟨x, y, rfl, -, -⟩ := two_of (hk.trans hts)
        have hx := (hv x (by simp)).2
        have hy := (hv y (by simp)).2
        subst h1; exact rap_concat n s A len cap x y vl w hl (by omega)
      · cases ht
    first
      | cases ht
      | rw [if_neg h21] at ht; cases ht
end Go.Proofs.Ytmhelkhmgbbfhaa
