/- Plain: what the laws LexTexts and LexWhite need. -/
import Derived.Test.YtkhmlicikbnmdaaDoorGa31
set_option linter.unusedSimpArgs false
set_option linter.unusedVariables false
namespace Go.Proofs.YtkhmlicikbnmdaaDoor
open Go.RowKit Go.Lib

theorem qP_len (l : List UInt8) : (qP l).length ≤ 4 * l.length + 2 := by
  have := qmid_len l
  show (34 :: (qmid l ++ [34])).length ≤ _
  simp; omega
theorem lexP_quote (s : List UInt8) (hs : s.length ≤ 300) : lexP (qP s) = if s.length > 200 then .error (11, 1) else .ok [(⟨2, s, 0⟩, 1), (⟨5, [], 0⟩, 1)] := by
  have hq := qP_len s
  unfold lexP
  rw [if_neg (by omega)]
  have ht := tok_quote s
  have hne : qP s ≠ [] := by show 34 :: _ ≠ []; simp
  by_cases h : s.length > 200
  · rw [if_pos h] at ht ⊢
    exact lex_err (skip_quote s) ht _ _ _ (by omega) (by omega)
  · rw [if_neg h] at ht ⊢
    exact lex_one (skip_quote s) hne ht _ _ _ (by omega) (by omega)
theorem part_head {c : UInt8} (h : partC c = true) : whiteC c = false ∧ c ≠ 35 := by
  have hall : ∀ n : _root_.Fin 256, partC (UInt8.ofNat n.1) = true → whiteC (UInt8.ofNat n.1) = false ∧ UInt8.ofNat n.1 ≠ 35 := by decide +kernel
  have := hall ⟨c.toNat, c.toNat_lt⟩ (by simpa using h)
  simpa using this
theorem lexP_name {l : List UInt8} (h1 : l ≠ []) (h2 : l.length ≤ 20) (h3 : ∀ c ∈ l, partC c = true) (h4 : ∀ c, l.head? = some c → digitC c = false) : lexP l = .ok [(⟨0, l, 0⟩, 1), (⟨5, [], 0⟩, 1)] := by
  unfold lexP
  rw [if_neg (by omega)]
  have hs : skipP false l = l := skip_self fun c hc => part_head (h3 c (by cases l with | nil => cases hc | cons d l => cases hc; simp))
  exact lex_one hs h1 (tok_name h1 h2 h3 h4) _ _ _ (by omega) (by omega)
theorem dec_skip (u : Nat) : skipP false (decDigits u) = decDigits u := skip_self fun c hc => part_head (digit_part (dec_digits u c (by
  cases hd : decDigits u with
  | nil => rw [hd] at hc; cases hc
  | cons d l => rw [hd] at hc; cases hc; simp)))
theorem lexP_dec {u : Nat} (hu : u ≤ 9223372036854775807) (hl : (decDigits u).length ≤ 100) : lexP (decDigits u) = .ok [(⟨1, decDigits u, u⟩, 1), (⟨5, [], 0⟩, 1)] := by
  unfold lexP
  rw [if_neg (by omega)]
  exact lex_one (dec_skip u) (decDigits_ne u) (tok_dec hu) _ _ _ (by omega) (by omega)
theorem lexP_neg {u : Nat} (hu : u ≤ 9223372036854775807) (hl : (decDigits u).length ≤ 100) : lexP (45 :: decDigits u) = .ok [(⟨3, [45], 0⟩, 1), (⟨1, decDigits u, u⟩, 1), (⟨5, [], 0⟩, 1)] := by
  unfold lexP
  rw [if_neg (by simp; omega)]
  have ht : tokP (45 :: decDigits u) = .ok (⟨3, [45], 0⟩, 1) := by
    have ho : operI (45 :: decDigits u) = 1 := by
      have n1 : ¬ ((45 : UInt8) = 33 ∨ (45 : UInt8) = 60 ∨ (45 : UInt8) = 62) := by decide
      have n2 : ¬ (45 : UInt8) = 43 := by decide
      rw [operI, if_neg (fun h => h.elim (fun h => n1 h.1) fun h => n2 h.1), if_pos (by decide)]
    rw [tokP, if_neg (by decide), if_neg (by decide), if_neg (by decide), ho]; rfl
  rw [lex_step, if_neg (by omega), show skipP false (45 :: decDigits u) = 45 :: decDigits u by rw [skipP, if_neg (by decide), if_neg (by decide)], ht]
  dsimp only
  rw [if_neg (by decide), List.drop_succ_cons, List.drop_zero, if_neg (by decide)]
  rw [lex_one (dec_skip u) (decDigits_ne u) (tok_dec hu) _ _ _ (by simp; omega) (by omega)]
  rfl
end Go.Proofs.YtkhmlicikbnmdaaDoor
