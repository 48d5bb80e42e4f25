/- Plain: what the laws of chapter 17 need of tokens. -/
import Derived.Test.YtkhmlicikbnmdaaDoorGa30
import Derived.Test.YtkhmlicikbnmdaaDoorGa31
set_option linter.unusedSimpArgs false
set_option linter.unusedVariables false
namespace Go.Proofs.YtkhmlicikbnmdaaDoor
open Go.RowKit Go.Lib

theorem okToks_nil {m : Nat} : ¬ OkToks [] m := by rw [OkToks]; simp
theorem okToks_head {x : Tk × Nat} {L : List (Tk × Nat)} {m : Nat} (h : OkToks (x :: L) m) : x.2 = m ∧ (L = [] → x = (⟨5, [], 0⟩, m)) ∧ (L ≠ [] → OkTk x.1 ∧ OkToks L (if x.1.kind = 4 then m + 1 else m)) := by
  cases L with
  | nil => rw [OkToks] at h; subst h; exact ⟨rfl, fun _ => rfl, fun e => absurd rfl e⟩
  | cons y L =>
    have := (okToks_cons (by simp)).1 h
    refine ⟨this.1, ?_, fun _ => this.2⟩
    intro e; cases e
theorem okToks_lines : ∀ {L : List (Tk × Nat)} {m : Nat}, OkToks L m → ∀ x ∈ L, x.2 ≤ m + L.length
  | [], _, h, _, _ => absurd h okToks_nil
  | y :: L, m, h, x, hx => by
    obtain ⟨h1, h2, h3⟩ := okToks_head h
    rcases List.mem_cons.1 hx with rfl | hx
    · rw [h1, List.length_cons]; omega
    · have hL : L ≠ [] := fun e => by rw [e] at hx; cases hx
      have := okToks_lines (h3 hL).2 x hx
      rw [List.length_cons]
      split at this <;> omega
theorem lexF_err : ∀ (f : Nat) (l : List UInt8) (h m : Nat) (e n : Nat), lexF f l h m = .error (e, n) → e ≠ 0 ∧ n ≤ m + f
  | 0, _, _, _, e, n, h => by cases h; exact ⟨by decide, by omega⟩
  | f + 1, l, h, m, e, n, he => by
    rw [lex_step] at he
    split at he
    · cases he; exact ⟨by decide, by omega⟩
    · cases ht : tokP (skipP false l) with
      | error e' => rw [ht] at he; cases he; rcases tok_err ht with rfl | rfl <;> exact ⟨by decide, by omega⟩
      | ok tk =>
        obtain ⟨t, k⟩ := tk
        rw [ht] at he
        dsimp only at he
        split at he
        · cases he
        · cases hr : lexF f ((skipP false l).drop k) (h + 1) (if t.kind = 4 then m + 1 else m) with
          | error e' =>
            rw [hr] at he
            cases he
            have := lexF_err f _ _ _ _ _ hr
            exact ⟨this.1, by have := this.2; split at this <;> omega⟩
          | ok M => rw [hr] at he; cases he
theorem lexP_err {l : List UInt8} {e n : Nat} (h : lexP l = .error (e, n)) : e ≠ 0 ∧ n ≤ l.length + 3 := by
  unfold lexP at h
  split at h
  · cases h; exact ⟨by decide, by omega⟩
  · have := lexF_err _ _ _ _ _ _ h
    exact ⟨this.1, by omega⟩
theorem lexP_ok {l : List UInt8} {L : List (Tk × Nat)} (h : lexP l = .ok L) (hl : l.length ≤ 2500) : L ≠ [] ∧ OkToks L 1 ∧ L.length ≤ l.length + 1 ∧ (∀ x ∈ L, x.1.kind ≤ 5 ∧ x.1.text.length ≤ 200 + l.length) ∧ (writeP L).length ≤ 2 * l.length ∧ lexP (writeP L) = .ok L := by
  unfold lexP at h
  rw [if_neg (by omega)] at h
  obtain ⟨h1, h2, h3⟩ := lex_ok _ l (Nat.le_refl _) _ _ _ _ (by omega) h
  obtain ⟨h4, h5⟩ := lex_facts _ l (Nat.le_refl _) _ _ _ _ (by omega) h
  refine ⟨h1, h2, h3, h4, h5, ?_⟩
  unfold lexP
  rw [if_neg (by omega)]
  exact lex_back _ l (Nat.le_refl _) _ _ _ _ _ (by omega) (by omega) h
theorem later_zero (L : List (Tk × Nat)) : later 0 L = L := by unfold later; simp
end Go.Proofs.YtkhmlicikbnmdaaDoor
