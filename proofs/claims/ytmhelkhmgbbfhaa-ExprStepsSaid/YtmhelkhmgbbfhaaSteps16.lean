/- Pure: steps of typed expressions; what is evaluated. -/
import Derived.Test.YtmhelkhmgbbfhaaEval16
import Derived.Test.YtmhelkhmgbbfhaaCountR16
namespace Go.Proofs.Ytmhelkhmgbbfhaa
open Go.RowKit Go.Lib

mutual
/-- an ExIf has three Args, a call one of the first m functions -/
def wfS (m : Nat) : Ex → Bool
  | .mk op n _ l => (!decide (op = 21) || decide (l.length = 3)) && (!decide (op = 22) || (decide (0 ≤ n) && decide (n < m))) && wfSL m l
def wfSL (m : Nat) : List Ex → Bool
  | [] => true
  | e :: l => wfS m e && wfSL m l
end
theorem wfSL_all (m : Nat) : ∀ l, wfSL m l = l.all (wfS m)
  | [] => by rw [wfSL]; rfl
  | e :: l => by rw [wfSL, wfSL_all m l]; rfl

theorem tys_len {F : List Fn} {c p : List Int} : ∀ (l : List Ex) {ts : List Int}, tys F c p l = some ts → ts.length = l.length
  | [], ts, h => by rw [tys] at h; cases h; rfl
  | e :: l, ts, h => by
    rw [tys] at h
    cases he : ty F c p e with
    | none => rw [he] at h; cases h
    | some t =>
      rw [he] at h
      cases hl : tys F c p l with
      | none => rw [hl] at h; cases h
      | some us => rw [hl] at h; cases h; simp [tys_len l hl]
theorem tail_ifW {F : List Fn} {c p : List Int} {n r : Int} {s : ByteArray} {ts : List Int} (h : tailT F c p 21 n s ts = some r) : ts.length = 3 := by
  unfold tailT at h
  split at h
  · cases h
  · rw [if_neg (by decide)] at h
    split at h
    · unfold leafT at h; simp at h
    · unfold operT at h
      split at h
      · cases h
      · simp at h
        split at h
        · rfl
        · cases h
theorem tail_callW {F : List Fn} {c p : List Int} {n r : Int} {s : ByteArray} {ts : List Int} (h : tailT F c p 22 n s ts = some r) : 0 ≤ n ∧ n < F.length := by
  unfold tailT at h
  split at h
  · cases h
  · rw [if_pos rfl] at h
    unfold callT at h
    split at h
    · cases h
    · split at h
      · rename_i hf
        have := (List.getElem?_eq_some_iff.1 hf).1
        omega
      · cases h
theorem wfS_of_ty {F : List Fn} {c p : List Int} (e : Ex) : ∀ {t : Int}, ty F c p e = some t → wfS F.length e = true := by
  induction e using Ex.ind with
  | h op n s l ih =>
    intro t ht
    rw [ty] at ht
    cases hl : tys F c p l with
    | none => rw [hl] at ht; cases ht
    | some ts =>
      rw [hl] at ht
      dsimp only at ht
      rw [wfS, wfSL_all]
      simp only [Bool.and_eq_true, List.all_eq_true, Bool.or_eq_true, Bool.not_eq_true', decide_eq_false_iff_not, decide_eq_true_eq]
      refine ⟨⟨?_, ?_⟩, fun e he => ?_⟩
      · by_cases ho : op = 21
        · subst ho; right; rw [← tys_len l hl]; exact tail_ifW ht
        · left; exact ho
      · by_cases ho : op = 22
        · subst ho; right; exact tail_callW ht
        · left; exact ho
      · obtain ⟨u, hu⟩ := tys_mem l hl e he
        exact ih e he hu

/-- the sum of numbers, cut at each addition, is the sum, cut -/
def sumI : List Int → Int
  | [] => 0
  | k :: l => k + sumI l
theorem sumI_nonneg : ∀ {l : List Int}, GoodS l → 0 ≤ sumI l
  | [], _ => by simp [sumI]
  | k :: l, h => by have := h k (by simp); have := sumI_nonneg (l := l) (fun x hx => h x (by simp [hx])); rw [sumI]; omega
theorem sumS_eq : ∀ (l : List Int) (n : Int), GoodS l → 0 ≤ n → n ≤ 1099511627776 → sumS n l = capS (n + sumI l)
  | [], n, _, h1, h2 => by rw [sumS, sumI]; unfold capS; omega
  | k :: l, n, hg, h1, h2 => by
    have hk := hg k (by simp)
    have hl : GoodS l := fun x hx => hg x (by simp [hx])
    have := capS_bd (n := n + k) (by omega)
    have h0 := sumI_nonneg hl
    rw [sumS, sumS_eq l _ hl this.1 this.2, sumI]
    unfold capS; omega
/-- the program adds the body of a call first -/
theorem sumS_swap {l : List Int} {b : Int} (h : GoodS l) (hb : 0 ≤ b) (hb2 : b ≤ 1099511627776) : sumS (capS (1 + b)) l = capS (sumS 1 l + b) := by
  have := capS_bd (n := 1 + b) (by omega)
  have h0 := sumI_nonneg h
  rw [sumS_eq l _ h this.1 this.2, sumS_eq l 1 h (by omega) (by omega)]
  unfold capS; omega
end Go.Proofs.Ytmhelkhmgbbfhaa
