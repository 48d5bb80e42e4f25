/- Walks of the reference: numbers, texts, tokens. -/
import Derived.Test.YtkhmlicikbnmdaaDoorGa30
import Derived.Test.YtkhmlicikbnmdaaDoorGf2
import Derived.Test.YtkhmlicikbnmdaaDoorGf3
import Derived.Test.YtkhmlicikbnmdaaDoorGf5
set_option linter.unusedSimpArgs false
set_option linter.unusedVariables false
namespace Go.Proofs.YtkhmlicikbnmdaaDoor
open Go.RowKit Go.Lib

def zeroTk : AV := .agg [.int 0, .str ⟨#[]⟩, .int 0, .int 0]
/-- what number returns -/
def numAv (w : List UInt8) : AV := match wordTk w with
  | .ok t => .tup [tkAv (t, 0), .int 0]
  | .error e => .tup [zeroTk, .int e]
set_option maxHeartbeats 2000000 in
theorem rnumber_g (w : List UInt8) (hw : w.length ≤ 1000000) (c : UInt8) (m : List UInt8) (hWc : w = c :: m) (hdc : digitC c = true) : Gives Tryd.prog 85 [.str (bytesA w)] (numAv w) := by
  have hwt : wordTk w = if w.all digitC = false ∨ m ≠ [] ∧ c = 48 then .error 11 else match intP w with
        | some n => .ok ⟨1, w, n⟩
        | none => .error 3 := by rw [hWc]; show (if digitC c = true then _ else _) = _; rw [if_pos hdc]; rfl
  have hws : (bytesA w).size = w.length := bytesA_size' w
  have hws3 : (bytesA w).data.size = w.length := hws
  have hwl : w.length = m.length + 1 := by rw [hWc]; rfl
  have hbg : ∀ (j : Nat) (h : j < w.length) (h2 : j < (bytesA w).data.size), (bytesA w).data[j] = w[j] := fun j h h2 => by rw [← Array.getElem_toList]; rfl
  have hig := rint_g (bytesA w) (by omega)
  rw [bytesA_data] at hig
  obtain ⟨X, hX⟩ : ∃ X, X = numAv w := ⟨_, rfl⟩
  rw [← hX]
  unfold numAv at hX
  rw [hwt] at hX
  have hXcl : ∀ n, X.cl n := fun n => by rw [hX]; split <;> simp [zeroTk]
  refine gives_of_awp Tryd.func85 Tryd.ntmps85 rfl rfl (by decide) rfl hXcl fun σ n0 hcl hft => ?_
  repeat' (first | ((first | ((with_reducible refine aguard (fun hg => ?_) (fun hg => ?_)) <;> (try simp only [hg]) <;> (try simp only [beq_iff_eq, beq_eq_false_iff_ne, ne_eq, decide_eq_true_eq, decide_eq_false_iff_not, bne_iff_ne, bne_eq_false_iff_eq] at hg) <;> (try (first | simp only [eq_false hg, if_true, if_false] | simp only [eq_true hg, if_true, if_false]))) | with_reducible refine aseq_step ?_ | with_reducible refine any_step' ?_ | with_reducible refine aseq_end ?_ | with_reducible refine any_end' ?_ | refine awp_condC ?_ | refine awp_exit ?_ | refine awp_skip ?_ | refine awp_ret ?_) <;> (try simp (disch := first | omega | simp) [wrap_i64, -aseqC, -anyC])) | (refine And.intro ?_ ?_; (first | omega | assumption | (simp; done))) | (refine awp_seq_k fun K hK => ?_) | (refine awp_regionC ?_) | (refine awp_anyA true (by kernel_rfl) (by kernel_rfl) ?_) | (refine hK _ ?_; clear hK; clear K) | (clear hK; clear K; refine hK _ ?_; clear hK; clear K) | (clear hK; clear K; clear hK; clear K; refine hK _ ?_; clear hK; clear K) | refine awp_block ?_)
  refine awp_loopC hcl (fun j : Nat => [(0, .str (bytesA w)), (2, .ptr n0 0), (4, .int j)]) (fun _ => [.cells [.int 0, .str ⟨#[]⟩, .int 0, .int 0] 43]) (fun j => j ≤ w.length ∧ ∀ i (h : i < w.length), i < j → digitC w[i] = true) (fun j => w.length - j) 0 ⟨Nat.zero_le _, fun i _ h => by omega⟩ (by simp; rfl) fun j ⟨hj, hin⟩ => ?_
  by_cases hlt : j < w.length
  · have hlt3 : j < (bytesA w).data.size := by omega
    have hb := hbg j hlt hlt3
    have hdg := rdigit17_g w[j]
    cases hd : digitC w[j] with
    | true =>
      rw [hd] at hdg
      repeat' (first | ((first | ((with_reducible refine aguard (fun hg => ?_) (fun hg => ?_)) <;> (try simp only [hg]) <;> (try simp only [beq_iff_eq, beq_eq_false_iff_ne, ne_eq, decide_eq_true_eq, decide_eq_false_iff_not, bne_iff_ne, bne_eq_false_iff_eq] at hg) <;> (try (first | simp only [eq_false hg, if_true, if_false] | simp only [eq_true hg, if_true, if_false]))) | with_reducible refine aseq_step ?_ | with_reducible refine any_step' ?_ | with_reducible refine aseq_end ?_ | with_reducible refine any_end' ?_ | refine acall (hdg) ?_ | refine agives (hdg) ?_ | refine awp_condC ?_ | refine awp_exit ?_ | refine awp_skip ?_ | refine awp_ret ?_) <;> (try simp (disch := first | omega | simp) [wrap_i64, -aseqC, -anyC, hws, hws3, hlt, hlt3, hb])) | (refine And.intro ?_ ?_; (first | omega | assumption | (simp; done))) | (refine awp_seq_k fun K hK => ?_) | (refine awp_regionC ?_) | (refine awp_anyA true (by kernel_rfl) (by kernel_rfl) ?_) | (refine hK _ ?_; clear hK; clear K) | (clear hK; clear K; refine hK _ ?_; clear hK; clear K) | (clear hK; clear K; clear hK; clear K; refine hK _ ?_; clear hK; clear K) | refine awp_block ?_)
      refine ⟨j + 1, ⟨by omega, fun i hi hij => ?_⟩, by omega, by omega⟩
      by_cases e : i = j
      · subst e; exact hd
      · exact hin i hi (by omega)
    | false =>
      rw [hd] at hdg
      have hall : w.all digitC = false := by
        rw [List.all_eq_false]
        exact ⟨w[j], List.getElem_mem hlt, by rw [hd]; simp⟩
      rw [if_pos (.inl hall)] at hX
      repeat' (first | ((first | ((with_reducible refine aguard (fun hg => ?_) (fun hg => ?_)) <;> (try simp only [hg]) <;> (try simp only [beq_iff_eq, beq_eq_false_iff_ne, ne_eq, decide_eq_true_eq, decide_eq_false_iff_not, bne_iff_ne, bne_eq_false_iff_eq] at hg) <;> (try (first | simp only [eq_false hg, if_true, if_false] | simp only [eq_true hg, if_true, if_false]))) | with_reducible refine aseq_step ?_ | with_reducible refine any_step' ?_ | with_reducible refine aseq_end ?_ | with_reducible refine any_end' ?_ | refine acall (hdg) ?_ | refine agives (hdg) ?_ | refine awp_condC ?_ | refine awp_exit ?_ | refine awp_skip ?_ | refine awp_ret ?_) <;> (try simp (disch := first | omega | simp) [wrap_i64, -aseqC, -anyC, hws, hws3, hlt, hlt3, hb])) | (refine And.intro ?_ ?_; (first | omega | assumption | (simp; done))) | (refine awp_seq_k fun K hK => ?_) | (refine awp_regionC ?_) | (refine awp_anyA true (by kernel_rfl) (by kernel_rfl) ?_) | (refine hK _ ?_; clear hK; clear K) | (clear hK; clear K; refine hK _ ?_; clear hK; clear K) | (clear hK; clear K; clear hK; clear K; refine hK _ ?_; clear hK; clear K) | refine awp_block ?_)
      all_goals (rw [hX]; rfl)
  · obtain rfl : j = w.length := by omega
    have hall : w.all digitC = true := by
      rw [List.all_eq_true]
      intro x hx
      obtain ⟨i, hi, rfl⟩ := List.mem_iff_getElem.1 hx
      exact hin i hi hi
    have h0 : 0 < w.length := by omega
    have hb0 : (bytesA w).data[0]'(by omega) = c := by rw [hbg 0 h0 (by omega)]; simp [hWc]
    by_cases h01 : m ≠ [] ∧ c = 48
    · rw [if_pos (.inr h01)] at hX
      have g3 : (1 : Int) < (m.length : Int) + 1 := by have := List.length_pos_iff.2 h01.1; omega
      have g4 : c.toNat = 48 := by rw [h01.2]; rfl
      rw [hwl] at hws hws3
      repeat' (first | ((first | ((with_reducible refine aguard (fun hg => ?_) (fun hg => ?_)) <;> (try simp only [hg]) <;> (try simp only [beq_iff_eq, beq_eq_false_iff_ne, ne_eq, decide_eq_true_eq, decide_eq_false_iff_not, bne_iff_ne, bne_eq_false_iff_eq] at hg) <;> (try (first | simp only [eq_false hg, if_true, if_false] | simp only [eq_true hg, if_true, if_false]))) | with_reducible refine aseq_step ?_ | with_reducible refine any_step' ?_ | with_reducible refine aseq_end ?_ | with_reducible refine any_end' ?_ | refine awp_condC ?_ | refine awp_exit ?_ | refine awp_skip ?_ | refine awp_ret ?_) <;> (try simp (disch := first | omega | simp) [wrap_i64, -aseqC, -anyC, hws, hws3, hwl, hb0, g3, g4])) | (refine And.intro ?_ ?_; (first | omega | assumption | (simp; done))) | (refine awp_seq_k fun K hK => ?_) | (refine awp_regionC ?_) | (refine awp_anyA true (by kernel_rfl) (by kernel_rfl) ?_) | (refine hK _ ?_; clear hK; clear K) | (clear hK; clear K; refine hK _ ?_; clear hK; clear K) | (clear hK; clear K; clear hK; clear K; refine hK _ ?_; clear hK; clear K) | refine awp_block ?_)
      all_goals first | (exfalso; omega) | (rw [hX]; rfl)
    · rw [if_neg fun e => e.elim (fun e => by rw [hall] at e; cases e) h01] at hX
      have g3 : ¬ ((1 : Int) < (m.length : Int) + 1 ∧ (c.toNat : Int) = 48) := fun e => h01 ⟨List.length_pos_iff.1 (by omega), UInt8.toNat_inj.1 (by have : (48 : UInt8).toNat = 48 := rfl; omega)⟩
      rw [hwl] at hws hws3
      cases hi : intP w with
      | none =>
        rw [hi] at hX hig
        dsimp only [Option.getD, Option.isSome] at hX hig
        repeat' (first | ((first | ((with_reducible refine aguard (fun hg => ?_) (fun hg => ?_)) <;> (try simp only [hg]) <;> (try simp only [beq_iff_eq, beq_eq_false_iff_ne, ne_eq, decide_eq_true_eq, decide_eq_false_iff_not, bne_iff_ne, bne_eq_false_iff_eq] at hg) <;> (try (first | simp only [eq_false hg, if_true, if_false] | simp only [eq_true hg, if_true, if_false]))) | with_reducible refine aseq_step ?_ | with_reducible refine any_step' ?_ | with_reducible refine aseq_end ?_ | with_reducible refine any_end' ?_ | refine acall (hig) ?_ | refine agives (hig) ?_ | refine awp_condC ?_ | refine awp_exit ?_ | refine awp_skip ?_ | refine awp_ret ?_) <;> (try simp (disch := first | omega | simp) [wrap_i64, -aseqC, -anyC, hws, hws3, hwl, hb0])) | (refine And.intro ?_ ?_; (first | omega | assumption | (simp; done))) | (refine awp_seq_k fun K hK => ?_) | (refine awp_regionC ?_) | (refine awp_anyA true (by kernel_rfl) (by kernel_rfl) ?_) | (refine hK _ ?_; clear hK; clear K) | (clear hK; clear K; refine hK _ ?_; clear hK; clear K) | (clear hK; clear K; clear hK; clear K; refine hK _ ?_; clear hK; clear K) | refine awp_block ?_)
        all_goals first | (exfalso; omega) | (rw [hX]; rfl)
      | some n =>
        rw [hi] at hX hig
        dsimp only [Option.getD, Option.isSome] at hX hig
        repeat' (first | ((first | ((with_reducible refine aguard (fun hg => ?_) (fun hg => ?_)) <;> (try simp only [hg]) <;> (try simp only [beq_iff_eq, beq_eq_false_iff_ne, ne_eq, decide_eq_true_eq, decide_eq_false_iff_not, bne_iff_ne, bne_eq_false_iff_eq] at hg) <;> (try (first | simp only [eq_false hg, if_true, if_false] | simp only [eq_true hg, if_true, if_false]))) | with_reducible refine aseq_step ?_ | with_reducible refine any_step' ?_ | with_reducible refine aseq_end ?_ | with_reducible refine any_end' ?_ | refine acall (hig) ?_ | refine agives (hig) ?_ | refine awp_condC ?_ | refine awp_exit ?_ | refine awp_skip ?_ | refine awp_ret ?_) <;> (try simp (disch := first | omega | simp) [wrap_i64, -aseqC, -anyC, hws, hws3, hwl, hb0])) | (refine And.intro ?_ ?_; (first | omega | assumption | (simp; done))) | (refine awp_seq_k fun K hK => ?_) | (refine awp_regionC ?_) | (refine awp_anyA true (by kernel_rfl) (by kernel_rfl) ?_) | (refine hK _ ?_; clear hK; clear K) | (clear hK; clear K; refine hK _ ?_; clear hK; clear K) | (clear hK; clear K; clear hK; clear K; refine hK _ ?_; clear hK; clear K) | refine awp_block ?_)
        all_goals first | (exfalso; omega) | (rw [hX]; rfl)
end Go.Proofs.YtkhmlicikbnmdaaDoor
