/- Walk: lex.part. -/
import Derived.Test.YtkhmlicikbnmdaaDoorGa19
set_option linter.unusedSimpArgs false
set_option linter.unusedVariables false
namespace Go.Proofs.YtkhmlicikbnmdaaDoor
open Go.RowKit Go.Lib

/-- a byte with its sixth bit set, as the program reckons it -/
def low5 (n : Nat) : Int := IntKind.u8.wrap ↑(n % 2 ^ IntKind.u8.bits ||| 32 % 2 ^ IntKind.u8.bits)
theorem low5_part : ∀ c : _root_.Fin 256, partC (UInt8.ofNat c.1) = (decide (c.1 = 95) || (decide (48 ≤ c.1) && decide (c.1 ≤ 57)) || (decide (97 ≤ low5 c.1) && decide (low5 c.1 ≤ 122))) := by decide +kernel
theorem part_eq (c : UInt8) : partC c = (decide ((c.toNat : Int) = 95) || (decide (48 ≤ (c.toNat : Int)) && decide ((c.toNat : Int) ≤ 57)) || (decide (97 ≤ low5 c.toNat) && decide (low5 c.toNat ≤ 122))) := by
  have := low5_part ⟨c.toNat, c.toNat_lt⟩
  dsimp only at this
  rw [show UInt8.ofNat c.toNat = c by simp] at this
  rw [this]
  congr 1
  congr 1
  · exact decide_eq_decide.2 (by omega)
  · rw [show decide (48 ≤ c.toNat) = decide (48 ≤ (c.toNat : Int)) from decide_eq_decide.2 (by omega), show decide (c.toNat ≤ 57) = decide ((c.toNat : Int) ≤ 57) from decide_eq_decide.2 (by omega)]
theorem part_g (c : UInt8) : Gives Tryd.prog 76 [.v (.int .u8 c.toNat)] (.bool (partC c)) := by
  rw [part_eq c]
  obtain ⟨R, hR⟩ : ∃ R, R = (decide ((c.toNat : Int) = 95) || (decide (48 ≤ (c.toNat : Int)) && decide ((c.toNat : Int) ≤ 57)) || (decide (97 ≤ low5 c.toNat) && decide (low5 c.toNat ≤ 122))) := ⟨_, rfl⟩
  rw [← hR]
  unfold low5 at hR
  refine gives_of_awp Tryd.func76 Tryd.ntmps76 rfl rfl (by decide) rfl (by intro n; simp) fun σ n0 hcl hft => ?_
  repeat' (first | ((with_reducible refine aguard (fun hg => ?_) (fun hg => ?_)) <;> (try simp only [hg]) <;> (try simp only [beq_iff_eq, beq_eq_false_iff_ne, ne_eq, decide_eq_true_eq, decide_eq_false_iff_not, bne_iff_ne, bne_eq_false_iff_eq] at hg) <;> (try (first | simp only [eq_false hg, if_true, if_false] | simp only [eq_true hg, if_true, if_false])) <;> (try simp (disch := first | omega | simp) [wrap_i64, -aseqC, -anyC])) | (with_reducible refine aseq_step ?_; try simp (disch := first | omega | simp) [wrap_i64, -aseqC, -anyC]) | (with_reducible refine any_step' ?_; try simp (disch := first | omega | simp) [wrap_i64, -aseqC, -anyC]) | (with_reducible refine aseq_end ?_; try simp (disch := first | omega | simp) [wrap_i64, -aseqC, -anyC]) | (with_reducible refine any_end' ?_; try simp (disch := first | omega | simp) [wrap_i64, -aseqC, -anyC]) | ((first | with_reducible refine sideG ?_ ?_ | with_reducible refine sideG2 ?_ ?_ | with_reducible refine sideS ?_ ?_ | with_reducible refine sideS2 ?_ ?_ | with_reducible refine sideS3 ?_ ?_ | with_reducible refine sideA ?_ ?_ | with_reducible refine sideA2 ?_ ?_ | with_reducible refine sideA3 ?_ ?_); (first | omega | assumption | (simp; done))) | (refine awp_seq_k fun K hK => ?_) | (refine awp_regionC ?_) | (refine awp_anyA true (by kernel_rfl) (by kernel_rfl) ?_) | (refine awp_anyA false (by kernel_rfl) (by kernel_rfl) ?_) | (refine hK _ ?_; clear hK; clear K) | (clear hK; clear K; refine hK _ ?_; clear hK; clear K) | (clear hK; clear K; clear hK; clear K; refine hK _ ?_; clear hK; clear K) | refine awp_block ?_ | (refine awp_condC ?_; simp (disch := first | omega | simp) [wrap_i64, -aseqC, -anyC]) | (refine awp_exit ?_; try simp (disch := first | omega | simp) [wrap_i64, -aseqC, -anyC]) | (refine awp_skip ?_; try simp (disch := first | omega | simp) [wrap_i64, -aseqC, -anyC]) | (refine awp_ret ?_; try simp (disch := first | omega | simp) [wrap_i64, -aseqC, -anyC]))
  all_goals (rw [hR]; simp_all <;> omega)
end Go.Proofs.YtkhmlicikbnmdaaDoor
