/- Walk: the law LexTells. -/
import Derived.Test.YtkhmlicikbnmdaaDoorGa31
import Derived.Test.YtkhmlicikbnmdaaDoorGa32
import Derived.Test.YtkhmlicikbnmdaaDoorGf1
import Derived.Test.YtkhmlicikbnmdaaDoorGf9
import Derived.Test.YtkhmlicikbnmdaaDoorGf10
set_option linter.unusedSimpArgs false
set_option linter.unusedVariables false
namespace Go.Proofs.YtkhmlicikbnmdaaDoor
open Go.RowKit Go.Lib

set_option maxRecDepth 100000 in
set_option maxHeartbeats 4000000 in
theorem lexTells_g (s : ByteArray) : Gives Tryd.prog 10 [.str s] (.bool true) := by
  have hsm := small17_g
  have hsz : s.data.toList.length = s.size := by rw [← Lib.size_eq]
  by_cases hbig : 9000 < s.size
  · have hbig' : (9000 : Int) < s.size := by omega
    refine gives_of_awp Tryd.func10 Tryd.ntmps10 rfl rfl (by decide) rfl (by intro n; simp) fun σ n0 hcl hft => ?_
    repeat' (first | ((first | ((with_reducible refine aguard (fun hg => ?_) (fun hg => ?_)) <;> (try simp only [hg]) <;> (try simp only [beq_iff_eq, beq_eq_false_iff_ne, ne_eq, decide_eq_true_eq, decide_eq_false_iff_not, bne_iff_ne, bne_eq_false_iff_eq] at hg) <;> (try (first | simp only [eq_false hg, if_true, if_false] | simp only [eq_true hg, if_true, if_false]))) | with_reducible refine aseq_step ?_ | with_reducible refine any_step' ?_ | with_reducible refine aseq_end ?_ | with_reducible refine any_end' ?_ | refine acall (hsm) ?_ | refine agives (hsm) ?_ | refine awp_condC ?_ | refine awp_exit ?_ | refine awp_skip ?_ | refine awp_ret ?_) <;> (try simp (disch := first | omega | simp) [wrap_i64, -aseqC, -anyC, hbig'])) | (refine And.intro ?_ ?_; (first | omega | assumption | (simp; done))) | (refine awp_seq_k fun K hK => ?_) | (refine awp_regionC ?_) | (refine awp_anyA true (by kernel_rfl) (by kernel_rfl) ?_) | (refine hK _ ?_; clear hK; clear K) | (clear hK; clear K; refine hK _ ?_; clear hK; clear K) | (clear hK; clear K; clear hK; clear K; refine hK _ ?_; clear hK; clear K) | refine awp_block ?_)
  · have hbig' : ¬ (9000 : Int) < s.size := by omega
    have h1 := lex_g s (by omega)
    have h2 := rlex_g s (by omega)
    obtain ⟨L, e, m, hR, hlen, hk, hlines, hw⟩ : ∃ (L : List (Tk × Nat)) (e m : Nat), lexAv (lexP s.data.toList) = .tup [.sl (L.map tkAv), .int e, .int m] ∧ L.length ≤ 10000 ∧ (∀ x ∈ L, x.1.kind ≤ 5 ∧ x.1.text.length ≤ 1000000) ∧ (∀ x ∈ L, x.2 ≤ 1000000) ∧ (writeP L).length ≤ 1000000 := by
      cases hR : lexP s.data.toList with
      | error x => exact ⟨[], x.1, x.2, rfl, by simp, fun x hx => by (cases hx), fun x hx => by (cases hx), by simp [writeP]⟩
      | ok L =>
        unfold lexP at hR
        split at hR
        · cases hR
        · obtain ⟨p1, p2, p3⟩ := lex_ok _ s.data.toList (Nat.le_refl _) _ _ _ _ (by omega) hR
          obtain ⟨p4, p5⟩ := lex_facts _ s.data.toList (Nat.le_refl _) _ _ _ _ (by omega) hR
          exact ⟨L, 0, 0, rfl, by omega, fun x hx => ⟨(p4 x hx).1, by have := (p4 x hx).2; omega⟩, fun x hx => by have := okToks_lines p2 x hx; omega, by omega⟩
    rw [hR] at h1 h2
    have h3 := rsame17_g L L 0 (by omega) (by omega) (by omega) hlines
    rw [later_zero, decide_eq_true rfl] at h3
    have h4 := write_g L (by omega) hk (by omega)
    have h5 := rwrite_g L (by omega) hk (by omega)
    refine gives_of_awp Tryd.func10 Tryd.ntmps10 rfl rfl (by decide) rfl (by intro n; simp) fun σ n0 hcl hft => ?_
    repeat' (first | ((first | ((with_reducible refine aguard (fun hg => ?_) (fun hg => ?_)) <;> (try simp only [hg]) <;> (try simp only [beq_iff_eq, beq_eq_false_iff_ne, ne_eq, decide_eq_true_eq, decide_eq_false_iff_not, bne_iff_ne, bne_eq_false_iff_eq] at hg) <;> (try (first | simp only [eq_false hg, if_true, if_false] | simp only [eq_true hg, if_true, if_false]))) | with_reducible refine aseq_step ?_ | with_reducible refine any_step' ?_ | with_reducible refine aseq_end ?_ | with_reducible refine any_end' ?_ | refine acall (hsm) ?_ | refine agives (hsm) ?_ | refine acall (h1) ?_ | refine agives (h1) ?_ | refine acall (h2) ?_ | refine agives (h2) ?_ | refine acall (h3) ?_ | refine agives (h3) ?_ | refine acall (h4) ?_ | refine agives (h4) ?_ | refine acall (h5) ?_ | refine agives (h5) ?_ | refine awp_condC ?_ | refine awp_exit ?_ | refine awp_skip ?_ | refine awp_ret ?_) <;> (try simp (disch := first | omega | simp) [wrap_i64, -aseqC, -anyC, hbig'])) | (refine And.intro ?_ ?_; (first | omega | assumption | (simp; done))) | (refine awp_seq_k fun K hK => ?_) | (refine awp_regionC ?_) | (refine awp_anyA true (by kernel_rfl) (by kernel_rfl) ?_) | (refine hK _ ?_; clear hK; clear K) | (clear hK; clear K; refine hK _ ?_; clear hK; clear K) | (clear hK; clear K; clear hK; clear K; refine hK _ ?_; clear hK; clear K) | refine awp_block ?_)
end Go.Proofs.YtkhmlicikbnmdaaDoor
