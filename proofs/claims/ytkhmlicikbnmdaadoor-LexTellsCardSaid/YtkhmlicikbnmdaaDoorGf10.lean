/- Walk of the reference: Write. -/
import Derived.Test.YtkhmlicikbnmdaaDoorGa19
import Derived.Test.YtkhmlicikbnmdaaDoorGa27
import Derived.Test.YtkhmlicikbnmdaaDoorGf4
set_option linter.unusedSimpArgs false
set_option linter.unusedVariables false
namespace Go.Proofs.YtkhmlicikbnmdaaDoor
open Go.RowKit Go.Lib

set_option maxHeartbeats 4000000 in
theorem rwrite_g (L : List (Tk × Nat)) (hl : L.length ≤ 1000000) (hk : ∀ x ∈ L, x.1.kind ≤ 5 ∧ x.1.text.length ≤ 1000000) (hw : (writeP L).length ≤ 1000000000) : Gives Tryd.prog 32 [.sl (L.map tkAv)] (.str (bytesA (writeP L))) := by
  obtain ⟨R, hR⟩ : ∃ R, R = writeP L := ⟨_, rfl⟩
  rw [← hR] at hw ⊢
  have hcat : ∀ a b : List UInt8, bytesA a ++ bytesA b = bytesA (a ++ b) := fun a b => by
    apply ba_eq
    simp [ByteArray.data_append]
  have hcat1 : ∀ (a : List UInt8) (d : UInt8), bytesA a ++ ⟨#[d]⟩ = bytesA (a ++ [d]) := fun a d => by
    apply ba_eq
    simp [ByteArray.data_append]
  refine gives_of_awp Tryd.func32 Tryd.ntmps32 rfl rfl (by decide) rfl (by intro n; simp) fun σ n0 hcl hft => ?_
  repeat' (first | ((first | ((with_reducible refine aguard (fun hg => ?_) (fun hg => ?_)) <;> (try simp only [hg]) <;> (try simp only [beq_iff_eq, beq_eq_false_iff_ne, ne_eq, decide_eq_true_eq, decide_eq_false_iff_not, bne_iff_ne, bne_eq_false_iff_eq] at hg) <;> (try (first | simp only [eq_false hg, if_true, if_false] | simp only [eq_true hg, if_true, if_false]))) | with_reducible refine aseq_step ?_ | with_reducible refine any_step' ?_ | with_reducible refine aseq_end ?_ | with_reducible refine any_end' ?_ | refine awp_condC ?_ | refine awp_exit ?_ | refine awp_skip ?_ | refine awp_ret ?_) <;> (try simp (disch := first | omega | simp) [wrap_i64, -aseqC, -anyC])) | (refine And.intro ?_ ?_; (first | omega | assumption | (simp; done))) | (refine awp_seq_k fun K hK => ?_) | (refine awp_regionC ?_) | (refine awp_anyA true (by kernel_rfl) (by kernel_rfl) ?_) | (refine hK _ ?_; clear hK; clear K) | (clear hK; clear K; refine hK _ ?_; clear hK; clear K) | (clear hK; clear K; clear hK; clear K; refine hK _ ?_; clear hK; clear K) | refine awp_block ?_)
  refine awp_loopC hcl (fun x : Nat × List UInt8 => [(0, .sl (L.map tkAv)), (3, .str (bytesA x.2)), (4, .int x.1)]) (fun _ => [])
    (fun x => x.1 ≤ L.length ∧ x.2 ++ writeP (L.drop x.1) = R) (fun x => L.length - x.1) (0, []) ⟨Nat.zero_le _, by rw [hR]; rfl⟩ (by simp; rfl) fun ⟨j, acc⟩ ⟨hj, hin⟩ => ?_
  dsimp only at hj hin ⊢
  have hal : acc.length ≤ 1000000000 := by have := congrArg List.length hin; rw [List.length_append] at this; omega
  have has := bytesA_size' acc
  by_cases hlt : j < L.length
  · obtain ⟨x, hx⟩ : ∃ x, x = L[j] := ⟨_, rfl⟩
    have hdj : L.drop j = x :: L.drop (j + 1) := by rw [hx]; exact List.drop_eq_getElem_cons hlt
    obtain ⟨hx5, hxt⟩ := hk x (hx ▸ List.getElem_mem hlt)
    rw [hdj, writeP_cons, ← List.append_assoc] at hin
    obtain ⟨⟨k, t, n⟩, ln⟩ := x
    dsimp only at hx5 hxt
    have hts := bytesA_size' t
    have hq := rquote_g (bytesA t) (by omega)
    rw [bytesA_data] at hq
    have hxx : L[j] = (⟨k, t, n⟩, ln) := hx.symm
    have hk6 : k = 0 ∨ k = 1 ∨ k = 2 ∨ k = 3 ∨ k = 4 ∨ k = 5 := by omega
    have z1 : acc.length + t.length ≤ 9223372036854775806 := by omega
    rcases hk6 with rfl | rfl | rfl | rfl | rfl | rfl
    · have e : wr1 ⟨0, t, n⟩ = t ++ [32] := by simp [wr1, wtext]
      rw [e] at hin
      repeat' (first | ((first | ((with_reducible refine aguard (fun hg => ?_) (fun hg => ?_)) <;> (try simp only [hg]) <;> (try simp only [beq_iff_eq, beq_eq_false_iff_ne, ne_eq, decide_eq_true_eq, decide_eq_false_iff_not, bne_iff_ne, bne_eq_false_iff_eq] at hg) <;> (try (first | simp only [eq_false hg, if_true, if_false] | simp only [eq_true hg, if_true, if_false]))) | with_reducible refine aseq_step ?_ | with_reducible refine any_step' ?_ | with_reducible refine aseq_end ?_ | with_reducible refine any_end' ?_ | refine awp_condC ?_ | refine awp_exit ?_ | refine awp_skip ?_ | refine awp_ret ?_) <;> (try simp (disch := first | omega | simp) [wrap_i64, -aseqC, -anyC, hlt, hxx, tkAv, has, hts, z1])) | (refine And.intro ?_ ?_; (first | omega | assumption | (simp; done))) | (refine awp_seq_k fun K hK => ?_) | (refine awp_regionC ?_) | (refine awp_anyA true (by kernel_rfl) (by kernel_rfl) ?_) | (refine hK _ ?_; clear hK; clear K) | (clear hK; clear K; refine hK _ ?_; clear hK; clear K) | (clear hK; clear K; clear hK; clear K; refine hK _ ?_; clear hK; clear K) | refine awp_block ?_)
      all_goals exact ⟨j + 1, acc ++ (t ++ [32]), ⟨by omega, hin⟩, by omega, by rw [hcat, hcat1, List.append_assoc], by omega⟩
    · have e : wr1 ⟨1, t, n⟩ = t ++ [32] := by simp [wr1, wtext]
      rw [e] at hin
      repeat' (first | ((first | ((with_reducible refine aguard (fun hg => ?_) (fun hg => ?_)) <;> (try simp only [hg]) <;> (try simp only [beq_iff_eq, beq_eq_false_iff_ne, ne_eq, decide_eq_true_eq, decide_eq_false_iff_not, bne_iff_ne, bne_eq_false_iff_eq] at hg) <;> (try (first | simp only [eq_false hg, if_true, if_false] | simp only [eq_true hg, if_true, if_false]))) | with_reducible refine aseq_step ?_ | with_reducible refine any_step' ?_ | with_reducible refine aseq_end ?_ | with_reducible refine any_end' ?_ | refine awp_condC ?_ | refine awp_exit ?_ | refine awp_skip ?_ | refine awp_ret ?_) <;> (try simp (disch := first | omega | simp) [wrap_i64, -aseqC, -anyC, hlt, hxx, tkAv, has, hts, z1])) | (refine And.intro ?_ ?_; (first | omega | assumption | (simp; done))) | (refine awp_seq_k fun K hK => ?_) | (refine awp_regionC ?_) | (refine awp_anyA true (by kernel_rfl) (by kernel_rfl) ?_) | (refine hK _ ?_; clear hK; clear K) | (clear hK; clear K; refine hK _ ?_; clear hK; clear K) | (clear hK; clear K; clear hK; clear K; refine hK _ ?_; clear hK; clear K) | refine awp_block ?_)
      all_goals exact ⟨j + 1, acc ++ (t ++ [32]), ⟨by omega, hin⟩, by omega, by rw [hcat, hcat1, List.append_assoc], by omega⟩
    · have e : wr1 ⟨2, t, n⟩ = qP t ++ [32] := by simp [wr1, wtext]
      have hqs := bytesA_size' (qP t)
      have hql : (qP t).length ≤ 1000000000 := by
        rw [e] at hin
        have := congrArg List.length hin
        simp only [List.length_append] at this; omega
      have z2 : acc.length + (qP t).length ≤ 9223372036854775806 := by omega
      rw [e] at hin
      repeat' (first | ((first | ((with_reducible refine aguard (fun hg => ?_) (fun hg => ?_)) <;> (try simp only [hg]) <;> (try simp only [beq_iff_eq, beq_eq_false_iff_ne, ne_eq, decide_eq_true_eq, decide_eq_false_iff_not, bne_iff_ne, bne_eq_false_iff_eq] at hg) <;> (try (first | simp only [eq_false hg, if_true, if_false] | simp only [eq_true hg, if_true, if_false]))) | with_reducible refine aseq_step ?_ | with_reducible refine any_step' ?_ | with_reducible refine aseq_end ?_ | with_reducible refine any_end' ?_ | refine acall (hq) ?_ | refine agives (hq) ?_ | refine awp_condC ?_ | refine awp_exit ?_ | refine awp_skip ?_ | refine awp_ret ?_) <;> (try simp (disch := first | omega | simp) [wrap_i64, -aseqC, -anyC, hlt, hxx, tkAv, has, hqs, z2])) | (refine And.intro ?_ ?_; (first | omega | assumption | (simp; done))) | (refine awp_seq_k fun K hK => ?_) | (refine awp_regionC ?_) | (refine awp_anyA true (by kernel_rfl) (by kernel_rfl) ?_) | (refine hK _ ?_; clear hK; clear K) | (clear hK; clear K; refine hK _ ?_; clear hK; clear K) | (clear hK; clear K; clear hK; clear K; refine hK _ ?_; clear hK; clear K) | refine awp_block ?_)
      all_goals exact ⟨j + 1, acc ++ (qP t ++ [32]), ⟨by omega, hin⟩, by omega, by rw [hcat, hcat1, List.append_assoc], by omega⟩
    · have e : wr1 ⟨3, t, n⟩ = t ++ [32] := by simp [wr1, wtext]
      rw [e] at hin
      repeat' (first | ((first | ((with_reducible refine aguard (fun hg => ?_) (fun hg => ?_)) <;> (try simp only [hg]) <;> (try simp only [beq_iff_eq, beq_eq_false_iff_ne, ne_eq, decide_eq_true_eq, decide_eq_false_iff_not, bne_iff_ne, bne_eq_false_iff_eq] at hg) <;> (try (first | simp only [eq_false hg, if_true, if_false] | simp only [eq_true hg, if_true, if_false]))) | with_reducible refine aseq_step ?_ | with_reducible refine any_step' ?_ | with_reducible refine aseq_end ?_ | with_reducible refine any_end' ?_ | refine awp_condC ?_ | refine awp_exit ?_ | refine awp_skip ?_ | refine awp_ret ?_) <;> (try simp (disch := first | omega | simp) [wrap_i64, -aseqC, -anyC, hlt, hxx, tkAv, has, hts, z1])) | (refine And.intro ?_ ?_; (first | omega | assumption | (simp; done))) | (refine awp_seq_k fun K hK => ?_) | (refine awp_regionC ?_) | (refine awp_anyA true (by kernel_rfl) (by kernel_rfl) ?_) | (refine hK _ ?_; clear hK; clear K) | (clear hK; clear K; refine hK _ ?_; clear hK; clear K) | (clear hK; clear K; clear hK; clear K; refine hK _ ?_; clear hK; clear K) | refine awp_block ?_)
      all_goals exact ⟨j + 1, acc ++ (t ++ [32]), ⟨by omega, hin⟩, by omega, by rw [hcat, hcat1, List.append_assoc], by omega⟩
    · have e : wr1 ⟨4, t, n⟩ = [10] := by simp [wr1]
      rw [e] at hin
      repeat' (first | ((first | ((with_reducible refine aguard (fun hg => ?_) (fun hg => ?_)) <;> (try simp only [hg]) <;> (try simp only [beq_iff_eq, beq_eq_false_iff_ne, ne_eq, decide_eq_true_eq, decide_eq_false_iff_not, bne_iff_ne, bne_eq_false_iff_eq] at hg) <;> (try (first | simp only [eq_false hg, if_true, if_false] | simp only [eq_true hg, if_true, if_false]))) | with_reducible refine aseq_step ?_ | with_reducible refine any_step' ?_ | with_reducible refine aseq_end ?_ | with_reducible refine any_end' ?_ | refine awp_condC ?_ | refine awp_exit ?_ | refine awp_skip ?_ | refine awp_ret ?_) <;> (try simp (disch := first | omega | simp) [wrap_i64, -aseqC, -anyC, hlt, hxx, tkAv, has])) | (refine And.intro ?_ ?_; (first | omega | assumption | (simp; done))) | (refine awp_seq_k fun K hK => ?_) | (refine awp_regionC ?_) | (refine awp_anyA true (by kernel_rfl) (by kernel_rfl) ?_) | (refine hK _ ?_; clear hK; clear K) | (clear hK; clear K; refine hK _ ?_; clear hK; clear K) | (clear hK; clear K; clear hK; clear K; refine hK _ ?_; clear hK; clear K) | refine awp_block ?_)
      all_goals exact ⟨j + 1, acc ++ [10], ⟨by omega, hin⟩, by omega, by rw [hcat1], by omega⟩
    · have e : wr1 ⟨5, t, n⟩ = [] := by simp [wr1]
      rw [e, List.append_nil] at hin
      repeat' (first | ((first | ((with_reducible refine aguard (fun hg => ?_) (fun hg => ?_)) <;> (try simp only [hg]) <;> (try simp only [beq_iff_eq, beq_eq_false_iff_ne, ne_eq, decide_eq_true_eq, decide_eq_false_iff_not, bne_iff_ne, bne_eq_false_iff_eq] at hg) <;> (try (first | simp only [eq_false hg, if_true, if_false] | simp only [eq_true hg, if_true, if_false]))) | with_reducible refine aseq_step ?_ | with_reducible refine any_step' ?_ | with_reducible refine aseq_end ?_ | with_reducible refine any_end' ?_ | refine awp_condC ?_ | refine awp_exit ?_ | refine awp_skip ?_ | refine awp_ret ?_) <;> (try simp (disch := first | omega | simp) [wrap_i64, -aseqC, -anyC, hlt, hxx, tkAv])) | (refine And.intro ?_ ?_; (first | omega | assumption | (simp; done))) | (refine awp_seq_k fun K hK => ?_) | (refine awp_regionC ?_) | (refine awp_anyA true (by kernel_rfl) (by kernel_rfl) ?_) | (refine hK _ ?_; clear hK; clear K) | (clear hK; clear K; refine hK _ ?_; clear hK; clear K) | (clear hK; clear K; clear hK; clear K; refine hK _ ?_; clear hK; clear K) | refine awp_block ?_)
      all_goals exact ⟨j + 1, acc, ⟨by omega, hin⟩, by omega, rfl, by omega⟩
  · obtain rfl : j = L.length := by omega
    rw [List.drop_length] at hin
    have hin2 : acc = R := by rw [← hin]; simp [writeP]
    subst hin2
    repeat' (first | ((first | ((with_reducible refine aguard (fun hg => ?_) (fun hg => ?_)) <;> (try simp only [hg]) <;> (try simp only [beq_iff_eq, beq_eq_false_iff_ne, ne_eq, decide_eq_true_eq, decide_eq_false_iff_not, bne_iff_ne, bne_eq_false_iff_eq] at hg) <;> (try (first | simp only [eq_false hg, if_true, if_false] | simp only [eq_true hg, if_true, if_false]))) | with_reducible refine aseq_step ?_ | with_reducible refine any_step' ?_ | with_reducible refine aseq_end ?_ | with_reducible refine any_end' ?_ | refine awp_condC ?_ | refine awp_exit ?_ | refine awp_skip ?_ | refine awp_ret ?_) <;> (try simp (disch := first | omega | simp) [wrap_i64, -aseqC, -anyC, hlt])) | (refine And.intro ?_ ?_; (first | omega | assumption | (simp; done))) | (refine awp_seq_k fun K hK => ?_) | (refine awp_regionC ?_) | (refine awp_anyA true (by kernel_rfl) (by kernel_rfl) ?_) | (refine hK _ ?_; clear hK; clear K) | (clear hK; clear K; refine hK _ ?_; clear hK; clear K) | (clear hK; clear K; clear hK; clear K; refine hK _ ?_; clear hK; clear K) | refine awp_block ?_)
    all_goals rfl
end Go.Proofs.YtkhmlicikbnmdaaDoor
