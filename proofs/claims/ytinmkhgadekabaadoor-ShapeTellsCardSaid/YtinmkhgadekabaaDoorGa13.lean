/- Walks: names, of the reference; names that are no types; columns by name. -/
import Derived.RangeFuncFrom
import Derived.Test.YtinmkhgadekabaaDoorGa11
import Derived.Test.YtinmkhgadekabaaDoorGa12
namespace Go.Proofs.YtinmkhgadekabaaDoor
open Go.RowKit Go.Lib

set_option maxHeartbeats 1000000 in
theorem rname_g (s : ByteArray) (hs : s.size ≤ 1000000) : Gives Tryd.prog 20 [.str s] (.bool (nameP s.toList)) := by
  by_cases h0 : s.toList = []
  · refine gives_of_awp Tryd.func20 Tryd.ntmps20 rfl rfl (by decide) rfl (by intro n; simp) fun σ n0 hcl hft => ?_
    repeat' (first | ((with_reducible refine aguard (fun hg => ?_) (fun hg => ?_)) <;> (try simp only [hg]) <;> (try simp only [beq_iff_eq, beq_eq_false_iff_ne, ne_eq, decide_eq_true_eq, decide_eq_false_iff_not, bne_iff_ne, bne_eq_false_iff_eq] at hg) <;> (try (first | simp only [eq_false hg, if_true, if_false] | simp only [eq_true hg, if_true, if_false])) <;> (try simp (disch := first | omega | simp) [wrap_i64, -aseqC, -anyC, h0])) | (with_reducible refine aseq_step ?_; try simp (disch := first | omega | simp) [wrap_i64, -aseqC, -anyC, h0]) | (with_reducible refine any_step' ?_; try simp (disch := first | omega | simp) [wrap_i64, -aseqC, -anyC, h0]) | (with_reducible refine aseq_end ?_; try simp (disch := first | omega | simp) [wrap_i64, -aseqC, -anyC, h0]) | (with_reducible refine any_end' ?_; try simp (disch := first | omega | simp) [wrap_i64, -aseqC, -anyC, h0]) | ((first | with_reducible refine sideG ?_ ?_ | with_reducible refine sideG2 ?_ ?_ | with_reducible refine sideS ?_ ?_ | with_reducible refine sideS2 ?_ ?_ | with_reducible refine sideS3 ?_ ?_ | with_reducible refine sideA ?_ ?_ | with_reducible refine sideA2 ?_ ?_ | with_reducible refine sideA3 ?_ ?_); (first | omega | assumption | (simp; done))) | (refine awp_seq_k fun K hK => ?_) | (refine awp_regionC ?_) | (refine awp_anyA true (by kernel_rfl) (by kernel_rfl) ?_) | (refine awp_anyA false (by kernel_rfl) (by kernel_rfl) ?_) | (refine hK _ ?_; clear hK; clear K) | (clear hK; clear K; refine hK _ ?_; clear hK; clear K) | (clear hK; clear K; clear hK; clear K; refine hK _ ?_; clear hK; clear K) | refine awp_block ?_ | (refine awp_condC ?_; simp (disch := first | omega | simp) [wrap_i64, -aseqC, -anyC, h0]) | (refine awp_exit ?_; try simp (disch := first | omega | simp) [wrap_i64, -aseqC, -anyC, h0]) | (refine awp_skip ?_; try simp (disch := first | omega | simp) [wrap_i64, -aseqC, -anyC, h0]) | (refine awp_ret ?_; try simp (disch := first | omega | simp) [wrap_i64, -aseqC, -anyC, h0]))
    all_goals (first | (rw [h0]; rfl) | rfl | simp_all)
  · have hp : 0 < s.size := by
      refine Nat.pos_of_ne_zero fun h => h0 ?_
      exact List.eq_nil_of_length_eq_zero (by rw [list_size]; exact h)
    have he : s.toList.isEmpty = false := by simpa using h0
    have hl := list_size s
    have hh := list_head s
    refine gives_of_awp Tryd.func20 Tryd.ntmps20 rfl rfl (by decide) rfl (by intro n; simp) fun σ n0 hcl hft => ?_
    repeat' (first | ((with_reducible refine aguard (fun hg => ?_) (fun hg => ?_)) <;> (try simp only [hg]) <;> (try simp only [beq_iff_eq, beq_eq_false_iff_ne, ne_eq, decide_eq_true_eq, decide_eq_false_iff_not, bne_iff_ne, bne_eq_false_iff_eq] at hg) <;> (try (first | simp only [eq_false hg, if_true, if_false] | simp only [eq_true hg, if_true, if_false])) <;> (try simp (disch := first | omega | simp) [wrap_i64, -aseqC, -anyC, he])) | (with_reducible refine aseq_step ?_; try simp (disch := first | omega | simp) [wrap_i64, -aseqC, -anyC, he]) | (with_reducible refine any_step' ?_; try simp (disch := first | omega | simp) [wrap_i64, -aseqC, -anyC, he]) | (with_reducible refine aseq_end ?_; try simp (disch := first | omega | simp) [wrap_i64, -aseqC, -anyC, he]) | (with_reducible refine any_end' ?_; try simp (disch := first | omega | simp) [wrap_i64, -aseqC, -anyC, he]) | ((first | with_reducible refine sideG ?_ ?_ | with_reducible refine sideG2 ?_ ?_ | with_reducible refine sideS ?_ ?_ | with_reducible refine sideS2 ?_ ?_ | with_reducible refine sideS3 ?_ ?_ | with_reducible refine sideA ?_ ?_ | with_reducible refine sideA2 ?_ ?_ | with_reducible refine sideA3 ?_ ?_); (first | omega | assumption | (simp; done))) | (refine awp_seq_k fun K hK => ?_) | (refine awp_regionC ?_) | (refine awp_anyA true (by kernel_rfl) (by kernel_rfl) ?_) | (refine awp_anyA false (by kernel_rfl) (by kernel_rfl) ?_) | (refine hK _ ?_; clear hK; clear K) | (clear hK; clear K; refine hK _ ?_; clear hK; clear K) | (clear hK; clear K; clear hK; clear K; refine hK _ ?_; clear hK; clear K) | refine awp_block ?_ | (refine awp_condC ?_; simp (disch := first | omega | simp) [wrap_i64, -aseqC, -anyC, he]) | (refine awp_exit ?_; try simp (disch := first | omega | simp) [wrap_i64, -aseqC, -anyC, he]) | (refine awp_skip ?_; try simp (disch := first | omega | simp) [wrap_i64, -aseqC, -anyC, he]) | (refine awp_ret ?_; try simp (disch := first | omega | simp) [wrap_i64, -aseqC, -anyC, he]))
    · exact nameP_long (by omega)
    · exact nameP_digit (by rw [← hh]; omega) (by rw [← hh]; omega)
    all_goals
      refine awp_loopC hcl (fun k : Nat => [(0, .str s), (3, .int k)]) (fun _ => [])
        (fun k => k ≤ s.toList.length ∧ ∀ j (h : j < s.toList.length), j < k → nameB s.toList[j] = true) (fun k => s.toList.length - k) 0 (by simp) (by simp) fun k ⟨hk, hb⟩ => ?_
      by_cases hlt : k < s.size
      · have hlt2 : k < s.toList.length := by omega
        have hlt3 : k < s.data.size := hlt
        have hlg := list_get s hlt2 hlt3
        repeat' (first | ((with_reducible refine aguard (fun hg => ?_) (fun hg => ?_)) <;> (try simp only [hg]) <;> (try simp only [beq_iff_eq, beq_eq_false_iff_ne, ne_eq, decide_eq_true_eq, decide_eq_false_iff_not, bne_iff_ne, bne_eq_false_iff_eq] at hg) <;> (try (first | simp only [eq_false hg, if_true, if_false] | simp only [eq_true hg, if_true, if_false])) <;> (try simp (disch := first | omega | simp) [wrap_i64, -aseqC, -anyC, hlt, hlt3])) | (with_reducible refine aseq_step ?_; try simp (disch := first | omega | simp) [wrap_i64, -aseqC, -anyC, hlt, hlt3]) | (with_reducible refine any_step' ?_; try simp (disch := first | omega | simp) [wrap_i64, -aseqC, -anyC, hlt, hlt3]) | (with_reducible refine aseq_end ?_; try simp (disch := first | omega | simp) [wrap_i64, -aseqC, -anyC, hlt, hlt3]) | (with_reducible refine any_end' ?_; try simp (disch := first | omega | simp) [wrap_i64, -aseqC, -anyC, hlt, hlt3]) | ((first | with_reducible refine sideG ?_ ?_ | with_reducible refine sideG2 ?_ ?_ | with_reducible refine sideS ?_ ?_ | with_reducible refine sideS2 ?_ ?_ | with_reducible refine sideS3 ?_ ?_ | with_reducible refine sideA ?_ ?_ | with_reducible refine sideA2 ?_ ?_ | with_reducible refine sideA3 ?_ ?_); (first | omega | assumption | (simp; done))) | (refine awp_seq_k fun K hK => ?_) | (refine awp_regionC ?_) | (refine awp_anyA true (by kernel_rfl) (by kernel_rfl) ?_) | (refine awp_anyA false (by kernel_rfl) (by kernel_rfl) ?_) | (refine hK _ ?_; clear hK; clear K) | (clear hK; clear K; refine hK _ ?_; clear hK; clear K) | (clear hK; clear K; clear hK; clear K; refine hK _ ?_; clear hK; clear K) | refine awp_block ?_ | (refine awp_condC ?_; simp (disch := first | omega | simp) [wrap_i64, -aseqC, -anyC, hlt, hlt3]) | (refine awp_exit ?_; try simp (disch := first | omega | simp) [wrap_i64, -aseqC, -anyC, hlt, hlt3]) | (refine awp_skip ?_; try simp (disch := first | omega | simp) [wrap_i64, -aseqC, -anyC, hlt, hlt3]) | (refine awp_ret ?_; try simp (disch := first | omega | simp) [wrap_i64, -aseqC, -anyC, hlt, hlt3]))
        all_goals
          first
          | (exfalso; omega)
          | exact nameP_bad hlt2 (by rw [hlg]; unfold nameB; simp; omega)
          | exact ⟨k + 1, ⟨by omega, upto_succ (C := fun c => nameB c = true) hb fun _ => by rw [hlg]; unfold nameB; simp; omega⟩, by omega, by simp⟩
      · repeat' (first | ((with_reducible refine aguard (fun hg => ?_) (fun hg => ?_)) <;> (try simp only [hg]) <;> (try simp only [beq_iff_eq, beq_eq_false_iff_ne, ne_eq, decide_eq_true_eq, decide_eq_false_iff_not, bne_iff_ne, bne_eq_false_iff_eq] at hg) <;> (try (first | simp only [eq_false hg, if_true, if_false] | simp only [eq_true hg, if_true, if_false])) <;> (try simp (disch := first | omega | simp) [wrap_i64, -aseqC, -anyC, hlt])) | (with_reducible refine aseq_step ?_; try simp (disch := first | omega | simp) [wrap_i64, -aseqC, -anyC, hlt]) | (with_reducible refine any_step' ?_; try simp (disch := first | omega | simp) [wrap_i64, -aseqC, -anyC, hlt]) | (with_reducible refine aseq_end ?_; try simp (disch := first | omega | simp) [wrap_i64, -aseqC, -anyC, hlt]) | (with_reducible refine any_end' ?_; try simp (disch := first | omega | simp) [wrap_i64, -aseqC, -anyC, hlt]) | ((first | with_reducible refine sideG ?_ ?_ | with_reducible refine sideG2 ?_ ?_ | with_reducible refine sideS ?_ ?_ | with_reducible refine sideS2 ?_ ?_ | with_reducible refine sideS3 ?_ ?_ | with_reducible refine sideA ?_ ?_ | with_reducible refine sideA2 ?_ ?_ | with_reducible refine sideA3 ?_ ?_); (first | omega | assumption | (simp; done))) | (refine awp_seq_k fun K hK => ?_) | (refine awp_regionC ?_) | (refine awp_anyA true (by kernel_rfl) (by kernel_rfl) ?_) | (refine awp_anyA false (by kernel_rfl) (by kernel_rfl) ?_) | (refine hK _ ?_; clear hK; clear K) | (clear hK; clear K; refine hK _ ?_; clear hK; clear K) | (clear hK; clear K; clear hK; clear K; refine hK _ ?_; clear hK; clear K) | refine awp_block ?_ | (refine awp_condC ?_; simp (disch := first | omega | simp) [wrap_i64, -aseqC, -anyC, hlt]) | (refine awp_exit ?_; try simp (disch := first | omega | simp) [wrap_i64, -aseqC, -anyC, hlt]) | (refine awp_skip ?_; try simp (disch := first | omega | simp) [wrap_i64, -aseqC, -anyC, hlt]) | (refine awp_ret ?_; try simp (disch := first | omega | simp) [wrap_i64, -aseqC, -anyC, hlt]))
        exact nameP_good h0 (by omega) (by rw [← hh]; omega) (upto_all (C := fun c => nameB c = true) hb (by omega))
theorem own_g (s : ByteArray) (hs : s.size ≤ 1000000) : Gives Tryd.prog 52 [.str s] (.bool (ownP s.toList)) := by
  refine gives_of_awp Tryd.func52 Tryd.ntmps52 rfl rfl (by decide) rfl (by intro n; simp) fun σ n0 hcl hft => ?_
  repeat' (first | ((with_reducible refine aguard (fun hg => ?_) (fun hg => ?_)) <;> (try simp only [hg]) <;> (try simp only [beq_iff_eq, beq_eq_false_iff_ne, ne_eq, decide_eq_true_eq, decide_eq_false_iff_not, bne_iff_ne, bne_eq_false_iff_eq] at hg) <;> (try (first | simp only [eq_false hg, if_true, if_false] | simp only [eq_true hg, if_true, if_false])) <;> (try simp (disch := first | omega | simp) [wrap_i64, -aseqC, -anyC])) | (with_reducible refine aseq_step ?_; try simp (disch := first | omega | simp) [wrap_i64, -aseqC, -anyC]) | (with_reducible refine any_step' ?_; try simp (disch := first | omega | simp) [wrap_i64, -aseqC, -anyC]) | (with_reducible refine aseq_end ?_; try simp (disch := first | omega | simp) [wrap_i64, -aseqC, -anyC]) | (with_reducible refine any_end' ?_; try simp (disch := first | omega | simp) [wrap_i64, -aseqC, -anyC]) | ((first | with_reducible refine sideG ?_ ?_ | with_reducible refine sideG2 ?_ ?_ | with_reducible refine sideS ?_ ?_ | with_reducible refine sideS2 ?_ ?_ | with_reducible refine sideS3 ?_ ?_ | with_reducible refine sideA ?_ ?_ | with_reducible refine sideA2 ?_ ?_ | with_reducible refine sideA3 ?_ ?_); (first | omega | assumption | (simp; done))) | (refine acall (typeOf_g _) ?_; try simp (disch := first | omega | simp) [wrap_i64, -aseqC, -anyC]) | (refine agives (typeOf_g _) ?_; try simp (disch := first | omega | simp) [wrap_i64, -aseqC, -anyC]) | (refine acallAt (typeOf_g _) ?_; try simp (disch := first | omega | simp) [wrap_i64, -aseqC, -anyC]) | (refine acall (name_g _ hs) ?_; try simp (disch := first | omega | simp) [wrap_i64, -aseqC, -anyC]) | (refine agives (name_g _ hs) ?_; try simp (disch := first | omega | simp) [wrap_i64, -aseqC, -anyC]) | (refine acallAt (name_g _ hs) ?_; try simp (disch := first | omega | simp) [wrap_i64, -aseqC, -anyC]) | (refine awp_seq_k fun K hK => ?_) | (refine awp_regionC ?_) | (refine awp_anyA true (by kernel_rfl) (by kernel_rfl) ?_) | (refine awp_anyA false (by kernel_rfl) (by kernel_rfl) ?_) | (refine hK _ ?_; clear hK; clear K) | (clear hK; clear K; refine hK _ ?_; clear hK; clear K) | (clear hK; clear K; clear hK; clear K; refine hK _ ?_; clear hK; clear K) | refine awp_block ?_ | (refine awp_condC ?_; simp (disch := first | omega | simp) [wrap_i64, -aseqC, -anyC]) | (refine awp_exit ?_; try simp (disch := first | omega | simp) [wrap_i64, -aseqC, -anyC]) | (refine awp_skip ?_; try simp (disch := first | omega | simp) [wrap_i64, -aseqC, -anyC]) | (refine awp_ret ?_; try simp (disch := first | omega | simp) [wrap_i64, -aseqC, -anyC]))
  all_goals simp_all [ownP]
theorem rown_g (s : ByteArray) (hs : s.size ≤ 1000000) : Gives Tryd.prog 41 [.str s] (.bool (ownP s.toList)) := by
  refine gives_of_awp Tryd.func41 Tryd.ntmps41 rfl rfl (by decide) rfl (by intro n; simp) fun σ n0 hcl hft => ?_
  repeat' (first | ((with_reducible refine aguard (fun hg => ?_) (fun hg => ?_)) <;> (try simp only [hg]) <;> (try simp only [beq_iff_eq, beq_eq_false_iff_ne, ne_eq, decide_eq_true_eq, decide_eq_false_iff_not, bne_iff_ne, bne_eq_false_iff_eq] at hg) <;> (try (first | simp only [eq_false hg, if_true, if_false] | simp only [eq_true hg, if_true, if_false])) <;> (try simp (disch := first | omega | simp) [wrap_i64, -aseqC, -anyC])) | (with_reducible refine aseq_step ?_; try simp (disch := first | omega | simp) [wrap_i64, -aseqC, -anyC]) | (with_reducible refine any_step' ?_; try simp (disch := first | omega | simp) [wrap_i64, -aseqC, -anyC]) | (with_reducible refine aseq_end ?_; try simp (disch := first | omega | simp) [wrap_i64, -aseqC, -anyC]) | (with_reducible refine any_end' ?_; try simp (disch := first | omega | simp) [wrap_i64, -aseqC, -anyC]) | ((first | with_reducible refine sideG ?_ ?_ | with_reducible refine sideG2 ?_ ?_ | with_reducible refine sideS ?_ ?_ | with_reducible refine sideS2 ?_ ?_ | with_reducible refine sideS3 ?_ ?_ | with_reducible refine sideA ?_ ?_ | with_reducible refine sideA2 ?_ ?_ | with_reducible refine sideA3 ?_ ?_); (first | omega | assumption | (simp; done))) | (refine acall (rtypeOf_g _) ?_; try simp (disch := first | omega | simp) [wrap_i64, -aseqC, -anyC]) | (refine agives (rtypeOf_g _) ?_; try simp (disch := first | omega | simp) [wrap_i64, -aseqC, -anyC]) | (refine acallAt (rtypeOf_g _) ?_; try simp (disch := first | omega | simp) [wrap_i64, -aseqC, -anyC]) | (refine acall (rname_g _ hs) ?_; try simp (disch := first | omega | simp) [wrap_i64, -aseqC, -anyC]) | (refine agives (rname_g _ hs) ?_; try simp (disch := first | omega | simp) [wrap_i64, -aseqC, -anyC]) | (refine acallAt (rname_g _ hs) ?_; try simp (disch := first | omega | simp) [wrap_i64, -aseqC, -anyC]) | (refine awp_seq_k fun K hK => ?_) | (refine awp_regionC ?_) | (refine awp_anyA true (by kernel_rfl) (by kernel_rfl) ?_) | (refine awp_anyA false (by kernel_rfl) (by kernel_rfl) ?_) | (refine hK _ ?_; clear hK; clear K) | (clear hK; clear K; refine hK _ ?_; clear hK; clear K) | (clear hK; clear K; clear hK; clear K; refine hK _ ?_; clear hK; clear K) | refine awp_block ?_ | (refine awp_condC ?_; simp (disch := first | omega | simp) [wrap_i64, -aseqC, -anyC]) | (refine awp_exit ?_; try simp (disch := first | omega | simp) [wrap_i64, -aseqC, -anyC]) | (refine awp_skip ?_; try simp (disch := first | omega | simp) [wrap_i64, -aseqC, -anyC]) | (refine awp_ret ?_; try simp (disch := first | omega | simp) [wrap_i64, -aseqC, -anyC]))
  all_goals simp_all [ownP]
theorem find1_g (c : Col) (s : ByteArray) (σ : Nat → AB) (r : Nat) (hσ : σ r = .cells [.str s] 9) : GivesAt Tryd.prog 37 [c.av, .ptr r 0] σ (.bool (c.name.toList == s.toList)) := by
  refine givesAt_of_awp Tryd.func37 Tryd.ntmps37 rfl rfl (by decide) rfl (by intro n; simp) fun n0 hfin hcl hft => ?_
  have hloc := loc_at hfin hσ (by simp)
  repeat' (first | ((with_reducible refine aguard (fun hg => ?_) (fun hg => ?_)) <;> (try simp only [hg]) <;> (try simp only [beq_iff_eq, beq_eq_false_iff_ne, ne_eq, decide_eq_true_eq, decide_eq_false_iff_not, bne_iff_ne, bne_eq_false_iff_eq] at hg) <;> (try (first | simp only [eq_false hg, if_true, if_false] | simp only [eq_true hg, if_true, if_false])) <;> (try simp (disch := first | omega | simp) [wrap_i64, -aseqC, -anyC, hloc])) | (with_reducible refine aseq_step ?_; try simp (disch := first | omega | simp) [wrap_i64, -aseqC, -anyC, hloc]) | (with_reducible refine any_step' ?_; try simp (disch := first | omega | simp) [wrap_i64, -aseqC, -anyC, hloc]) | (with_reducible refine aseq_end ?_; try simp (disch := first | omega | simp) [wrap_i64, -aseqC, -anyC, hloc]) | (with_reducible refine any_end' ?_; try simp (disch := first | omega | simp) [wrap_i64, -aseqC, -anyC, hloc]) | ((first | with_reducible refine sideG ?_ ?_ | with_reducible refine sideG2 ?_ ?_ | with_reducible refine sideS ?_ ?_ | with_reducible refine sideS2 ?_ ?_ | with_reducible refine sideS3 ?_ ?_ | with_reducible refine sideA ?_ ?_ | with_reducible refine sideA2 ?_ ?_ | with_reducible refine sideA3 ?_ ?_); (first | omega | assumption | (simp; done))) | (refine awp_seq_k fun K hK => ?_) | (refine awp_regionC ?_) | (refine awp_anyA true (by kernel_rfl) (by kernel_rfl) ?_) | (refine awp_anyA false (by kernel_rfl) (by kernel_rfl) ?_) | (refine hK _ ?_; clear hK; clear K) | (clear hK; clear K; refine hK _ ?_; clear hK; clear K) | (clear hK; clear K; clear hK; clear K; refine hK _ ?_; clear hK; clear K) | refine awp_block ?_ | (refine awp_condC ?_; simp (disch := first | omega | simp) [wrap_i64, -aseqC, -anyC, hloc]) | (refine awp_exit ?_; try simp (disch := first | omega | simp) [wrap_i64, -aseqC, -anyC, hloc]) | (refine awp_skip ?_; try simp (disch := first | omega | simp) [wrap_i64, -aseqC, -anyC, hloc]) | (refine awp_ret ?_; try simp (disch := first | omega | simp) [wrap_i64, -aseqC, -anyC, hloc]))
theorem idxC_g (L : List Col) (s : ByteArray) (σ : Nat → AB) (r : Nat) (hσ : σ r = .cells [.str s] 9) (hL : L.length ≤ 1000000) : GivesAt Tryd.prog 36 [.sl (L.map Col.av), .fn 37 [.ptr r 0]] σ (.int (findP L s.toList)) := by
  refine givesAt_of_awp Tryd.func36 Tryd.ntmps36 rfl rfl (by decide) rfl (by intro n; simp) fun n0 hfin hcl hft => ?_
  have hloc := loc_at hfin hσ (by simp)
  have hrn := fin_lt hfin hσ (by simp)
  repeat' (first | ((with_reducible refine aguard (fun hg => ?_) (fun hg => ?_)) <;> (try simp only [hg]) <;> (try simp only [beq_iff_eq, beq_eq_false_iff_ne, ne_eq, decide_eq_true_eq, decide_eq_false_iff_not, bne_iff_ne, bne_eq_false_iff_eq] at hg) <;> (try (first | simp only [eq_false hg, if_true, if_false] | simp only [eq_true hg, if_true, if_false])) <;> (try simp (disch := first | omega | simp) [wrap_i64, -aseqC, -anyC, hloc])) | (with_reducible refine aseq_step ?_; try simp (disch := first | omega | simp) [wrap_i64, -aseqC, -anyC, hloc]) | (with_reducible refine any_step' ?_; try simp (disch := first | omega | simp) [wrap_i64, -aseqC, -anyC, hloc]) | (with_reducible refine aseq_end ?_; try simp (disch := first | omega | simp) [wrap_i64, -aseqC, -anyC, hloc]) | (with_reducible refine any_end' ?_; try simp (disch := first | omega | simp) [wrap_i64, -aseqC, -anyC, hloc]) | ((first | with_reducible refine sideG ?_ ?_ | with_reducible refine sideG2 ?_ ?_ | with_reducible refine sideS ?_ ?_ | with_reducible refine sideS2 ?_ ?_ | with_reducible refine sideS3 ?_ ?_ | with_reducible refine sideA ?_ ?_ | with_reducible refine sideA2 ?_ ?_ | with_reducible refine sideA3 ?_ ?_); (first | omega | assumption | (simp; done))) | (refine awp_seq_k fun K hK => ?_) | (refine awp_regionC ?_) | (refine awp_anyA true (by kernel_rfl) (by kernel_rfl) ?_) | (refine awp_anyA false (by kernel_rfl) (by kernel_rfl) ?_) | (refine hK _ ?_; clear hK; clear K) | (clear hK; clear K; refine hK _ ?_; clear hK; clear K) | (clear hK; clear K; clear hK; clear K; refine hK _ ?_; clear hK; clear K) | refine awp_block ?_ | (refine awp_condC ?_; simp (disch := first | omega | simp) [wrap_i64, -aseqC, -anyC, hloc]) | (refine awp_exit ?_; try simp (disch := first | omega | simp) [wrap_i64, -aseqC, -anyC, hloc]) | (refine awp_skip ?_; try simp (disch := first | omega | simp) [wrap_i64, -aseqC, -anyC, hloc]) | (refine awp_ret ?_; try simp (disch := first | omega | simp) [wrap_i64, -aseqC, -anyC, hloc]))
  refine awp_loopC hcl (fun k : Nat => [(0, .sl (L.map Col.av)), (1, .fn 37 [.ptr r 0]), (7, .int L.length), (8, .int k)]) (fun _ => [])
    (fun k => k ≤ L.length ∧ ∀ j (h : j < L.length), j < k → ¬ L[j].name.toList = s.toList) (fun k => L.length - k) 0 (by simp) (by simp [hrn]) fun k ⟨hk, he⟩ => ?_
  by_cases hlt : k < L.length
  · repeat' (first | ((with_reducible refine aguard (fun hg => ?_) (fun hg => ?_)) <;> (try simp only [hg]) <;> (try simp only [beq_iff_eq, beq_eq_false_iff_ne, ne_eq, decide_eq_true_eq, decide_eq_false_iff_not, bne_iff_ne, bne_eq_false_iff_eq] at hg) <;> (try (first | simp only [eq_false hg, if_true, if_false] | simp only [eq_true hg, if_true, if_false])) <;> (try simp (disch := first | omega | simp) [wrap_i64, -aseqC, -anyC, hlt, hrn])) | (with_reducible refine aseq_step ?_; try simp (disch := first | omega | simp) [wrap_i64, -aseqC, -anyC, hlt, hrn]) | (with_reducible refine any_step' ?_; try simp (disch := first | omega | simp) [wrap_i64, -aseqC, -anyC, hlt, hrn]) | (with_reducible refine aseq_end ?_; try simp (disch := first | omega | simp) [wrap_i64, -aseqC, -anyC, hlt, hrn]) | (with_reducible refine any_end' ?_; try simp (disch := first | omega | simp) [wrap_i64, -aseqC, -anyC, hlt, hrn]) | ((first | with_reducible refine sideG ?_ ?_ | with_reducible refine sideG2 ?_ ?_ | with_reducible refine sideS ?_ ?_ | with_reducible refine sideS2 ?_ ?_ | with_reducible refine sideS3 ?_ ?_ | with_reducible refine sideA ?_ ?_ | with_reducible refine sideA2 ?_ ?_ | with_reducible refine sideA3 ?_ ?_); (first | omega | assumption | (simp; done))) | (refine acall (find1_g _ s _ r (hloc _)) ?_; try simp (disch := first | omega | simp) [wrap_i64, -aseqC, -anyC, hlt, hrn]) | (refine agives (find1_g _ s _ r (hloc _)) ?_; try simp (disch := first | omega | simp) [wrap_i64, -aseqC, -anyC, hlt, hrn]) | (refine acallAt (find1_g _ s _ r (hloc _)) ?_; try simp (disch := first | omega | simp) [wrap_i64, -aseqC, -anyC, hlt, hrn]) | (refine awp_seq_k fun K hK => ?_) | (refine awp_regionC ?_) | (refine awp_anyA true (by kernel_rfl) (by kernel_rfl) ?_) | (refine awp_anyA false (by kernel_rfl) (by kernel_rfl) ?_) | (refine hK _ ?_; clear hK; clear K) | (clear hK; clear K; refine hK _ ?_; clear hK; clear K) | (clear hK; clear K; clear hK; clear K; refine hK _ ?_; clear hK; clear K) | refine awp_block ?_ | (refine awp_condC ?_; simp (disch := first | omega | simp) [wrap_i64, -aseqC, -anyC, hlt, hrn]) | (refine awp_exit ?_; try simp (disch := first | omega | simp) [wrap_i64, -aseqC, -anyC, hlt, hrn]) | (refine awp_skip ?_; try simp (disch := first | omega | simp) [wrap_i64, -aseqC, -anyC, hlt, hrn]) | (refine awp_ret ?_; try simp (disch := first | omega | simp) [wrap_i64, -aseqC, -anyC, hlt, hrn]))
    · rename_i hg
      exact (idxP_hit (p := fun c : Col => c.name.toList == s.toList) hlt (by simp [hg]) fun j h1 h2 => by simpa using he j h1 h2).symm
    · rename_i hg
      exact ⟨k + 1, ⟨by omega, upto_succ (C := fun c : Col => ¬ c.name.toList = s.toList) he fun _ => hg⟩, by omega, by simp [hrn]⟩
  · repeat' (first | ((with_reducible refine aguard (fun hg => ?_) (fun hg => ?_)) <;> (try simp only [hg]) <;> (try simp only [beq_iff_eq, beq_eq_false_iff_ne, ne_eq, decide_eq_true_eq, decide_eq_false_iff_not, bne_iff_ne, bne_eq_false_iff_eq] at hg) <;> (try (first | simp only [eq_false hg, if_true, if_false] | simp only [eq_true hg, if_true, if_false])) <;> (try simp (disch := first | omega | simp) [wrap_i64, -aseqC, -anyC, hlt])) | (with_reducible refine aseq_step ?_; try simp (disch := first | omega | simp) [wrap_i64, -aseqC, -anyC, hlt]) | (with_reducible refine any_step' ?_; try simp (disch := first | omega | simp) [wrap_i64, -aseqC, -anyC, hlt]) | (with_reducible refine aseq_end ?_; try simp (disch := first | omega | simp) [wrap_i64, -aseqC, -anyC, hlt]) | (with_reducible refine any_end' ?_; try simp (disch := first | omega | simp) [wrap_i64, -aseqC, -anyC, hlt]) | ((first | with_reducible refine sideG ?_ ?_ | with_reducible refine sideG2 ?_ ?_ | with_reducible refine sideS ?_ ?_ | with_reducible refine sideS2 ?_ ?_ | with_reducible refine sideS3 ?_ ?_ | with_reducible refine sideA ?_ ?_ | with_reducible refine sideA2 ?_ ?_ | with_reducible refine sideA3 ?_ ?_); (first | omega | assumption | (simp; done))) | (refine awp_seq_k fun K hK => ?_) | (refine awp_regionC ?_) | (refine awp_anyA true (by kernel_rfl) (by kernel_rfl) ?_) | (refine awp_anyA false (by kernel_rfl) (by kernel_rfl) ?_) | (refine hK _ ?_; clear hK; clear K) | (clear hK; clear K; refine hK _ ?_; clear hK; clear K) | (clear hK; clear K; clear hK; clear K; refine hK _ ?_; clear hK; clear K) | refine awp_block ?_ | (refine awp_condC ?_; simp (disch := first | omega | simp) [wrap_i64, -aseqC, -anyC, hlt]) | (refine awp_exit ?_; try simp (disch := first | omega | simp) [wrap_i64, -aseqC, -anyC, hlt]) | (refine awp_skip ?_; try simp (disch := first | omega | simp) [wrap_i64, -aseqC, -anyC, hlt]) | (refine awp_ret ?_; try simp (disch := first | omega | simp) [wrap_i64, -aseqC, -anyC, hlt]))
    exact (idxP_miss (p := fun c : Col => c.name.toList == s.toList) (upto_all (C := fun c : Col => (c.name.toList == s.toList) = false) (fun j h1 h2 => by simpa using he j h1 h2) hlt)).symm
theorem find_g (L : List Col) (s : ByteArray) (hL : L.length ≤ 1000000) : Gives Tryd.prog 13 [.sl (L.map Col.av), .str s] (.int (findP L s.toList)) := by
  refine gives_of_awp Tryd.func13 Tryd.ntmps13 rfl rfl (by decide) rfl (by intro n; simp) fun σ n0 hcl hft => ?_
  repeat' (first | ((with_reducible refine aguard (fun hg => ?_) (fun hg => ?_)) <;> (try simp only [hg]) <;> (try simp only [beq_iff_eq, beq_eq_false_iff_ne, ne_eq, decide_eq_true_eq, decide_eq_false_iff_not, bne_iff_ne, bne_eq_false_iff_eq] at hg) <;> (try (first | simp only [eq_false hg, if_true, if_false] | simp only [eq_true hg, if_true, if_false])) <;> (try simp (disch := first | omega | simp) [wrap_i64, -aseqC, -anyC])) | (with_reducible refine aseq_step ?_; try simp (disch := first | omega | simp) [wrap_i64, -aseqC, -anyC]) | (with_reducible refine any_step' ?_; try simp (disch := first | omega | simp) [wrap_i64, -aseqC, -anyC]) | (with_reducible refine aseq_end ?_; try simp (disch := first | omega | simp) [wrap_i64, -aseqC, -anyC]) | (with_reducible refine any_end' ?_; try simp (disch := first | omega | simp) [wrap_i64, -aseqC, -anyC]) | ((first | with_reducible refine sideG ?_ ?_ | with_reducible refine sideG2 ?_ ?_ | with_reducible refine sideS ?_ ?_ | with_reducible refine sideS2 ?_ ?_ | with_reducible refine sideS3 ?_ ?_ | with_reducible refine sideA ?_ ?_ | with_reducible refine sideA2 ?_ ?_ | with_reducible refine sideA3 ?_ ?_); (first | omega | assumption | (simp; done))) | (refine acall (idxC_g L s _ n0 (by simp) hL) ?_; try simp (disch := first | omega | simp) [wrap_i64, -aseqC, -anyC]) | (refine agives (idxC_g L s _ n0 (by simp) hL) ?_; try simp (disch := first | omega | simp) [wrap_i64, -aseqC, -anyC]) | (refine acallAt (idxC_g L s _ n0 (by simp) hL) ?_; try simp (disch := first | omega | simp) [wrap_i64, -aseqC, -anyC]) | (refine awp_seq_k fun K hK => ?_) | (refine awp_regionC ?_) | (refine awp_anyA true (by kernel_rfl) (by kernel_rfl) ?_) | (refine awp_anyA false (by kernel_rfl) (by kernel_rfl) ?_) | (refine hK _ ?_; clear hK; clear K) | (clear hK; clear K; refine hK _ ?_; clear hK; clear K) | (clear hK; clear K; clear hK; clear K; refine hK _ ?_; clear hK; clear K) | refine awp_block ?_ | (refine awp_condC ?_; simp (disch := first | omega | simp) [wrap_i64, -aseqC, -anyC]) | (refine awp_exit ?_; try simp (disch := first | omega | simp) [wrap_i64, -aseqC, -anyC]) | (refine awp_skip ?_; try simp (disch := first | omega | simp) [wrap_i64, -aseqC, -anyC]) | (refine awp_ret ?_; try simp (disch := first | omega | simp) [wrap_i64, -aseqC, -anyC]))
theorem rfind_g (L : List Col) (s : ByteArray) (hL : L.length ≤ 1000000) : Gives Tryd.prog 24 [.sl (L.map Col.av), .str s] (.int (findP L s.toList)) := by
  refine gives_of_awp Tryd.func24 Tryd.ntmps24 rfl rfl (by decide) rfl (by intro n; simp) fun σ n0 hcl hft => ?_
  repeat' (first | ((with_reducible refine aguard (fun hg => ?_) (fun hg => ?_)) <;> (try simp only [hg]) <;> (try simp only [beq_iff_eq, beq_eq_false_iff_ne, ne_eq, decide_eq_true_eq, decide_eq_false_iff_not, bne_iff_ne, bne_eq_false_iff_eq] at hg) <;> (try (first | simp only [eq_false hg, if_true, if_false] | simp only [eq_true hg, if_true, if_false])) <;> (try simp (disch := first | omega | simp) [wrap_i64, -aseqC, -anyC])) | (with_reducible refine aseq_step ?_; try simp (disch := first | omega | simp) [wrap_i64, -aseqC, -anyC]) | (with_reducible refine any_step' ?_; try simp (disch := first | omega | simp) [wrap_i64, -aseqC, -anyC]) | (with_reducible refine aseq_end ?_; try simp (disch := first | omega | simp) [wrap_i64, -aseqC, -anyC]) | (with_reducible refine any_end' ?_; try simp (disch := first | omega | simp) [wrap_i64, -aseqC, -anyC]) | ((first | with_reducible refine sideG ?_ ?_ | with_reducible refine sideG2 ?_ ?_ | with_reducible refine sideS ?_ ?_ | with_reducible refine sideS2 ?_ ?_ | with_reducible refine sideS3 ?_ ?_ | with_reducible refine sideA ?_ ?_ | with_reducible refine sideA2 ?_ ?_ | with_reducible refine sideA3 ?_ ?_); (first | omega | assumption | (simp; done))) | (refine awp_seq_k fun K hK => ?_) | (refine awp_regionC ?_) | (refine awp_anyA true (by kernel_rfl) (by kernel_rfl) ?_) | (refine awp_anyA false (by kernel_rfl) (by kernel_rfl) ?_) | (refine hK _ ?_; clear hK; clear K) | (clear hK; clear K; refine hK _ ?_; clear hK; clear K) | (clear hK; clear K; clear hK; clear K; refine hK _ ?_; clear hK; clear K) | refine awp_block ?_ | (refine awp_condC ?_; simp (disch := first | omega | simp) [wrap_i64, -aseqC, -anyC]) | (refine awp_exit ?_; try simp (disch := first | omega | simp) [wrap_i64, -aseqC, -anyC]) | (refine awp_skip ?_; try simp (disch := first | omega | simp) [wrap_i64, -aseqC, -anyC]) | (refine awp_ret ?_; try simp (disch := first | omega | simp) [wrap_i64, -aseqC, -anyC]))
  refine awp_loopC hcl (fun k : Nat => [(0, .sl (L.map Col.av)), (1, .str s), (5, .int k)]) (fun _ => [])
    (fun k => k ≤ L.length ∧ ∀ j (h : j < L.length), j < k → ¬ L[j].name.toList = s.toList) (fun k => L.length - k) 0 (by simp) (by simp) fun k ⟨hk, he⟩ => ?_
  by_cases hlt : k < L.length
  · repeat' (first | ((with_reducible refine aguard (fun hg => ?_) (fun hg => ?_)) <;> (try simp only [hg]) <;> (try simp only [beq_iff_eq, beq_eq_false_iff_ne, ne_eq, decide_eq_true_eq, decide_eq_false_iff_not, bne_iff_ne, bne_eq_false_iff_eq] at hg) <;> (try (first | simp only [eq_false hg, if_true, if_false] | simp only [eq_true hg, if_true, if_false])) <;> (try simp (disch := first | omega | simp) [wrap_i64, -aseqC, -anyC, hlt])) | (with_reducible refine aseq_step ?_; try simp (disch := first | omega | simp) [wrap_i64, -aseqC, -anyC, hlt]) | (with_reducible refine any_step' ?_; try simp (disch := first | omega | simp) [wrap_i64, -aseqC, -anyC, hlt]) | (with_reducible refine aseq_end ?_; try simp (disch := first | omega | simp) [wrap_i64, -aseqC, -anyC, hlt]) | (with_reducible refine any_end' ?_; try simp (disch := first | omega | simp) [wrap_i64, -aseqC, -anyC, hlt]) | ((first | with_reducible refine sideG ?_ ?_ | with_reducible refine sideG2 ?_ ?_ | with_reducible refine sideS ?_ ?_ | with_reducible refine sideS2 ?_ ?_ | with_reducible refine sideS3 ?_ ?_ | with_reducible refine sideA ?_ ?_ | with_reducible refine sideA2 ?_ ?_ | with_reducible refine sideA3 ?_ ?_); (first | omega | assumption | (simp; done))) | (refine awp_seq_k fun K hK => ?_) | (refine awp_regionC ?_) | (refine awp_anyA true (by kernel_rfl) (by kernel_rfl) ?_) | (refine awp_anyA false (by kernel_rfl) (by kernel_rfl) ?_) | (refine hK _ ?_; clear hK; clear K) | (clear hK; clear K; refine hK _ ?_; clear hK; clear K) | (clear hK; clear K; clear hK; clear K; refine hK _ ?_; clear hK; clear K) | refine awp_block ?_ | (refine awp_condC ?_; simp (disch := first | omega | simp) [wrap_i64, -aseqC, -anyC, hlt]) | (refine awp_exit ?_; try simp (disch := first | omega | simp) [wrap_i64, -aseqC, -anyC, hlt]) | (refine awp_skip ?_; try simp (disch := first | omega | simp) [wrap_i64, -aseqC, -anyC, hlt]) | (refine awp_ret ?_; try simp (disch := first | omega | simp) [wrap_i64, -aseqC, -anyC, hlt]))
    · rename_i hg
      exact (idxP_hit (p := fun c : Col => c.name.toList == s.toList) hlt (by simp [hg]) fun j h1 h2 => by simpa using he j h1 h2).symm
    · rename_i hg
      exact ⟨k + 1, ⟨by omega, upto_succ (C := fun c : Col => ¬ c.name.toList = s.toList) he fun _ => hg⟩, by omega, by simp⟩
  · repeat' (first | ((with_reducible refine aguard (fun hg => ?_) (fun hg => ?_)) <;> (try simp only [hg]) <;> (try simp only [beq_iff_eq, beq_eq_false_iff_ne, ne_eq, decide_eq_true_eq, decide_eq_false_iff_not, bne_iff_ne, bne_eq_false_iff_eq] at hg) <;> (try (first | simp only [eq_false hg, if_true, if_false] | simp only [eq_true hg, if_true, if_false])) <;> (try simp (disch := first | omega | simp) [wrap_i64, -aseqC, -anyC, hlt])) | (with_reducible refine aseq_step ?_; try simp (disch := first | omega | simp) [wrap_i64, -aseqC, -anyC, hlt]) | (with_reducible refine any_step' ?_; try simp (disch := first | omega | simp) [wrap_i64, -aseqC, -anyC, hlt]) | (with_reducible refine aseq_end ?_; try simp (disch := first | omega | simp) [wrap_i64, -aseqC, -anyC, hlt]) | (with_reducible refine any_end' ?_; try simp (disch := first | omega | simp) [wrap_i64, -aseqC, -anyC, hlt]) | ((first | with_reducible refine sideG ?_ ?_ | with_reducible refine sideG2 ?_ ?_ | with_reducible refine sideS ?_ ?_ | with_reducible refine sideS2 ?_ ?_ | with_reducible refine sideS3 ?_ ?_ | with_reducible refine sideA ?_ ?_ | with_reducible refine sideA2 ?_ ?_ | with_reducible refine sideA3 ?_ ?_); (first | omega | assumption | (simp; done))) | (refine awp_seq_k fun K hK => ?_) | (refine awp_regionC ?_) | (refine awp_anyA true (by kernel_rfl) (by kernel_rfl) ?_) | (refine awp_anyA false (by kernel_rfl) (by kernel_rfl) ?_) | (refine hK _ ?_; clear hK; clear K) | (clear hK; clear K; refine hK _ ?_; clear hK; clear K) | (clear hK; clear K; clear hK; clear K; refine hK _ ?_; clear hK; clear K) | refine awp_block ?_ | (refine awp_condC ?_; simp (disch := first | omega | simp) [wrap_i64, -aseqC, -anyC, hlt]) | (refine awp_exit ?_; try simp (disch := first | omega | simp) [wrap_i64, -aseqC, -anyC, hlt]) | (refine awp_skip ?_; try simp (disch := first | omega | simp) [wrap_i64, -aseqC, -anyC, hlt]) | (refine awp_ret ?_; try simp (disch := first | omega | simp) [wrap_i64, -aseqC, -anyC, hlt]))
    exact (idxP_miss (p := fun c : Col => c.name.toList == s.toList) (upto_all (C := fun c : Col => (c.name.toList == s.toList) = false) (fun j h1 h2 => by simpa using he j h1 h2) hlt)).symm
end Go.Proofs.YtinmkhgadekabaaDoor

/- An iterator calls its round; regions met abstractly one by one. -/
namespace Go.Proofs.YtinmkhgadekabaaDoor
open Go.RowKit Go.Lib

def NoE : Exit → AS → Prop := fun _ _ => False
theorem wp_seq_awp {P : Program} {R rest : Code} {Q : Exit → Act → World → Prop} {X0 : St} {s : AS} {a : Act} {w : World} {K : AS → Prop} (hc : ∃ X, Con X0 s a w X) (h : awp P R (AThen K NoE) s) (hK : ∀ s' a' w', K s' → (∃ X', Con X0 s' a' w' X') → rest.wp P Q a' w') : (Code.seq R rest).wp P Q a w :=
  wp_seq (wp_mono (h X0 a w hc) fun e a' w' ⟨s', q, hc'⟩ => by
    cases e with
    | normal => exact hK s' a' w' q hc'
    | exit id => exact q.elim
    | goto l => exact q.elim
    | ret => exact q.elim
    | panic c => exact q.elim
    | outgrown => exact q.elim)
theorem wp_awp {P : Program} {R : Code} {Q : Exit → Act → World → Prop} {X0 : St} {s : AS} {a : Act} {w : World} {K : AS → Prop} (hc : ∃ X, Con X0 s a w X) (h : awp P R (AThen K NoE) s) (hK : ∀ s' a' w', K s' → (∃ X', Con X0 s' a' w' X') → Q .normal a' w') : R.wp P Q a w :=
  wp_mono (h X0 a w hc) fun e a' w' ⟨s', q, hc'⟩ => by
    cases e with
    | normal => exact hK s' a' w' q hc'
    | exit id => exact q.elim
    | goto l => exact q.elim
    | ret => exact q.elim
    | panic c => exact q.elim
    | outgrown => exact q.elim
theorem wp_seq_awp3 {P : Program} {R2 R3 R4 C D : Code} {Q : Exit → Act → World → Prop} {X0 : St} {s : AS} {a : Act} {w : World} {K : AS → Prop} (hc : ∃ X, Con X0 s a w X) (h : awp P R2 (AThen (fun s2 => awp P R3 (AThen (fun s3 => awp P R4 (AThen K NoE) s3) NoE) s2) NoE) s)
    (hK : ∀ s' a' w', K s' → (∃ X', Con X0 s' a' w' X') → C.wp P (Exit.then (D.wp P Q) Q) a' w') : (Code.seq R2 (Code.seq R3 (Code.seq (Code.seq R4 C) D))).wp P Q a w :=
  wp_seq_awp hc h fun _ _ _ h4 hc4 => wp_seq_awp hc4 h4 fun _ _ _ h5 hc5 => wp_seq (wp_seq_awp hc5 h5 hK)
theorem opIn_value {P : Program} {n : Nat} {o : Oper} {a : Act} {w : World} {v : Value} {next : Act → World → Prop} {Q : Exit → Act → World → Prop} (h : (execOp a.eval o).run P w = .ok (.value v) w) (hn : next (a.put o.dst v) w) : o.wpIn Fence.wide n P a w next Q :=
  ⟨fun _ _ => trivial, by rw [Fence.wide_round, Oper.semAt_none, h]; exact hn⟩
theorem opIn_yield {P : Program} {n l : Nat} {o : Oper} {a : Act} {w : World} {d : Tmp} {args : List Operand} {tys : Array TypeId} {next : Act → World → Prop} {Q : Exit → Act → World → Prop} {T F : World → Prop} (ho : o.op = .call { callee := .value (.tmp d), args := args.toArray, argTypes := tys }) (hd : a.eval (.tmp d) = .func (.yield l) #[] #[])
    (hY : YieldAt Fence.wide n P l (args.map a.eval).toArray w fun e W' => (e = .returned (.bool true) ∧ T W') ∨ (e = .returned (.bool false) ∧ F W'))
    (hT : ∀ W', T W' → next (a.put o.dst (.bool true)) W') (hF : ∀ W', F W' → next (a.put o.dst (.bool false)) W') : o.wpIn Fence.wide (n + 1) P a w next Q := by
  refine ⟨fun _ _ => trivial, ?_⟩
  obtain ⟨fn, tmps, assign, body, hy, hR⟩ := hY
  have hrun : (execOp a.eval o).run P w = .ok (.round l fn tmps assign body) w := by
    simp [execOp, ho, resolve, hd, Deferred.ofValue, invoke]
    simpa using hy
  rw [Fence.wide_round, Oper.semAt_none, hrun, Oper.uponIn_round]
  refine ⟨fun h => (by cases h), hR.mono ?_⟩
  rintro e W' (⟨rfl, h⟩ | ⟨rfl, h⟩)
  · exact hT _ h
  · exact hF _ h
theorem wpOpsIn_cons {F : Fence} {n : Nat} {P : Program} {ops : Array Oper} {Q : Exit → Act → World → Prop} {i : Nat} {rest : List Nat} {a : Act} {w : World} {o : Oper} (hi : ops[i]? = some o) (hg : o.guard = none) (h : o.wpIn F n P a w (wpOpsIn F n P ops Q rest) Q) : wpOpsIn F n P ops Q (i :: rest) a w := by
  unfold wpOpsIn
  rw [hi]
  dsimp only
  rw [if_pos (by simp [Region.wanted, hg])]
  exact h
/-- the region of a round: yield(x), and whether the iterator goes on -/
theorem wp_yield {P : Program} {id l n : Nat} {o0 o1 o2 o3 : Oper} {a : Act} {w : World} {x : Value} {y0 i0 d0 d1 d2 d3 : Tmp} {tys : Array TypeId} {ty : TypeId} {T F : World → Prop} {Q : Exit → Act → World → Prop}
    (h0 : o0.op = .move (.tmp y0) ∧ o0.dst = some d0 ∧ o0.guard = none) (h1 : o1.op = .move (.tmp i0) ∧ o1.dst = some d1 ∧ o1.guard = none) (h2 : o2.op = .call { callee := .value (.tmp d0), args := #[.tmp d1], argTypes := tys } ∧ o2.dst = some d2 ∧ o2.guard = none) (h3 : o3.op = .unOp .not ty (.tmp d2) ∧ o3.dst = some d3 ∧ o3.guard = none)
    (hy : a.eval (.tmp y0) = .func (.yield l) #[] #[]) (hx : a.eval (.tmp i0) = x) (hne : i0 ≠ d0 ∧ d0 ≠ d1 ∧ d0 < a.tmps.size ∧ d1 < a.tmps.size ∧ d2 < a.tmps.size)
    (hY : YieldAt Fence.wide n P l #[x] w fun e W' => (e = .returned (.bool true) ∧ T W') ∨ (e = .returned (.bool false) ∧ F W'))
    (hT : ∀ W', T W' → Q .normal ((((a.put (some d0) (.func (.yield l) #[] #[])).put (some d1) x).put (some d2) (.bool true)).put (some d3) (.bool false)) W')
    (hF : ∀ W', F W' → Q .normal ((((a.put (some d0) (.func (.yield l) #[] #[])).put (some d1) x).put (some d2) (.bool false)).put (some d3) (.bool true)) W') : (Code.region id #[o0, o1, o2, o3] false).wp P Q a w := by
  refine (wpIn_wide (n := n + 1)).1 (wpIn_region ?_)
  obtain ⟨e0, f0, g0⟩ := h0
  obtain ⟨e1, f1, g1⟩ := h1
  obtain ⟨e2, f2, g2⟩ := h2
  obtain ⟨e3, f3, g3⟩ := h3
  obtain ⟨n1, n2, n3, n4, n5⟩ := hne
  have gd : ∀ (b : Act) (d k : Tmp) (v : Value), k ≠ d → (b.put (some d) v).eval (.tmp k) = b.eval (.tmp k) := fun b d k v h => by
    show (b.tmps.setIfInBounds d v).getD k undef = b.tmps.getD k undef
    rw [Array.getD_eq_getD_getElem?, Array.getD_eq_getD_getElem?, Array.getElem?_setIfInBounds_ne (fun e => h e.symm)]
  have gs : ∀ (b : Act) (d : Tmp) (v : Value), d < b.tmps.size → (b.put (some d) v).eval (.tmp d) = v := fun b d v h => by
    show (b.tmps.setIfInBounds d v).getD d undef = v
    simp [Array.getD, h]
  have sz : ∀ (b : Act) (d : Tmp) (v : Value), (b.put (some d) v).tmps.size = b.tmps.size := fun b d v => by simp [Act.put]
  have v0 := gs a d0 (.func (.yield l) #[] #[]) n3
  have v0' := (gd (a.put (some d0) (.func (.yield l) #[] #[])) d1 d0 x n2).trans v0
  have v1 := gs (a.put (some d0) (.func (.yield l) #[] #[])) d1 x (by rw [sz]; exact n4)
  have v2t := gs ((a.put (some d0) (.func (.yield l) #[] #[])).put (some d1) x) d2 (.bool true) (by rw [sz, sz]; exact n5)
  have v2f := gs ((a.put (some d0) (.func (.yield l) #[] #[])).put (some d1) x) d2 (.bool false) (by rw [sz, sz]; exact n5)
  show wpOpsIn _ _ _ #[o0, o1, o2, o3] _ [0, 1, 2, 3] _ _
  refine wpOpsIn_cons (o := o0) rfl g0 ?_
  refine opIn_value (v := .func (.yield l) #[] #[]) (by simp [execOp, e0, hy]) ?_
  rw [f0]
  refine wpOpsIn_cons (o := o1) rfl g1 ?_
  refine opIn_value (v := x) (by simp [execOp, e1, gd _ _ _ _ n1, hx]) ?_
  rw [f1]
  refine wpOpsIn_cons (o := o2) rfl g2 ?_
  refine opIn_yield (args := [.tmp d1]) (T := T) (F := F) e2 v0' (by simpa [v1] using hY) (fun W' h => ?_) (fun W' h => ?_)
  · rw [f2]
    refine wpOpsIn_cons (o := o3) rfl g3 ?_
    refine opIn_value (v := .bool false) (by simp [execOp, e3, v2t, Op.unary]) ?_
    rw [f3]
    unfold wpOpsIn
    exact hT W' h
  · rw [f2]
    refine wpOpsIn_cons (o := o3) rfl g3 ?_
    refine opIn_value (v := .bool true) (by simp [execOp, e3, v2f, Op.unary]) ?_
    rw [f3]
    unfold wpOpsIn
    exact hF W' h

mutual
theorem RC.tr {X Y : St} (hS : ∀ b o cs, CellsS X b o cs → CellsS Y b o cs) (hσ : Y.σ = X.σ) (hμ : Y.μ = X.μ) : ∀ (d : AV) (cs : List Value), RC X d cs → RC Y d cs
  | .v _, _, hr => by rw [RC] at hr ⊢; exact hr
  | .sl l, cs, hr => by
    rw [RC] at hr ⊢
    obtain ⟨A, cap, b, off, h1, h2, h3, h4, h5⟩ := hr
    exact ⟨A, cap, b, off, h1, h2, h3, h4, RM.tr hS hσ hμ l b off h5⟩
  | .agg l, cs, hr => by rw [RC] at hr ⊢; exact R1s.tr hS hσ hμ l cs hr
  | .tup _, _, hr => by rw [RC] at hr; exact hr.elim
  | .ptr r off, _, hr => by rw [RC] at hr ⊢; rw [hσ, hμ]; exact hr
  | .own r n, _, hr => by rw [RC] at hr ⊢; rw [hσ, hμ]; exact hr
  | .gs r l, _, hr => by
    rw [RC] at hr ⊢
    obtain ⟨A, cap, b, off, h1, h2, h3, h4, h5, h6, h7⟩ := hr
    exact ⟨A, cap, b, off, h1, h2, h3, h4, RM.tr hS hσ hμ l b off h5, by rw [hσ]; exact h6, by rw [hσ, hμ]; exact h7⟩
  | .ep x off, _, hr => by
    rw [RC] at hr ⊢
    obtain ⟨b, o, cx, h1, h2, h3⟩ := hr
    exact ⟨b, o, cx, h1, hS _ _ _ h2, RC.tr hS hσ hμ x cx h3⟩
  | .eo r n k off, _, hr => by rw [RC] at hr ⊢; rw [hσ, hμ]; exact hr
  | .fn f caps, _, hr => by
    rw [RC] at hr ⊢
    obtain ⟨vs, h1, h2⟩ := hr
    exact ⟨vs, h1, R1s.tr hS hσ hμ caps vs h2⟩
  | .any, _, hr => by rw [RC] at hr ⊢; exact hr
theorem R1s.tr {X Y : St} (hS : ∀ b o cs, CellsS X b o cs → CellsS Y b o cs) (hσ : Y.σ = X.σ) (hμ : Y.μ = X.μ) : ∀ (l : List AV) (cs : List Value), R1s X l cs → R1s Y l cs
  | [], _, hr => by rw [R1s] at hr ⊢; exact hr
  | d :: l, cs, hr => by
    rw [R1s] at hr ⊢
    obtain ⟨v, vs, h1, h0, h2, h3⟩ := hr
    exact ⟨v, vs, h1, h0, RC.tr hS hσ hμ d [v] h2, R1s.tr hS hσ hμ l vs h3⟩
theorem RM.tr {X Y : St} (hS : ∀ b o cs, CellsS X b o cs → CellsS Y b o cs) (hσ : Y.σ = X.σ) (hμ : Y.μ = X.μ) : ∀ (l : List AV) (b off : Nat), RM X l b off → RM Y l b off
  | [], _, _, _ => by rw [RM]; trivial
  | d :: l, b, off, hr => by
    rw [RM] at hr ⊢
    obtain ⟨⟨cs, h1, h2⟩, h3⟩ := hr
    exact ⟨⟨cs, hS _ _ _ h1, RC.tr hS hσ hμ d cs h2⟩, RM.tr hS hσ hμ l b _ h3⟩
end
theorem RR1.tr {X Y : St} (hS : ∀ b o cs, CellsS X b o cs → CellsS Y b o cs) (hσ : Y.σ = X.σ) (hμ : Y.μ = X.μ) {x : AV} {v : Value} (hr : RR1 X x v) : RR1 Y x v := by
  unfold RR1 at hr ⊢
  split at hr
  · obtain ⟨vs, h1, h2⟩ := hr; exact ⟨vs, h1, R1s.tr hS hσ hμ _ _ h2⟩
  · trivial
  · exact RC.tr hS hσ hμ _ _ hr

/-- what a round keeps: all cells but those of block z -/
def KpZ (z : Nat) (A B : World) : Prop := A.heap.size ≤ B.heap.size ∧ ∀ b c t f, b ≠ z → A.heap[b]? = some (.cells c t f) → B.heap[b]? = A.heap[b]?
theorem KpZ.trans {z : Nat} {A B C : World} (h : KpZ z A B) (k : KpZ z B C) : KpZ z A C :=
  ⟨Nat.le_trans h.1 k.1, fun b c t f hb hA => (k.2 b c t f hb ((h.2 b c t f hb hA).trans hA)).trans (h.2 b c t f hb hA)⟩
theorem KpZ.put {z : Nat} {W : World} {l : Nat} {o o' : Obj} (hl : W.heap[l]? = some o) (ho : o.isCells = false) : KpZ z W (W.putObj l o') := by
  refine ⟨by simp, fun b c t f _ hb => World.putObj_heap_other fun e => ?_⟩
  subst e
  rw [hl] at hb; cases hb; cases ho

/-- a state between rounds: no block of its own -/
structure Betw (z : Nat) (s : AS) (a : Act) (w : World) (X : St) : Prop where
  con : Con X s a w X
  notz : ∀ b o, X.S b o → b ≠ z
  zlt : z < w.heap.size
  L : s.L = []
  n0 : s.n0 = 0
  σ : s.σ = fun _ => .unborn
theorem Betw.unborn {z : Nat} {s : AS} {a : Act} {w : World} {X : St} (h : Betw z s a w X) (r : Nat) : X.σ r = .unborn := by
  rw [h.con.σ]
  show loc s.σ s.n0 s.L r = _
  rw [h.L, h.σ, h.n0]
  unfold loc
  simp
theorem Betw.noblk {z : Nat} {s : AS} {a : Act} {w : World} {X : St} (h : Betw z s a w X) (r : Nat) : X.blk r = none := by
  unfold St.blk; rw [h.unborn r]; rfl
/-- behind some steps -/
theorem Betw.next {z : Nat} {s s1 s2 : AS} {a a1 : Act} {w w1 : World} {X X1 : St} (h : Betw z s a w X) (hc : Con X s1 a1 w1 X1) (hle : s1.le s2) (h1 : s2.L = []) (h2 : s2.n0 = 0) (h3 : s2.σ = fun _ => .unborn) : Ext w w1 ∧ ∃ X2, Betw z s2 a1 w1 X2 := by
  have hF := hc.fr
  have hw := h.con.w
  have hw1 := hc.w
  subst hw; subst hw1
  refine ⟨⟨hF.os, hF.tape, hF.output, hF.size, fun b hb => hF.keep b hb fun r hr => by rw [h.noblk r] at hr; cases hr⟩, X1.cut s2.nx, ⟨?_, fun b o hb => ?_, Nat.lt_of_lt_of_le h.zlt hF.size, h1, h2, h3⟩⟩
  · have hc2 := hc.le hle
    exact ⟨hc2.w, hc2.σ, hc2.sr, Fr.refl _, hc2.size, hc2.regs, hc2.defers, fun r _ => by
      rw [hc2.σ]
      show loc s2.σ s2.n0 s2.L r = _
      rw [h1, h3, h2]; unfold loc; simp⟩
  · rcases hF.less b o hb with h4 | h4 | ⟨r, h4⟩
    · exact h.notz b o h4
    · have := h.zlt; omega
    · rw [h.noblk r] at h4; cases h4
/-- behind a round -/
theorem Betw.round {z : Nat} {s : AS} {a a' : Act} {w w' : World} {X : St} (h : Betw z s a w X) (hk : KpZ z w w') (hs : a'.tmps.size = a.tmps.size) (hd : a'.defers = []) (hr : ∀ d, s.t d = .any ∨ ((∀ l, s.t d ≠ .tup l) ∧ a'.tmps.getD d undef = a.tmps.getD d undef)) : ∃ X', Betw z s a' w' X' := by
  have hw := h.con.w
  subst hw
  have hS : ∀ b o cs, CellsS X b o cs → CellsS { X with w := w' } b o cs := fun b o cs => by
    induction cs generalizing o with
    | nil => intro _; trivial
    | cons v cs ih =>
      intro hc
      refine ⟨?_, hc.2.1, ih (o + 1) hc.2.2⟩
      have h1 := hc.1
      show w'.cell? _ = _
      unfold World.cell? at h1 ⊢
      dsimp only at h1 ⊢
      cases hx : X.w.heap[b]? with
      | none => rw [hx] at h1; cases h1
      | some ob =>
        rw [hx] at h1
        cases ob with
        | cells c t f =>
          rw [hk.2 b c t f (h.notz b o hc.2.1) hx, hx]; exact h1
        | _ => cases h1
  refine ⟨{ X with w := w' }, ⟨⟨rfl, h.con.σ, ⟨fun r => ?_, fun r r' b h1 _ => ?_, fun r b o h1 _ => ?_, fun b o hb => Nat.lt_of_lt_of_le (h.con.sr.old b o hb) hk.1, h.con.sr.glob.mono hS⟩, Fr.refl _, hs.trans h.con.size, fun d => ?_, hd, h.con.fin⟩, h.notz, Nat.lt_of_lt_of_le h.zlt hk.1, h.L, h.n0, h.σ⟩⟩
  · show BR _ (X.σ r) _
    rw [h.unborn r]; trivial
  · have : X.blk r = some b := h1
    rw [h.noblk r] at this; cases this
  · have : X.blk r = some b := h1
    rw [h.noblk r] at this; cases this
  · rcases hr d with h1 | ⟨h1, h2⟩
    · rw [h1]; exact RR.any _ _
    · have h3 := h.con.regs d
      rw [h2]
      unfold RR at h3 ⊢
      split at h3
      · rename_i l he; exact absurd he (h1 l)
      · exact h3.tr hS rfl rfl
end Go.Proofs.YtinmkhgadekabaaDoor
