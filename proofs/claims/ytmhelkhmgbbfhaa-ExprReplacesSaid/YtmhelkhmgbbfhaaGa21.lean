/- Walks: the type of an expression, and whether functions are right, as the reference finds them. -/
import Derived.Test.YtmhelkhmgbbfhaaGa2
import Derived.Test.YtmhelkhmgbbfhaaGa20
set_option linter.unusedSimpArgs false
set_option linter.unusedVariables false
namespace Go.Proofs.Ytmhelkhmgbbfhaa
open Go.RowKit Go.Lib

theorem rkind_g (n : Int) : Gives Try.prog 62 [.int n] (.bool (kindB n)) := by
  have e : kindB n = (decide (0 ≤ n) && decide (n < 3)) := rfl
  rw [e]
  by_cases h : 0 ≤ n
  · refine gives_of_awp Try.func62 Try.ntmps62 rfl rfl (by decide) rfl (by intro n; simp) fun σ n0 hcl hft => ?_
    repeat' (first | ((first | ((with_reducible refine aguard (fun hg => ?_) (fun hg => ?_)) <;> (try simp only [hg]) <;> (try simp only [beq_iff_eq, beq_eq_false_iff_ne, ne_eq, decide_eq_true_eq, decide_eq_false_iff_not, bne_iff_ne, bne_eq_false_iff_eq] at hg) <;> (try (first | simp only [eq_false hg, if_true, if_false] | simp only [eq_true hg, if_true, if_false]))) | with_reducible refine aseq_step ?_ | with_reducible refine any_step' ?_ | with_reducible refine aseq_end ?_ | with_reducible refine any_end' ?_ | refine awp_condC ?_ | refine awp_exit ?_ | refine awp_skip ?_ | refine awp_ret ?_) <;> (try simp (disch := first | omega | simp) [wrap_i64, -aseqC, -anyC, h])) | ((first | with_reducible refine sideG ?_ ?_ | with_reducible refine sideG2 ?_ ?_ | with_reducible refine sideS ?_ ?_ | with_reducible refine sideS2 ?_ ?_ | with_reducible refine sideS3 ?_ ?_ | with_reducible refine sideA ?_ ?_ | with_reducible refine sideA2 ?_ ?_ | with_reducible refine sideA3 ?_ ?_); (first | omega | assumption | (simp; done))) | (refine awp_seq_k fun K hK => ?_) | (refine awp_regionC ?_) | (refine awp_anyA true (by kernel_rfl) (by kernel_rfl) ?_) | (refine hK _ ?_; clear hK; clear K) | (clear hK; clear K; refine hK _ ?_; clear hK; clear K) | (clear hK; clear K; clear hK; clear K; refine hK _ ?_; clear hK; clear K) | refine awp_block ?_)
  · refine gives_of_awp Try.func62 Try.ntmps62 rfl rfl (by decide) rfl (by intro n; simp) fun σ n0 hcl hft => ?_
    repeat' (first | ((first | ((with_reducible refine aguard (fun hg => ?_) (fun hg => ?_)) <;> (try simp only [hg]) <;> (try simp only [beq_iff_eq, beq_eq_false_iff_ne, ne_eq, decide_eq_true_eq, decide_eq_false_iff_not, bne_iff_ne, bne_eq_false_iff_eq] at hg) <;> (try (first | simp only [eq_false hg, if_true, if_false] | simp only [eq_true hg, if_true, if_false]))) | with_reducible refine aseq_step ?_ | with_reducible refine any_step' ?_ | with_reducible refine aseq_end ?_ | with_reducible refine any_end' ?_ | refine awp_condC ?_ | refine awp_exit ?_ | refine awp_skip ?_ | refine awp_ret ?_) <;> (try simp (disch := first | omega | simp) [wrap_i64, -aseqC, -anyC, h])) | ((first | with_reducible refine sideG ?_ ?_ | with_reducible refine sideG2 ?_ ?_ | with_reducible refine sideS ?_ ?_ | with_reducible refine sideS2 ?_ ?_ | with_reducible refine sideS3 ?_ ?_ | with_reducible refine sideA ?_ ?_ | with_reducible refine sideA2 ?_ ?_ | with_reducible refine sideA3 ?_ ?_); (first | omega | assumption | (simp; done))) | (refine awp_seq_k fun K hK => ?_) | (refine awp_regionC ?_) | (refine awp_anyA true (by kernel_rfl) (by kernel_rfl) ?_) | (refine hK _ ?_; clear hK; clear K) | (clear hK; clear K; refine hK _ ?_; clear hK; clear K) | (clear hK; clear K; clear hK; clear K; refine hK _ ?_; clear hK; clear K) | refine awp_block ?_)
def atX (l : List Int) (n : Int) : Int := if 0 ≤ n ∧ n < l.length then l.getD n.toNat 0 else 0
theorem rat_g (l : List Int) (n : Int) : Gives Try.prog 101 [.sl (l.map AV.int), .int n] (.tup [.int (atX l n), .bool (pickT l n).isSome]) := by
  by_cases h0 : n < 0
  · have e1 : atX l n = 0 := by unfold atX; rw [if_neg (by omega)]
    have e2 : (pickT l n).isSome = false := by unfold pickT; rw [if_pos h0]; rfl
    rw [e1, e2]
    refine gives_of_awp Try.func101 Try.ntmps101 rfl rfl (by decide) rfl (by intro n; simp) fun σ n0 hcl hft => ?_
    repeat' (first | ((first | ((with_reducible refine aguard (fun hg => ?_) (fun hg => ?_)) <;> (try simp only [hg]) <;> (try simp only [beq_iff_eq, beq_eq_false_iff_ne, ne_eq, decide_eq_true_eq, decide_eq_false_iff_not, bne_iff_ne, bne_eq_false_iff_eq] at hg) <;> (try (first | simp only [eq_false hg, if_true, if_false] | simp only [eq_true hg, if_true, if_false]))) | with_reducible refine aseq_step ?_ | with_reducible refine any_step' ?_ | with_reducible refine aseq_end ?_ | with_reducible refine any_end' ?_ | refine awp_condC ?_ | refine awp_exit ?_ | refine awp_skip ?_ | refine awp_ret ?_) <;> (try simp (disch := first | omega | simp) [wrap_i64, -aseqC, -anyC, h0])) | ((first | with_reducible refine sideG ?_ ?_ | with_reducible refine sideG2 ?_ ?_ | with_reducible refine sideS ?_ ?_ | with_reducible refine sideS2 ?_ ?_ | with_reducible refine sideS3 ?_ ?_ | with_reducible refine sideA ?_ ?_ | with_reducible refine sideA2 ?_ ?_ | with_reducible refine sideA3 ?_ ?_); (first | omega | assumption | (simp; done))) | (refine awp_seq_k fun K hK => ?_) | (refine awp_regionC ?_) | (refine awp_anyA true (by kernel_rfl) (by kernel_rfl) ?_) | (refine hK _ ?_; clear hK; clear K) | (clear hK; clear K; refine hK _ ?_; clear hK; clear K) | (clear hK; clear K; clear hK; clear K; refine hK _ ?_; clear hK; clear K) | refine awp_block ?_)
  obtain ⟨k, rfl⟩ : ∃ k : Nat, n = k := ⟨n.toNat, by omega⟩
  by_cases h1 : k < l.length
  · have e1 : atX l k = l[k] := by unfold atX; rw [if_pos (by omega), List.getD_eq_getElem?_getD]; simp [h1]
    have e2 : (pickT l k).isSome = kindB l[k] := by
      unfold pickT
      rw [if_neg h0, Int.toNat_natCast, List.getElem?_eq_getElem h1]
      simp only
      cases kindB l[k] <;> rfl
    rw [e1, e2]
    have c := rkind_g l[k]
    have h3 : ¬ l.length ≤ k := by omega
    refine gives_of_awp Try.func101 Try.ntmps101 rfl rfl (by decide) rfl (by intro n; simp) fun σ n0 hcl hft => ?_
    repeat' (first | ((first | ((with_reducible refine aguard (fun hg => ?_) (fun hg => ?_)) <;> (try simp only [hg]) <;> (try simp only [beq_iff_eq, beq_eq_false_iff_ne, ne_eq, decide_eq_true_eq, decide_eq_false_iff_not, bne_iff_ne, bne_eq_false_iff_eq] at hg) <;> (try (first | simp only [eq_false hg, if_true, if_false] | simp only [eq_true hg, if_true, if_false]))) | with_reducible refine aseq_step ?_ | with_reducible refine any_step' ?_ | with_reducible refine aseq_end ?_ | with_reducible refine any_end' ?_ | refine acall (c) ?_ | refine agives (c) ?_ | refine awp_condC ?_ | refine awp_exit ?_ | refine awp_skip ?_ | refine awp_ret ?_) <;> (try simp (disch := first | omega | simp) [wrap_i64, -aseqC, -anyC, h0, h1, h3])) | ((first | with_reducible refine sideG ?_ ?_ | with_reducible refine sideG2 ?_ ?_ | with_reducible refine sideS ?_ ?_ | with_reducible refine sideS2 ?_ ?_ | with_reducible refine sideS3 ?_ ?_ | with_reducible refine sideA ?_ ?_ | with_reducible refine sideA2 ?_ ?_ | with_reducible refine sideA3 ?_ ?_); (first | omega | assumption | (simp; done))) | (refine awp_seq_k fun K hK => ?_) | (refine awp_regionC ?_) | (refine awp_anyA true (by kernel_rfl) (by kernel_rfl) ?_) | (refine hK _ ?_; clear hK; clear K) | (clear hK; clear K; refine hK _ ?_; clear hK; clear K) | (clear hK; clear K; clear hK; clear K; refine hK _ ?_; clear hK; clear K) | refine awp_block ?_)
  · have e1 : atX l k = 0 := by unfold atX; rw [if_neg (by omega)]
    have e2 : (pickT l k).isSome = false := by
      unfold pickT
      rw [if_neg h0, Int.toNat_natCast, List.getElem?_eq_none (by omega)]; rfl
    rw [e1, e2]
    have h2 : (l.length : Int) ≤ k := by omega
    refine gives_of_awp Try.func101 Try.ntmps101 rfl rfl (by decide) rfl (by intro n; simp) fun σ n0 hcl hft => ?_
    repeat' (first | ((first | ((with_reducible refine aguard (fun hg => ?_) (fun hg => ?_)) <;> (try simp only [hg]) <;> (try simp only [beq_iff_eq, beq_eq_false_iff_ne, ne_eq, decide_eq_true_eq, decide_eq_false_iff_not, bne_iff_ne, bne_eq_false_iff_eq] at hg) <;> (try (first | simp only [eq_false hg, if_true, if_false] | simp only [eq_true hg, if_true, if_false]))) | with_reducible refine aseq_step ?_ | with_reducible refine any_step' ?_ | with_reducible refine aseq_end ?_ | with_reducible refine any_end' ?_ | refine awp_condC ?_ | refine awp_exit ?_ | refine awp_skip ?_ | refine awp_ret ?_) <;> (try simp (disch := first | omega | simp) [wrap_i64, -aseqC, -anyC, h0, h1, h2])) | ((first | with_reducible refine sideG ?_ ?_ | with_reducible refine sideG2 ?_ ?_ | with_reducible refine sideS ?_ ?_ | with_reducible refine sideS2 ?_ ?_ | with_reducible refine sideS3 ?_ ?_ | with_reducible refine sideA ?_ ?_ | with_reducible refine sideA2 ?_ ?_ | with_reducible refine sideA3 ?_ ?_); (first | omega | assumption | (simp; done))) | (refine awp_seq_k fun K hK => ?_) | (refine awp_regionC ?_) | (refine awp_anyA true (by kernel_rfl) (by kernel_rfl) ?_) | (refine hK _ ?_; clear hK; clear K) | (clear hK; clear K; refine hK _ ?_; clear hK; clear K) | (clear hK; clear K; clear hK; clear K; refine hK _ ?_; clear hK; clear K) | refine awp_block ?_)
def numP (op : Int) : Int := if 0 ≤ op ∧ op ≤ 5 then 0 else if op = 6 ∨ op = 7 ∨ op = 20 then 1 else if op = 21 then 3 else if 5 < op ∧ op < 21 then 2 else -1
theorem op_cases (o : Int) : o = 0 ∨ o = 1 ∨ o = 2 ∨ o = 3 ∨ o = 4 ∨ o = 5 ∨ o = 6 ∨ o = 7 ∨ o = 8 ∨ o = 9 ∨ o = 10 ∨ o = 11 ∨ o = 12 ∨ o = 13 ∨ o = 14 ∨ o = 15 ∨ o = 16 ∨ o = 17 ∨ o = 18 ∨ o = 19 ∨ o = 20 ∨ o = 21 ∨ o = 22 ∨ (o < 0 ∨ 22 < o) := by omega
set_option maxHeartbeats 4000000 in
theorem rnumber_g (op : Int) : Gives Try.prog 100 [.int op] (.int (numP op)) := by
  obtain ⟨N, hN⟩ : ∃ N, N = numP op := ⟨_, rfl⟩
  rw [← hN]
  refine gives_of_awp Try.func100 Try.ntmps100 rfl rfl (by decide) rfl (by intro n; simp) fun σ n0 hcl hft => ?_
  repeat' (first | ((first | ((with_reducible refine aguard (fun hg => ?_) (fun hg => ?_)) <;> (try simp only [hg]) <;> (try simp only [beq_iff_eq, beq_eq_false_iff_ne, ne_eq, decide_eq_true_eq, decide_eq_false_iff_not, bne_iff_ne, bne_eq_false_iff_eq] at hg) <;> (try (first | simp only [eq_false hg, if_true, if_false] | simp only [eq_true hg, if_true, if_false]))) | with_reducible refine aseq_step ?_ | with_reducible refine any_step' ?_ | with_reducible refine aseq_end ?_ | with_reducible refine any_end' ?_ | refine awp_condC ?_ | refine awp_exit ?_ | refine awp_skip ?_ | refine awp_ret ?_) <;> (try simp (disch := first | omega | simp) [wrap_i64, -aseqC, -anyC])) | ((first | with_reducible refine sideG ?_ ?_ | with_reducible refine sideG2 ?_ ?_ | with_reducible refine sideS ?_ ?_ | with_reducible refine sideS2 ?_ ?_ | with_reducible refine sideS3 ?_ ?_ | with_reducible refine sideA ?_ ?_ | with_reducible refine sideA2 ?_ ?_ | with_reducible refine sideA3 ?_ ?_); (first | omega | assumption | (simp; done))) | (refine awp_seq_k fun K hK => ?_) | (refine awp_regionC ?_) | (refine awp_anyA true (by kernel_rfl) (by kernel_rfl) ?_) | (refine hK _ ?_; clear hK; clear K) | (clear hK; clear K; refine hK _ ?_; clear hK; clear K) | (clear hK; clear K; clear hK; clear K; refine hK _ ?_; clear hK; clear K) | refine awp_block ?_)
  all_goals (rw [hN]; unfold numP; (repeat' split) <;> omega)
set_option maxHeartbeats 4000000 in
theorem rlevels_g' (e : Ex) : levels e ≤ 1000000 → Gives Try.prog 17 [e.av] (.int (levels e)) := by
  induction e using Ex.ind with | h o m s l ih => ?_
  intro hl
  rw [levels] at hl ⊢
  refine gives_of_awp Try.func17 Try.ntmps17 rfl rfl (by decide) rfl (by intro n; simp) fun σ n0 hcl hft => ?_
  have hfl : l.length ≤ 9223372036854775807 := by
    simp [AV.fitss, AV.fits] at hft
    exact hft.1
  repeat' (first | ((first | ((with_reducible refine aguard (fun hg => ?_) (fun hg => ?_)) <;> (try simp only [hg]) <;> (try simp only [beq_iff_eq, beq_eq_false_iff_ne, ne_eq, decide_eq_true_eq, decide_eq_false_iff_not, bne_iff_ne, bne_eq_false_iff_eq] at hg) <;> (try (first | simp only [eq_false hg, if_true, if_false] | simp only [eq_true hg, if_true, if_false]))) | with_reducible refine aseq_step ?_ | with_reducible refine any_step' ?_ | with_reducible refine aseq_end ?_ | with_reducible refine any_end' ?_ | refine awp_condC ?_ | refine awp_exit ?_ | refine awp_skip ?_ | refine awp_ret ?_) <;> (try simp (disch := first | omega | simp) [wrap_i64, -aseqC, -anyC])) | ((first | with_reducible refine sideG ?_ ?_ | with_reducible refine sideG2 ?_ ?_ | with_reducible refine sideS ?_ ?_ | with_reducible refine sideS2 ?_ ?_ | with_reducible refine sideS3 ?_ ?_ | with_reducible refine sideA ?_ ?_ | with_reducible refine sideA2 ?_ ?_ | with_reducible refine sideA3 ?_ ?_); (first | omega | assumption | (simp; done))) | (refine awp_seq_k fun K hK => ?_) | (refine awp_regionC ?_) | (refine awp_anyA true (by kernel_rfl) (by kernel_rfl) ?_) | (refine hK _ ?_; clear hK; clear K) | (clear hK; clear K; refine hK _ ?_; clear hK; clear K) | (clear hK; clear K; clear hK; clear K; refine hK _ ?_; clear hK; clear K) | refine awp_block ?_)
  refine awp_loopC hcl (fun k : Nat => [(1, .ptr n0 0), (3, .int (levelsL (l.take k) 0)), (4, .int k)]) (fun _ => [.cells [.int o, .int m, .str s, .sl (l.map Ex.av)] 25]) (fun k => k ≤ l.length) (fun k => l.length - k) 0 (Nat.zero_le _) (by simp [levelsL]) fun k hk => ?_
  by_cases hlt : k < l.length
  · have c := ih l[k] (List.getElem_mem hlt) (by have := levelsL_mem l 0 l[k] (List.getElem_mem hlt); omega)
    have e1 : levelsL (l.take (k + 1)) 0 = max (levelsL (l.take k) 0) (levels l[k]) := by rw [List.take_succ_eq_append_getElem hlt, levelsL_snoc]
    repeat' (first | ((first | ((with_reducible refine aguard (fun hg => ?_) (fun hg => ?_)) <;> (try simp only [hg]) <;> (try simp only [beq_iff_eq, beq_eq_false_iff_ne, ne_eq, decide_eq_true_eq, decide_eq_false_iff_not, bne_iff_ne, bne_eq_false_iff_eq] at hg) <;> (try (first | simp only [eq_false hg, if_true, if_false] | simp only [eq_true hg, if_true, if_false]))) | with_reducible refine aseq_step ?_ | with_reducible refine any_step' ?_ | with_reducible refine aseq_end ?_ | with_reducible refine any_end' ?_ | refine acall (c) ?_ | refine agives (c) ?_ | refine awp_condC ?_ | refine awp_exit ?_ | refine awp_skip ?_ | refine awp_ret ?_) <;> (try simp (disch := first | omega | simp) [wrap_i64, -aseqC, -anyC, hlt])) | ((first | with_reducible refine sideG ?_ ?_ | with_reducible refine sideG2 ?_ ?_ | with_reducible refine sideS ?_ ?_ | with_reducible refine sideS2 ?_ ?_ | with_reducible refine sideS3 ?_ ?_ | with_reducible refine sideA ?_ ?_ | with_reducible refine sideA2 ?_ ?_ | with_reducible refine sideA3 ?_ ?_); (first | omega | assumption | (simp; done))) | (refine awp_seq_k fun K hK => ?_) | (refine awp_regionC ?_) | (refine awp_anyA true (by kernel_rfl) (by kernel_rfl) ?_) | (refine hK _ ?_; clear hK; clear K) | (clear hK; clear K; refine hK _ ?_; clear hK; clear K) | (clear hK; clear K; clear hK; clear K; refine hK _ ?_; clear hK; clear K) | refine awp_block ?_)
    all_goals refine ⟨k + 1, by omega, by omega, ?_⟩
    all_goals simp only [e1]
    all_goals simp
    all_goals split <;> omega
  · obtain rfl : k = l.length := by omega
    rw [List.take_length]
    have hpos := (levelsL_le l 0 0 (by omega) (by omega)).1
    generalize levelsL l 0 = V at *
    repeat' (first | ((first | ((with_reducible refine aguard (fun hg => ?_) (fun hg => ?_)) <;> (try simp only [hg]) <;> (try simp only [beq_iff_eq, beq_eq_false_iff_ne, ne_eq, decide_eq_true_eq, decide_eq_false_iff_not, bne_iff_ne, bne_eq_false_iff_eq] at hg) <;> (try (first | simp only [eq_false hg, if_true, if_false] | simp only [eq_true hg, if_true, if_false]))) | with_reducible refine aseq_step ?_ | with_reducible refine any_step' ?_ | with_reducible refine aseq_end ?_ | with_reducible refine any_end' ?_ | refine awp_condC ?_ | refine awp_exit ?_ | refine awp_skip ?_ | refine awp_ret ?_) <;> (try simp (disch := first | omega | simp) [wrap_i64, -aseqC, -anyC, hlt])) | ((first | with_reducible refine sideG ?_ ?_ | with_reducible refine sideG2 ?_ ?_ | with_reducible refine sideS ?_ ?_ | with_reducible refine sideS2 ?_ ?_ | with_reducible refine sideS3 ?_ ?_ | with_reducible refine sideA ?_ ?_ | with_reducible refine sideA2 ?_ ?_ | with_reducible refine sideA3 ?_ ?_); (first | omega | assumption | (simp; done))) | (refine awp_seq_k fun K hK => ?_) | (refine awp_regionC ?_) | (refine awp_anyA true (by kernel_rfl) (by kernel_rfl) ?_) | (refine hK _ ?_; clear hK; clear K) | (clear hK; clear K; refine hK _ ?_; clear hK; clear K) | (clear hK; clear K; clear hK; clear K; refine hK _ ?_; clear hK; clear K) | refine awp_block ?_)
theorem rcall_g (F : List Fn) (n : Int) (ts : List Int) : Gives Try.prog 99 [.sl (F.map Fn.av), .int n, .sl (ts.map AV.int)] (.tup [.int ((callT F n ts).getD 0), .bool (callT F n ts).isSome]) := by
  obtain ⟨C, hC⟩ : ∃ C, C = callT F n ts := ⟨_, rfl⟩
  rw [← hC]
  unfold callT at hC
  by_cases h0 : n < 0
  · rw [if_pos h0] at hC
    subst hC
    refine gives_of_awp Try.func99 Try.ntmps99 rfl rfl (by decide) rfl (by intro n; simp) fun σ n0 hcl hft => ?_
    repeat' (first | ((first | ((with_reducible refine aguard (fun hg => ?_) (fun hg => ?_)) <;> (try simp only [hg]) <;> (try simp only [beq_iff_eq, beq_eq_false_iff_ne, ne_eq, decide_eq_true_eq, decide_eq_false_iff_not, bne_iff_ne, bne_eq_false_iff_eq] at hg) <;> (try (first | simp only [eq_false hg, if_true, if_false] | simp only [eq_true hg, if_true, if_false]))) | with_reducible refine aseq_step ?_ | with_reducible refine any_step' ?_ | with_reducible refine aseq_end ?_ | with_reducible refine any_end' ?_ | refine awp_condC ?_ | refine awp_exit ?_ | refine awp_skip ?_ | refine awp_ret ?_) <;> (try simp (disch := first | omega | simp) [wrap_i64, -aseqC, -anyC, h0])) | ((first | with_reducible refine sideG ?_ ?_ | with_reducible refine sideG2 ?_ ?_ | with_reducible refine sideS ?_ ?_ | with_reducible refine sideS2 ?_ ?_ | with_reducible refine sideS3 ?_ ?_ | with_reducible refine sideA ?_ ?_ | with_reducible refine sideA2 ?_ ?_ | with_reducible refine sideA3 ?_ ?_); (first | omega | assumption | (simp; done))) | (refine awp_seq_k fun K hK => ?_) | (refine awp_regionC ?_) | (refine awp_anyA true (by kernel_rfl) (by kernel_rfl) ?_) | (refine hK _ ?_; clear hK; clear K) | (clear hK; clear K; refine hK _ ?_; clear hK; clear K) | (clear hK; clear K; clear hK; clear K; refine hK _ ?_; clear hK; clear K) | refine awp_block ?_)
  obtain ⟨k, rfl⟩ : ∃ k : Nat, n = k := ⟨n.toNat, by omega⟩
  rw [if_neg h0, Int.toNat_natCast] at hC
  by_cases h1 : k < F.length
  · rw [List.getElem?_eq_getElem h1] at hC
    dsimp only at hC
    have h1' : ¬ F.length ≤ k := by omega
    obtain ⟨f, hf⟩ : ∃ f, f = F[k] := ⟨_, rfl⟩
    rw [← hf] at hC
    by_cases h2 : f.params.length = ts.length
    · refine gives_of_awp Try.func99 Try.ntmps99 rfl rfl (by decide) rfl (by intro n; simp) fun σ n0 hcl hft => ?_
      repeat' (first | ((first | ((with_reducible refine aguard (fun hg => ?_) (fun hg => ?_)) <;> (try simp only [hg]) <;> (try simp only [beq_iff_eq, beq_eq_false_iff_ne, ne_eq, decide_eq_true_eq, decide_eq_false_iff_not, bne_iff_ne, bne_eq_false_iff_eq] at hg) <;> (try (first | simp only [eq_false hg, if_true, if_false] | simp only [eq_true hg, if_true, if_false]))) | with_reducible refine aseq_step ?_ | with_reducible refine any_step' ?_ | with_reducible refine aseq_end ?_ | with_reducible refine any_end' ?_ | refine awp_condC ?_ | refine awp_exit ?_ | refine awp_skip ?_ | refine awp_ret ?_) <;> (try simp (disch := first | omega | simp) [wrap_i64, -aseqC, -anyC, h0, h1, h1', ← hf, h2])) | ((first | with_reducible refine sideG ?_ ?_ | with_reducible refine sideG2 ?_ ?_ | with_reducible refine sideS ?_ ?_ | with_reducible refine sideS2 ?_ ?_ | with_reducible refine sideS3 ?_ ?_ | with_reducible refine sideA ?_ ?_ | with_reducible refine sideA2 ?_ ?_ | with_reducible refine sideA3 ?_ ?_); (first | omega | assumption | (simp; done))) | (refine awp_seq_k fun K hK => ?_) | (refine awp_regionC ?_) | (refine awp_anyA true (by kernel_rfl) (by kernel_rfl) ?_) | (refine hK _ ?_; clear hK; clear K) | (clear hK; clear K; refine hK _ ?_; clear hK; clear K) | (clear hK; clear K; clear hK; clear K; refine hK _ ?_; clear hK; clear K) | refine awp_block ?_)
      have hts : ts.length ≤ 9223372036854775807 := by
        have := (AV.fitss_iff.1 hft) (.sl (ts.map AV.int)) (by simp)
        simp [AV.fits] at this
        exact this.1
      refine awp_loopC hcl (fun i : Nat => [(2, .sl (ts.map AV.int)), (6, .int 0), (7, .bool false), (8, .ptr n0 0), (9, .int i)]) (fun _ => [.cells f.av.cells 67]) (fun i => i ≤ ts.length ∧ ∀ j (h : j < ts.length) (h' : j < f.params.length), j < i → ts[j] = f.params[j]) (fun i => ts.length - i) 0 ⟨by omega, fun j h h' hj => by omega⟩ (by simp) fun i ⟨hi, he⟩ => ?_
      by_cases hlt : i < ts.length
      · have hlt2 : i < f.params.length := by omega
        by_cases hx : ts[i] = f.params[i]
        · repeat' (first | ((first | ((with_reducible refine aguard (fun hg => ?_) (fun hg => ?_)) <;> (try simp only [hg]) <;> (try simp only [beq_iff_eq, beq_eq_false_iff_ne, ne_eq, decide_eq_true_eq, decide_eq_false_iff_not, bne_iff_ne, bne_eq_false_iff_eq] at hg) <;> (try (first | simp only [eq_false hg, if_true, if_false] | simp only [eq_true hg, if_true, if_false]))) | with_reducible refine aseq_step ?_ | with_reducible refine any_step' ?_ | with_reducible refine aseq_end ?_ | with_reducible refine any_end' ?_ | refine awp_condC ?_ | refine awp_exit ?_ | refine awp_skip ?_ | refine awp_ret ?_) <;> (try simp (disch := first | omega | simp) [wrap_i64, -aseqC, -anyC, hlt, hlt2, hx])) | ((first | with_reducible refine sideG ?_ ?_ | with_reducible refine sideG2 ?_ ?_ | with_reducible refine sideS ?_ ?_ | with_reducible refine sideS2 ?_ ?_ | with_reducible refine sideS3 ?_ ?_ | with_reducible refine sideA ?_ ?_ | with_reducible refine sideA2 ?_ ?_ | with_reducible refine sideA3 ?_ ?_); (first | omega | assumption | (simp; done))) | (refine awp_seq_k fun K hK => ?_) | (refine awp_regionC ?_) | (refine awp_anyA true (by kernel_rfl) (by kernel_rfl) ?_) | (refine hK _ ?_; clear hK; clear K) | (clear hK; clear K; refine hK _ ?_; clear hK; clear K) | (clear hK; clear K; clear hK; clear K; refine hK _ ?_; clear hK; clear K) | refine awp_block ?_)
          all_goals
            refine ⟨i + 1, ⟨by omega, fun j h h' hj => ?_⟩, by omega, by simp⟩
            by_cases hji : j < i
            · exact he j h h' hji
            · obtain rfl : j = i := by omega
              exact hx
        · have : C = none := by rw [hC, if_neg]; intro h; exact hx (by simp only [h])
          subst this
          repeat' (first | ((first | ((with_reducible refine aguard (fun hg => ?_) (fun hg => ?_)) <;> (try simp only [hg]) <;> (try simp only [beq_iff_eq, beq_eq_false_iff_ne, ne_eq, decide_eq_true_eq, decide_eq_false_iff_not, bne_iff_ne, bne_eq_false_iff_eq] at hg) <;> (try (first | simp only [eq_false hg, if_true, if_false] | simp only [eq_true hg, if_true, if_false]))) | with_reducible refine aseq_step ?_ | with_reducible refine any_step' ?_ | with_reducible refine aseq_end ?_ | with_reducible refine any_end' ?_ | refine awp_condC ?_ | refine awp_exit ?_ | refine awp_skip ?_ | refine awp_ret ?_) <;> (try simp (disch := first | omega | simp) [wrap_i64, -aseqC, -anyC, hlt, hlt2, hx])) | ((first | with_reducible refine sideG ?_ ?_ | with_reducible refine sideG2 ?_ ?_ | with_reducible refine sideS ?_ ?_ | with_reducible refine sideS2 ?_ ?_ | with_reducible refine sideS3 ?_ ?_ | with_reducible refine sideA ?_ ?_ | with_reducible refine sideA2 ?_ ?_ | with_reducible refine sideA3 ?_ ?_); (first | omega | assumption | (simp; done))) | (refine awp_seq_k fun K hK => ?_) | (refine awp_regionC ?_) | (refine awp_anyA true (by kernel_rfl) (by kernel_rfl) ?_) | (refine hK _ ?_; clear hK; clear K) | (clear hK; clear K; refine hK _ ?_; clear hK; clear K) | (clear hK; clear K; clear hK; clear K; refine hK _ ?_; clear hK; clear K) | refine awp_block ?_)
          all_goals (exfalso; exact hx (by assumption))
      · have : C = some f.res := by
          rw [hC, if_pos]
          exact List.ext_getElem (by omega) fun j h1 h2 => (he j h2 h1 (by omega)).symm
        subst this
        repeat' (first | ((first | ((with_reducible refine aguard (fun hg => ?_) (fun hg => ?_)) <;> (try simp only [hg]) <;> (try simp only [beq_iff_eq, beq_eq_false_iff_ne, ne_eq, decide_eq_true_eq, decide_eq_false_iff_not, bne_iff_ne, bne_eq_false_iff_eq] at hg) <;> (try (first | simp only [eq_false hg, if_true, if_false] | simp only [eq_true hg, if_true, if_false]))) | with_reducible refine aseq_step ?_ | with_reducible refine any_step' ?_ | with_reducible refine aseq_end ?_ | with_reducible refine any_end' ?_ | refine awp_condC ?_ | refine awp_exit ?_ | refine awp_skip ?_ | refine awp_ret ?_) <;> (try simp (disch := first | omega | simp) [wrap_i64, -aseqC, -anyC, hlt])) | ((first | with_reducible refine sideG ?_ ?_ | with_reducible refine sideG2 ?_ ?_ | with_reducible refine sideS ?_ ?_ | with_reducible refine sideS2 ?_ ?_ | with_reducible refine sideS3 ?_ ?_ | with_reducible refine sideA ?_ ?_ | with_reducible refine sideA2 ?_ ?_ | with_reducible refine sideA3 ?_ ?_); (first | omega | assumption | (simp; done))) | (refine awp_seq_k fun K hK => ?_) | (refine awp_regionC ?_) | (refine awp_anyA true (by kernel_rfl) (by kernel_rfl) ?_) | (refine hK _ ?_; clear hK; clear K) | (clear hK; clear K; refine hK _ ?_; clear hK; clear K) | (clear hK; clear K; clear hK; clear K; refine hK _ ?_; clear hK; clear K) | refine awp_block ?_)
    · have : C = none := by rw [hC, if_neg]; intro h; rw [h] at h2; exact h2 rfl
      subst this
      refine gives_of_awp Try.func99 Try.ntmps99 rfl rfl (by decide) rfl (by intro n; simp) fun σ n0 hcl hft => ?_
      repeat' (first | ((first | ((with_reducible refine aguard (fun hg => ?_) (fun hg => ?_)) <;> (try simp only [hg]) <;> (try simp only [beq_iff_eq, beq_eq_false_iff_ne, ne_eq, decide_eq_true_eq, decide_eq_false_iff_not, bne_iff_ne, bne_eq_false_iff_eq] at hg) <;> (try (first | simp only [eq_false hg, if_true, if_false] | simp only [eq_true hg, if_true, if_false]))) | with_reducible refine aseq_step ?_ | with_reducible refine any_step' ?_ | with_reducible refine aseq_end ?_ | with_reducible refine any_end' ?_ | refine awp_condC ?_ | refine awp_exit ?_ | refine awp_skip ?_ | refine awp_ret ?_) <;> (try simp (disch := first | omega | simp) [wrap_i64, -aseqC, -anyC, h0, h1, h1', ← hf, h2])) | ((first | with_reducible refine sideG ?_ ?_ | with_reducible refine sideG2 ?_ ?_ | with_reducible refine sideS ?_ ?_ | with_reducible refine sideS2 ?_ ?_ | with_reducible refine sideS3 ?_ ?_ | with_reducible refine sideA ?_ ?_ | with_reducible refine sideA2 ?_ ?_ | with_reducible refine sideA3 ?_ ?_); (first | omega | assumption | (simp; done))) | (refine awp_seq_k fun K hK => ?_) | (refine awp_regionC ?_) | (refine awp_anyA true (by kernel_rfl) (by kernel_rfl) ?_) | (refine hK _ ?_; clear hK; clear K) | (clear hK; clear K; refine hK _ ?_; clear hK; clear K) | (clear hK; clear K; clear hK; clear K; refine hK _ ?_; clear hK; clear K) | refine awp_block ?_)
      all_goals (exfalso; omega)
  · rw [List.getElem?_eq_none (by omega)] at hC
    subst hC
    have h2 : (F.length : Int) ≤ k := by omega
    refine gives_of_awp Try.func99 Try.ntmps99 rfl rfl (by decide) rfl (by intro n; simp) fun σ n0 hcl hft => ?_
    repeat' (first | ((first | ((with_reducible refine aguard (fun hg => ?_) (fun hg => ?_)) <;> (try simp only [hg]) <;> (try simp only [beq_iff_eq, beq_eq_false_iff_ne, ne_eq, decide_eq_true_eq, decide_eq_false_iff_not, bne_iff_ne, bne_eq_false_iff_eq] at hg) <;> (try (first | simp only [eq_false hg, if_true, if_false] | simp only [eq_true hg, if_true, if_false]))) | with_reducible refine aseq_step ?_ | with_reducible refine any_step' ?_ | with_reducible refine aseq_end ?_ | with_reducible refine any_end' ?_ | refine awp_condC ?_ | refine awp_exit ?_ | refine awp_skip ?_ | refine awp_ret ?_) <;> (try simp (disch := first | omega | simp) [wrap_i64, -aseqC, -anyC, h0, h1, h2])) | ((first | with_reducible refine sideG ?_ ?_ | with_reducible refine sideG2 ?_ ?_ | with_reducible refine sideS ?_ ?_ | with_reducible refine sideS2 ?_ ?_ | with_reducible refine sideS3 ?_ ?_ | with_reducible refine sideA ?_ ?_ | with_reducible refine sideA2 ?_ ?_ | with_reducible refine sideA3 ?_ ?_); (first | omega | assumption | (simp; done))) | (refine awp_seq_k fun K hK => ?_) | (refine awp_regionC ?_) | (refine awp_anyA true (by kernel_rfl) (by kernel_rfl) ?_) | (refine hK _ ?_; clear hK; clear K) | (clear hK; clear K; refine hK _ ?_; clear hK; clear K) | (clear hK; clear K; clear hK; clear K; refine hK _ ?_; clear hK; clear K) | refine awp_block ?_)
/-- what the tail of inner returns as a type, whether it is one or not -/
def tailX (F : List Fn) (c p : List Int) (o n : Int) (s : ByteArray) (ts : List Int) : Int :=
  if s.size ≠ 0 ∧ o ≠ 1 then 0 else if o = 22 then (callT F n ts).getD 0 else if numP o ≠ ts.length then 0
  else if o = 0 then 0 else if o = 2 then 2 else if o = 3 then atX c n else if o = 4 then atX p n else if n ≠ 0 then 0
  else if o = 1 then 1 else if o = 5 then 0 else if o = 6 then 2 else if o = 7 ∨ o = 20 then 0 else if o ≤ 12 then 0 else if o ≤ 18 then 2 else if o = 19 then 1 else ts.getD 1 0
def innerX (F : List Fn) (c p : List Int) : Ex → Int
  | .mk o n s l => match tys F c p l with
    | some ts => tailX F c p o n s ts
    | none => 0
theorem at_pick {l : List Int} {n t : Int} (h : pickT l n = some t) : atX l n = t := by
  unfold pickT at h
  split at h
  · cases h
  · cases hv : l[n.toNat]? with
    | none => rw [hv] at h; cases h
    | some v =>
      rw [hv] at h
      dsimp only at h
      split at h
      · cases h
        have := (List.getElem?_eq_some_iff.1 hv).1
        unfold atX
        rw [if_pos (by omega), List.getD_eq_getElem?_getD, hv]; rfl
      · cases h
theorem tailT_num {F : List Fn} {c p : List Int} {o n t : Int} {s : ByteArray} {ts : List Int} (h : tailT F c p o n s ts = some t) (h22 : o ≠ 22) : numP o = ts.length := by
  unfold tailT at h
  split at h
  · cases h
  unfold numP
  split at h
  · rename_i hn
    subst hn
    unfold leafT at h
    split at h
    · subst o; rfl
    split at h
    · subst o; rfl
    split at h
    · subst o; rfl
    split at h
    · subst o; rfl
    split at h
    · subst o; rfl
    split at h
    · subst o; rfl
    · cases h
  · unfold operT at h
    split at h
    · cases h
    split at h
    · subst o; split at h
      · rename_i e; rw [e]; rfl
      · cases h
    split at h
    · subst o; split at h
      · rename_i e; rw [e]; rfl
      · cases h
    split at h
    · subst o; split at h
      · rename_i e; rw [e]; rfl
      · cases h
    split at h
    · split at h
      · rename_i ho e; rw [e, if_neg (by omega), if_neg (by omega), if_neg (by omega), if_pos (by omega)]; rfl
      · cases h
    split at h
    · split at h
      · rename_i ho _ _ _ ; rw [if_neg (by omega), if_neg (by omega), if_neg (by omega), if_pos (by omega)]; rfl
      · cases h
    split at h
    · split at h
      · rename_i ho e; rw [e, if_neg (by omega), if_neg (by omega), if_neg (by omega), if_pos (by omega)]; rfl
      · cases h
    split at h
    · split at h
      · rename_i ho e; rw [e, if_neg (by omega), if_neg (by omega), if_neg (by omega), if_pos (by omega)]; rfl
      · cases h
    split at h
    · subst o
      split at h
      · rfl
      · cases h
    · cases h
theorem tys_all {F : List Fn} {c p : List Int} : ∀ (l : List Ex), (∀ i (h : i < l.length), (ty F c p l[i]).isSome = true) → tys F c p l = some (l.map fun e => (ty F c p e).getD 0)
  | [], _ => by rw [tys]; rfl
  | e :: l, h => by
    have h0 := h 0 (by simp)
    simp only [List.getElem_cons_zero] at h0
    obtain ⟨t, ht⟩ := Option.isSome_iff_exists.1 h0
    rw [tys, ht, tys_all l (fun i hi => by have := h (i + 1) (by simpa using hi); simpa only [List.getElem_cons_succ] using this)]
    simp [ht]
theorem tys_stop {F : List Fn} {c p : List Int} : ∀ (l : List Ex) (k : Nat) (h : k < l.length), ty F c p l[k] = none → tys F c p l = none
  | [], k, h, _ => by simp at h
  | e :: l, 0, h, he => by
    simp only [List.getElem_cons_zero] at he
    rw [tys, he]
  | e :: l, k + 1, h, he => by
    rw [tys, tys_stop l k (by simpa using h) (by simpa only [List.getElem_cons_succ] using he)]
    cases ty F c p e <;> rfl
theorem tail_eq {F : List Fn} {c p : List Int} {o n t : Int} {s : ByteArray} {ts : List Int} (h : tailT F c p o n s ts = some t) : tailX F c p o n s ts = t := by
  have hnum := fun h22 => tailT_num h h22
  unfold tailT at h
  unfold tailX
  split at h
  · cases h
  rename_i hs
  rw [if_neg hs]
  split at h
  · rename_i h22
    rw [if_pos h22, h]; rfl
  rename_i h22
  rw [if_neg h22, if_neg (by rw [hnum h22]; simp)]
  split at h
  · unfold leafT at h
    split at h
    · rename_i h0; rw [if_pos h0]; cases h; rfl
    rename_i h0; rw [if_neg h0]
    split at h
    · rename_i h2; rw [if_pos h2]; split at h <;> cases h; rfl
    rename_i h2; rw [if_neg h2]
    split at h
    · rename_i h3; rw [if_pos h3]; exact at_pick h
    rename_i h3; rw [if_neg h3]
    split at h
    · rename_i h4; rw [if_pos h4]; exact at_pick h
    rename_i h4; rw [if_neg h4]
    split at h
    · rename_i h1
      split at h
      · rename_i hn; cases h; rw [if_neg (by omega), if_pos h1]
      · cases h
    rename_i h1
    split at h
    · rename_i h5
      split at h
      · rename_i hn; cases h; rw [if_neg (by omega), if_neg h1, if_pos h5]
      · cases h
    · cases h
  · unfold operT at h
    split at h
    · cases h
    rename_i hn
    split at h
    · subst o; split at h <;> cases h; simp [hn]
    split at h
    · subst o; split at h <;> cases h; simp [hn]
    split at h
    · subst o; split at h <;> cases h; simp [hn]
    split at h
    · rename_i ho; split at h <;> cases h
      rw [if_neg (by omega), if_neg (by omega), if_neg (by omega), if_neg (by omega), if_neg hn, if_neg (by omega), if_neg (by omega), if_neg (by omega), if_neg (by omega), if_pos (by omega)]
    split at h
    · rename_i ho
      rw [if_neg (by omega), if_neg (by omega), if_neg (by omega), if_neg (by omega), if_neg hn, if_neg (by omega), if_neg (by omega), if_neg (by omega), if_neg (by omega), if_neg (by omega), if_pos (by omega)]
      split at h
      · split at h <;> cases h; rfl
      · cases h
    split at h
    · rename_i ho; split at h <;> cases h
      rw [if_neg (by omega), if_neg (by omega), if_neg (by omega), if_neg (by omega), if_neg hn, if_neg (by omega), if_neg (by omega), if_neg (by omega), if_neg (by omega), if_neg (by omega), if_pos (by omega)]
    split at h
    · subst o; split at h <;> cases h; simp [hn]
    split at h
    · subst o
      split at h
      · split at h
        · rename_i hb; cases h; simp [hn]; exact hb.2
        · cases h
      · cases h
    · cases h
theorem inner_eq (F : List Fn) (c p : List Int) : ∀ (e : Ex) (t : Int), ty F c p e = some t → innerX F c p e = t
  | .mk o n s l, t, h => by
    rw [ty] at h
    rw [innerX]
    cases hl : tys F c p l with
    | none => rw [hl] at h; cases h
    | some ts => rw [hl] at h; exact tail_eq h
theorem numP_len {o : Int} {ts : List Int} (h : numP o = ts.length) (h22 : o ≠ 22) :
    ((o = 0 ∨ o = 1 ∨ o = 2 ∨ o = 3 ∨ o = 4 ∨ o = 5) ∧ ts = []) ∨ ((o = 6 ∨ o = 7 ∨ o = 20) ∧ ∃ a, ts = [a]) ∨ (o = 21 ∧ ∃ a b d, ts = [a, b, d]) ∨
    ((o = 8 ∨ o = 9 ∨ o = 10 ∨ o = 11 ∨ o = 12 ∨ o = 13 ∨ o = 14 ∨ o = 15 ∨ o = 16 ∨ o = 17 ∨ o = 18 ∨ o = 19) ∧ ∃ a b, ts = [a, b]) := by
  unfold numP at h
  split at h
  · exact .inl ⟨by omega, List.eq_nil_of_length_eq_zero (by omega)⟩
  split at h
  · refine .inr (.inl ⟨by omega, ?_⟩)
    match ts, h with
    | [a], _ => exact ⟨a, rfl⟩
  split at h
  · refine .inr (.inr (.inl ⟨by omega, ?_⟩))
    match ts, h with
    | [a, b, d], _ => exact ⟨a, b, d, rfl⟩
  split at h
  · refine .inr (.inr (.inr ⟨by omega, ?_⟩))
    match ts, h with
    | [a, b], _ => exact ⟨a, b, rfl⟩
  · omega
end Go.Proofs.Ytmhelkhmgbbfhaa
