/- The law ExprTells: it returns true. -/
import Derived.Test.YtmhelkhmgbbfhaaGa17
import Derived.Test.YtmhelkhmgbbfhaaGa25
import Derived.Test.YtmhelkhmgbbfhaaGa26
namespace Go.Proofs.Ytmhelkhmgbbfhaa
open Go.RowKit Go.Lib

theorem val_q : qinfo Try.prog 34 = some [(0, 0), (1, 0), (2, 2)] := by kernel_rfl
theorem val_eq (v : Val) : aeq Try.prog .eql 34 v.av v.av = some true := by
  simp only [aeq, aeqS, val_q, Val.av, feq, feq1]
  simp
@[simp] theorem Val.av_val? (v : Val) : v.av.val? = none := rfl

set_option maxHeartbeats 2000000 in
theorem tells_g (F : List Fn) (e : Ex) (time : Int) (R : List Val) (L : List Ex) :
    Gives Try.prog 5 [.sl (F.map Fn.av), e.av, .int time, .sl (R.map Val.av), .sl (L.map Ex.av)] (.bool true) := by
  have hcg := good_g F e R
  by_cases hg : goodP F e R = false
  · rw [hg] at hcg
    clear hg
    refine gives_of_awp Try.func5 Try.ntmps5 rfl rfl (by decide) rfl (by intro n; simp) fun σ n0 hcl hft => ?_
    repeat (rw [aseqC]; try simp (disch := first | omega | simp) [wrap_i64, -aseqC])
    repeat (first | (refine awp_seq_k fun K hK => ?_) | (refine awp_regionC ?_; repeat (rw [aseqC]; try simp (disch := first | omega | simp) [wrap_i64, -aseqC])) | (refine hK _ ?_; clear hK; clear K) | (clear hK; clear K; refine hK _ ?_; clear hK; clear K) | (clear hK; clear K; clear hK; clear K; refine hK _ ?_; clear hK; clear K) | refine awp_block ?_ | (refine awp_condC ?_; simp (disch := first | omega | simp) [wrap_i64]) | (refine awp_exit ?_; simp (disch := first | omega | simp)) | (refine awp_skip ?_; simp (disch := first | omega | simp)) | (refine awp_ret ?_; simp (disch := first | omega | simp)))
    refine acall (small_g) ?_
    try simp (disch := first | omega | simp) [wrap_i64, -aseqC]
    repeat (rw [aseqC]; try simp (disch := first | omega | simp) [wrap_i64, -aseqC])
    repeat (first | (refine awp_seq_k fun K hK => ?_) | (refine awp_regionC ?_; repeat (rw [aseqC]; try simp (disch := first | omega | simp) [wrap_i64, -aseqC])) | (refine hK _ ?_; clear hK; clear K) | (clear hK; clear K; refine hK _ ?_; clear hK; clear K) | (clear hK; clear K; clear hK; clear K; refine hK _ ?_; clear hK; clear K) | refine awp_block ?_ | (refine awp_condC ?_; simp (disch := first | omega | simp) [wrap_i64]) | (refine awp_exit ?_; simp (disch := first | omega | simp)) | (refine awp_skip ?_; simp (disch := first | omega | simp)) | (refine awp_ret ?_; simp (disch := first | omega | simp)))
    refine acall (hcg) ?_
    try simp (disch := first | omega | simp) [wrap_i64, -aseqC]
    repeat (rw [aseqC]; try simp (disch := first | omega | simp) [wrap_i64, -aseqC])
    repeat (first | (refine awp_seq_k fun K hK => ?_) | (refine awp_regionC ?_; repeat (rw [aseqC]; try simp (disch := first | omega | simp) [wrap_i64, -aseqC])) | (refine hK _ ?_; clear hK; clear K) | (clear hK; clear K; refine hK _ ?_; clear hK; clear K) | (clear hK; clear K; clear hK; clear K; refine hK _ ?_; clear hK; clear K) | refine awp_block ?_ | (refine awp_condC ?_; simp (disch := first | omega | simp) [wrap_i64]) | (refine awp_exit ?_; simp (disch := first | omega | simp)) | (refine awp_skip ?_; simp (disch := first | omega | simp)) | (refine awp_ret ?_; simp (disch := first | omega | simp)))
  rw [Bool.not_eq_false] at hg
  rw [hg] at hcg
  by_cases hl : 12 < L.length
  · have hl' : (12 : Int) < L.length := by omega
    clear hg
    refine gives_of_awp Try.func5 Try.ntmps5 rfl rfl (by decide) rfl (by intro n; simp) fun σ n0 hcl hft => ?_
    repeat (rw [aseqC]; try simp (disch := first | omega | simp) [wrap_i64, -aseqC])
    repeat (first | (refine awp_seq_k fun K hK => ?_) | (refine awp_regionC ?_; repeat (rw [aseqC]; try simp (disch := first | omega | simp) [wrap_i64, -aseqC])) | (refine hK _ ?_; clear hK; clear K) | (clear hK; clear K; refine hK _ ?_; clear hK; clear K) | (clear hK; clear K; clear hK; clear K; refine hK _ ?_; clear hK; clear K) | refine awp_block ?_ | (refine awp_condC ?_; simp (disch := first | omega | simp) [wrap_i64]) | (refine awp_exit ?_; simp (disch := first | omega | simp)) | (refine awp_skip ?_; simp (disch := first | omega | simp)) | (refine awp_ret ?_; simp (disch := first | omega | simp)))
    refine acall (small_g) ?_
    try simp (disch := first | omega | simp) [wrap_i64, -aseqC]
    repeat (rw [aseqC]; try simp (disch := first | omega | simp) [wrap_i64, -aseqC])
    repeat (first | (refine awp_seq_k fun K hK => ?_) | (refine awp_regionC ?_; repeat (rw [aseqC]; try simp (disch := first | omega | simp) [wrap_i64, -aseqC])) | (refine hK _ ?_; clear hK; clear K) | (clear hK; clear K; refine hK _ ?_; clear hK; clear K) | (clear hK; clear K; clear hK; clear K; refine hK _ ?_; clear hK; clear K) | refine awp_block ?_ | (refine awp_condC ?_; simp (disch := first | omega | simp) [wrap_i64]) | (refine awp_exit ?_; simp (disch := first | omega | simp)) | (refine awp_skip ?_; simp (disch := first | omega | simp)) | (refine awp_ret ?_; simp (disch := first | omega | simp)))
    refine acall (hcg) ?_
    try simp (disch := first | omega | simp) [wrap_i64, -aseqC, hl']
    repeat (rw [aseqC]; try simp (disch := first | omega | simp) [wrap_i64, -aseqC, hl'])
    repeat (first | (refine awp_seq_k fun K hK => ?_) | (refine awp_regionC ?_; repeat (rw [aseqC]; try simp (disch := first | omega | simp) [wrap_i64, -aseqC, hl'])) | (refine hK _ ?_; clear hK; clear K) | (clear hK; clear K; refine hK _ ?_; clear hK; clear K) | (clear hK; clear K; clear hK; clear K; refine hK _ ?_; clear hK; clear K) | refine awp_block ?_ | (refine awp_condC ?_; simp (disch := first | omega | simp) [wrap_i64, hl']) | (refine awp_exit ?_; simp (disch := first | omega | simp)) | (refine awp_skip ?_; simp (disch := first | omega | simp)) | (refine awp_ret ?_; simp (disch := first | omega | simp)))
  have hl' : ¬ (12 : Int) < L.length := by omega
  obtain ⟨t, hT, hRF, hty, hOk, hFp, hpb, hlR, hsR, hlev⟩ := good_all hg
  have hst10 : stepsP F e ≤ 10000 := by
    unfold goodP at hg
    simp only [Bool.and_eq_true, decide_eq_true_eq] at hg
    exact hg.2
  have hgp := hg
  unfold goodP at hgp
  simp only [Bool.and_eq_true, decide_eq_true_eq] at hgp
  have hF22 : F.length ≤ 22 := (goodP_parts hgp.1.1.1.1 hgp.1.1.1.2 hgp.1.1.2).1
  have hpe : parts e ≤ 100 := by have := parts_of_light (by omega) hgp.1.1.1.2; omega
  have hpF : ∀ f ∈ F, parts f.body ≤ 60 := fun f hf => by
    have h1 := hgp.1.1.1.1
    unfold fair at h1
    simp only [Bool.and_eq_true, List.all_eq_true, decide_eq_true_eq] at h1
    have h := h1.1 f hf
    unfold fairB at h
    simp only [Bool.and_eq_true, decide_eq_true_eq] at h
    have := parts_of_light (by omega) h.1; omega
  have hwf : wfS F.length e = true := wfS_of_ty e hty
  have hwF : ∀ i (h : i < F.length), wfS i F[i].body = true := fun i h => by
    have := wfS_of_ty _ (okF_body (hOk i h) (List.getElem?_eq_getElem h))
    rwa [List.length_take, Nat.min_eq_left (by omega)] at this
  have hlt : countE (bodiesS [] F) e < 1099511627776 := by unfold stepsP at hst10; omega
  have c1 := eval_g F time R e t hOk hFp hpb hty hsR
  have c2 := reval_g F time R e t hOk hFp hpb hty hsR hlt
  have c3 := steps_g F e hpb hFp (by omega) hwf hwF
  have c4 := rsteps_g F e hpb hFp (by omega)
  have c5 := timed_g F e (by omega) hwf hwF
  have c6 := rtimed_g F e hpb hFp (by omega)
  have c7 := Inline_g F (fun f hf => by have := hpF f hf; omega) (by omega) hwF e (by omega) hwf
  have c8 := rinline_g F (fun f hf => by have := hpF f hf; omega) (by omega) e (by omega)
  have hI : parts ((inlineP F e).getD zeroE) ≤ 1000000 := by
    unfold inlineP
    split
    · rename_i x hx
      split
      · show parts zeroE ≤ _; decide
      · have := inlE_parts hx; show parts x ≤ _; omega
    · show parts zeroE ≤ _; decide
  have c9 := rsame_g ((inlineP F e).getD zeroE) ((inlineP F e).getD zeroE) hI
  have hq := val_eq (evalP F time R e)
  generalize evalP F time R e = Z at *
  generalize stepsP F e = N at *
  generalize timedP F e = TB at *
  generalize inlineP F e = IL at *
  clear hT hRF hty hOk hFp hpb hsR hg hgp hwf hwF hlt hI hpF
  refine gives_of_awp Try.func5 Try.ntmps5 rfl rfl (by decide) rfl (by intro n; simp) fun σ n0 hcl hft => ?_
  repeat (rw [aseqC]; try simp (disch := first | omega | simp) [wrap_i64, -aseqC])
  repeat (first | (refine awp_seq_k fun K hK => ?_) | (refine awp_regionC ?_; repeat (rw [aseqC]; try simp (disch := first | omega | simp) [wrap_i64, -aseqC])) | (refine hK _ ?_; clear hK; clear K) | (clear hK; clear K; refine hK _ ?_; clear hK; clear K) | (clear hK; clear K; clear hK; clear K; refine hK _ ?_; clear hK; clear K) | refine awp_block ?_ | (refine awp_condC ?_; simp (disch := first | omega | simp) [wrap_i64]) | (refine awp_exit ?_; simp (disch := first | omega | simp)) | (refine awp_skip ?_; simp (disch := first | omega | simp)) | (refine awp_ret ?_; simp (disch := first | omega | simp)))
  refine acall (small_g) ?_
  try simp (disch := first | omega | simp) [wrap_i64, -aseqC]
  repeat (rw [aseqC]; try simp (disch := first | omega | simp) [wrap_i64, -aseqC])
  repeat (first | (refine awp_seq_k fun K hK => ?_) | (refine awp_regionC ?_; repeat (rw [aseqC]; try simp (disch := first | omega | simp) [wrap_i64, -aseqC])) | (refine hK _ ?_; clear hK; clear K) | (clear hK; clear K; refine hK _ ?_; clear hK; clear K) | (clear hK; clear K; clear hK; clear K; refine hK _ ?_; clear hK; clear K) | refine awp_block ?_ | (refine awp_condC ?_; simp (disch := first | omega | simp) [wrap_i64]) | (refine awp_exit ?_; simp (disch := first | omega | simp)) | (refine awp_skip ?_; simp (disch := first | omega | simp)) | (refine awp_ret ?_; simp (disch := first | omega | simp)))
  refine acall (hcg) ?_
  try simp (disch := first | omega | simp) [wrap_i64, -aseqC, hl']
  repeat (rw [aseqC]; try simp (disch := first | omega | simp) [wrap_i64, -aseqC, hl'])
  repeat (first | (refine awp_seq_k fun K hK => ?_) | (refine awp_regionC ?_; repeat (rw [aseqC]; try simp (disch := first | omega | simp) [wrap_i64, -aseqC, hl'])) | (refine hK _ ?_; clear hK; clear K) | (clear hK; clear K; refine hK _ ?_; clear hK; clear K) | (clear hK; clear K; clear hK; clear K; refine hK _ ?_; clear hK; clear K) | refine awp_block ?_ | (refine awp_condC ?_; simp (disch := first | omega | simp) [wrap_i64, hl']) | (refine awp_exit ?_; simp (disch := first | omega | simp)) | (refine awp_skip ?_; simp (disch := first | omega | simp)) | (refine awp_ret ?_; simp (disch := first | omega | simp)))
  refine awp_loopC hcl (fun k : Nat => [(0, .sl (F.map Fn.av)), (2, .int time), (3, .sl (R.map Val.av)), (4, .sl (L.map Ex.av)), (6, .ptr n0 0), (10, .bool false), (11, .bool true), (12, .int k)]) (fun k => [.cells [.int e.op, .int e.n, .str e.s, .sl (e.args.map Ex.av)] 25])
    (fun k => k ≤ L.length ∧ ∀ i (h : i < L.length), i < k → parts L[i] ≤ 40) (fun k => L.length - k) 0 (by exact ⟨by omega, fun i h h2 => by omega⟩) (by simp) fun k hk => ?_
  obtain ⟨hk, hks⟩ := hk
  by_cases hlt : k < L.length
  · have hc := light_g L[k] 40 20 (by omega) (by omega) (by omega) (by omega)
    repeat (rw [aseqC]; try simp (disch := first | omega | simp) [wrap_i64, -aseqC, hlt])
    repeat (first | (refine awp_seq_k fun K hK => ?_) | (refine awp_regionC ?_; repeat (rw [aseqC]; try simp (disch := first | omega | simp) [wrap_i64, -aseqC, hlt])) | (refine hK _ ?_; clear hK; clear K) | (clear hK; clear K; refine hK _ ?_; clear hK; clear K) | (clear hK; clear K; clear hK; clear K; refine hK _ ?_; clear hK; clear K) | refine awp_block ?_ | (refine awp_condC ?_; simp (disch := first | omega | simp) [wrap_i64, hlt]) | (refine awp_exit ?_; simp (disch := first | omega | simp)) | (refine awp_skip ?_; simp (disch := first | omega | simp)) | (refine awp_ret ?_; simp (disch := first | omega | simp)))
    refine acall hc ?_
    by_cases hneg : light L[k] 40 20 < 0
    · simp (disch := first | omega | simp) [wrap_i64, hneg]
      repeat (rw [aseqC]; try simp (disch := first | omega | simp) [wrap_i64, -aseqC])
      repeat (first | (refine awp_seq_k fun K hK => ?_) | (refine awp_regionC ?_; repeat (rw [aseqC]; try simp (disch := first | omega | simp) [wrap_i64, -aseqC])) | (refine hK _ ?_; clear hK; clear K) | (clear hK; clear K; refine hK _ ?_; clear hK; clear K) | (clear hK; clear K; clear hK; clear K; refine hK _ ?_; clear hK; clear K) | refine awp_block ?_ | (refine awp_condC ?_; simp (disch := first | omega | simp) [wrap_i64]) | (refine awp_exit ?_; simp (disch := first | omega | simp)) | (refine awp_skip ?_; simp (disch := first | omega | simp)) | (refine awp_ret ?_; simp (disch := first | omega | simp)))
    · have hp : parts L[k] ≤ 40 := by have := parts_of_light (n := 40) (by omega) (Int.not_lt.1 hneg); omega
      simp (disch := first | omega | simp) [wrap_i64, hneg]
      repeat (rw [aseqC]; try simp (disch := first | omega | simp) [wrap_i64, -aseqC])
      repeat (first | (refine awp_seq_k fun K hK => ?_) | (refine awp_regionC ?_; repeat (rw [aseqC]; try simp (disch := first | omega | simp) [wrap_i64, -aseqC])) | (refine hK _ ?_; clear hK; clear K) | (clear hK; clear K; refine hK _ ?_; clear hK; clear K) | (clear hK; clear K; clear hK; clear K; refine hK _ ?_; clear hK; clear K) | refine awp_block ?_ | (refine awp_condC ?_; simp (disch := first | omega | simp) [wrap_i64]) | (refine awp_exit ?_; simp (disch := first | omega | simp)) | (refine awp_skip ?_; simp (disch := first | omega | simp)) | (refine awp_ret ?_; simp (disch := first | omega | simp)))
      refine ⟨k + 1, ⟨by omega, fun i h h2 => ?_⟩, by omega, by simp⟩
      by_cases hik : i < k
      · exact hks i h hik
      · obtain rfl : i = k := by omega
        exact hp
  · have hkl : k = L.length := by omega
    subst hkl
    have hLp : ∀ x ∈ L, parts x ≤ 40 := fun x hx => by
      obtain ⟨i, h, rfl⟩ := List.getElem_of_mem hx
      exact hks i h h
    have d1 := repl_g L (fun x hx => by have := hLp x hx; omega) e (by omega)
    have d2 := rrepl_g L (fun x hx => by have := hLp x hx; omega) e (by omega)
    have hI : parts ((replP e L).getD zeroE) ≤ 1000000 := by
      unfold replP
      split
      · rename_i x hx
        split
        · show parts zeroE ≤ _; decide
        · have := putP_parts (K := 40) (by omega) hLp e hx; show parts x ≤ _; omega
      · show parts zeroE ≤ _; decide
    have d3 := rsame_g ((replP e L).getD zeroE) ((replP e L).getD zeroE) hI
    have hs : ∀ x : Ex, sameB x x = true := sameB_self
    rw [hs] at d3 c9
    generalize replP e L = RL at *
    repeat (rw [aseqC]; try simp (disch := first | omega | simp) [wrap_i64, -aseqC])
    repeat (first | (refine awp_seq_k fun K hK => ?_) | (refine awp_regionC ?_; repeat (rw [aseqC]; try simp (disch := first | omega | simp) [wrap_i64, -aseqC])) | (refine hK _ ?_; clear hK; clear K) | (clear hK; clear K; refine hK _ ?_; clear hK; clear K) | (clear hK; clear K; clear hK; clear K; refine hK _ ?_; clear hK; clear K) | refine awp_block ?_ | (refine awp_condC ?_; simp (disch := first | omega | simp) [wrap_i64]) | (refine awp_exit ?_; simp (disch := first | omega | simp)) | (refine awp_skip ?_; simp (disch := first | omega | simp)) | (refine awp_ret ?_; simp (disch := first | omega | simp)))
    refine acall (d1) ?_
    try simp (disch := first | omega | simp) [wrap_i64, -aseqC]
    repeat (rw [aseqC]; try simp (disch := first | omega | simp) [wrap_i64, -aseqC])
    repeat (first | (refine awp_seq_k fun K hK => ?_) | (refine awp_regionC ?_; repeat (rw [aseqC]; try simp (disch := first | omega | simp) [wrap_i64, -aseqC])) | (refine hK _ ?_; clear hK; clear K) | (clear hK; clear K; refine hK _ ?_; clear hK; clear K) | (clear hK; clear K; clear hK; clear K; refine hK _ ?_; clear hK; clear K) | refine awp_block ?_ | (refine awp_condC ?_; simp (disch := first | omega | simp) [wrap_i64]) | (refine awp_exit ?_; simp (disch := first | omega | simp)) | (refine awp_skip ?_; simp (disch := first | omega | simp)) | (refine awp_ret ?_; simp (disch := first | omega | simp)))
    refine acall (d2) ?_
    try simp (disch := first | omega | simp) [wrap_i64, -aseqC]
    repeat (rw [aseqC]; try simp (disch := first | omega | simp) [wrap_i64, -aseqC])
    repeat (first | (refine awp_seq_k fun K hK => ?_) | (refine awp_regionC ?_; repeat (rw [aseqC]; try simp (disch := first | omega | simp) [wrap_i64, -aseqC])) | (refine hK _ ?_; clear hK; clear K) | (clear hK; clear K; refine hK _ ?_; clear hK; clear K) | (clear hK; clear K; clear hK; clear K; refine hK _ ?_; clear hK; clear K) | refine awp_block ?_ | (refine awp_condC ?_; simp (disch := first | omega | simp) [wrap_i64]) | (refine awp_exit ?_; simp (disch := first | omega | simp)) | (refine awp_skip ?_; simp (disch := first | omega | simp)) | (refine awp_ret ?_; simp (disch := first | omega | simp)))
    refine acall (c7) ?_
    try simp (disch := first | omega | simp) [wrap_i64, -aseqC]
    repeat (rw [aseqC]; try simp (disch := first | omega | simp) [wrap_i64, -aseqC])
    repeat (first | (refine awp_seq_k fun K hK => ?_) | (refine awp_regionC ?_; repeat (rw [aseqC]; try simp (disch := first | omega | simp) [wrap_i64, -aseqC])) | (refine hK _ ?_; clear hK; clear K) | (clear hK; clear K; refine hK _ ?_; clear hK; clear K) | (clear hK; clear K; clear hK; clear K; refine hK _ ?_; clear hK; clear K) | refine awp_block ?_ | (refine awp_condC ?_; simp (disch := first | omega | simp) [wrap_i64]) | (refine awp_exit ?_; simp (disch := first | omega | simp)) | (refine awp_skip ?_; simp (disch := first | omega | simp)) | (refine awp_ret ?_; simp (disch := first | omega | simp)))
    refine acall (c8) ?_
    try simp (disch := first | omega | simp) [wrap_i64, -aseqC]
    repeat (rw [aseqC]; try simp (disch := first | omega | simp) [wrap_i64, -aseqC])
    repeat (first | (refine awp_seq_k fun K hK => ?_) | (refine awp_regionC ?_; repeat (rw [aseqC]; try simp (disch := first | omega | simp) [wrap_i64, -aseqC])) | (refine hK _ ?_; clear hK; clear K) | (clear hK; clear K; refine hK _ ?_; clear hK; clear K) | (clear hK; clear K; clear hK; clear K; refine hK _ ?_; clear hK; clear K) | refine awp_block ?_ | (refine awp_condC ?_; simp (disch := first | omega | simp) [wrap_i64]) | (refine awp_exit ?_; simp (disch := first | omega | simp)) | (refine awp_skip ?_; simp (disch := first | omega | simp)) | (refine awp_ret ?_; simp (disch := first | omega | simp)))
    refine acall (d3) ?_
    try simp (disch := first | omega | simp) [wrap_i64, -aseqC]
    repeat (rw [aseqC]; try simp (disch := first | omega | simp) [wrap_i64, -aseqC])
    repeat (first | (refine awp_seq_k fun K hK => ?_) | (refine awp_regionC ?_; repeat (rw [aseqC]; try simp (disch := first | omega | simp) [wrap_i64, -aseqC])) | (refine hK _ ?_; clear hK; clear K) | (clear hK; clear K; refine hK _ ?_; clear hK; clear K) | (clear hK; clear K; clear hK; clear K; refine hK _ ?_; clear hK; clear K) | refine awp_block ?_ | (refine awp_condC ?_; simp (disch := first | omega | simp) [wrap_i64]) | (refine awp_exit ?_; simp (disch := first | omega | simp)) | (refine awp_skip ?_; simp (disch := first | omega | simp)) | (refine awp_ret ?_; simp (disch := first | omega | simp)))
    refine acall (c9) ?_
    try simp (disch := first | omega | simp) [wrap_i64, -aseqC]
    repeat (rw [aseqC]; try simp (disch := first | omega | simp) [wrap_i64, -aseqC])
    repeat (first | (refine awp_seq_k fun K hK => ?_) | (refine awp_regionC ?_; repeat (rw [aseqC]; try simp (disch := first | omega | simp) [wrap_i64, -aseqC])) | (refine hK _ ?_; clear hK; clear K) | (clear hK; clear K; refine hK _ ?_; clear hK; clear K) | (clear hK; clear K; clear hK; clear K; refine hK _ ?_; clear hK; clear K) | refine awp_block ?_ | (refine awp_condC ?_; simp (disch := first | omega | simp) [wrap_i64]) | (refine awp_exit ?_; simp (disch := first | omega | simp)) | (refine awp_skip ?_; simp (disch := first | omega | simp)) | (refine awp_ret ?_; simp (disch := first | omega | simp)))
    refine awp_anyC [.R, .R, .R, .M, .R, .R, .M, .R, .M, .R, .R, .M, .R, .R, .R, .R, .M, .M, .R, .M, .M, .R, .R, .R, .R, .M, .M, .R, .M, .M, .R, .R, .R] (by kernel_rfl) (by kernel_rfl) ?_
    repeat (rw [anyC]; try simp (disch := first | omega | simp) [wrap_i64, -anyC, hq])
    refine agives (c1) ?_
    try simp (disch := first | omega | simp) [wrap_i64, -anyC, hq]
    repeat (rw [anyC]; try simp (disch := first | omega | simp) [wrap_i64, -anyC, hq])
    refine agives (c2) ?_
    try simp (disch := first | omega | simp) [wrap_i64, -anyC, hq]
    repeat (rw [anyC]; try simp (disch := first | omega | simp) [wrap_i64, -anyC, hq])
    refine agives (c3) ?_
    try simp (disch := first | omega | simp) [wrap_i64, -anyC, hq]
    repeat (rw [anyC]; try simp (disch := first | omega | simp) [wrap_i64, -anyC, hq])
    refine agives (c4) ?_
    try simp (disch := first | omega | simp) [wrap_i64, -anyC, hq]
    repeat (rw [anyC]; try simp (disch := first | omega | simp) [wrap_i64, -anyC, hq])
    refine agives (c5) ?_
    try simp (disch := first | omega | simp) [wrap_i64, -anyC, hq]
    repeat (rw [anyC]; try simp (disch := first | omega | simp) [wrap_i64, -anyC, hq])
    refine agives (c6) ?_
    try simp (disch := first | omega | simp) [wrap_i64, -anyC, hq]
    repeat (rw [anyC]; try simp (disch := first | omega | simp) [wrap_i64, -anyC, hq])
    repeat (rw [aseqC]; try simp (disch := first | omega | simp) [wrap_i64, -aseqC])
    repeat (first | (refine awp_seq_k fun K hK => ?_) | (refine awp_regionC ?_; repeat (rw [aseqC]; try simp (disch := first | omega | simp) [wrap_i64, -aseqC])) | (refine hK _ ?_; clear hK; clear K) | (clear hK; clear K; refine hK _ ?_; clear hK; clear K) | (clear hK; clear K; clear hK; clear K; refine hK _ ?_; clear hK; clear K) | refine awp_block ?_ | (refine awp_condC ?_; simp (disch := first | omega | simp) [wrap_i64]) | (refine awp_exit ?_; simp (disch := first | omega | simp)) | (refine awp_skip ?_; simp (disch := first | omega | simp)) | (refine awp_ret ?_; simp (disch := first | omega | simp)))
end Go.Proofs.Ytmhelkhmgbbfhaa

/- The law ExprTells: for every input it returns true, and each argument reads afterwards as it read before. -/
namespace Go.Proofs.Ytmhelkhmgbbfhaa
open Go.ChangeShapes Go.WideShapes Go.ChangeAt Go.RowKit Go.Lib

theorem flat_fns {w : World} {L : List Fn} {v : Value} (h : Rd w Any (.sl (L.map Fn.d)) [v]) : RR1 (St.flat w) (.sl (L.map Fn.av)) v := by
  have := flat_rc h
  rw [fns_av] at this
  exact this
theorem flat_vals {w : World} {L : List Val} {v : Value} (h : Rd w Any (.sl (L.map Val.d)) [v]) : RR1 (St.flat w) (.sl (L.map Val.av)) v := by
  have := flat_rc h
  rw [vals_av] at this
  exact this
theorem flat_exs {w : World} {L : List Ex} {v : Value} (h : Rd w Any (.sl (L.map Ex.d)) [v]) : RR1 (St.flat w) (.sl (L.map Ex.av)) v := by
  have := flat_rc h
  rw [exs_av] at this
  exact this
theorem flat_ints {w : World} {L : List Int} {v : Value} (h : Rd w Any (.sl (L.map D.int)) [v]) : RR1 (St.flat w) (.sl (L.map AV.int)) v := by
  have := flat_rc h
  rw [ints_av] at this
  exact this
theorem flat_ex {w : World} {e : Ex} {cs : List Value} (h : Rd w Any e.d cs) : RR1 (St.flat w) e.av (.agg cs.toArray) := by
  have := flat_rc h
  rw [Ex.d_av, Ex.av_eq, RC] at this
  rw [Ex.av_eq]
  exact ⟨cs, rfl, this⟩
theorem flat_int {w : World} {n : Int} : RR1 (St.flat w) (.int n) (.int .i64 n) := by
  show RC _ _ _
  rw [RC]

theorem trodAll_five {H : Type} {enc : TypeId × Value → H} {P : Program} {w : World} {base : Nat} {spare : Nat → Bool} {held : Bool} {t0 t1 t2 t3 t4 : TypeId} {args : Array Value} {ds : List (DataW H)} {ps : List MemPlace} (h : DataW.TrodAll enc P w base spare held [t0, t1, t2, t3, t4] args.toList ds ps) :
    ∃ v0 v1 v2 v3 v4 d0 d1 d2 d3 d4 p0 p1 p2 p3 p4, args = #[v0, v1, v2, v3, v4] ∧ ds = [d0, d1, d2, d3, d4] ∧ ps = p0 ++ p1 ++ p2 ++ p3 ++ p4 ∧ DataW.Trod enc P w base spare held t0 v0 d0 p0 ∧ DataW.Trod enc P w base spare held t1 v1 d1 p1 ∧ DataW.Trod enc P w base spare held t2 v2 d2 p2 ∧ DataW.Trod enc P w base spare held t3 v3 d3 p3 ∧ DataW.Trod enc P w base spare held t4 v4 d4 p4 := by
  obtain ⟨v0, vs0, d0, ds0, p0, q0, hargs, rfl, rfl, h0, r0⟩ := trodAll_cons h
  obtain ⟨v1, vs1, d1, ds1, p1, q1, rfl, rfl, rfl, h1, r1⟩ := trodAll_cons r0
  obtain ⟨v2, vs2, d2, ds2, p2, q2, rfl, rfl, rfl, h2, r2⟩ := trodAll_cons r1
  obtain ⟨v3, vs3, d3, ds3, p3, q3, rfl, rfl, rfl, h3, r3⟩ := trodAll_cons r2
  obtain ⟨v4, vs4, d4, ds4, p4, q4, rfl, rfl, rfl, h4, r4⟩ := trodAll_cons r3
  obtain ⟨rfl, rfl, rfl⟩ := trodAll_nil r4
  exact ⟨v0, v1, v2, v3, v4, d0, d1, d2, d3, d4, p0, p1, p2, p3, p4, by cases args; simp_all, rfl, by simp, h0, h1, h2, h3, h4⟩

theorem tells_law (F : List Fn) (e : Ex) (time : Int) (R : List Val) (L : List Ex) (vF vR vL : Value) (cs : List Value) (w : World) (hF : Rd w Any (.sl (F.map Fn.d)) [vF]) (hr : Rd w Any e.d cs) (hR : Rd w Any (.sl (R.map Val.d)) [vR]) (hL : Rd w Any (.sl (L.map Ex.d)) [vL]) :
    Calls Try.prog 5 #[vF, .agg cs.toArray, .int .i64 time, vR, vL] w fun r w' => r = .returned (.bool true) ∧ Ext w w' :=
  calls_of_gives (vals := [vF, .agg cs.toArray, .int .i64 time, vR, vL]) (tells_g F e time R L) ⟨_, _, rfl, flat_fns hF, _, _, rfl, flat_ex hr, _, _, rfl, flat_int, _, _, rfl, flat_vals hR, _, _, rfl, flat_exs hL, rfl⟩

set_option maxRecDepth 100000 in
theorem tells_lifted (os : Os) (started : os.Started) (H : Type) (enc : TypeId × Value → H) :
    ReturnsInHanded {} Try.checked os 5 .any (Rows.exprTellsSpec.pre6 enc Try.prog Try.f5 Rows.exprTellsRow.domain false) (Rows.exprTellsSpec.post enc Try.prog Try.f5 false true false false) := by
  refine returnsInHanded_of_change (C := Try.checked) Try.own started (by kernel_rfl) Try.func5
    (ChangeSpec.witness6 (enc := enc) (C := Try.checked) false ⟨#[], #[.slice .none 0 0, .agg #[.int .i64 0, .int .i64 0, .string ByteArray.empty, .slice .none 0 0], .int .i64 0, .slice .none 0 0, .slice .none 0 0], []⟩ 8 (by kernel_rfl) (by kernel_rfl) (by kernel_rfl) (by kernel_rfl)) ?_
  intro W base args ds gs before hval0 hW hcnd _
  have hval : ∀ (j : Nat) t v, Try.f5.params[j]? = some t → args[j]? = some v → Value.okWide Try.prog W .any base t v := hval0
  have hW' := hW
  obtain ⟨p, q, hA0, hV, rfl, hfz, hnd⟩ := hW
  have hA : DataW.TrodAll enc Try.prog W 0 (fun _ => true) true Try.f5.params.toList args.toList ds p := hA0
  rw [Try.params5] at hA hval
  obtain ⟨v0, v1, v2, v3, v4, d0, d1, d2, d3, d4, p0, p1, p2, p3, p4, rfl, rfl, rfl, h0, h1, h2, h3, h4⟩ := trodAll_five hA
  obtain ⟨rfl, rfl⟩ := trodVars_none hV
  obtain ⟨F, hF⟩ := par_sl Try.underlying22 (hval 0 _ v0 rfl rfl) h0 trods_fns
  obtain ⟨e, cs, rfl, he⟩ := par_st Try.underlying25 (hval 1 _ v1 rfl rfl) h1 trods_ex
  obtain ⟨time, rfl⟩ := par_int Try.underlying3 (hval 2 _ v2 rfl rfl)
  obtain ⟨R, hR⟩ := par_sl Try.underlying26 (hval 3 _ v3 rfl rfl) h3 trods_vals
  obtain ⟨L, hL⟩ := par_sl Try.underlying23 (hval 4 _ v4 rfl rfl) h4 trods_exs
  refine (tells_law F e time R L v0 v3 v4 cs W hF he hR hL).mono ?_
  rintro r W' ⟨rfl, hb⟩
  exact ⟨_, rfl, law_post (P := Try.prog) Try.laidOut hW' rfl rfl (by kernel_rfl) Try.underlying4 (by kernel_rfl) hb⟩

theorem tells_holds : Rows.ExprTellsSaid :=
  OpenClaim.holds_of_wide 5 Try.f5 rfl rfl rfl rfl rfl rfl rfl ⟨rfl, rfl, rfl, rfl, rfl⟩ rfl rfl rfl rfl rfl (by kernel_rfl) Try.func5 (by kernel_rfl)
    (of_decide_eq_true (by kernel_rfl)) (by unfold Func.isWrapper; rw [if_neg (by decide +kernel)]; exact ⟨rfl, rfl⟩)
    (fun os started H enc _ => tells_lifted os started H enc)
end Go.Proofs.Ytmhelkhmgbbfhaa
