/- Inline, of the reference. -/
import Derived.Test.YtmhelkhmgbbfhaaGa10
import Derived.Test.YtmhelkhmgbbfhaaGa23
import Derived.Test.YtmhelkhmgbbfhaaGd2
set_option linter.unusedSimpArgs false
set_option linter.unusedVariables false
namespace Go.Proofs.Ytmhelkhmgbbfhaa
open Go.RowKit Go.Lib

set_option maxHeartbeats 1000000 in
theorem rinline_g (F : List Fn) (hF : ∀ f ∈ F, parts f.body ≤ 900) (hlF : F.length ≤ 1000) (e : Ex) (he : parts e ≤ 900) :
    Gives Try.prog 22 [.sl (F.map Fn.av), e.av] (exr (inlineP F e)) := by
  obtain ⟨R, hR⟩ : ∃ R, R = inlineP F e := ⟨_, rfl⟩
  rw [← hR]
  refine gives_of_awp Try.func22 Try.ntmps22 rfl rfl (by decide) rfl (by intro n; simp) fun σ n0 hcl hft => ?_
  repeat' (first | ((with_reducible refine aguard (fun hg => ?_) (fun hg => ?_)) <;> (try simp only [hg]) <;> (try simp only [beq_iff_eq, beq_eq_false_iff_ne, ne_eq, decide_eq_true_eq, decide_eq_false_iff_not, bne_iff_ne, bne_eq_false_iff_eq] at hg) <;> (try (first | simp only [eq_false hg, if_true, if_false] | simp only [eq_true hg, if_true, if_false])) <;> (try simp (disch := first | omega | simp) [wrap_i64, -aseqC, -anyC])) | (with_reducible refine aseq_step ?_; try simp (disch := first | omega | simp) [wrap_i64, -aseqC, -anyC]) | (with_reducible refine any_step' ?_; try simp (disch := first | omega | simp) [wrap_i64, -aseqC, -anyC]) | (with_reducible refine aseq_end ?_; try simp (disch := first | omega | simp) [wrap_i64, -aseqC, -anyC]) | (with_reducible refine any_end' ?_; try simp (disch := first | omega | simp) [wrap_i64, -aseqC, -anyC]) | ((first | with_reducible refine sideG ?_ ?_ | with_reducible refine sideG2 ?_ ?_ | with_reducible refine sideS ?_ ?_ | with_reducible refine sideS2 ?_ ?_ | with_reducible refine sideS3 ?_ ?_ | with_reducible refine sideA ?_ ?_ | with_reducible refine sideA2 ?_ ?_ | with_reducible refine sideA3 ?_ ?_); (first | omega | assumption | (simp; done))) | (refine awp_seq_k fun K hK => ?_) | (refine awp_regionC ?_) | (refine awp_anyA true (by kernel_rfl) (by kernel_rfl) ?_) | (refine awp_anyA false (by kernel_rfl) (by kernel_rfl) ?_) | (refine hK _ ?_; clear hK; clear K) | (clear hK; clear K; refine hK _ ?_; clear hK; clear K) | (clear hK; clear K; clear hK; clear K; refine hK _ ?_; clear hK; clear K) | refine awp_block ?_ | (refine awp_condC ?_; simp (disch := first | omega | simp) [wrap_i64, -aseqC, -anyC]) | (refine awp_exit ?_; try simp (disch := first | omega | simp) [wrap_i64, -aseqC, -anyC]) | (refine awp_skip ?_; try simp (disch := first | omega | simp) [wrap_i64, -aseqC, -anyC]) | (refine awp_ret ?_; try simp (disch := first | omega | simp) [wrap_i64, -aseqC, -anyC]))
  refine awp_adoptR 6 25 4 (by simp) ?_
  refine awp_adoptR 7 4 1 (by simp) ?_
  simp only [List.length_append, List.length_cons, List.length_nil, Nat.zero_add, Nat.reduceAdd, List.cons_append, List.nil_append]
  refine awp_loopC hcl (fun k : Nat => [(0, .sl (F.map Fn.av)), (3, .ptr n0 0), (4, .ptr (n0 + 1) 0), (6, .gs (n0 + 2) (((inlB [] (F.take k)).map fun b => b.getD zeroE).map Ex.av)), (7, .gs (n0 + 3) (((inlB [] (F.take k)).map Option.isSome).map AV.bool)), (8, .int k)]) (fun k => [.cells [.int e.op, .int e.n, .str e.s, .sl (e.args.map Ex.av)] 25, .cells [.int 0, .int 0, .str ByteArray.empty, .v (.slice none 0 0)] 25, .tail k 25 4, .tail k 4 1])
    (fun k => k ≤ F.length) (fun k => F.length - k) 0 (by simp) (by simp [inlB]) fun k hk => ?_
  have hlen : (inlB [] (F.take k)).length = k := by rw [inlB_len]; simp; omega
  have hbs := inlB_parts (F.take k)
  have hsn : ∀ (h : k < F.length), inlB [] (F.take (k + 1)) = inlB [] (F.take k) ++ [inlE (inlB [] (F.take k)) F[k].body] := fun h => by rw [List.take_succ_eq_append_getElem h, inlB_snoc]
  have hfin : k = F.length → inlineP F e = match inlE (inlB [] (F.take k)) e with
      | some x => if 12 < levels x then none else some x
      | none => none := fun h => by rw [h, List.take_length]; rfl
  generalize inlB [] (F.take k) = bs at *
  obtain ⟨Bd, hBd⟩ : ∃ Bd, Bd = bs.map fun b => b.getD zeroE := ⟨_, rfl⟩
  obtain ⟨gd, hgd⟩ : ∃ gd, gd = bs.map Option.isSome := ⟨_, rfl⟩
  rw [← hBd, ← hgd]
  have hl1 : Bd.length = k := by rw [hBd]; simpa using hlen
  have hl2 : gd.length = k := by rw [hgd]; simpa using hlen
  have hcall := fun e he => expand_g bs hbs Bd gd hBd hgd e he
  by_cases hlt : k < F.length
  · have hc := hcall F[k].body (hF _ (List.getElem_mem hlt))
    repeat' (first | ((with_reducible refine aguard (fun hg => ?_) (fun hg => ?_)) <;> (try simp only [hg]) <;> (try simp only [beq_iff_eq, beq_eq_false_iff_ne, ne_eq, decide_eq_true_eq, decide_eq_false_iff_not, bne_iff_ne, bne_eq_false_iff_eq] at hg) <;> (try (first | simp only [eq_false hg, if_true, if_false] | simp only [eq_true hg, if_true, if_false])) <;> (try simp (disch := first | omega | simp) [wrap_i64, -aseqC, -anyC, hlt, hl1, hl2])) | (with_reducible refine aseq_step ?_; try simp (disch := first | omega | simp) [wrap_i64, -aseqC, -anyC, hlt, hl1, hl2]) | (with_reducible refine any_step' ?_; try simp (disch := first | omega | simp) [wrap_i64, -aseqC, -anyC, hlt, hl1, hl2]) | (with_reducible refine aseq_end ?_; try simp (disch := first | omega | simp) [wrap_i64, -aseqC, -anyC, hlt, hl1, hl2]) | (with_reducible refine any_end' ?_; try simp (disch := first | omega | simp) [wrap_i64, -aseqC, -anyC, hlt, hl1, hl2]) | ((first | with_reducible refine sideG ?_ ?_ | with_reducible refine sideG2 ?_ ?_ | with_reducible refine sideS ?_ ?_ | with_reducible refine sideS2 ?_ ?_ | with_reducible refine sideS3 ?_ ?_ | with_reducible refine sideA ?_ ?_ | with_reducible refine sideA2 ?_ ?_ | with_reducible refine sideA3 ?_ ?_); (first | omega | assumption | (simp; done))) | (refine acall (hc) ?_; try simp (disch := first | omega | simp) [wrap_i64, -aseqC, -anyC, hlt, hl1, hl2]) | (refine agives (hc) ?_; try simp (disch := first | omega | simp) [wrap_i64, -aseqC, -anyC, hlt, hl1, hl2]) | (refine acallAt (hc) ?_; try simp (disch := first | omega | simp) [wrap_i64, -aseqC, -anyC, hlt, hl1, hl2]) | (refine awp_seq_k fun K hK => ?_) | (refine awp_regionC ?_) | (refine awp_anyA true (by kernel_rfl) (by kernel_rfl) ?_) | (refine awp_anyA false (by kernel_rfl) (by kernel_rfl) ?_) | (refine hK _ ?_; clear hK; clear K) | (clear hK; clear K; refine hK _ ?_; clear hK; clear K) | (clear hK; clear K; clear hK; clear K; refine hK _ ?_; clear hK; clear K) | refine awp_block ?_ | (refine awp_condC ?_; simp (disch := first | omega | simp) [wrap_i64, -aseqC, -anyC, hlt, hl1, hl2]) | (refine awp_exit ?_; try simp (disch := first | omega | simp) [wrap_i64, -aseqC, -anyC, hlt, hl1, hl2]) | (refine awp_skip ?_; try simp (disch := first | omega | simp) [wrap_i64, -aseqC, -anyC, hlt, hl1, hl2]) | (refine awp_ret ?_; try simp (disch := first | omega | simp) [wrap_i64, -aseqC, -anyC, hlt, hl1, hl2]))
    refine ⟨k + 1, by omega, by omega, ?_⟩
    rw [hsn hlt]
    simp [hBd, hgd]
  · have hkl : k = F.length := by omega
    have hRR := hR.trans (hfin hkl)
    have hc := hcall e he
    have hlv : levels ((inlE bs e).getD zeroE) ≤ 1000000 := by
      cases hx : inlE bs e with
      | none => show levels zeroE ≤ _; decide
      | some y => have := inlE_parts hx; have := levels_le y; show levels y ≤ _; omega
    have hlvg := rlevels_g _ hlv
    subst hkl
    cases hx : inlE bs e with
    | none =>
      rw [hx] at hc
      obtain rfl : R = none := by rw [hRR, hx]
      repeat' (first | ((with_reducible refine aguard (fun hg => ?_) (fun hg => ?_)) <;> (try simp only [hg]) <;> (try simp only [beq_iff_eq, beq_eq_false_iff_ne, ne_eq, decide_eq_true_eq, decide_eq_false_iff_not, bne_iff_ne, bne_eq_false_iff_eq] at hg) <;> (try (first | simp only [eq_false hg, if_true, if_false] | simp only [eq_true hg, if_true, if_false])) <;> (try simp (disch := first | omega | simp) [wrap_i64, -aseqC, -anyC])) | (with_reducible refine aseq_step ?_; try simp (disch := first | omega | simp) [wrap_i64, -aseqC, -anyC]) | (with_reducible refine any_step' ?_; try simp (disch := first | omega | simp) [wrap_i64, -aseqC, -anyC]) | (with_reducible refine aseq_end ?_; try simp (disch := first | omega | simp) [wrap_i64, -aseqC, -anyC]) | (with_reducible refine any_end' ?_; try simp (disch := first | omega | simp) [wrap_i64, -aseqC, -anyC]) | ((first | with_reducible refine sideG ?_ ?_ | with_reducible refine sideG2 ?_ ?_ | with_reducible refine sideS ?_ ?_ | with_reducible refine sideS2 ?_ ?_ | with_reducible refine sideS3 ?_ ?_ | with_reducible refine sideA ?_ ?_ | with_reducible refine sideA2 ?_ ?_ | with_reducible refine sideA3 ?_ ?_); (first | omega | assumption | (simp; done))) | (refine acall (hc) ?_; try simp (disch := first | omega | simp) [wrap_i64, -aseqC, -anyC]) | (refine agives (hc) ?_; try simp (disch := first | omega | simp) [wrap_i64, -aseqC, -anyC]) | (refine acallAt (hc) ?_; try simp (disch := first | omega | simp) [wrap_i64, -aseqC, -anyC]) | (refine awp_seq_k fun K hK => ?_) | (refine awp_regionC ?_) | (refine awp_anyA true (by kernel_rfl) (by kernel_rfl) ?_) | (refine awp_anyA false (by kernel_rfl) (by kernel_rfl) ?_) | (refine hK _ ?_; clear hK; clear K) | (clear hK; clear K; refine hK _ ?_; clear hK; clear K) | (clear hK; clear K; clear hK; clear K; refine hK _ ?_; clear hK; clear K) | refine awp_block ?_ | (refine awp_condC ?_; simp (disch := first | omega | simp) [wrap_i64, -aseqC, -anyC]) | (refine awp_exit ?_; try simp (disch := first | omega | simp) [wrap_i64, -aseqC, -anyC]) | (refine awp_skip ?_; try simp (disch := first | omega | simp) [wrap_i64, -aseqC, -anyC]) | (refine awp_ret ?_; try simp (disch := first | omega | simp) [wrap_i64, -aseqC, -anyC]))
    | some y =>
      rw [hx] at hRR hlvg hc
      replace hlvg : Gives Try.prog 17 [y.av] (.int (levels y)) := hlvg
      by_cases h12 : 12 < levels y
      · obtain rfl : R = none := by rw [hRR]; dsimp only; rw [if_pos h12]
        have h12' : (12 : Int) < levels y := by omega
        repeat' (first | ((with_reducible refine aguard (fun hg => ?_) (fun hg => ?_)) <;> (try simp only [hg]) <;> (try simp only [beq_iff_eq, beq_eq_false_iff_ne, ne_eq, decide_eq_true_eq, decide_eq_false_iff_not, bne_iff_ne, bne_eq_false_iff_eq] at hg) <;> (try (first | simp only [eq_false hg, if_true, if_false] | simp only [eq_true hg, if_true, if_false])) <;> (try simp (disch := first | omega | simp) [wrap_i64, -aseqC, -anyC, h12'])) | (with_reducible refine aseq_step ?_; try simp (disch := first | omega | simp) [wrap_i64, -aseqC, -anyC, h12']) | (with_reducible refine any_step' ?_; try simp (disch := first | omega | simp) [wrap_i64, -aseqC, -anyC, h12']) | (with_reducible refine aseq_end ?_; try simp (disch := first | omega | simp) [wrap_i64, -aseqC, -anyC, h12']) | (with_reducible refine any_end' ?_; try simp (disch := first | omega | simp) [wrap_i64, -aseqC, -anyC, h12']) | ((first | with_reducible refine sideG ?_ ?_ | with_reducible refine sideG2 ?_ ?_ | with_reducible refine sideS ?_ ?_ | with_reducible refine sideS2 ?_ ?_ | with_reducible refine sideS3 ?_ ?_ | with_reducible refine sideA ?_ ?_ | with_reducible refine sideA2 ?_ ?_ | with_reducible refine sideA3 ?_ ?_); (first | omega | assumption | (simp; done))) | (refine acall (hc) ?_; try simp (disch := first | omega | simp) [wrap_i64, -aseqC, -anyC, h12']) | (refine agives (hc) ?_; try simp (disch := first | omega | simp) [wrap_i64, -aseqC, -anyC, h12']) | (refine acallAt (hc) ?_; try simp (disch := first | omega | simp) [wrap_i64, -aseqC, -anyC, h12']) | (refine acall (hlvg) ?_; try simp (disch := first | omega | simp) [wrap_i64, -aseqC, -anyC, h12']) | (refine agives (hlvg) ?_; try simp (disch := first | omega | simp) [wrap_i64, -aseqC, -anyC, h12']) | (refine acallAt (hlvg) ?_; try simp (disch := first | omega | simp) [wrap_i64, -aseqC, -anyC, h12']) | (refine awp_seq_k fun K hK => ?_) | (refine awp_regionC ?_) | (refine awp_anyA true (by kernel_rfl) (by kernel_rfl) ?_) | (refine awp_anyA false (by kernel_rfl) (by kernel_rfl) ?_) | (refine hK _ ?_; clear hK; clear K) | (clear hK; clear K; refine hK _ ?_; clear hK; clear K) | (clear hK; clear K; clear hK; clear K; refine hK _ ?_; clear hK; clear K) | refine awp_block ?_ | (refine awp_condC ?_; simp (disch := first | omega | simp) [wrap_i64, -aseqC, -anyC, h12']) | (refine awp_exit ?_; try simp (disch := first | omega | simp) [wrap_i64, -aseqC, -anyC, h12']) | (refine awp_skip ?_; try simp (disch := first | omega | simp) [wrap_i64, -aseqC, -anyC, h12']) | (refine awp_ret ?_; try simp (disch := first | omega | simp) [wrap_i64, -aseqC, -anyC, h12']))
      · obtain rfl : R = some y := by rw [hRR]; dsimp only; rw [if_neg h12]
        have h12' : ¬ (12 : Int) < levels y := by omega
        repeat' (first | ((with_reducible refine aguard (fun hg => ?_) (fun hg => ?_)) <;> (try simp only [hg]) <;> (try simp only [beq_iff_eq, beq_eq_false_iff_ne, ne_eq, decide_eq_true_eq, decide_eq_false_iff_not, bne_iff_ne, bne_eq_false_iff_eq] at hg) <;> (try (first | simp only [eq_false hg, if_true, if_false] | simp only [eq_true hg, if_true, if_false])) <;> (try simp (disch := first | omega | simp) [wrap_i64, -aseqC, -anyC, h12'])) | (with_reducible refine aseq_step ?_; try simp (disch := first | omega | simp) [wrap_i64, -aseqC, -anyC, h12']) | (with_reducible refine any_step' ?_; try simp (disch := first | omega | simp) [wrap_i64, -aseqC, -anyC, h12']) | (with_reducible refine aseq_end ?_; try simp (disch := first | omega | simp) [wrap_i64, -aseqC, -anyC, h12']) | (with_reducible refine any_end' ?_; try simp (disch := first | omega | simp) [wrap_i64, -aseqC, -anyC, h12']) | ((first | with_reducible refine sideG ?_ ?_ | with_reducible refine sideG2 ?_ ?_ | with_reducible refine sideS ?_ ?_ | with_reducible refine sideS2 ?_ ?_ | with_reducible refine sideS3 ?_ ?_ | with_reducible refine sideA ?_ ?_ | with_reducible refine sideA2 ?_ ?_ | with_reducible refine sideA3 ?_ ?_); (first | omega | assumption | (simp; done))) | (refine acall (hc) ?_; try simp (disch := first | omega | simp) [wrap_i64, -aseqC, -anyC, h12']) | (refine agives (hc) ?_; try simp (disch := first | omega | simp) [wrap_i64, -aseqC, -anyC, h12']) | (refine acallAt (hc) ?_; try simp (disch := first | omega | simp) [wrap_i64, -aseqC, -anyC, h12']) | (refine acall (hlvg) ?_; try simp (disch := first | omega | simp) [wrap_i64, -aseqC, -anyC, h12']) | (refine agives (hlvg) ?_; try simp (disch := first | omega | simp) [wrap_i64, -aseqC, -anyC, h12']) | (refine acallAt (hlvg) ?_; try simp (disch := first | omega | simp) [wrap_i64, -aseqC, -anyC, h12']) | (refine awp_seq_k fun K hK => ?_) | (refine awp_regionC ?_) | (refine awp_anyA true (by kernel_rfl) (by kernel_rfl) ?_) | (refine awp_anyA false (by kernel_rfl) (by kernel_rfl) ?_) | (refine hK _ ?_; clear hK; clear K) | (clear hK; clear K; refine hK _ ?_; clear hK; clear K) | (clear hK; clear K; clear hK; clear K; refine hK _ ?_; clear hK; clear K) | refine awp_block ?_ | (refine awp_condC ?_; simp (disch := first | omega | simp) [wrap_i64, -aseqC, -anyC, h12']) | (refine awp_exit ?_; try simp (disch := first | omega | simp) [wrap_i64, -aseqC, -anyC, h12']) | (refine awp_skip ?_; try simp (disch := first | omega | simp) [wrap_i64, -aseqC, -anyC, h12']) | (refine awp_ret ?_; try simp (disch := first | omega | simp) [wrap_i64, -aseqC, -anyC, h12']))
end Go.Proofs.Ytmhelkhmgbbfhaa

/- Inline, of the program. -/
namespace Go.Proofs.Ytmhelkhmgbbfhaa
open Go.RowKit Go.Lib

theorem incr_ac (e : Ex) (k : Int) (hk : 0 ≤ k ∧ k ≤ 1000000000000) (r : Nat) (σ : Nat → AB) (hσ : σ r = .cells [.int k] 3) : AC Try.prog 85 [e.av, .ptr r 0] σ fun y τ => y = .tup [] ∧ τ = upd σ r (.cells [.int (k + 1)] 3) := by
  refine acS_of_awp Try.func85 Try.ntmps85 rfl rfl (by decide) rfl (by intro n; simp) (by intro n; simp) ?_ fun n0 hrn hcl hft => ?_
  · rw [hσ]; simp
  have hl : ∀ L, loc σ n0 L r = .cells [.int k] 3 := fun L => by rw [loc_lt _ _ _ _ hrn, hσ]
  repeat (first | (refine awp_seq_k fun K hK => ?_) | (refine awp_regionC ?_; simp (disch := first | omega | simp) [wrap_i64, hl, hrn]) | (refine hK _ ?_; clear hK; clear K) | (clear hK; clear K; refine hK _ ?_; clear hK; clear K) | (clear hK; clear K; clear hK; clear K; refine hK _ ?_; clear hK; clear K) | refine awp_block ?_ | (refine awp_condC ?_; simp (disch := first | omega | simp) [wrap_i64, hl, hrn]) | (refine awp_exit ?_; simp (disch := first | omega | simp)) | (refine awp_skip ?_; simp (disch := first | omega | simp)) | (refine awp_ret ?_; simp (disch := first | omega | simp)))
theorem walk_parts (e : Ex) : ∀ (k : Int) (r : Nat) (σ : Nat → AB), 0 ≤ k → k + parts e ≤ 1000000000000 → σ r = .cells [.int k] 3 → AC Try.prog 52 [e.av, .fn 85 [.ptr r 0]] σ fun y τ => y = .tup [] ∧ τ = upd σ r (.cells [.int (k + parts e)] 3) := by
  induction e using Ex.ind with | h o n s l ih => ?_
  intro k r σ h0 hk hσ
  refine acS_of_awp Try.func52 Try.ntmps52 rfl rfl (by decide) rfl (by intro n; simp) (by intro n; simp) ?_ fun n0 hrn hcl hft => ?_
  · rw [hσ]; simp
  have hl : ∀ L, loc σ n0 L r = .cells [.int k] 3 := fun L => by rw [loc_lt _ _ _ _ hrn, hσ]
  have hp : parts (.mk o n s l) = partsL l + 1 := by rw [parts]
  have hll := partsL_len l
  rw [hp] at hk ⊢
  have hc := incr_ac (.mk o n s l) k ⟨h0, by omega⟩ r _ (hl [.cells [.int o, .int n, .str s, .sl (l.map Ex.av)] 25])
  rw [Ex.av_mk] at hc
  repeat (first | (refine awp_seq_k fun K hK => ?_) | (refine awp_regionC ?_; simp (disch := first | omega | simp) [wrap_i64]) | (refine hK _ ?_; clear hK; clear K) | (clear hK; clear K; refine hK _ ?_; clear hK; clear K) | (clear hK; clear K; clear hK; clear K; refine hK _ ?_; clear hK; clear K) | refine awp_block ?_ | (refine awp_condC ?_; simp (disch := first | omega | simp) [wrap_i64]) | (refine awp_exit ?_; simp (disch := first | omega | simp)) | (refine awp_skip ?_; simp (disch := first | omega | simp)) | (refine awp_ret ?_; simp (disch := first | omega | simp)))
  refine acallS r _ hc (by simp [hl]) ?_
  simp (disch := first | omega | simp) [wrap_i64]
  repeat (first | (refine awp_seq_k fun K hK => ?_) | (refine awp_regionC ?_; simp (disch := first | omega | simp) [wrap_i64]) | (refine hK _ ?_; clear hK; clear K) | (clear hK; clear K; refine hK _ ?_; clear hK; clear K) | (clear hK; clear K; clear hK; clear K; refine hK _ ?_; clear hK; clear K) | refine awp_block ?_ | (refine awp_condC ?_; simp (disch := first | omega | simp) [wrap_i64]) | (refine awp_exit ?_; simp (disch := first | omega | simp)) | (refine awp_skip ?_; simp (disch := first | omega | simp)) | (refine awp_ret ?_; simp (disch := first | omega | simp)))
  refine awp_loopS (fun j : Nat => upd σ r (.cells [.int (k + 1 + partsL (l.take j))] 3)) (fun j => [(1, .fn 85 [.ptr r 0]), (2, .ptr n0 0), (10, .sl (l.map Ex.av)), (11, .int l.length), (12, .int j)]) (fun _ => [.cells [.int o, .int n, .str s, .sl (l.map Ex.av)] 25]) (fun j => j ≤ l.length) (fun j => l.length - j) 0 (fun j _ => upd_cl hcl (by simp)) (by simp) ⟨fun q _ => by simp [partsL], by simp [hrn]; omega⟩ (upd_cl hcl (by simp)) fun j hj => ?_
  by_cases hlt : j < l.length
  · have htk := partsL_take l j hlt
    have htl := partsL_take_le l (j + 1)
    repeat (first | (refine awp_seq_k fun K hK => ?_) | (refine awp_regionC ?_; simp (disch := first | omega | simp) [wrap_i64, hlt]) | (refine hK _ ?_; clear hK; clear K) | (clear hK; clear K; refine hK _ ?_; clear hK; clear K) | (clear hK; clear K; clear hK; clear K; refine hK _ ?_; clear hK; clear K) | refine awp_block ?_ | (refine awp_condC ?_; simp (disch := first | omega | simp) [wrap_i64, hlt]) | (refine awp_exit ?_; simp (disch := first | omega | simp)) | (refine awp_skip ?_; simp (disch := first | omega | simp)) | (refine awp_ret ?_; simp (disch := first | omega | simp)))
    have hst : ∀ L, loc (upd σ r (.cells [.int (k + 1 + partsL (l.take j))] 3)) n0 L r = .cells [.int (k + 1 + partsL (l.take j))] 3 := fun L => by rw [loc_lt _ _ _ _ hrn]; simp [upd]
    refine acallS r _ (ih l[j] (List.getElem_mem hlt) _ r _ (by omega) (by omega) (hst _)) (by simp [hst]) ?_
    simp (disch := first | omega | simp) [wrap_i64, hrn]
    repeat (first | (refine awp_seq_k fun K hK => ?_) | (refine awp_regionC ?_; simp (disch := first | omega | simp) [wrap_i64]) | (refine hK _ ?_; clear hK; clear K) | (clear hK; clear K; refine hK _ ?_; clear hK; clear K) | (clear hK; clear K; clear hK; clear K; refine hK _ ?_; clear hK; clear K) | refine awp_block ?_ | (refine awp_condC ?_; simp (disch := first | omega | simp) [wrap_i64]) | (refine awp_exit ?_; simp (disch := first | omega | simp)) | (refine awp_skip ?_; simp (disch := first | omega | simp)) | (refine awp_ret ?_; simp (disch := first | omega | simp)))
    refine ⟨upd_cl hcl (by simp), j + 1, by omega, by omega, ⟨fun q _ => ?_, by simp; omega⟩⟩
    rw [htk, show k + 1 + (partsL (l.take j) : Int) + parts l[j] = k + 1 + ((partsL (l.take j) + parts l[j] : Nat) : Int) by omega]
  · have hjl : j = l.length := by omega
    subst hjl
    rw [List.take_length]
    repeat (first | (refine awp_seq_k fun K hK => ?_) | (refine awp_regionC ?_; simp (disch := first | omega | simp) [wrap_i64]) | (refine hK _ ?_; clear hK; clear K) | (clear hK; clear K; refine hK _ ?_; clear hK; clear K) | (clear hK; clear K; clear hK; clear K; refine hK _ ?_; clear hK; clear K) | refine awp_block ?_ | (refine awp_condC ?_; simp (disch := first | omega | simp) [wrap_i64]) | (refine awp_exit ?_; simp (disch := first | omega | simp)) | (refine awp_skip ?_; simp (disch := first | omega | simp)) | (refine awp_ret ?_; simp (disch := first | omega | simp)))
    rw [show k + 1 + (partsL l : Int) = k + ((partsL l : Int) + 1) by omega]
theorem bodies2 (bs : List (Option Ex)) : True := trivial
/-- an inlined body, if it is one -/
@[simp] def bodyA (o : Option Ex) : AV := .agg [.int (o.getD zeroE).op, .int (o.getD zeroE).n, .str (o.getD zeroE).s, .sl ((o.getD zeroE).args.map Ex.av), .bool o.isSome]
@[simp] theorem bodies_cls (l : List (Option Ex)) (m : Nat) : AV.cls m (l.map bodyA) := AV.cls_map (fun f => by simp [-Ex.av_fold]) l
@[simp] theorem bodies_wid (l : List (Option Ex)) : AV.wid (l.map bodyA) 5 := AV.wid_map (f := bodyA) (fun a => rfl) l
@[simp] theorem bodies_elms (l : List (Option Ex)) : AV.elms (l.map bodyA) := AV.elms_map (f := bodyA) (fun a => rfl) l
set_option maxHeartbeats 1000000 in
theorem inline_g (bs : List (Option Ex)) (hbs : ∀ b ∈ bs, parts (b.getD zeroE) ≤ 1000) (e : Ex) : parts e ≤ 900 → wfS bs.length e = true →
    Gives Try.prog 48 [e.av, .sl (bs.map bodyA)] (bodyA (inlE bs e)) := by
  induction e using Ex.ind with | h o n s l ih => ?_
  intro hpb hwf
  have hl : l.length ≤ 900 := by rw [parts] at hpb; have := partsL_len l; omega
  rw [wfS, wfSL_all] at hwf
  simp only [Bool.and_eq_true, List.all_eq_true, Bool.or_eq_true, Bool.not_eq_true', decide_eq_false_iff_not, decide_eq_true_eq] at hwf
  obtain ⟨⟨-, hw2⟩, hw3⟩ := hwf
  obtain ⟨R, hR⟩ : ∃ R, R = inlE bs (.mk o n s l) := ⟨_, rfl⟩
  rw [← hR]
  refine gives_of_awp Try.func48 Try.ntmps48 rfl rfl (by decide) rfl (by intro n; simp) fun σ n0 hcl hft => ?_
  repeat (first | (refine awp_seq_k fun K hK => ?_) | (refine awp_regionC ?_; simp (disch := first | omega | simp) [wrap_i64]) | (refine hK _ ?_; clear hK; clear K) | (clear hK; clear K; refine hK _ ?_; clear hK; clear K) | (clear hK; clear K; clear hK; clear K; refine hK _ ?_; clear hK; clear K) | refine awp_block ?_ | (refine awp_condC ?_; simp (disch := first | omega | simp) [wrap_i64]) | (refine awp_exit ?_; simp (disch := first | omega | simp)) | (refine awp_skip ?_; simp (disch := first | omega | simp)) | (refine awp_ret ?_; simp (disch := first | omega | simp)))
  refine awp_adoptC 2 3 25 4 (by rfl) (by rfl) ?_
  refine awp_loopC hcl (fun ys : List Ex => [(1, .sl (bs.map bodyA)), (2, .ptr n0 0), (4, .ptr (n0 + 1) 0), (5, .ptr (n0 + 2) 0), (19, .sl (l.map Ex.av)), (20, .int l.length), (21, .int ys.length)]) (fun ys => [.cells [.int o, .int n, .str s, .sl (l.map Ex.av)] 25, .cells [.int 0, .int 0, .str ByteArray.empty, .v (.slice none 0 0), .bool false] 73, .cells [.int o, .int n, .str s, .gs (n0 + 3) (ys.map Ex.av)] 25, .tail ys.length 25 4])
    (fun ys => ∃ k, k ≤ l.length ∧ ys.length = k ∧ inlL bs (l.take k) = some ys) (fun ys => l.length - ys.length) [] (by exact ⟨0, by omega, rfl, by rw [List.take_zero, inlL]⟩) (by simp) fun ys hys => ?_
  obtain ⟨k, hk, rfl, hys⟩ := hys
  by_cases hlt : ys.length < l.length
  · have hpk : parts l[ys.length] ≤ 900 := by rw [parts] at hpb; have := partsL_mem l l[ys.length] (List.getElem_mem hlt); omega
    have hc := ih _ (List.getElem_mem hlt) hpk (hw3 _ (List.getElem_mem hlt))
    cases hx : inlE bs l[ys.length] with
    | none =>
      obtain rfl : R = none := by rw [hR, inlE, inlL_none l (List.getElem_mem hlt) hx]
      rw [hx] at hc
      repeat' (first | ((with_reducible refine aguard (fun hg => ?_) (fun hg => ?_)) <;> (try simp only [hg]) <;> (try simp only [beq_iff_eq, beq_eq_false_iff_ne, ne_eq, decide_eq_true_eq, decide_eq_false_iff_not, bne_iff_ne, bne_eq_false_iff_eq] at hg) <;> (try (first | simp only [eq_false hg, if_true, if_false] | simp only [eq_true hg, if_true, if_false])) <;> (try simp (disch := first | omega | simp) [wrap_i64, -aseqC, -anyC, hlt])) | (with_reducible refine aseq_step ?_; try simp (disch := first | omega | simp) [wrap_i64, -aseqC, -anyC, hlt]) | (with_reducible refine any_step' ?_; try simp (disch := first | omega | simp) [wrap_i64, -aseqC, -anyC, hlt]) | (with_reducible refine aseq_end ?_; try simp (disch := first | omega | simp) [wrap_i64, -aseqC, -anyC, hlt]) | (with_reducible refine any_end' ?_; try simp (disch := first | omega | simp) [wrap_i64, -aseqC, -anyC, hlt]) | ((first | with_reducible refine sideG ?_ ?_ | with_reducible refine sideG2 ?_ ?_ | with_reducible refine sideS ?_ ?_ | with_reducible refine sideS2 ?_ ?_ | with_reducible refine sideS3 ?_ ?_ | with_reducible refine sideA ?_ ?_ | with_reducible refine sideA2 ?_ ?_ | with_reducible refine sideA3 ?_ ?_); (first | omega | assumption | (simp; done))) | (refine acall (hc) ?_; try simp (disch := first | omega | simp) [wrap_i64, -aseqC, -anyC, hlt]) | (refine agives (hc) ?_; try simp (disch := first | omega | simp) [wrap_i64, -aseqC, -anyC, hlt]) | (refine acallAt (hc) ?_; try simp (disch := first | omega | simp) [wrap_i64, -aseqC, -anyC, hlt]) | (refine awp_seq_k fun K hK => ?_) | (refine awp_regionC ?_) | (refine awp_anyA true (by kernel_rfl) (by kernel_rfl) ?_) | (refine awp_anyA false (by kernel_rfl) (by kernel_rfl) ?_) | (refine hK _ ?_; clear hK; clear K) | (clear hK; clear K; refine hK _ ?_; clear hK; clear K) | (clear hK; clear K; clear hK; clear K; refine hK _ ?_; clear hK; clear K) | refine awp_block ?_ | (refine awp_condC ?_; simp (disch := first | omega | simp) [wrap_i64, -aseqC, -anyC, hlt]) | (refine awp_exit ?_; try simp (disch := first | omega | simp) [wrap_i64, -aseqC, -anyC, hlt]) | (refine awp_skip ?_; try simp (disch := first | omega | simp) [wrap_i64, -aseqC, -anyC, hlt]) | (refine awp_ret ?_; try simp (disch := first | omega | simp) [wrap_i64, -aseqC, -anyC, hlt]))
    | some y =>
      rw [hx] at hc
      have hsz : (ys.length + 1) * 64 ≤ 140737488355328 := by omega
      repeat' (first | ((with_reducible refine aguard (fun hg => ?_) (fun hg => ?_)) <;> (try simp only [hg]) <;> (try simp only [beq_iff_eq, beq_eq_false_iff_ne, ne_eq, decide_eq_true_eq, decide_eq_false_iff_not, bne_iff_ne, bne_eq_false_iff_eq] at hg) <;> (try (first | simp only [eq_false hg, if_true, if_false] | simp only [eq_true hg, if_true, if_false])) <;> (try simp (disch := first | omega | simp) [wrap_i64, -aseqC, -anyC, hlt, hsz])) | (with_reducible refine aseq_step ?_; try simp (disch := first | omega | simp) [wrap_i64, -aseqC, -anyC, hlt, hsz]) | (with_reducible refine any_step' ?_; try simp (disch := first | omega | simp) [wrap_i64, -aseqC, -anyC, hlt, hsz]) | (with_reducible refine aseq_end ?_; try simp (disch := first | omega | simp) [wrap_i64, -aseqC, -anyC, hlt, hsz]) | (with_reducible refine any_end' ?_; try simp (disch := first | omega | simp) [wrap_i64, -aseqC, -anyC, hlt, hsz]) | ((first | with_reducible refine sideG ?_ ?_ | with_reducible refine sideG2 ?_ ?_ | with_reducible refine sideS ?_ ?_ | with_reducible refine sideS2 ?_ ?_ | with_reducible refine sideS3 ?_ ?_ | with_reducible refine sideA ?_ ?_ | with_reducible refine sideA2 ?_ ?_ | with_reducible refine sideA3 ?_ ?_); (first | omega | assumption | (simp; done))) | (refine acall (hc) ?_; try simp (disch := first | omega | simp) [wrap_i64, -aseqC, -anyC, hlt, hsz]) | (refine agives (hc) ?_; try simp (disch := first | omega | simp) [wrap_i64, -aseqC, -anyC, hlt, hsz]) | (refine acallAt (hc) ?_; try simp (disch := first | omega | simp) [wrap_i64, -aseqC, -anyC, hlt, hsz]) | (refine awp_seq_k fun K hK => ?_) | (refine awp_regionC ?_) | (refine awp_anyA true (by kernel_rfl) (by kernel_rfl) ?_) | (refine awp_anyA false (by kernel_rfl) (by kernel_rfl) ?_) | (refine hK _ ?_; clear hK; clear K) | (clear hK; clear K; refine hK _ ?_; clear hK; clear K) | (clear hK; clear K; clear hK; clear K; refine hK _ ?_; clear hK; clear K) | refine awp_block ?_ | (refine awp_condC ?_; simp (disch := first | omega | simp) [wrap_i64, -aseqC, -anyC, hlt, hsz]) | (refine awp_exit ?_; try simp (disch := first | omega | simp) [wrap_i64, -aseqC, -anyC, hlt, hsz]) | (refine awp_skip ?_; try simp (disch := first | omega | simp) [wrap_i64, -aseqC, -anyC, hlt, hsz]) | (refine awp_ret ?_; try simp (disch := first | omega | simp) [wrap_i64, -aseqC, -anyC, hlt, hsz]))
      refine ⟨ys ++ [y], ⟨_, ?_, rfl, ?_⟩, by simp; omega, by simp⟩
      · simp; omega
      rw [List.length_append, List.length_singleton, List.take_succ_eq_append_getElem hlt]
      exact inlL_snoc hx _ hys
  · have hyl : ys.length = l.length := by omega
    rw [hyl, List.take_length] at hys
    have hyp : ∀ y ∈ ys, parts y ≤ 1000 := fun y hy => by
      obtain ⟨e, -, he⟩ := inlL_mem l hys y hy
      exact inlE_parts he
    -- counting the parts of what has come out
    have tail : ∀ (Z : Ex) (NP : Nat), parts Z = NP → NP ≤ 1000000 → R = fitX Z → (1000 < NP → R = none) ∧ (¬ 1000 < NP → R = some Z) := fun Z NP h1 _ h2 => by
      rw [h2, fitX, h1]
      exact ⟨fun h => if_pos h, fun h => if_neg h⟩
    by_cases ho : o = 22
    · subst ho
      obtain ⟨h0, h1⟩ := hw2.resolve_left (by simp)
      have hn : n.toNat < bs.length := by omega
      cases hb : bs[n.toNat] with
      | none =>
        obtain rfl : R = none := by rw [hR, inlE, hys]; dsimp only; rw [if_pos ⟨rfl, h0, h1⟩, List.getD_eq_getElem?_getD, List.getElem?_eq_getElem hn, hb]; rfl
        repeat (first | (refine awp_seq_k fun K hK => ?_) | (refine awp_regionC ?_; simp (disch := first | omega | simp) [wrap_i64, hyl, h0, h1, hb]) | (refine hK _ ?_; clear hK; clear K) | (clear hK; clear K; refine hK _ ?_; clear hK; clear K) | (clear hK; clear K; clear hK; clear K; refine hK _ ?_; clear hK; clear K) | refine awp_block ?_ | (refine awp_condC ?_; simp (disch := first | omega | simp) [wrap_i64, hyl, h0, h1, hb]) | (refine awp_exit ?_; simp (disch := first | omega | simp)) | (refine awp_skip ?_; simp (disch := first | omega | simp)) | (refine awp_ret ?_; simp (disch := first | omega | simp)))
      | some b =>
        have hRb : R = fitX ((putP 4 ys b).getD zeroE) := by rw [hR, inlE, hys]; dsimp only; rw [if_pos ⟨rfl, h0, h1⟩, List.getD_eq_getElem?_getD, List.getElem?_eq_getElem hn, hb]; rfl
        have hpb2 : parts b ≤ 1000 := hbs (some b) (by rw [← hb]; exact List.getElem_mem hn)
        have hpp : parts ((putP 4 ys b).getD zeroE) ≤ 1000000 := by
          cases hput : putP 4 ys b with
          | none => decide
          | some x => have h2 := putP_parts (K := 1000) (by omega) hyp b hput; have : parts b * 1000 ≤ 1000 * 1000 := Nat.mul_le_mul_right _ hpb2; show parts x ≤ _; omega
        have hcall := put_g 4 ys (fun x hx => by have := hyp x hx; omega) b (by omega)
        obtain ⟨Z, hZ⟩ : ∃ Z, Z = (putP 4 ys b).getD zeroE := ⟨_, rfl⟩
        have hcall2 : Gives Try.prog 45 [b.av, .int 4, .sl (ys.map Ex.av)] (.tup [Z.av, .bool (putP 4 ys b).isSome]) := by rw [hZ]; exact hcall
        rw [← hZ] at hRb hpp
        obtain ⟨t1, t2⟩ := tail Z _ rfl hpp hRb
        repeat' (first | ((with_reducible refine aguard (fun hg => ?_) (fun hg => ?_)) <;> (try simp only [hg]) <;> (try simp only [beq_iff_eq, beq_eq_false_iff_ne, ne_eq, decide_eq_true_eq, decide_eq_false_iff_not, bne_iff_ne, bne_eq_false_iff_eq] at hg) <;> (try (first | simp only [eq_false hg, if_true, if_false] | simp only [eq_true hg, if_true, if_false])) <;> (try simp (disch := first | omega | simp) [wrap_i64, -aseqC, -anyC, hyl, h0, h1, hb])) | (with_reducible refine aseq_step ?_; try simp (disch := first | omega | simp) [wrap_i64, -aseqC, -anyC, hyl, h0, h1, hb]) | (with_reducible refine any_step' ?_; try simp (disch := first | omega | simp) [wrap_i64, -aseqC, -anyC, hyl, h0, h1, hb]) | (with_reducible refine aseq_end ?_; try simp (disch := first | omega | simp) [wrap_i64, -aseqC, -anyC, hyl, h0, h1, hb]) | (with_reducible refine any_end' ?_; try simp (disch := first | omega | simp) [wrap_i64, -aseqC, -anyC, hyl, h0, h1, hb]) | ((first | with_reducible refine sideG ?_ ?_ | with_reducible refine sideG2 ?_ ?_ | with_reducible refine sideS ?_ ?_ | with_reducible refine sideS2 ?_ ?_ | with_reducible refine sideS3 ?_ ?_ | with_reducible refine sideA ?_ ?_ | with_reducible refine sideA2 ?_ ?_ | with_reducible refine sideA3 ?_ ?_); (first | omega | assumption | (simp; done))) | (refine acall (hcall2) ?_; try simp (disch := first | omega | simp) [wrap_i64, -aseqC, -anyC, hyl, h0, h1, hb]) | (refine agives (hcall2) ?_; try simp (disch := first | omega | simp) [wrap_i64, -aseqC, -anyC, hyl, h0, h1, hb]) | (refine acallAt (hcall2) ?_; try simp (disch := first | omega | simp) [wrap_i64, -aseqC, -anyC, hyl, h0, h1, hb]) | (refine awp_seq_k fun K hK => ?_) | (refine awp_regionC ?_) | (refine awp_anyA true (by kernel_rfl) (by kernel_rfl) ?_) | (refine awp_anyA false (by kernel_rfl) (by kernel_rfl) ?_) | (refine hK _ ?_; clear hK; clear K) | (clear hK; clear K; refine hK _ ?_; clear hK; clear K) | (clear hK; clear K; clear hK; clear K; refine hK _ ?_; clear hK; clear K) | refine awp_block ?_ | (refine awp_condC ?_; simp (disch := first | omega | simp) [wrap_i64, -aseqC, -anyC, hyl, h0, h1, hb]) | (refine awp_exit ?_; try simp (disch := first | omega | simp) [wrap_i64, -aseqC, -anyC, hyl, h0, h1, hb]) | (refine awp_skip ?_; try simp (disch := first | omega | simp) [wrap_i64, -aseqC, -anyC, hyl, h0, h1, hb]) | (refine awp_ret ?_; try simp (disch := first | omega | simp) [wrap_i64, -aseqC, -anyC, hyl, h0, h1, hb]))
        refine acallS (n0 + 5) _ (walk_parts Z 0 (n0 + 5) _ (by omega) (by omega) (by simp)) (by simp) ?_
        generalize parts Z = NP at *
        by_cases hbig : 1000 < NP
        · obtain rfl := t1 hbig
          have hbig' : (1000 : Int) < NP := by omega
          simp (disch := first | omega | simp) [wrap_i64]
          repeat (first | (refine awp_seq_k fun K hK => ?_) | (refine awp_regionC ?_; simp (disch := first | omega | simp) [wrap_i64, hbig']) | (refine hK _ ?_; clear hK; clear K) | (clear hK; clear K; refine hK _ ?_; clear hK; clear K) | (clear hK; clear K; clear hK; clear K; refine hK _ ?_; clear hK; clear K) | refine awp_block ?_ | (refine awp_condC ?_; simp (disch := first | omega | simp) [wrap_i64, hbig']) | (refine awp_exit ?_; simp (disch := first | omega | simp)) | (refine awp_skip ?_; simp (disch := first | omega | simp)) | (refine awp_ret ?_; simp (disch := first | omega | simp)))
          exact ⟨rfl, rfl, rfl, rfl⟩
        · obtain rfl := t2 hbig
          have hbig' : ¬ (1000 : Int) < NP := by omega
          simp (disch := first | omega | simp) [wrap_i64]
          repeat (first | (refine awp_seq_k fun K hK => ?_) | (refine awp_regionC ?_; simp (disch := first | omega | simp) [wrap_i64, hbig']) | (refine hK _ ?_; clear hK; clear K) | (clear hK; clear K; refine hK _ ?_; clear hK; clear K) | (clear hK; clear K; clear hK; clear K; refine hK _ ?_; clear hK; clear K) | refine awp_block ?_ | (refine awp_condC ?_; simp (disch := first | omega | simp) [wrap_i64, hbig']) | (refine awp_exit ?_; simp (disch := first | omega | simp)) | (refine awp_skip ?_; simp (disch := first | omega | simp)) | (refine awp_ret ?_; simp (disch := first | omega | simp)))
    · have hRb : R = fitX (.mk o n s ys) := by rw [hR, inlE, hys]; dsimp only; rw [if_neg (fun h => ho h.1)]
      have hpp : parts (.mk o n s ys) ≤ 1000000 := by
        have h2 := partsL_bound (K := 1000) ys hyp
        have : ys.length * 1000 ≤ 900 * 1000 := Nat.mul_le_mul_right _ (by omega)
        rw [parts]; omega
      generalize hZ : Ex.mk o n s ys = Z at *
      have hZf : AV.agg [.int o, .int n, .str s, .sl (ys.map Ex.av)] = Z.av := by rw [← hZ, Ex.av_mk]
      have hZo : Z.op = o ∧ Z.n = n ∧ Z.s = s ∧ Z.args = ys := by rw [← hZ]; exact ⟨rfl, rfl, rfl, rfl⟩
      obtain ⟨t1, t2⟩ := tail Z _ rfl hpp hRb
      have h22 : (o == 22) = false := by simp [ho]
      repeat (first | (refine awp_seq_k fun K hK => ?_) | (refine awp_regionC ?_; simp (disch := first | omega | simp) [wrap_i64, hyl, h22]) | (refine hK _ ?_; clear hK; clear K) | (clear hK; clear K; refine hK _ ?_; clear hK; clear K) | (clear hK; clear K; clear hK; clear K; refine hK _ ?_; clear hK; clear K) | refine awp_block ?_ | (refine awp_condC ?_; simp (disch := first | omega | simp) [wrap_i64, hyl, h22]) | (refine awp_exit ?_; simp (disch := first | omega | simp)) | (refine awp_skip ?_; simp (disch := first | omega | simp)) | (refine awp_ret ?_; simp (disch := first | omega | simp)))
      refine acallS (n0 + 4) _ (by rw [hZf]; exact walk_parts Z 0 (n0 + 4) _ (by omega) (by omega) (by simp)) (by simp) ?_
      generalize parts Z = NP at *
      by_cases hbig : 1000 < NP
      · obtain rfl := t1 hbig
        have hbig' : (1000 : Int) < NP := by omega
        simp (disch := first | omega | simp) [wrap_i64]
        repeat (first | (refine awp_seq_k fun K hK => ?_) | (refine awp_regionC ?_; simp (disch := first | omega | simp) [wrap_i64, hbig']) | (refine hK _ ?_; clear hK; clear K) | (clear hK; clear K; refine hK _ ?_; clear hK; clear K) | (clear hK; clear K; clear hK; clear K; refine hK _ ?_; clear hK; clear K) | refine awp_block ?_ | (refine awp_condC ?_; simp (disch := first | omega | simp) [wrap_i64, hbig']) | (refine awp_exit ?_; simp (disch := first | omega | simp)) | (refine awp_skip ?_; simp (disch := first | omega | simp)) | (refine awp_ret ?_; simp (disch := first | omega | simp)))
        exact ⟨rfl, rfl, rfl, rfl⟩
      · obtain rfl := t2 hbig
        have hbig' : ¬ (1000 : Int) < NP := by omega
        simp (disch := first | omega | simp) [wrap_i64]
        repeat (first | (refine awp_seq_k fun K hK => ?_) | (refine awp_regionC ?_; simp (disch := first | omega | simp) [wrap_i64, hbig', hZo]) | (refine hK _ ?_; clear hK; clear K) | (clear hK; clear K; refine hK _ ?_; clear hK; clear K) | (clear hK; clear K; clear hK; clear K; refine hK _ ?_; clear hK; clear K) | refine awp_block ?_ | (refine awp_condC ?_; simp (disch := first | omega | simp) [wrap_i64, hbig', hZo]) | (refine awp_exit ?_; simp (disch := first | omega | simp)) | (refine awp_skip ?_; simp (disch := first | omega | simp)) | (refine awp_ret ?_; simp (disch := first | omega | simp)))
        exact ⟨hZo.1.symm, hZo.2.1.symm, hZo.2.2.1.symm, by rw [hZo.2.2.2]⟩

set_option maxHeartbeats 1000000 in
theorem Inline_g (F : List Fn) (hF : ∀ f ∈ F, parts f.body ≤ 900) (hlF : F.length ≤ 1000) (hwF : ∀ i (h : i < F.length), wfS i F[i].body = true) (e : Ex) (he : parts e ≤ 900) (hwf : wfS F.length e = true) :
    Gives Try.prog 21 [.sl (F.map Fn.av), e.av] (exr (inlineP F e)) := by
  obtain ⟨R, hR⟩ : ∃ R, R = inlineP F e := ⟨_, rfl⟩
  rw [← hR]
  refine gives_of_awp Try.func21 Try.ntmps21 rfl rfl (by decide) rfl (by intro n; simp) fun σ n0 hcl hft => ?_
  repeat (first | (refine awp_seq_k fun K hK => ?_) | (refine awp_regionC ?_; simp (disch := first | omega | simp) [wrap_i64]) | (refine hK _ ?_; clear hK; clear K) | (clear hK; clear K; refine hK _ ?_; clear hK; clear K) | (clear hK; clear K; clear hK; clear K; refine hK _ ?_; clear hK; clear K) | refine awp_block ?_ | (refine awp_condC ?_; simp (disch := first | omega | simp) [wrap_i64]) | (refine awp_exit ?_; simp (disch := first | omega | simp)) | (refine awp_skip ?_; simp (disch := first | omega | simp)) | (refine awp_ret ?_; simp (disch := first | omega | simp)))
  refine awp_adoptR 6 73 5 (by simp) ?_
  simp only [List.length_append, List.length_cons, List.length_nil, Nat.zero_add, Nat.reduceAdd, List.cons_append, List.nil_append]
  refine awp_loopC hcl (fun k : Nat => [(3, .ptr n0 0), (4, .ptr (n0 + 1) 0), (6, .gs (n0 + 2) ((inlB [] (F.take k)).map bodyA)), (10, .sl (F.map Fn.av)), (11, .int F.length), (12, .int k)]) (fun k => [.cells [.int e.op, .int e.n, .str e.s, .sl (e.args.map Ex.av)] 25, .cells [.int 0, .int 0, .str ByteArray.empty, .v (.slice none 0 0)] 25, .tail k 73 5])
    (fun k => k ≤ F.length) (fun k => F.length - k) 0 (by simp) (by simp [inlB]) fun k hk => ?_
  have hlen : (inlB [] (F.take k)).length = k := by rw [inlB_len]; simp; omega
  have hbs := inlB_parts (F.take k)
  have hsn : ∀ (h : k < F.length), inlB [] (F.take (k + 1)) = inlB [] (F.take k) ++ [inlE (inlB [] (F.take k)) F[k].body] := fun h => by rw [List.take_succ_eq_append_getElem h, inlB_snoc]
  have hfin : k = F.length → inlineP F e = match inlE (inlB [] (F.take k)) e with
      | some x => if 12 < levels x then none else some x
      | none => none := fun h => by rw [h, List.take_length]; rfl
  generalize inlB [] (F.take k) = bs at *
  have hcall := fun e he hw => inline_g bs hbs e he hw
  by_cases hlt : k < F.length
  · repeat (first | (refine awp_seq_k fun K hK => ?_) | (refine awp_regionC ?_; simp (disch := first | omega | simp) [wrap_i64, hlt]) | (refine hK _ ?_; clear hK; clear K) | (clear hK; clear K; refine hK _ ?_; clear hK; clear K) | (clear hK; clear K; clear hK; clear K; refine hK _ ?_; clear hK; clear K) | refine awp_block ?_ | (refine awp_condC ?_; simp (disch := first | omega | simp) [wrap_i64, hlt]) | (refine awp_exit ?_; simp (disch := first | omega | simp)) | (refine awp_skip ?_; simp (disch := first | omega | simp)) | (refine awp_ret ?_; simp (disch := first | omega | simp)))
    refine acall (hcall F[k].body (hF _ (List.getElem_mem hlt)) (by rw [hlen]; exact hwF k hlt)) ?_
    simp (disch := first | omega | simp) [wrap_i64, hlen]
    refine ⟨by omega, ?_⟩
    repeat (first | (refine awp_seq_k fun K hK => ?_) | (refine awp_regionC ?_; simp (disch := first | omega | simp) [wrap_i64]) | (refine hK _ ?_; clear hK; clear K) | (clear hK; clear K; refine hK _ ?_; clear hK; clear K) | (clear hK; clear K; clear hK; clear K; refine hK _ ?_; clear hK; clear K) | refine awp_block ?_ | (refine awp_condC ?_; simp (disch := first | omega | simp) [wrap_i64]) | (refine awp_exit ?_; simp (disch := first | omega | simp)) | (refine awp_skip ?_; simp (disch := first | omega | simp)) | (refine awp_ret ?_; simp (disch := first | omega | simp)))
    refine ⟨k + 1, by omega, by omega, ?_⟩
    rw [hsn hlt]
    simp
  · have hkl : k = F.length := by omega
    have hRR := hR.trans (hfin hkl)
    have hc := hcall e he (by rw [hlen, hkl]; exact hwf)
    have hlv : levels ((inlE bs e).getD zeroE) ≤ 1000000 := by
      cases hx : inlE bs e with
      | none => show levels zeroE ≤ _; decide
      | some y => have := inlE_parts hx; have := levels_le y; show levels y ≤ _; omega
    have hlvg := levels_g _ hlv
    subst hkl
    cases hx : inlE bs e with
    | none =>
      rw [hx] at hc
      obtain rfl : R = none := by rw [hRR, hx]
      repeat' (first | ((with_reducible refine aguard (fun hg => ?_) (fun hg => ?_)) <;> (try simp only [hg]) <;> (try simp only [beq_iff_eq, beq_eq_false_iff_ne, ne_eq, decide_eq_true_eq, decide_eq_false_iff_not, bne_iff_ne, bne_eq_false_iff_eq] at hg) <;> (try (first | simp only [eq_false hg, if_true, if_false] | simp only [eq_true hg, if_true, if_false])) <;> (try simp (disch := first | omega | simp) [wrap_i64, -aseqC, -anyC])) | (with_reducible refine aseq_step ?_; try simp (disch := first | omega | simp) [wrap_i64, -aseqC, -anyC]) | (with_reducible refine any_step' ?_; try simp (disch := first | omega | simp) [wrap_i64, -aseqC, -anyC]) | (with_reducible refine aseq_end ?_; try simp (disch := first | omega | simp) [wrap_i64, -aseqC, -anyC]) | (with_reducible refine any_end' ?_; try simp (disch := first | omega | simp) [wrap_i64, -aseqC, -anyC]) | ((first | with_reducible refine sideG ?_ ?_ | with_reducible refine sideG2 ?_ ?_ | with_reducible refine sideS ?_ ?_ | with_reducible refine sideS2 ?_ ?_ | with_reducible refine sideS3 ?_ ?_ | with_reducible refine sideA ?_ ?_ | with_reducible refine sideA2 ?_ ?_ | with_reducible refine sideA3 ?_ ?_); (first | omega | assumption | (simp; done))) | (refine acall (hc) ?_; try simp (disch := first | omega | simp) [wrap_i64, -aseqC, -anyC]) | (refine agives (hc) ?_; try simp (disch := first | omega | simp) [wrap_i64, -aseqC, -anyC]) | (refine acallAt (hc) ?_; try simp (disch := first | omega | simp) [wrap_i64, -aseqC, -anyC]) | (refine awp_seq_k fun K hK => ?_) | (refine awp_regionC ?_) | (refine awp_anyA true (by kernel_rfl) (by kernel_rfl) ?_) | (refine awp_anyA false (by kernel_rfl) (by kernel_rfl) ?_) | (refine hK _ ?_; clear hK; clear K) | (clear hK; clear K; refine hK _ ?_; clear hK; clear K) | (clear hK; clear K; clear hK; clear K; refine hK _ ?_; clear hK; clear K) | refine awp_block ?_ | (refine awp_condC ?_; simp (disch := first | omega | simp) [wrap_i64, -aseqC, -anyC]) | (refine awp_exit ?_; try simp (disch := first | omega | simp) [wrap_i64, -aseqC, -anyC]) | (refine awp_skip ?_; try simp (disch := first | omega | simp) [wrap_i64, -aseqC, -anyC]) | (refine awp_ret ?_; try simp (disch := first | omega | simp) [wrap_i64, -aseqC, -anyC]))
    | some y =>
      rw [hx] at hRR hlvg hc
      replace hlvg : Gives Try.prog 46 [y.av] (.int (levels y)) := hlvg
      by_cases h12 : 12 < levels y
      · obtain rfl : R = none := by rw [hRR]; dsimp only; rw [if_pos h12]
        have h12' : (12 : Int) < levels y := by omega
        repeat' (first | ((with_reducible refine aguard (fun hg => ?_) (fun hg => ?_)) <;> (try simp only [hg]) <;> (try simp only [beq_iff_eq, beq_eq_false_iff_ne, ne_eq, decide_eq_true_eq, decide_eq_false_iff_not, bne_iff_ne, bne_eq_false_iff_eq] at hg) <;> (try (first | simp only [eq_false hg, if_true, if_false] | simp only [eq_true hg, if_true, if_false])) <;> (try simp (disch := first | omega | simp) [wrap_i64, -aseqC, -anyC, h12'])) | (with_reducible refine aseq_step ?_; try simp (disch := first | omega | simp) [wrap_i64, -aseqC, -anyC, h12']) | (with_reducible refine any_step' ?_; try simp (disch := first | omega | simp) [wrap_i64, -aseqC, -anyC, h12']) | (with_reducible refine aseq_end ?_; try simp (disch := first | omega | simp) [wrap_i64, -aseqC, -anyC, h12']) | (with_reducible refine any_end' ?_; try simp (disch := first | omega | simp) [wrap_i64, -aseqC, -anyC, h12']) | ((first | with_reducible refine sideG ?_ ?_ | with_reducible refine sideG2 ?_ ?_ | with_reducible refine sideS ?_ ?_ | with_reducible refine sideS2 ?_ ?_ | with_reducible refine sideS3 ?_ ?_ | with_reducible refine sideA ?_ ?_ | with_reducible refine sideA2 ?_ ?_ | with_reducible refine sideA3 ?_ ?_); (first | omega | assumption | (simp; done))) | (refine acall (hc) ?_; try simp (disch := first | omega | simp) [wrap_i64, -aseqC, -anyC, h12']) | (refine agives (hc) ?_; try simp (disch := first | omega | simp) [wrap_i64, -aseqC, -anyC, h12']) | (refine acallAt (hc) ?_; try simp (disch := first | omega | simp) [wrap_i64, -aseqC, -anyC, h12']) | (refine acall (hlvg) ?_; try simp (disch := first | omega | simp) [wrap_i64, -aseqC, -anyC, h12']) | (refine agives (hlvg) ?_; try simp (disch := first | omega | simp) [wrap_i64, -aseqC, -anyC, h12']) | (refine acallAt (hlvg) ?_; try simp (disch := first | omega | simp) [wrap_i64, -aseqC, -anyC, h12']) | (refine awp_seq_k fun K hK => ?_) | (refine awp_regionC ?_) | (refine awp_anyA true (by kernel_rfl) (by kernel_rfl) ?_) | (refine awp_anyA false (by kernel_rfl) (by kernel_rfl) ?_) | (refine hK _ ?_; clear hK; clear K) | (clear hK; clear K; refine hK _ ?_; clear hK; clear K) | (clear hK; clear K; clear hK; clear K; refine hK _ ?_; clear hK; clear K) | refine awp_block ?_ | (refine awp_condC ?_; simp (disch := first | omega | simp) [wrap_i64, -aseqC, -anyC, h12']) | (refine awp_exit ?_; try simp (disch := first | omega | simp) [wrap_i64, -aseqC, -anyC, h12']) | (refine awp_skip ?_; try simp (disch := first | omega | simp) [wrap_i64, -aseqC, -anyC, h12']) | (refine awp_ret ?_; try simp (disch := first | omega | simp) [wrap_i64, -aseqC, -anyC, h12']))
      · obtain rfl : R = some y := by rw [hRR]; dsimp only; rw [if_neg h12]
        have h12' : ¬ (12 : Int) < levels y := by omega
        repeat' (first | ((with_reducible refine aguard (fun hg => ?_) (fun hg => ?_)) <;> (try simp only [hg]) <;> (try simp only [beq_iff_eq, beq_eq_false_iff_ne, ne_eq, decide_eq_true_eq, decide_eq_false_iff_not, bne_iff_ne, bne_eq_false_iff_eq] at hg) <;> (try (first | simp only [eq_false hg, if_true, if_false] | simp only [eq_true hg, if_true, if_false])) <;> (try simp (disch := first | omega | simp) [wrap_i64, -aseqC, -anyC, h12'])) | (with_reducible refine aseq_step ?_; try simp (disch := first | omega | simp) [wrap_i64, -aseqC, -anyC, h12']) | (with_reducible refine any_step' ?_; try simp (disch := first | omega | simp) [wrap_i64, -aseqC, -anyC, h12']) | (with_reducible refine aseq_end ?_; try simp (disch := first | omega | simp) [wrap_i64, -aseqC, -anyC, h12']) | (with_reducible refine any_end' ?_; try simp (disch := first | omega | simp) [wrap_i64, -aseqC, -anyC, h12']) | ((first | with_reducible refine sideG ?_ ?_ | with_reducible refine sideG2 ?_ ?_ | with_reducible refine sideS ?_ ?_ | with_reducible refine sideS2 ?_ ?_ | with_reducible refine sideS3 ?_ ?_ | with_reducible refine sideA ?_ ?_ | with_reducible refine sideA2 ?_ ?_ | with_reducible refine sideA3 ?_ ?_); (first | omega | assumption | (simp; done))) | (refine acall (hc) ?_; try simp (disch := first | omega | simp) [wrap_i64, -aseqC, -anyC, h12']) | (refine agives (hc) ?_; try simp (disch := first | omega | simp) [wrap_i64, -aseqC, -anyC, h12']) | (refine acallAt (hc) ?_; try simp (disch := first | omega | simp) [wrap_i64, -aseqC, -anyC, h12']) | (refine acall (hlvg) ?_; try simp (disch := first | omega | simp) [wrap_i64, -aseqC, -anyC, h12']) | (refine agives (hlvg) ?_; try simp (disch := first | omega | simp) [wrap_i64, -aseqC, -anyC, h12']) | (refine acallAt (hlvg) ?_; try simp (disch := first | omega | simp) [wrap_i64, -aseqC, -anyC, h12']) | (refine awp_seq_k fun K hK => ?_) | (refine awp_regionC ?_) | (refine awp_anyA true (by kernel_rfl) (by kernel_rfl) ?_) | (refine awp_anyA false (by kernel_rfl) (by kernel_rfl) ?_) | (refine hK _ ?_; clear hK; clear K) | (clear hK; clear K; refine hK _ ?_; clear hK; clear K) | (clear hK; clear K; clear hK; clear K; refine hK _ ?_; clear hK; clear K) | refine awp_block ?_ | (refine awp_condC ?_; simp (disch := first | omega | simp) [wrap_i64, -aseqC, -anyC, h12']) | (refine awp_exit ?_; try simp (disch := first | omega | simp) [wrap_i64, -aseqC, -anyC, h12']) | (refine awp_skip ?_; try simp (disch := first | omega | simp) [wrap_i64, -aseqC, -anyC, h12']) | (refine awp_ret ?_; try simp (disch := first | omega | simp) [wrap_i64, -aseqC, -anyC, h12']))
end Go.Proofs.Ytmhelkhmgbbfhaa

/- Contracts of Replace, as abstract ones. -/
namespace Go.Proofs.Ytmhelkhmgbbfhaa
open Go.RowKit Go.Lib

theorem repl_g (L : List Ex) (hL : ∀ x ∈ L, parts x ≤ 400000) (e : Ex) (he : parts e ≤ 400000) : Gives Try.prog 19 [e.av, .sl (L.map Ex.av)] (exr (replP e L)) :=
  gives_of fun X vals ha => by
    obtain ⟨v0, _, rfl, h0, v2, _, rfl, h2, h3⟩ := ha
    cases h3
    obtain ⟨cs, rfl, hr⟩ := arg_ex h0
    exact (repl_any L hL e Any cs v2 X.w hr (arg_exs h2) he).mono fun r w' ⟨h1, h2⟩ => ⟨h2, retX_rr h1⟩
theorem rrepl_g (L : List Ex) (hL : ∀ x ∈ L, parts x ≤ 400000) (e : Ex) (he : parts e ≤ 400000) : Gives Try.prog 20 [e.av, .sl (L.map Ex.av)] (exr (replP e L)) :=
  gives_of fun X vals ha => by
    obtain ⟨v0, _, rfl, h0, v2, _, rfl, h2, h3⟩ := ha
    cases h3
    obtain ⟨cs, rfl, hr⟩ := arg_ex h0
    exact (rrepl_any L hL e Any cs v2 X.w hr (arg_exs h2) he).mono fun r w' ⟨h1, h2⟩ => ⟨h2, retX_rr h1⟩
end Go.Proofs.Ytmhelkhmgbbfhaa
