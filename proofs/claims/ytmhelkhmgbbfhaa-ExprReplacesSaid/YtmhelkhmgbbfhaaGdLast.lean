/- The law ExprReplaces: it returns true. -/
import Derived.Test.YtmhelkhmgbbfhaaGa26
import Derived.Test.YtmhelkhmgbbfhaaGd1
import Derived.Test.YtmhelkhmgbbfhaaGd3
set_option linter.unusedSimpArgs false
set_option linter.unusedVariables false
namespace Go.Proofs.Ytmhelkhmgbbfhaa
open Go.RowKit Go.Lib

abbrev rpArgs (F : List Fn) (e : Ex) (L : List Ex) (time : Int) (R : List Val) : List AV := [.sl (F.map Fn.av), e.av, .sl (L.map Ex.av), .int time, .sl (R.map Val.av)]
set_option maxHeartbeats 4000000 in
theorem repll_far (F : List Fn) (e : Ex) (L : List Ex) (time : Int) (R : List Val) (hl : 12 < L.length) : Gives Try.prog 8 (rpArgs F e L time R) (.bool true) := by
  have hl' : (12 : Int) < L.length := by omega
  refine gives_of_awp Try.func8 Try.ntmps8 rfl rfl (by decide) rfl (by intro n; simp) fun σ n0 hcl hft => ?_
  repeat' (first | ((first | ((with_reducible refine aguard (fun hg => ?_) (fun hg => ?_)) <;> (try simp only [hg]) <;> (try simp only [beq_iff_eq, beq_eq_false_iff_ne, ne_eq, decide_eq_true_eq, decide_eq_false_iff_not, bne_iff_ne, bne_eq_false_iff_eq] at hg) <;> (try (first | simp only [eq_false hg, if_true, if_false] | simp only [eq_true hg, if_true, if_false]))) | with_reducible refine aseq_step ?_ | with_reducible refine any_step' ?_ | with_reducible refine aseq_end ?_ | with_reducible refine any_end' ?_ | refine acall (small_g) ?_ | refine agives (small_g) ?_ | refine awp_condC ?_ | refine awp_exit ?_ | refine awp_skip ?_ | refine awp_ret ?_) <;> (try simp (disch := first | omega | simp) [wrap_i64, -aseqC, -anyC, hl'])) | ((first | with_reducible refine sideG ?_ ?_ | with_reducible refine sideG2 ?_ ?_ | with_reducible refine sideS ?_ ?_ | with_reducible refine sideS2 ?_ ?_ | with_reducible refine sideS3 ?_ ?_ | with_reducible refine sideA ?_ ?_ | with_reducible refine sideA2 ?_ ?_ | with_reducible refine sideA3 ?_ ?_); (first | omega | assumption | (simp; done))) | (refine awp_seq_k fun K hK => ?_) | (refine awp_regionC ?_) | (refine awp_anyA true (by kernel_rfl) (by kernel_rfl) ?_) | (refine hK _ ?_; clear hK; clear K) | (clear hK; clear K; refine hK _ ?_; clear hK; clear K) | (clear hK; clear K; clear hK; clear K; refine hK _ ?_; clear hK; clear K) | refine awp_block ?_)
set_option maxHeartbeats 8000000 in
theorem repll_near (F : List Fn) (e : Ex) (L : List Ex) (time : Int) (R : List Val) (hl : L.length ≤ 12) : Gives Try.prog 8 (rpArgs F e L time R) (.bool true) := by
  have hl' : ¬ (12 : Int) < L.length := by omega
  refine gives_of_awp Try.func8 Try.ntmps8 rfl rfl (by decide) rfl (by intro n; simp) fun σ n0 hcl hft => ?_
  repeat' (first | ((first | ((with_reducible refine aguard (fun hg => ?_) (fun hg => ?_)) <;> (try simp only [hg]) <;> (try simp only [beq_iff_eq, beq_eq_false_iff_ne, ne_eq, decide_eq_true_eq, decide_eq_false_iff_not, bne_iff_ne, bne_eq_false_iff_eq] at hg) <;> (try (first | simp only [eq_false hg, if_true, if_false] | simp only [eq_true hg, if_true, if_false]))) | with_reducible refine aseq_step ?_ | with_reducible refine any_step' ?_ | with_reducible refine aseq_end ?_ | with_reducible refine any_end' ?_ | refine acall (small_g) ?_ | refine agives (small_g) ?_ | refine awp_condC ?_ | refine awp_exit ?_ | refine awp_skip ?_ | refine awp_ret ?_) <;> (try simp (disch := first | omega | simp) [wrap_i64, -aseqC, -anyC, hl'])) | ((first | with_reducible refine sideG ?_ ?_ | with_reducible refine sideG2 ?_ ?_ | with_reducible refine sideS ?_ ?_ | with_reducible refine sideS2 ?_ ?_ | with_reducible refine sideS3 ?_ ?_ | with_reducible refine sideA ?_ ?_ | with_reducible refine sideA2 ?_ ?_ | with_reducible refine sideA3 ?_ ?_); (first | omega | assumption | (simp; done))) | (refine awp_seq_k fun K hK => ?_) | (refine awp_regionC ?_) | (refine awp_anyA true (by kernel_rfl) (by kernel_rfl) ?_) | (refine hK _ ?_; clear hK; clear K) | (clear hK; clear K; refine hK _ ?_; clear hK; clear K) | (clear hK; clear K; clear hK; clear K; refine hK _ ?_; clear hK; clear K) | refine awp_block ?_)
  refine awp_adoptR 12 34 3 (by simp) ?_
  simp only [List.length_append, List.length_cons, List.length_nil, Nat.zero_add, Nat.reduceAdd, List.cons_append, List.nil_append]
  refine awp_loopC hcl (fun k : Nat => [(0, .sl (F.map Fn.av)), (2, .sl (L.map Ex.av)), (3, .int time), (4, .sl (R.map Val.av)), (6, .ptr n0 0), (10, .bool false), (11, .bool true), (12, .gs (n0 + 1) (((L.take k).map (evalP F time R)).map Val.av)), (13, .int k)]) (fun k => [.cells [.int e.op, .int e.n, .str e.s, .sl (e.args.map Ex.av)] 25, .tail k 34 3])
    (fun k => k ≤ L.length ∧ ∀ (i : Nat) (h : i < L.length), i < k → goodP F L[i] R = true) (fun k => L.length - k) 0 (by exact ⟨by omega, fun i h h2 => by omega⟩) (by simp) fun k hk => ?_
  obtain ⟨hk, hks⟩ := hk
  by_cases hlt : k < L.length
  · have hc := good_g F L[k] R
    by_cases hg : goodP F L[k] R = false
    · rw [hg] at hc
      repeat' (first | ((first | ((with_reducible refine aguard (fun hg => ?_) (fun hg => ?_)) <;> (try simp only [hg]) <;> (try simp only [beq_iff_eq, beq_eq_false_iff_ne, ne_eq, decide_eq_true_eq, decide_eq_false_iff_not, bne_iff_ne, bne_eq_false_iff_eq] at hg) <;> (try (first | simp only [eq_false hg, if_true, if_false] | simp only [eq_true hg, if_true, if_false]))) | with_reducible refine aseq_step ?_ | with_reducible refine any_step' ?_ | with_reducible refine aseq_end ?_ | with_reducible refine any_end' ?_ | refine acall (hc) ?_ | refine agives (hc) ?_ | refine awp_condC ?_ | refine awp_exit ?_ | refine awp_skip ?_ | refine awp_ret ?_) <;> (try simp (disch := first | omega | simp) [wrap_i64, -aseqC, -anyC, hlt])) | ((first | with_reducible refine sideG ?_ ?_ | with_reducible refine sideG2 ?_ ?_ | with_reducible refine sideS ?_ ?_ | with_reducible refine sideS2 ?_ ?_ | with_reducible refine sideS3 ?_ ?_ | with_reducible refine sideA ?_ ?_ | with_reducible refine sideA2 ?_ ?_ | with_reducible refine sideA3 ?_ ?_); (first | omega | assumption | (simp; done))) | (refine awp_seq_k fun K hK => ?_) | (refine awp_regionC ?_) | (refine awp_anyA true (by kernel_rfl) (by kernel_rfl) ?_) | (refine hK _ ?_; clear hK; clear K) | (clear hK; clear K; refine hK _ ?_; clear hK; clear K) | (clear hK; clear K; clear hK; clear K; refine hK _ ?_; clear hK; clear K) | refine awp_block ?_)
    · rw [Bool.not_eq_false] at hg
      rw [hg] at hc
      obtain ⟨t, g⟩ := good_good hg
      have hev := g.eval time
      have htk : (L.take (k + 1)).map (evalP F time R) = (L.take k).map (evalP F time R) ++ [evalP F time R L[k]] := by rw [List.take_succ_eq_append_getElem hlt, List.map_append]; rfl
      have hle : ((L.take k).map (evalP F time R)).length = k := by simp; omega
      generalize (L.take k).map (evalP F time R) = Vs at *
      generalize evalP F time R L[k] = Z at *
      repeat' (first | ((first | ((with_reducible refine aguard (fun hg => ?_) (fun hg => ?_)) <;> (try simp only [hg]) <;> (try simp only [beq_iff_eq, beq_eq_false_iff_ne, ne_eq, decide_eq_true_eq, decide_eq_false_iff_not, bne_iff_ne, bne_eq_false_iff_eq] at hg) <;> (try (first | simp only [eq_false hg, if_true, if_false] | simp only [eq_true hg, if_true, if_false]))) | with_reducible refine aseq_step ?_ | with_reducible refine any_step' ?_ | with_reducible refine aseq_end ?_ | with_reducible refine any_end' ?_ | refine acall (hc) ?_ | refine agives (hc) ?_ | refine acall (hev) ?_ | refine agives (hev) ?_ | refine awp_condC ?_ | refine awp_exit ?_ | refine awp_skip ?_ | refine awp_ret ?_) <;> (try simp (disch := first | omega | simp) [wrap_i64, -aseqC, -anyC, hlt])) | ((first | with_reducible refine sideG ?_ ?_ | with_reducible refine sideG2 ?_ ?_ | with_reducible refine sideS ?_ ?_ | with_reducible refine sideS2 ?_ ?_ | with_reducible refine sideS3 ?_ ?_ | with_reducible refine sideA ?_ ?_ | with_reducible refine sideA2 ?_ ?_ | with_reducible refine sideA3 ?_ ?_); (first | omega | assumption | (simp; done))) | (refine awp_seq_k fun K hK => ?_) | (refine awp_regionC ?_) | (refine awp_anyA true (by kernel_rfl) (by kernel_rfl) ?_) | (refine hK _ ?_; clear hK; clear K) | (clear hK; clear K; refine hK _ ?_; clear hK; clear K) | (clear hK; clear K; clear hK; clear K; refine hK _ ?_; clear hK; clear K) | refine awp_block ?_)
      all_goals refine ⟨k + 1, ⟨by omega, fun i h h2 => ?_⟩, by omega, ?_⟩
      · by_cases hik : i < k
        · exact hks i h hik
        · obtain rfl : i = k := by omega
          exact hg
      · have htk2 := congrArg (List.map Val.av) htk
        simp at htk2
        simp [htk2, hle]
  · obtain rfl : k = L.length := by omega
    rw [List.take_length]
    have hL : ∀ y ∈ L, ∃ t, Good F y R t := fun y hy => by
      obtain ⟨i, h, rfl⟩ := List.getElem_of_mem hy
      exact good_good (hks i h h)
    obtain ⟨V, hV⟩ : ∃ V, V = L.map (evalP F time R) := ⟨_, rfl⟩
    rw [← hV]
    have hVl : V.length = L.length := by rw [hV]; simp
    have c1 := good_g F e V
    by_cases hg : goodP F e V = false
    · rw [hg] at c1
      repeat' (first | ((first | ((with_reducible refine aguard (fun hg => ?_) (fun hg => ?_)) <;> (try simp only [hg]) <;> (try simp only [beq_iff_eq, beq_eq_false_iff_ne, ne_eq, decide_eq_true_eq, decide_eq_false_iff_not, bne_iff_ne, bne_eq_false_iff_eq] at hg) <;> (try (first | simp only [eq_false hg, if_true, if_false] | simp only [eq_true hg, if_true, if_false]))) | with_reducible refine aseq_step ?_ | with_reducible refine any_step' ?_ | with_reducible refine aseq_end ?_ | with_reducible refine any_end' ?_ | refine acall (c1) ?_ | refine agives (c1) ?_ | refine awp_condC ?_ | refine awp_exit ?_ | refine awp_skip ?_ | refine awp_ret ?_) <;> (try simp (disch := first | omega | simp) [wrap_i64, -aseqC, -anyC, hlt])) | ((first | with_reducible refine sideG ?_ ?_ | with_reducible refine sideG2 ?_ ?_ | with_reducible refine sideS ?_ ?_ | with_reducible refine sideS2 ?_ ?_ | with_reducible refine sideS3 ?_ ?_ | with_reducible refine sideA ?_ ?_ | with_reducible refine sideA2 ?_ ?_ | with_reducible refine sideA3 ?_ ?_); (first | omega | assumption | (simp; done))) | (refine awp_seq_k fun K hK => ?_) | (refine awp_regionC ?_) | (refine awp_anyA true (by kernel_rfl) (by kernel_rfl) ?_) | (refine hK _ ?_; clear hK; clear K) | (clear hK; clear K; refine hK _ ?_; clear hK; clear K) | (clear hK; clear K; clear hK; clear K; refine hK _ ?_; clear hK; clear K) | refine awp_block ?_)
    rw [Bool.not_eq_false] at hg
    rw [hg] at c1
    obtain ⟨t, g⟩ := good_good hg
    have c2 := g.eval time
    have c3 := repl_g L (fun x hx => by obtain ⟨u, h⟩ := hL x hx; have := h.pe; omega) e (by have := g.pe; omega)
    obtain ⟨w1, w2⟩ := good_wf g
    have c4 := Inline_g F (fun f hf => by have := g.pF f hf; omega) (by have := g.len; omega) w2 e (by have := g.pe; omega) w1
    have q1 : Val.eqB (evalP F time V e) (evalP F time V e) = true := (Val.eqB_iff _ _).2 rfl
    have hin : ∀ y, inlineP F e = some y → Gives Try.prog 13 [.sl [], y.av, .int time, .sl (V.map Val.av)] (evalP F time V e).av ∧ Gives Try.prog 29 [y.av] (.sl ((readsP y).map AV.int)) ∧ (readsP y).length ≤ V.length := fun y hy => by
      obtain ⟨h1, h2⟩ := inline_sem (time := time) g.ok g.snd g.ty hy
      have hpy : parts y ≤ 1000 := by
        unfold inlineP at hy
        split at hy
        · rename_i x hx
          split at hy
          · cases hy
          · cases hy; exact inlE_parts hx
        · cases hy
      have := eval_g [] time V y t (by simp) (by simp) (by omega) h1 g.snd
      rw [h2] at this
      refine ⟨this, reads_g y (cols_ok h1 (by simp; omega)) (by omega), ?_⟩
      have := reads_few h1
      simpa using this
    have hre : ∀ x, replP e L = some x → Gives Try.prog 13 [.sl (F.map Fn.av), x.av, .int time, .sl (R.map Val.av)] (evalP F time V e).av ∧ Gives Try.prog 25 [.sl (F.map Fn.av), x.av] (.int (stepsP F x)) := fun x hx => by
      obtain ⟨c0, hR, hLt⟩ : ∃ c0, RowFit c0 R ∧ ∀ y ∈ L, ∃ t, ty F c0 [] y = some t := by
        cases L with
        | nil => exact ⟨[], RowFit.nil R, by simp⟩
        | cons a L =>
          obtain ⟨u, h⟩ := hL a (by simp)
          exact ⟨_, RowFit.of h.snd, fun y hy => by obtain ⟨u, h⟩ := hL y hy; exact ⟨u, h.ty⟩⟩
      obtain ⟨h1, h2⟩ := repl_sem (time := time) g.ok hR hLt (by rw [← hV]; exact g.ty) hx
      have hpx : parts x ≤ 100 * 100 := by
        unfold replP at hx
        split at hx
        · rename_i y hy
          split at hx
          · cases hx
          · cases hx
            have := putP_parts (K := 100) (by omega) (fun z hz => by obtain ⟨u, h⟩ := hL z hz; exact h.pe) e hy
            have h2 := g.pe
            exact Nat.le_trans this (Nat.mul_le_mul_right _ h2)
        · cases hx
      have := eval_fit_g F time R x t g.ok (fun f hf => by have := g.pF f hf; omega) (by omega) h1 hR
      rw [h2, ← hV] at this
      exact ⟨this, rsteps_g F x (by omega) (fun f hf => by have := g.pF f hf; omega) (by have := g.len; omega)⟩
    clear w1 w2 hg g hV hL hks
    generalize evalP F time V e = Z at *
    generalize replP e L = RL at *
    generalize inlineP F e = IL at *
    cases IL with
    | none =>
      clear hin
      cases RL with
      | none =>
        clear hre
        repeat' (first | ((first | ((with_reducible refine aguard (fun hg => ?_) (fun hg => ?_)) <;> (try simp only [hg]) <;> (try simp only [beq_iff_eq, beq_eq_false_iff_ne, ne_eq, decide_eq_true_eq, decide_eq_false_iff_not, bne_iff_ne, bne_eq_false_iff_eq] at hg) <;> (try (first | simp only [eq_false hg, if_true, if_false] | simp only [eq_true hg, if_true, if_false]))) | with_reducible refine aseq_step ?_ | with_reducible refine any_step' ?_ | with_reducible refine aseq_end ?_ | with_reducible refine any_end' ?_ | refine acall (c1) ?_ | refine agives (c1) ?_ | refine acall (c2) ?_ | refine agives (c2) ?_ | refine acall (c3) ?_ | refine agives (c3) ?_ | refine acall (c4) ?_ | refine agives (c4) ?_ | refine awp_condC ?_ | refine awp_exit ?_ | refine awp_skip ?_ | refine awp_ret ?_) <;> (try simp (disch := first | omega | simp) [wrap_i64, -aseqC, -anyC, hlt, hVl, q1])) | ((first | with_reducible refine sideG ?_ ?_ | with_reducible refine sideG2 ?_ ?_ | with_reducible refine sideS ?_ ?_ | with_reducible refine sideS2 ?_ ?_ | with_reducible refine sideS3 ?_ ?_ | with_reducible refine sideA ?_ ?_ | with_reducible refine sideA2 ?_ ?_ | with_reducible refine sideA3 ?_ ?_); (first | omega | assumption | (simp; done))) | (refine awp_seq_k fun K hK => ?_) | (refine awp_regionC ?_) | (refine awp_anyA true (by kernel_rfl) (by kernel_rfl) ?_) | (refine hK _ ?_; clear hK; clear K) | (clear hK; clear K; refine hK _ ?_; clear hK; clear K) | (clear hK; clear K; clear hK; clear K; refine hK _ ?_; clear hK; clear K) | refine awp_block ?_)
      | some x =>
        obtain ⟨d1, d2⟩ := hre x rfl
        generalize stepsP F x = N at *
        repeat' (first | ((first | ((with_reducible refine aguard (fun hg => ?_) (fun hg => ?_)) <;> (try simp only [hg]) <;> (try simp only [beq_iff_eq, beq_eq_false_iff_ne, ne_eq, decide_eq_true_eq, decide_eq_false_iff_not, bne_iff_ne, bne_eq_false_iff_eq] at hg) <;> (try (first | simp only [eq_false hg, if_true, if_false] | simp only [eq_true hg, if_true, if_false]))) | with_reducible refine aseq_step ?_ | with_reducible refine any_step' ?_ | with_reducible refine aseq_end ?_ | with_reducible refine any_end' ?_ | refine acall (c1) ?_ | refine agives (c1) ?_ | refine acall (c2) ?_ | refine agives (c2) ?_ | refine acall (c3) ?_ | refine agives (c3) ?_ | refine acall (c4) ?_ | refine agives (c4) ?_ | refine acall (d1) ?_ | refine agives (d1) ?_ | refine acall (d2) ?_ | refine agives (d2) ?_ | refine awp_condC ?_ | refine awp_exit ?_ | refine awp_skip ?_ | refine awp_ret ?_) <;> (try simp (disch := first | omega | simp) [wrap_i64, -aseqC, -anyC, hlt, hVl, q1])) | ((first | with_reducible refine sideG ?_ ?_ | with_reducible refine sideG2 ?_ ?_ | with_reducible refine sideS ?_ ?_ | with_reducible refine sideS2 ?_ ?_ | with_reducible refine sideS3 ?_ ?_ | with_reducible refine sideA ?_ ?_ | with_reducible refine sideA2 ?_ ?_ | with_reducible refine sideA3 ?_ ?_); (first | omega | assumption | (simp; done))) | (refine awp_seq_k fun K hK => ?_) | (refine awp_regionC ?_) | (refine awp_anyA true (by kernel_rfl) (by kernel_rfl) ?_) | (refine hK _ ?_; clear hK; clear K) | (clear hK; clear K; refine hK _ ?_; clear hK; clear K) | (clear hK; clear K; clear hK; clear K; refine hK _ ?_; clear hK; clear K) | refine awp_block ?_)
    | some y =>
      obtain ⟨f1, f2, f3⟩ := hin y rfl
      cases RL with
      | none =>
        clear hre
        repeat' (first | ((first | ((with_reducible refine aguard (fun hg => ?_) (fun hg => ?_)) <;> (try simp only [hg]) <;> (try simp only [beq_iff_eq, beq_eq_false_iff_ne, ne_eq, decide_eq_true_eq, decide_eq_false_iff_not, bne_iff_ne, bne_eq_false_iff_eq] at hg) <;> (try (first | simp only [eq_false hg, if_true, if_false] | simp only [eq_true hg, if_true, if_false]))) | with_reducible refine aseq_step ?_ | with_reducible refine any_step' ?_ | with_reducible refine aseq_end ?_ | with_reducible refine any_end' ?_ | refine acall (c1) ?_ | refine agives (c1) ?_ | refine acall (c2) ?_ | refine agives (c2) ?_ | refine acall (c3) ?_ | refine agives (c3) ?_ | refine acall (c4) ?_ | refine agives (c4) ?_ | refine acall (f1) ?_ | refine agives (f1) ?_ | refine acall (f2) ?_ | refine agives (f2) ?_ | refine awp_condC ?_ | refine awp_exit ?_ | refine awp_skip ?_ | refine awp_ret ?_) <;> (try simp (disch := first | omega | simp) [wrap_i64, -aseqC, -anyC, hlt, hVl, q1, f3])) | ((first | with_reducible refine sideG ?_ ?_ | with_reducible refine sideG2 ?_ ?_ | with_reducible refine sideS ?_ ?_ | with_reducible refine sideS2 ?_ ?_ | with_reducible refine sideS3 ?_ ?_ | with_reducible refine sideA ?_ ?_ | with_reducible refine sideA2 ?_ ?_ | with_reducible refine sideA3 ?_ ?_); (first | omega | assumption | (simp; done))) | (refine awp_seq_k fun K hK => ?_) | (refine awp_regionC ?_) | (refine awp_anyA true (by kernel_rfl) (by kernel_rfl) ?_) | (refine hK _ ?_; clear hK; clear K) | (clear hK; clear K; refine hK _ ?_; clear hK; clear K) | (clear hK; clear K; clear hK; clear K; refine hK _ ?_; clear hK; clear K) | refine awp_block ?_)
        all_goals omega
      | some x =>
        obtain ⟨d1, d2⟩ := hre x rfl
        generalize stepsP F x = N at *
        repeat' (first | ((first | ((with_reducible refine aguard (fun hg => ?_) (fun hg => ?_)) <;> (try simp only [hg]) <;> (try simp only [beq_iff_eq, beq_eq_false_iff_ne, ne_eq, decide_eq_true_eq, decide_eq_false_iff_not, bne_iff_ne, bne_eq_false_iff_eq] at hg) <;> (try (first | simp only [eq_false hg, if_true, if_false] | simp only [eq_true hg, if_true, if_false]))) | with_reducible refine aseq_step ?_ | with_reducible refine any_step' ?_ | with_reducible refine aseq_end ?_ | with_reducible refine any_end' ?_ | refine acall (c1) ?_ | refine agives (c1) ?_ | refine acall (c2) ?_ | refine agives (c2) ?_ | refine acall (c3) ?_ | refine agives (c3) ?_ | refine acall (c4) ?_ | refine agives (c4) ?_ | refine acall (d1) ?_ | refine agives (d1) ?_ | refine acall (d2) ?_ | refine agives (d2) ?_ | refine acall (f1) ?_ | refine agives (f1) ?_ | refine acall (f2) ?_ | refine agives (f2) ?_ | refine awp_condC ?_ | refine awp_exit ?_ | refine awp_skip ?_ | refine awp_ret ?_) <;> (try simp (disch := first | omega | simp) [wrap_i64, -aseqC, -anyC, hlt, hVl, q1, f3])) | ((first | with_reducible refine sideG ?_ ?_ | with_reducible refine sideG2 ?_ ?_ | with_reducible refine sideS ?_ ?_ | with_reducible refine sideS2 ?_ ?_ | with_reducible refine sideS3 ?_ ?_ | with_reducible refine sideA ?_ ?_ | with_reducible refine sideA2 ?_ ?_ | with_reducible refine sideA3 ?_ ?_); (first | omega | assumption | (simp; done))) | (refine awp_seq_k fun K hK => ?_) | (refine awp_regionC ?_) | (refine awp_anyA true (by kernel_rfl) (by kernel_rfl) ?_) | (refine hK _ ?_; clear hK; clear K) | (clear hK; clear K; refine hK _ ?_; clear hK; clear K) | (clear hK; clear K; clear hK; clear K; refine hK _ ?_; clear hK; clear K) | refine awp_block ?_)
        all_goals omega
theorem exprReplaces_g (F : List Fn) (e : Ex) (L : List Ex) (time : Int) (R : List Val) : Gives Try.prog 8 (rpArgs F e L time R) (.bool true) := by
  by_cases hl : 12 < L.length
  · exact repll_far F e L time R hl
  · exact repll_near F e L time R (by omega)
end Go.Proofs.Ytmhelkhmgbbfhaa

/- The law ExprReplaces: for every input it returns true, and each argument reads afterwards as it read before. (written by gen_lift16.py) -/
namespace Go.Proofs.Ytmhelkhmgbbfhaa
open Go.ChangeShapes Go.WideShapes Go.ChangeAt Go.RowKit Go.Lib

set_option maxRecDepth 100000 in
theorem exprReplaces_lifted (os : Os) (started : os.Started) (H : Type) (enc : TypeId × Value → H) :
    ReturnsInHanded {} Try.checked os 8 .any (Rows.exprReplacesSpec.pre6 enc Try.prog Try.f8 Rows.exprReplacesRow.domain false) (Rows.exprReplacesSpec.post enc Try.prog Try.f8 false true false false) := by
  refine returnsInHanded_of_change (C := Try.checked) Try.own started (by kernel_rfl) Try.func8
    (ChangeSpec.witness6 (enc := enc) (C := Try.checked) false ⟨#[], #[.slice .none 0 0, .agg #[.int .i64 0, .int .i64 0, .string ByteArray.empty, .slice .none 0 0], .slice .none 0 0, .int .i64 0, .slice .none 0 0], []⟩ 8 (by kernel_rfl) (by kernel_rfl) (by kernel_rfl) (by kernel_rfl)) ?_
  intro W base args ds gs before hval0 hW hcnd _
  have hval : ∀ (j : Nat) t v, Try.f8.params[j]? = some t → args[j]? = some v → Value.okWide Try.prog W .any base t v := hval0
  have hW' := hW
  obtain ⟨p, q, hA0, hV, rfl, hfz, hnd⟩ := hW
  have hA : DataW.TrodAll enc Try.prog W 0 (fun _ => true) true Try.f8.params.toList args.toList ds p := hA0
  rw [Try.params8] at hA hval
  obtain ⟨v0, v1, v2, v3, v4, d0, d1, d2, d3, d4, p0, p1, p2, p3, p4, rfl, rfl, rfl, h0, h1, h2, h3, h4⟩ := trodAll_five hA
  obtain ⟨rfl, rfl⟩ := trodVars_none hV
  obtain ⟨x0, r0⟩ := par_sl Try.underlying22 (hval 0 _ v0 rfl rfl) h0 trods_fns
  obtain ⟨x1, cs1, rfl, r1⟩ := par_st Try.underlying25 (hval 1 _ v1 rfl rfl) h1 trods_ex
  obtain ⟨x2, r2⟩ := par_sl Try.underlying23 (hval 2 _ v2 rfl rfl) h2 trods_exs
  obtain ⟨x3, rfl⟩ := par_int Try.underlying3 (hval 3 _ v3 rfl rfl)
  obtain ⟨x4, r4⟩ := par_sl Try.underlying26 (hval 4 _ v4 rfl rfl) h4 trods_vals
  refine (calls_of_gives (vals := [v0, .agg cs1.toArray, v2, .int .i64 x3, v4]) (exprReplaces_g x0 x1 x2 x3 x4) ⟨_, _, rfl, flat_fns r0, _, _, rfl, flat_ex r1, _, _, rfl, flat_exs r2, _, _, rfl, flat_int, _, _, rfl, flat_vals r4, rfl⟩).mono ?_
  rintro r W' ⟨rfl, hb⟩
  exact ⟨_, rfl, law_post (P := Try.prog) Try.laidOut hW' rfl rfl (by kernel_rfl) Try.underlying4 (by kernel_rfl) hb⟩

theorem exprReplaces_holds : Rows.ExprReplacesSaid :=
  OpenClaim.holds_of_wide 8 Try.f8 rfl rfl rfl rfl rfl rfl rfl ⟨rfl, rfl, rfl, rfl, rfl⟩ rfl rfl rfl rfl rfl (by kernel_rfl) Try.func8 (by kernel_rfl)
    (of_decide_eq_true (by kernel_rfl)) (by unfold Func.isWrapper; rw [if_neg (by decide +kernel)]; exact ⟨rfl, rfl⟩)
    (fun os started H enc _ => exprReplaces_lifted os started H enc)
end Go.Proofs.Ytmhelkhmgbbfhaa
