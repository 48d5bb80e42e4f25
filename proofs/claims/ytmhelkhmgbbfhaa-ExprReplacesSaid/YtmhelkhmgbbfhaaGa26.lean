/- The law ExprReads: it returns true. -/
import Derived.Test.YtmhelkhmgbbfhaaGa16
import Derived.Test.YtmhelkhmgbbfhaaGa23
import Derived.Test.YtmhelkhmgbbfhaaGa24
import Derived.Test.YtmhelkhmgbbfhaaGa25
set_option linter.unusedSimpArgs false
set_option linter.unusedVariables false
namespace Go.Proofs.Ytmhelkhmgbbfhaa
open Go.RowKit Go.Lib

theorem fits_g16 (R : List Val) : Gives Try.prog 28 [.sl (R.map Val.av)] (.bool (fitsR R)) :=
  gives_v fun X vals ha => by
    obtain ⟨v0, _, rfl, h0, h3⟩ := ha
    cases h3
    exact fits_any R Any v0 X.w (arg_vals h0)
theorem fits_snd {R : List Val} (h : fitsR R = true) : ∀ v ∈ R, soundV v := by
  unfold fitsR at h
  simp only [Bool.and_eq_true, List.all_eq_true] at h
  intro v hv
  have := h.1 v hv
  unfold fitB at this
  simp only [Bool.and_eq_true, decide_eq_true_eq] at this
  exact ⟨this.1, by omega⟩
theorem good_wf {F : List Fn} {e : Ex} {R : List Val} {t : Int} (g : Good F e R t) : wfS F.length e = true ∧ ∀ i (h : i < F.length), wfS i F[i].body = true :=
  ⟨wfS_of_ty e g.ty, fun i h => by
    have := wfS_of_ty _ (okF_body (g.ok i h) (List.getElem?_eq_getElem h))
    rwa [List.length_take, Nat.min_eq_left (by omega)] at this⟩
abbrev rdArgs (F : List Fn) (e : Ex) (time : Int) (R : List Val) (other n : Int) (v : Val) : List AV := [.sl (F.map Fn.av), e.av, .int time, .sl (R.map Val.av), .int other, .int n, v.av]
set_option maxHeartbeats 4000000 in
theorem readl_bad (F : List Fn) (e : Ex) (time : Int) (R : List Val) (other n : Int) (v : Val) (hg : goodP F e R = false) : Gives Try.prog 6 (rdArgs F e time R other n v) (.bool true) := by
  have c1 := good_g F e R
  rw [hg] at c1
  clear hg
  refine gives_of_awp Try.func6 Try.ntmps6 rfl rfl (by decide) rfl (by intro n; simp) fun σ n0 hcl hft => ?_
  repeat' (first | ((first | ((with_reducible refine aguard (fun hg => ?_) (fun hg => ?_)) <;> (try simp only [hg]) <;> (try simp only [beq_iff_eq, beq_eq_false_iff_ne, ne_eq, decide_eq_true_eq, decide_eq_false_iff_not, bne_iff_ne, bne_eq_false_iff_eq] at hg) <;> (try (first | simp only [eq_false hg, if_true, if_false] | simp only [eq_true hg, if_true, if_false]))) | with_reducible refine aseq_step ?_ | with_reducible refine any_step' ?_ | with_reducible refine aseq_end ?_ | with_reducible refine any_end' ?_ | refine acall (small_g) ?_ | refine agives (small_g) ?_ | refine acall (c1) ?_ | refine agives (c1) ?_ | refine awp_condC ?_ | refine awp_exit ?_ | refine awp_skip ?_ | refine awp_ret ?_) <;> (try simp (disch := first | omega | simp) [wrap_i64, -aseqC, -anyC])) | ((first | with_reducible refine sideG ?_ ?_ | with_reducible refine sideG2 ?_ ?_ | with_reducible refine sideS ?_ ?_ | with_reducible refine sideS2 ?_ ?_ | with_reducible refine sideS3 ?_ ?_ | with_reducible refine sideA ?_ ?_ | with_reducible refine sideA2 ?_ ?_ | with_reducible refine sideA3 ?_ ?_); (first | omega | assumption | (simp; done))) | (refine awp_seq_k fun K hK => ?_) | (refine awp_regionC ?_) | (refine awp_anyA true (by kernel_rfl) (by kernel_rfl) ?_) | (refine hK _ ?_; clear hK; clear K) | (clear hK; clear K; refine hK _ ?_; clear hK; clear K) | (clear hK; clear K; clear hK; clear K; refine hK _ ?_; clear hK; clear K) | refine awp_block ?_)
/- no such column, or a value that fits no row -/
set_option maxHeartbeats 4000000 in
theorem readl_out (F : List Fn) (e : Ex) (time : Int) (R : List Val) (other n : Int) (v : Val) {t : Int} (hg : goodP F e R = true) (g : Good F e R t) (hn : n < 0 ∨ (R.length : Int) ≤ n) : Gives Try.prog 6 (rdArgs F e time R other n v) (.bool true) := by
  have c1 := good_g F e R
  rw [hg] at c1
  have c2 := g.eval time
  have c3 := g.eval other
  obtain ⟨w1, w2⟩ := good_wf g
  have c4 := timed_g F e (by have := g.len; omega) w1 w2
  have hT : timedP F e = false → evalP F other R e = evalP F time R e := fun h => eval_time g.ok g.ty h
  have q1 : Val.eqB (evalP F time R e) (evalP F time R e) = true := (Val.eqB_iff _ _).2 rfl
  clear w1 w2 hg g
  cases ht : timedP F e with
  | true =>
    rw [ht] at c4
    clear hT ht
    generalize evalP F time R e = Z at *
    generalize evalP F other R e = Y at *
    by_cases h0 : n < 0
    · refine gives_of_awp Try.func6 Try.ntmps6 rfl rfl (by decide) rfl (by intro n; simp) fun σ n0 hcl hft => ?_
      repeat' (first | ((first | ((with_reducible refine aguard (fun hg => ?_) (fun hg => ?_)) <;> (try simp only [hg]) <;> (try simp only [beq_iff_eq, beq_eq_false_iff_ne, ne_eq, decide_eq_true_eq, decide_eq_false_iff_not, bne_iff_ne, bne_eq_false_iff_eq] at hg) <;> (try (first | simp only [eq_false hg, if_true, if_false] | simp only [eq_true hg, if_true, if_false]))) | with_reducible refine aseq_step ?_ | with_reducible refine any_step' ?_ | with_reducible refine aseq_end ?_ | with_reducible refine any_end' ?_ | refine acall (small_g) ?_ | refine agives (small_g) ?_ | refine acall (c1) ?_ | refine agives (c1) ?_ | refine acall (c2) ?_ | refine agives (c2) ?_ | refine acall (c3) ?_ | refine agives (c3) ?_ | refine acall (c4) ?_ | refine agives (c4) ?_ | refine awp_condC ?_ | refine awp_exit ?_ | refine awp_skip ?_ | refine awp_ret ?_) <;> (try simp (disch := first | omega | simp) [wrap_i64, -aseqC, -anyC, h0, q1])) | ((first | with_reducible refine sideG ?_ ?_ | with_reducible refine sideG2 ?_ ?_ | with_reducible refine sideS ?_ ?_ | with_reducible refine sideS2 ?_ ?_ | with_reducible refine sideS3 ?_ ?_ | with_reducible refine sideA ?_ ?_ | with_reducible refine sideA2 ?_ ?_ | with_reducible refine sideA3 ?_ ?_); (first | omega | assumption | (simp; done))) | (refine awp_seq_k fun K hK => ?_) | (refine awp_regionC ?_) | (refine awp_anyA true (by kernel_rfl) (by kernel_rfl) ?_) | (refine hK _ ?_; clear hK; clear K) | (clear hK; clear K; refine hK _ ?_; clear hK; clear K) | (clear hK; clear K; clear hK; clear K; refine hK _ ?_; clear hK; clear K) | refine awp_block ?_)
    · have h1 : (R.length : Int) ≤ n := by omega
      refine gives_of_awp Try.func6 Try.ntmps6 rfl rfl (by decide) rfl (by intro n; simp) fun σ n0 hcl hft => ?_
      repeat' (first | ((first | ((with_reducible refine aguard (fun hg => ?_) (fun hg => ?_)) <;> (try simp only [hg]) <;> (try simp only [beq_iff_eq, beq_eq_false_iff_ne, ne_eq, decide_eq_true_eq, decide_eq_false_iff_not, bne_iff_ne, bne_eq_false_iff_eq] at hg) <;> (try (first | simp only [eq_false hg, if_true, if_false] | simp only [eq_true hg, if_true, if_false]))) | with_reducible refine aseq_step ?_ | with_reducible refine any_step' ?_ | with_reducible refine aseq_end ?_ | with_reducible refine any_end' ?_ | refine acall (small_g) ?_ | refine agives (small_g) ?_ | refine acall (c1) ?_ | refine agives (c1) ?_ | refine acall (c2) ?_ | refine agives (c2) ?_ | refine acall (c3) ?_ | refine agives (c3) ?_ | refine acall (c4) ?_ | refine agives (c4) ?_ | refine awp_condC ?_ | refine awp_exit ?_ | refine awp_skip ?_ | refine awp_ret ?_) <;> (try simp (disch := first | omega | simp) [wrap_i64, -aseqC, -anyC, h0, h1, q1])) | ((first | with_reducible refine sideG ?_ ?_ | with_reducible refine sideG2 ?_ ?_ | with_reducible refine sideS ?_ ?_ | with_reducible refine sideS2 ?_ ?_ | with_reducible refine sideS3 ?_ ?_ | with_reducible refine sideA ?_ ?_ | with_reducible refine sideA2 ?_ ?_ | with_reducible refine sideA3 ?_ ?_); (first | omega | assumption | (simp; done))) | (refine awp_seq_k fun K hK => ?_) | (refine awp_regionC ?_) | (refine awp_anyA true (by kernel_rfl) (by kernel_rfl) ?_) | (refine hK _ ?_; clear hK; clear K) | (clear hK; clear K; refine hK _ ?_; clear hK; clear K) | (clear hK; clear K; clear hK; clear K; refine hK _ ?_; clear hK; clear K) | refine awp_block ?_)
  | false =>
    rw [ht] at c4
    rw [hT ht] at c3
    clear hT ht
    generalize evalP F time R e = Z at *
    by_cases h0 : n < 0
    · refine gives_of_awp Try.func6 Try.ntmps6 rfl rfl (by decide) rfl (by intro n; simp) fun σ n0 hcl hft => ?_
      repeat' (first | ((first | ((with_reducible refine aguard (fun hg => ?_) (fun hg => ?_)) <;> (try simp only [hg]) <;> (try simp only [beq_iff_eq, beq_eq_false_iff_ne, ne_eq, decide_eq_true_eq, decide_eq_false_iff_not, bne_iff_ne, bne_eq_false_iff_eq] at hg) <;> (try (first | simp only [eq_false hg, if_true, if_false] | simp only [eq_true hg, if_true, if_false]))) | with_reducible refine aseq_step ?_ | with_reducible refine any_step' ?_ | with_reducible refine aseq_end ?_ | with_reducible refine any_end' ?_ | refine acall (small_g) ?_ | refine agives (small_g) ?_ | refine acall (c1) ?_ | refine agives (c1) ?_ | refine acall (c2) ?_ | refine agives (c2) ?_ | refine acall (c3) ?_ | refine agives (c3) ?_ | refine acall (c4) ?_ | refine agives (c4) ?_ | refine awp_condC ?_ | refine awp_exit ?_ | refine awp_skip ?_ | refine awp_ret ?_) <;> (try simp (disch := first | omega | simp) [wrap_i64, -aseqC, -anyC, h0, q1])) | ((first | with_reducible refine sideG ?_ ?_ | with_reducible refine sideG2 ?_ ?_ | with_reducible refine sideS ?_ ?_ | with_reducible refine sideS2 ?_ ?_ | with_reducible refine sideS3 ?_ ?_ | with_reducible refine sideA ?_ ?_ | with_reducible refine sideA2 ?_ ?_ | with_reducible refine sideA3 ?_ ?_); (first | omega | assumption | (simp; done))) | (refine awp_seq_k fun K hK => ?_) | (refine awp_regionC ?_) | (refine awp_anyA true (by kernel_rfl) (by kernel_rfl) ?_) | (refine hK _ ?_; clear hK; clear K) | (clear hK; clear K; refine hK _ ?_; clear hK; clear K) | (clear hK; clear K; clear hK; clear K; refine hK _ ?_; clear hK; clear K) | refine awp_block ?_)
    · have h1 : (R.length : Int) ≤ n := by omega
      refine gives_of_awp Try.func6 Try.ntmps6 rfl rfl (by decide) rfl (by intro n; simp) fun σ n0 hcl hft => ?_
      repeat' (first | ((first | ((with_reducible refine aguard (fun hg => ?_) (fun hg => ?_)) <;> (try simp only [hg]) <;> (try simp only [beq_iff_eq, beq_eq_false_iff_ne, ne_eq, decide_eq_true_eq, decide_eq_false_iff_not, bne_iff_ne, bne_eq_false_iff_eq] at hg) <;> (try (first | simp only [eq_false hg, if_true, if_false] | simp only [eq_true hg, if_true, if_false]))) | with_reducible refine aseq_step ?_ | with_reducible refine any_step' ?_ | with_reducible refine aseq_end ?_ | with_reducible refine any_end' ?_ | refine acall (small_g) ?_ | refine agives (small_g) ?_ | refine acall (c1) ?_ | refine agives (c1) ?_ | refine acall (c2) ?_ | refine agives (c2) ?_ | refine acall (c3) ?_ | refine agives (c3) ?_ | refine acall (c4) ?_ | refine agives (c4) ?_ | refine awp_condC ?_ | refine awp_exit ?_ | refine awp_skip ?_ | refine awp_ret ?_) <;> (try simp (disch := first | omega | simp) [wrap_i64, -aseqC, -anyC, h0, h1, q1])) | ((first | with_reducible refine sideG ?_ ?_ | with_reducible refine sideG2 ?_ ?_ | with_reducible refine sideS ?_ ?_ | with_reducible refine sideS2 ?_ ?_ | with_reducible refine sideS3 ?_ ?_ | with_reducible refine sideA ?_ ?_ | with_reducible refine sideA2 ?_ ?_ | with_reducible refine sideA3 ?_ ?_); (first | omega | assumption | (simp; done))) | (refine awp_seq_k fun K hK => ?_) | (refine awp_regionC ?_) | (refine awp_anyA true (by kernel_rfl) (by kernel_rfl) ?_) | (refine hK _ ?_; clear hK; clear K) | (clear hK; clear K; refine hK _ ?_; clear hK; clear K) | (clear hK; clear K; clear hK; clear K; refine hK _ ?_; clear hK; clear K) | refine awp_block ?_)
theorem cols_ok {F : List Fn} {c p : List Int} {e : Ex} {t : Int} (ht : ty F c p e = some t) (hc : c.length ≤ 1000000) : colsOk e := fun y hy ho => by
  have := reads_lt e ht y.n ((reads_pre y.n e).2 ⟨y, hy, ho, rfl⟩)
  have h1 : IntKind.i64.min = -9223372036854775808 := by decide
  have h2 : IntKind.i64.max = 9223372036854775807 := by decide
  simp [Lit.wf, h1, h2]
  omega
theorem set_kinds {R : List Val} {i : Nat} (h : i < R.length) {v : Val} (hk : v.k = R[i].k) : (R.set i v).map Val.k = R.map Val.k := by
  rw [List.map_set, hk]
  apply List.ext_getElem (by simp)
  intro j h1 h2
  rw [List.getElem_set]
  split
  · rename_i hj; subst hj; simp
  · rfl
set_option maxHeartbeats 8000000 in
theorem readl_in (F : List Fn) (e : Ex) (time : Int) (R : List Val) (other : Int) (n : Nat) (v : Val) {t : Int} (hg : goodP F e R = true) (g : Good F e R t) (hn : n < R.length) : Gives Try.prog 6 (rdArgs F e time R other n v) (.bool true) := by
  have c1 := good_g F e R
  rw [hg] at c1
  have c2 := g.eval time
  have c3 := g.eval other
  obtain ⟨w1, w2⟩ := good_wf g
  have hR20 : R.length ≤ 20 := by
    unfold goodP at hg
    simp only [Bool.and_eq_true, decide_eq_true_eq] at hg
    have h3 := hg.1.1.2
    unfold fitsR at h3
    simp only [Bool.and_eq_true, decide_eq_true_eq] at h3
    omega
  have c4 := timed_g F e (by have := g.len; omega) w1 w2
  have hT : timedP F e = false → evalP F other R e = evalP F time R e := fun h => eval_time g.ok g.ty h
  have q1 : Val.eqB (evalP F time R e) (evalP F time R e) = true := (Val.eqB_iff _ _).2 rfl
  have c5 := fits_g16 [v]
  have c6 := reads_g e (cols_ok g.ty (by simp; omega)) (by have := g.pe; omega)
  have hrow : (n : Int) ∉ readsP e → v.k = R[n].k → fitsR [v] = true → Gives Try.prog 13 [.sl (F.map Fn.av), e.av, .int time, .sl ((R.set n v).map Val.av)] (evalP F time R e).av := fun h1 h2 h3 => by
    have hs := set_kinds hn h2
    have := eval_g F time (R.set n v) e t g.ok (fun f hf => by have := g.pF f hf; omega) (by have := g.pe; omega) (by rw [hs]; exact g.ty) (fun x hx => by
      rcases List.mem_or_eq_of_mem_set hx with hx | rfl
      · exact g.snd x hx
      · exact fits_snd h3 _ (by simp))
    have hev : evalP F time (R.set n v) e = evalP F time R e := ev_reads e fun x hx => by
      have hx0 := reads_lt e g.ty x hx
      rw [List.getD_eq_getElem?_getD, List.getD_eq_getElem?_getD, List.getElem?_set_ne]
      intro hxn
      exact h1 (by have : (n : Int) = x := by omega
                   rw [this]; exact hx)
    rwa [hev] at this
  rw [List.map_set] at hrow
  have hm : parts e ≤ 100 := g.pe
  have hlen := readsP_len e
  clear w1 w2 hg g
  generalize readsP e = RP at *
  have hn' : ¬ (n : Int) < 0 := by omega
  have hn2 : ¬ (R.length : Int) ≤ n := by omega
  have b9 : R.length * 32 ≤ 140737488355328 := by omega
  have b8 : 0 < R.length := by omega
  by_cases hcase : timedP F e = true ∨ timedP F e = false
  rotate_left
  · exact absurd (by cases timedP F e <;> simp) hcase
  obtain ⟨Y, TB, hc3, hc4, hYT⟩ : ∃ (Y : Val) (TB : Bool), Gives Try.prog 13 [.sl (F.map Fn.av), e.av, .int other, .sl (R.map Val.av)] Y.av ∧ Gives Try.prog 26 [.sl (F.map Fn.av), e.av] (.bool TB) ∧ (TB = false → Y = evalP F time R e) := ⟨_, _, c3, c4, hT⟩
  clear c3 c4 hT hcase
  generalize evalP F time R e = Z at *
  have tail : ∀ (TB : Bool), (TB = false → Y = Z) → Gives Try.prog 26 [.sl (F.map Fn.av), e.av] (.bool TB) → Gives Try.prog 6 (rdArgs F e time R other n v) (.bool true) := by
    intro TB hYT c4
    cases hf : fitsR [v] with
    | false =>
      rw [hf] at c5
      cases TB with
      | true =>
        refine gives_of_awp Try.func6 Try.ntmps6 rfl rfl (by decide) rfl (by intro n; simp) fun σ n0 hcl hft => ?_
        repeat' (first | ((first | ((with_reducible refine aguard (fun hg => ?_) (fun hg => ?_)) <;> (try simp only [hg]) <;> (try simp only [beq_iff_eq, beq_eq_false_iff_ne, ne_eq, decide_eq_true_eq, decide_eq_false_iff_not, bne_iff_ne, bne_eq_false_iff_eq] at hg) <;> (try (first | simp only [eq_false hg, if_true, if_false] | simp only [eq_true hg, if_true, if_false]))) | with_reducible refine aseq_step ?_ | with_reducible refine any_step' ?_ | with_reducible refine aseq_end ?_ | with_reducible refine any_end' ?_ | refine acall (small_g) ?_ | refine agives (small_g) ?_ | refine acall (c1) ?_ | refine agives (c1) ?_ | refine acall (c2) ?_ | refine agives (c2) ?_ | refine acall (hc3) ?_ | refine agives (hc3) ?_ | refine acall (c4) ?_ | refine agives (c4) ?_ | refine acall (c5) ?_ | refine agives (c5) ?_ | refine awp_condC ?_ | refine awp_exit ?_ | refine awp_skip ?_ | refine awp_ret ?_) <;> (try simp (disch := first | omega | simp) [wrap_i64, -aseqC, -anyC, hn', hn2, q1])) | ((first | with_reducible refine sideG ?_ ?_ | with_reducible refine sideG2 ?_ ?_ | with_reducible refine sideS ?_ ?_ | with_reducible refine sideS2 ?_ ?_ | with_reducible refine sideS3 ?_ ?_ | with_reducible refine sideA ?_ ?_ | with_reducible refine sideA2 ?_ ?_ | with_reducible refine sideA3 ?_ ?_); (first | omega | assumption | (simp; done))) | (refine awp_seq_k fun K hK => ?_) | (refine awp_regionC ?_) | (refine awp_anyA true (by kernel_rfl) (by kernel_rfl) ?_) | (refine hK _ ?_; clear hK; clear K) | (clear hK; clear K; refine hK _ ?_; clear hK; clear K) | (clear hK; clear K; clear hK; clear K; refine hK _ ?_; clear hK; clear K) | refine awp_block ?_)
      | false =>
        obtain rfl := hYT rfl
        refine gives_of_awp Try.func6 Try.ntmps6 rfl rfl (by decide) rfl (by intro n; simp) fun σ n0 hcl hft => ?_
        repeat' (first | ((first | ((with_reducible refine aguard (fun hg => ?_) (fun hg => ?_)) <;> (try simp only [hg]) <;> (try simp only [beq_iff_eq, beq_eq_false_iff_ne, ne_eq, decide_eq_true_eq, decide_eq_false_iff_not, bne_iff_ne, bne_eq_false_iff_eq] at hg) <;> (try (first | simp only [eq_false hg, if_true, if_false] | simp only [eq_true hg, if_true, if_false]))) | with_reducible refine aseq_step ?_ | with_reducible refine any_step' ?_ | with_reducible refine aseq_end ?_ | with_reducible refine any_end' ?_ | refine acall (small_g) ?_ | refine agives (small_g) ?_ | refine acall (c1) ?_ | refine agives (c1) ?_ | refine acall (c2) ?_ | refine agives (c2) ?_ | refine acall (hc3) ?_ | refine agives (hc3) ?_ | refine acall (c4) ?_ | refine agives (c4) ?_ | refine acall (c5) ?_ | refine agives (c5) ?_ | refine awp_condC ?_ | refine awp_exit ?_ | refine awp_skip ?_ | refine awp_ret ?_) <;> (try simp (disch := first | omega | simp) [wrap_i64, -aseqC, -anyC, hn', hn2, q1])) | ((first | with_reducible refine sideG ?_ ?_ | with_reducible refine sideG2 ?_ ?_ | with_reducible refine sideS ?_ ?_ | with_reducible refine sideS2 ?_ ?_ | with_reducible refine sideS3 ?_ ?_ | with_reducible refine sideA ?_ ?_ | with_reducible refine sideA2 ?_ ?_ | with_reducible refine sideA3 ?_ ?_); (first | omega | assumption | (simp; done))) | (refine awp_seq_k fun K hK => ?_) | (refine awp_regionC ?_) | (refine awp_anyA true (by kernel_rfl) (by kernel_rfl) ?_) | (refine hK _ ?_; clear hK; clear K) | (clear hK; clear K; refine hK _ ?_; clear hK; clear K) | (clear hK; clear K; clear hK; clear K; refine hK _ ?_; clear hK; clear K) | refine awp_block ?_)
    | true =>
      rw [hf] at c5
      have hrow2 := fun h1 h2 => hrow h1 h2 hf
      clear hrow hf
      cases TB
      all_goals try obtain rfl := (hYT rfl).symm
      all_goals
        refine gives_of_awp Try.func6 Try.ntmps6 rfl rfl (by decide) rfl (by intro n; simp) fun σ n0 hcl hft => ?_
        repeat' (first | ((first | ((with_reducible refine aguard (fun hg => ?_) (fun hg => ?_)) <;> (try simp only [hg]) <;> (try simp only [beq_iff_eq, beq_eq_false_iff_ne, ne_eq, decide_eq_true_eq, decide_eq_false_iff_not, bne_iff_ne, bne_eq_false_iff_eq] at hg) <;> (try (first | simp only [eq_false hg, if_true, if_false] | simp only [eq_true hg, if_true, if_false]))) | with_reducible refine aseq_step ?_ | with_reducible refine any_step' ?_ | with_reducible refine aseq_end ?_ | with_reducible refine any_end' ?_ | refine acall (small_g) ?_ | refine agives (small_g) ?_ | refine acall (c1) ?_ | refine agives (c1) ?_ | refine acall (c2) ?_ | refine agives (c2) ?_ | refine acall (hc3) ?_ | refine agives (hc3) ?_ | refine acall (c4) ?_ | refine agives (c4) ?_ | refine acall (c5) ?_ | refine agives (c5) ?_ | refine acall (c6) ?_ | refine agives (c6) ?_ | refine awp_condC ?_ | refine awp_exit ?_ | refine awp_skip ?_ | refine awp_ret ?_) <;> (try simp (disch := first | omega | simp) [wrap_i64, -aseqC, -anyC, hn', hn2, q1])) | ((first | with_reducible refine sideG ?_ ?_ | with_reducible refine sideG2 ?_ ?_ | with_reducible refine sideS ?_ ?_ | with_reducible refine sideS2 ?_ ?_ | with_reducible refine sideS3 ?_ ?_ | with_reducible refine sideA ?_ ?_ | with_reducible refine sideA2 ?_ ?_ | with_reducible refine sideA3 ?_ ?_); (first | omega | assumption | (simp; done))) | (refine awp_seq_k fun K hK => ?_) | (refine awp_regionC ?_) | (refine awp_anyA true (by kernel_rfl) (by kernel_rfl) ?_) | (refine hK _ ?_; clear hK; clear K) | (clear hK; clear K; refine hK _ ?_; clear hK; clear K) | (clear hK; clear K; clear hK; clear K; refine hK _ ?_; clear hK; clear K) | refine awp_block ?_)
        refine awp_loopC hcl (fun k : Nat => [(0, .sl (F.map Fn.av)), (2, .int time), (3, .sl (R.map Val.av)), (5, .int n), (8, .ptr n0 0), (13, .ptr (n0 + 1) 0), (14, .bool false), (15, .bool true), (16, .ptr (n0 + 2) 0), (17, .sl (RP.map AV.int)), (18, .int k)])
          (fun k => [.cells [.int e.op, .int e.n, .str e.s, .sl (e.args.map Ex.av)] 25, .cells [.int v.k, .int v.n, .str v.s] 34, .cells [.int Z.k, .int Z.n, .str Z.s] 34])
          (fun k => k ≤ RP.length ∧ ∀ (i : Nat) (h : i < RP.length), i < k → RP[i] ≠ n) (fun k => RP.length - k) 0 (by exact ⟨by omega, fun i h h2 => by omega⟩) (by simp) fun k hk => ?_
        obtain ⟨hk, hks⟩ := hk
        by_cases hlt : k < RP.length
        · by_cases hx : RP[k] = n
          · repeat' (first | ((first | ((with_reducible refine aguard (fun hg => ?_) (fun hg => ?_)) <;> (try simp only [hg]) <;> (try simp only [beq_iff_eq, beq_eq_false_iff_ne, ne_eq, decide_eq_true_eq, decide_eq_false_iff_not, bne_iff_ne, bne_eq_false_iff_eq] at hg) <;> (try (first | simp only [eq_false hg, if_true, if_false] | simp only [eq_true hg, if_true, if_false]))) | with_reducible refine aseq_step ?_ | with_reducible refine any_step' ?_ | with_reducible refine aseq_end ?_ | with_reducible refine any_end' ?_ | refine awp_condC ?_ | refine awp_exit ?_ | refine awp_skip ?_ | refine awp_ret ?_) <;> (try simp (disch := first | omega | simp) [wrap_i64, -aseqC, -anyC, hlt, hx])) | ((first | with_reducible refine sideG ?_ ?_ | with_reducible refine sideG2 ?_ ?_ | with_reducible refine sideS ?_ ?_ | with_reducible refine sideS2 ?_ ?_ | with_reducible refine sideS3 ?_ ?_ | with_reducible refine sideA ?_ ?_ | with_reducible refine sideA2 ?_ ?_ | with_reducible refine sideA3 ?_ ?_); (first | omega | assumption | (simp; done))) | (refine awp_seq_k fun K hK => ?_) | (refine awp_regionC ?_) | (refine awp_anyA true (by kernel_rfl) (by kernel_rfl) ?_) | (refine hK _ ?_; clear hK; clear K) | (clear hK; clear K; refine hK _ ?_; clear hK; clear K) | (clear hK; clear K; clear hK; clear K; refine hK _ ?_; clear hK; clear K) | refine awp_block ?_)
          · repeat' (first | ((first | ((with_reducible refine aguard (fun hg => ?_) (fun hg => ?_)) <;> (try simp only [hg]) <;> (try simp only [beq_iff_eq, beq_eq_false_iff_ne, ne_eq, decide_eq_true_eq, decide_eq_false_iff_not, bne_iff_ne, bne_eq_false_iff_eq] at hg) <;> (try (first | simp only [eq_false hg, if_true, if_false] | simp only [eq_true hg, if_true, if_false]))) | with_reducible refine aseq_step ?_ | with_reducible refine any_step' ?_ | with_reducible refine aseq_end ?_ | with_reducible refine any_end' ?_ | refine awp_condC ?_ | refine awp_exit ?_ | refine awp_skip ?_ | refine awp_ret ?_) <;> (try simp (disch := first | omega | simp) [wrap_i64, -aseqC, -anyC, hlt, hx])) | ((first | with_reducible refine sideG ?_ ?_ | with_reducible refine sideG2 ?_ ?_ | with_reducible refine sideS ?_ ?_ | with_reducible refine sideS2 ?_ ?_ | with_reducible refine sideS3 ?_ ?_ | with_reducible refine sideA ?_ ?_ | with_reducible refine sideA2 ?_ ?_ | with_reducible refine sideA3 ?_ ?_); (first | omega | assumption | (simp; done))) | (refine awp_seq_k fun K hK => ?_) | (refine awp_regionC ?_) | (refine awp_anyA true (by kernel_rfl) (by kernel_rfl) ?_) | (refine hK _ ?_; clear hK; clear K) | (clear hK; clear K; refine hK _ ?_; clear hK; clear K) | (clear hK; clear K; clear hK; clear K; refine hK _ ?_; clear hK; clear K) | refine awp_block ?_)
            refine ⟨k + 1, ⟨by omega, fun i h h2 => ?_⟩, by omega, by simp⟩
            by_cases hik : i < k
            · exact hks i h hik
            · obtain rfl : i = k := by omega
              exact hx
        · obtain rfl : k = RP.length := by omega
          have hni : (n : Int) ∉ RP := fun h => by
            obtain ⟨i, h1, h2⟩ := List.getElem_of_mem h
            exact hks i h1 h1 h2
          repeat' (first | ((with_reducible refine aguard (fun hg => ?_) (fun hg => ?_)) <;> (try simp only [hg]) <;> (try simp only [beq_iff_eq, beq_eq_false_iff_ne, ne_eq, decide_eq_true_eq, decide_eq_false_iff_not, bne_iff_ne, bne_eq_false_iff_eq] at hg) <;> (try (first | simp only [eq_false hg, if_true, if_false] | simp only [eq_true hg, if_true, if_false])) <;> (try simp (disch := first | omega | simp) [wrap_i64, -aseqC, -anyC, hlt])) | (with_reducible refine aseq_step ?_; try simp (disch := first | omega | simp) [wrap_i64, -aseqC, -anyC, hlt]) | (with_reducible refine any_step' ?_; try simp (disch := first | omega | simp) [wrap_i64, -aseqC, -anyC, hlt]) | (with_reducible refine aseq_end ?_; try simp (disch := first | omega | simp) [wrap_i64, -aseqC, -anyC, hlt]) | (with_reducible refine any_end' ?_; try simp (disch := first | omega | simp) [wrap_i64, -aseqC, -anyC, hlt]) | ((first | with_reducible refine sideG ?_ ?_ | with_reducible refine sideG2 ?_ ?_ | with_reducible refine sideS ?_ ?_ | with_reducible refine sideS2 ?_ ?_ | with_reducible refine sideS3 ?_ ?_ | with_reducible refine sideA ?_ ?_ | with_reducible refine sideA2 ?_ ?_ | with_reducible refine sideA3 ?_ ?_); (first | omega | assumption | (simp; done))) | (refine awp_seq_k fun K hK => ?_) | (refine awp_regionC ?_) | (refine hK _ ?_; clear hK; clear K) | (clear hK; clear K; refine hK _ ?_; clear hK; clear K) | (clear hK; clear K; clear hK; clear K; refine hK _ ?_; clear hK; clear K) | refine awp_block ?_ | (refine awp_condC ?_; simp (disch := first | omega | simp) [wrap_i64, -aseqC, -anyC, hlt]) | (refine awp_exit ?_; try simp (disch := first | omega | simp) [wrap_i64, -aseqC, -anyC, hlt]) | (refine awp_skip ?_; try simp (disch := first | omega | simp) [wrap_i64, -aseqC, -anyC, hlt]) | (refine awp_ret ?_; try simp (disch := first | omega | simp) [wrap_i64, -aseqC, -anyC, hlt]))
          refine awp_anyA true (by kernel_rfl) (by kernel_rfl) ?_
          repeat' (first | ((with_reducible refine aguard (fun hg => ?_) (fun hg => ?_)) <;> (try simp only [hg]) <;> (try simp only [beq_iff_eq, beq_eq_false_iff_ne, ne_eq, decide_eq_true_eq, decide_eq_false_iff_not, bne_iff_ne, bne_eq_false_iff_eq] at hg) <;> (try (first | simp only [eq_false hg, if_true, if_false] | simp only [eq_true hg, if_true, if_false])) <;> (try simp (disch := first | omega | simp) [wrap_i64, -aseqC, -anyC, hlt, hn, b8, b9])) | (with_reducible refine aseq_step ?_; try simp (disch := first | omega | simp) [wrap_i64, -aseqC, -anyC, hlt, hn, b8, b9]) | (with_reducible refine any_step' ?_; try simp (disch := first | omega | simp) [wrap_i64, -aseqC, -anyC, hlt, hn, b8, b9]) | (with_reducible refine aseq_end ?_; try simp (disch := first | omega | simp) [wrap_i64, -aseqC, -anyC, hlt, hn, b8, b9]) | (with_reducible refine any_end' ?_; try simp (disch := first | omega | simp) [wrap_i64, -aseqC, -anyC, hlt, hn, b8, b9]) | ((first | with_reducible refine sideG ?_ ?_ | with_reducible refine sideG2 ?_ ?_ | with_reducible refine sideS ?_ ?_ | with_reducible refine sideS2 ?_ ?_ | with_reducible refine sideS3 ?_ ?_ | with_reducible refine sideA ?_ ?_ | with_reducible refine sideA2 ?_ ?_ | with_reducible refine sideA3 ?_ ?_); (first | omega | assumption | (simp; done))) | (refine awp_seq_k fun K hK => ?_) | (refine awp_regionV4 (by rfl) ?_) | (refine awp_regionC ?_) | (refine hK _ ?_; clear hK; clear K) | (clear hK; clear K; refine hK _ ?_; clear hK; clear K) | (clear hK; clear K; clear hK; clear K; refine hK _ ?_; clear hK; clear K) | refine awp_block ?_ | (refine awp_condC ?_; simp (disch := first | omega | simp) [wrap_i64, -aseqC, -anyC, hlt, hn, b8, b9]) | (refine awp_exit ?_; try simp (disch := first | omega | simp) [wrap_i64, -aseqC, -anyC, hlt, hn, b8, b9]) | (refine awp_skip ?_; try simp (disch := first | omega | simp) [wrap_i64, -aseqC, -anyC, hlt, hn, b8, b9]) | (refine awp_ret ?_; try simp (disch := first | omega | simp) [wrap_i64, -aseqC, -anyC, hlt, hn, b8, b9]))
          all_goals
            have c7 := hrow2 hni (by assumption)
            refine awp_freezeR 19 4 (k := R.length) (by simp) (by rfl) (by simp) ?_
            repeat' (first | ((with_reducible refine aguard (fun hg => ?_) (fun hg => ?_)) <;> (try simp only [hg]) <;> (try simp only [beq_iff_eq, beq_eq_false_iff_ne, ne_eq, decide_eq_true_eq, decide_eq_false_iff_not, bne_iff_ne, bne_eq_false_iff_eq] at hg) <;> (try (first | simp only [eq_false hg, if_true, if_false] | simp only [eq_true hg, if_true, if_false])) <;> (try simp (disch := first | omega | simp) [wrap_i64, -aseqC, -anyC, hn, q1])) | (with_reducible refine aseq_step ?_; try simp (disch := first | omega | simp) [wrap_i64, -aseqC, -anyC, hn, q1]) | (with_reducible refine any_step' ?_; try simp (disch := first | omega | simp) [wrap_i64, -aseqC, -anyC, hn, q1]) | (with_reducible refine aseq_end ?_; try simp (disch := first | omega | simp) [wrap_i64, -aseqC, -anyC, hn, q1]) | (with_reducible refine any_end' ?_; try simp (disch := first | omega | simp) [wrap_i64, -aseqC, -anyC, hn, q1]) | ((first | with_reducible refine sideG ?_ ?_ | with_reducible refine sideG2 ?_ ?_ | with_reducible refine sideS ?_ ?_ | with_reducible refine sideS2 ?_ ?_ | with_reducible refine sideS3 ?_ ?_ | with_reducible refine sideA ?_ ?_ | with_reducible refine sideA2 ?_ ?_ | with_reducible refine sideA3 ?_ ?_); (first | omega | assumption | (simp; done))) | (refine acall (c7) ?_; try simp (disch := first | omega | simp) [wrap_i64, -aseqC, -anyC, hn, q1]) | (refine agives (c7) ?_; try simp (disch := first | omega | simp) [wrap_i64, -aseqC, -anyC, hn, q1]) | (refine acallAt (c7) ?_; try simp (disch := first | omega | simp) [wrap_i64, -aseqC, -anyC, hn, q1]) | (refine awp_seq_k fun K hK => ?_) | (refine awp_regionC ?_) | (refine awp_anyA true (by kernel_rfl) (by kernel_rfl) ?_) | (refine awp_anyA false (by kernel_rfl) (by kernel_rfl) ?_) | (refine hK _ ?_; clear hK; clear K) | (clear hK; clear K; refine hK _ ?_; clear hK; clear K) | (clear hK; clear K; clear hK; clear K; refine hK _ ?_; clear hK; clear K) | refine awp_block ?_ | (refine awp_condC ?_; simp (disch := first | omega | simp) [wrap_i64, -aseqC, -anyC, hn, q1]) | (refine awp_exit ?_; try simp (disch := first | omega | simp) [wrap_i64, -aseqC, -anyC, hn, q1]) | (refine awp_skip ?_; try simp (disch := first | omega | simp) [wrap_i64, -aseqC, -anyC, hn, q1]) | (refine awp_ret ?_; try simp (disch := first | omega | simp) [wrap_i64, -aseqC, -anyC, hn, q1]))
  exact tail TB hYT hc4
theorem exprReads_g (F : List Fn) (e : Ex) (time : Int) (R : List Val) (other n : Int) (v : Val) : Gives Try.prog 6 (rdArgs F e time R other n v) (.bool true) := by
  by_cases hg : goodP F e R = false
  · exact readl_bad F e time R other n v hg
  rw [Bool.not_eq_false] at hg
  obtain ⟨t, g⟩ := good_good hg
  by_cases hn : n < 0 ∨ (R.length : Int) ≤ n
  · exact readl_out F e time R other n v hg g hn
  obtain ⟨k, rfl⟩ : ∃ k : Nat, n = k := ⟨n.toNat, by omega⟩
  exact readl_in F e time R other k v hg g (by omega)
end Go.Proofs.Ytmhelkhmgbbfhaa
