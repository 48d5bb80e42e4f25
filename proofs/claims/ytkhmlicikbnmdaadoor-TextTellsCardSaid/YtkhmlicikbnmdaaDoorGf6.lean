/- Walk: errataref02.Same; what the law TextLines needs of lines and fields. -/
import Derived.Test.YtkhmlicikbnmdaaDoorGa28
set_option linter.unusedSimpArgs false
set_option linter.unusedVariables false
namespace Go.Proofs.YtkhmlicikbnmdaaDoor
open Go.RowKit Go.Lib

theorem bytesA_inj {a b : List UInt8} (h : bytesA a = bytesA b) : a = b := by
  have := congrArg (fun x : ByteArray => x.data.toList) h
  simpa using this
theorem strs_of (l : List ByteArray) : l.map AV.str = strs (l.map fun x => x.data.toList) := by
  unfold strs
  rw [List.map_map]
  exact List.map_congr_left fun x _ => by show AV.str x = AV.str (bytesA x.data.toList); rw [bytesA_eq]
set_option maxHeartbeats 1000000 in
theorem rsame02_g (A B : List (List UInt8)) (hA : A.length ≤ 1000000) (hB : B.length ≤ 1000000) : Gives Tryd.prog 14 [.sl (strs A), .sl (strs B)] (.bool (decide (A = B))) := by
  obtain ⟨R, hR⟩ : ∃ R, R = decide (A = B) := ⟨_, rfl⟩
  rw [← hR]
  by_cases hl : A.length = B.length
  · have hl' : (A.length : Int) = B.length := by omega
    refine gives_of_awp Tryd.func14 Tryd.ntmps14 rfl rfl (by decide) rfl (by intro n; simp) fun σ n0 hcl hft => ?_
    repeat' (first | ((first | ((with_reducible refine aguard (fun hg => ?_) (fun hg => ?_)) <;> (try simp only [hg]) <;> (try simp only [beq_iff_eq, beq_eq_false_iff_ne, ne_eq, decide_eq_true_eq, decide_eq_false_iff_not, bne_iff_ne, bne_eq_false_iff_eq] at hg) <;> (try (first | simp only [eq_false hg, if_true, if_false] | simp only [eq_true hg, if_true, if_false]))) | with_reducible refine aseq_step ?_ | with_reducible refine any_step' ?_ | with_reducible refine aseq_end ?_ | with_reducible refine any_end' ?_ | refine awp_condC ?_ | refine awp_exit ?_ | refine awp_skip ?_ | refine awp_ret ?_) <;> (try simp (disch := first | omega | simp) [wrap_i64, -aseqC, -anyC, hl'])) | ((first | with_reducible refine sideG ?_ ?_ | with_reducible refine sideG2 ?_ ?_ | with_reducible refine sideS ?_ ?_ | with_reducible refine sideS2 ?_ ?_ | with_reducible refine sideS3 ?_ ?_ | with_reducible refine sideA ?_ ?_ | with_reducible refine sideA2 ?_ ?_ | with_reducible refine sideA3 ?_ ?_); (first | omega | assumption | (simp; done))) | (refine awp_seq_k fun K hK => ?_) | (refine awp_regionC ?_) | (refine awp_anyA true (by kernel_rfl) (by kernel_rfl) ?_) | (refine hK _ ?_; clear hK; clear K) | (clear hK; clear K; refine hK _ ?_; clear hK; clear K) | (clear hK; clear K; clear hK; clear K; refine hK _ ?_; clear hK; clear K) | refine awp_block ?_)
    refine awp_loopC hcl (fun i : Nat => [(0, .sl (strs A)), (1, .sl (strs B)), (5, .int i)]) (fun _ => []) (fun i => i ≤ A.length ∧ ∀ j (h1 : j < A.length) (h2 : j < B.length), j < i → A[j] = B[j]) (fun i => A.length - i) 0 ⟨Nat.zero_le _, fun j _ _ h => by omega⟩ (by simp) fun i ⟨hi, he⟩ => ?_
    by_cases hlt : i < A.length
    · have hlt2 : i < B.length := by omega
      by_cases hx : A[i] = B[i]
      · repeat' (first | ((with_reducible refine aguard (fun hg => ?_) (fun hg => ?_)) <;> (try simp only [hg]) <;> (try simp only [beq_iff_eq, beq_eq_false_iff_ne, ne_eq, decide_eq_true_eq, decide_eq_false_iff_not, bne_iff_ne, bne_eq_false_iff_eq] at hg) <;> (try (first | simp only [eq_false hg, if_true, if_false] | simp only [eq_true hg, if_true, if_false])) <;> (try simp (disch := first | omega | simp) [wrap_i64, -aseqC, -anyC, hlt, hlt2, hx])) | (with_reducible refine aseq_step ?_; try simp (disch := first | omega | simp) [wrap_i64, -aseqC, -anyC, hlt, hlt2, hx]) | (with_reducible refine any_step' ?_; try simp (disch := first | omega | simp) [wrap_i64, -aseqC, -anyC, hlt, hlt2, hx]) | (with_reducible refine aseq_end ?_; try simp (disch := first | omega | simp) [wrap_i64, -aseqC, -anyC, hlt, hlt2, hx]) | (with_reducible refine any_end' ?_; try simp (disch := first | omega | simp) [wrap_i64, -aseqC, -anyC, hlt, hlt2, hx]) | ((first | with_reducible refine sideG ?_ ?_ | with_reducible refine sideG2 ?_ ?_ | with_reducible refine sideS ?_ ?_ | with_reducible refine sideS2 ?_ ?_ | with_reducible refine sideS3 ?_ ?_ | with_reducible refine sideA ?_ ?_ | with_reducible refine sideA2 ?_ ?_ | with_reducible refine sideA3 ?_ ?_); (first | omega | assumption | (simp; done))) | (refine awp_seq_k fun K hK => ?_) | (refine awp_regionC ?_) | (refine awp_anyA true (by kernel_rfl) (by kernel_rfl) ?_) | (refine awp_anyA false (by kernel_rfl) (by kernel_rfl) ?_) | (refine hK _ ?_; clear hK; clear K) | (clear hK; clear K; refine hK _ ?_; clear hK; clear K) | (clear hK; clear K; clear hK; clear K; refine hK _ ?_; clear hK; clear K) | refine awp_block ?_ | (refine awp_condC ?_; simp (disch := first | omega | simp) [wrap_i64, -aseqC, -anyC, hlt, hlt2, hx]) | (refine awp_exit ?_; try simp (disch := first | omega | simp) [wrap_i64, -aseqC, -anyC, hlt, hlt2, hx]) | (refine awp_skip ?_; try simp (disch := first | omega | simp) [wrap_i64, -aseqC, -anyC, hlt, hlt2, hx]) | (refine awp_ret ?_; try simp (disch := first | omega | simp) [wrap_i64, -aseqC, -anyC, hlt, hlt2, hx]))
        all_goals exact ⟨i + 1, ⟨by omega, fun j h1 h2 h3 => by
          by_cases hj : j = i
          · subst hj; exact hx
          · exact he j h1 h2 (by omega)⟩, by omega, by simp⟩
      · have hno : R = false := by rw [hR, decide_eq_false]; intro e; subst e; exact hx rfl
        repeat' (first | ((first | ((with_reducible refine aguard (fun hg => ?_) (fun hg => ?_)) <;> (try simp only [hg]) <;> (try simp only [beq_iff_eq, beq_eq_false_iff_ne, ne_eq, decide_eq_true_eq, decide_eq_false_iff_not, bne_iff_ne, bne_eq_false_iff_eq] at hg) <;> (try (first | simp only [eq_false hg, if_true, if_false] | simp only [eq_true hg, if_true, if_false]))) | with_reducible refine aseq_step ?_ | with_reducible refine any_step' ?_ | with_reducible refine aseq_end ?_ | with_reducible refine any_end' ?_ | refine awp_condC ?_ | refine awp_exit ?_ | refine awp_skip ?_ | refine awp_ret ?_) <;> (try simp (disch := first | omega | simp) [wrap_i64, -aseqC, -anyC, hlt, hlt2, hx])) | ((first | with_reducible refine sideG ?_ ?_ | with_reducible refine sideG2 ?_ ?_ | with_reducible refine sideS ?_ ?_ | with_reducible refine sideS2 ?_ ?_ | with_reducible refine sideS3 ?_ ?_ | with_reducible refine sideA ?_ ?_ | with_reducible refine sideA2 ?_ ?_ | with_reducible refine sideA3 ?_ ?_); (first | omega | assumption | (simp; done))) | (refine awp_seq_k fun K hK => ?_) | (refine awp_regionC ?_) | (refine awp_anyA true (by kernel_rfl) (by kernel_rfl) ?_) | (refine hK _ ?_; clear hK; clear K) | (clear hK; clear K; refine hK _ ?_; clear hK; clear K) | (clear hK; clear K; clear hK; clear K; refine hK _ ?_; clear hK; clear K) | refine awp_block ?_)
        all_goals first | exact hno | exact absurd (by assumption) hx
    · have hyes : R = true := by
        rw [hR, decide_eq_true]
        exact List.ext_getElem hl fun j h1 h2 => he j h1 h2 (by omega)
      repeat' (first | ((first | ((with_reducible refine aguard (fun hg => ?_) (fun hg => ?_)) <;> (try simp only [hg]) <;> (try simp only [beq_iff_eq, beq_eq_false_iff_ne, ne_eq, decide_eq_true_eq, decide_eq_false_iff_not, bne_iff_ne, bne_eq_false_iff_eq] at hg) <;> (try (first | simp only [eq_false hg, if_true, if_false] | simp only [eq_true hg, if_true, if_false]))) | with_reducible refine aseq_step ?_ | with_reducible refine any_step' ?_ | with_reducible refine aseq_end ?_ | with_reducible refine any_end' ?_ | refine awp_condC ?_ | refine awp_exit ?_ | refine awp_skip ?_ | refine awp_ret ?_) <;> (try simp (disch := first | omega | simp) [wrap_i64, -aseqC, -anyC, hlt])) | ((first | with_reducible refine sideG ?_ ?_ | with_reducible refine sideG2 ?_ ?_ | with_reducible refine sideS ?_ ?_ | with_reducible refine sideS2 ?_ ?_ | with_reducible refine sideS3 ?_ ?_ | with_reducible refine sideA ?_ ?_ | with_reducible refine sideA2 ?_ ?_ | with_reducible refine sideA3 ?_ ?_); (first | omega | assumption | (simp; done))) | (refine awp_seq_k fun K hK => ?_) | (refine awp_regionC ?_) | (refine awp_anyA true (by kernel_rfl) (by kernel_rfl) ?_) | (refine hK _ ?_; clear hK; clear K) | (clear hK; clear K; refine hK _ ?_; clear hK; clear K) | (clear hK; clear K; clear hK; clear K; refine hK _ ?_; clear hK; clear K) | refine awp_block ?_)
      all_goals exact hyes
  · have hl' : ¬ (A.length : Int) = B.length := by omega
    have hno : R = false := by rw [hR, decide_eq_false]; intro e; subst e; exact hl rfl
    refine gives_of_awp Tryd.func14 Tryd.ntmps14 rfl rfl (by decide) rfl (by intro n; simp) fun σ n0 hcl hft => ?_
    repeat' (first | ((first | ((with_reducible refine aguard (fun hg => ?_) (fun hg => ?_)) <;> (try simp only [hg]) <;> (try simp only [beq_iff_eq, beq_eq_false_iff_ne, ne_eq, decide_eq_true_eq, decide_eq_false_iff_not, bne_iff_ne, bne_eq_false_iff_eq] at hg) <;> (try (first | simp only [eq_false hg, if_true, if_false] | simp only [eq_true hg, if_true, if_false]))) | with_reducible refine aseq_step ?_ | with_reducible refine any_step' ?_ | with_reducible refine aseq_end ?_ | with_reducible refine any_end' ?_ | refine awp_condC ?_ | refine awp_exit ?_ | refine awp_skip ?_ | refine awp_ret ?_) <;> (try simp (disch := first | omega | simp) [wrap_i64, -aseqC, -anyC, hl'])) | ((first | with_reducible refine sideG ?_ ?_ | with_reducible refine sideG2 ?_ ?_ | with_reducible refine sideS ?_ ?_ | with_reducible refine sideS2 ?_ ?_ | with_reducible refine sideS3 ?_ ?_ | with_reducible refine sideA ?_ ?_ | with_reducible refine sideA2 ?_ ?_ | with_reducible refine sideA3 ?_ ?_); (first | omega | assumption | (simp; done))) | (refine awp_seq_k fun K hK => ?_) | (refine awp_regionC ?_) | (refine awp_anyA true (by kernel_rfl) (by kernel_rfl) ?_) | (refine hK _ ?_; clear hK; clear K) | (clear hK; clear K; refine hK _ ?_; clear hK; clear K) | (clear hK; clear K; clear hK; clear K; refine hK _ ?_; clear hK; clear K) | refine awp_block ?_)
    all_goals first | exact hno | exact absurd (by assumption) hl' | exact absurd (by assumption) hl
/- bounds -/
theorem unlines_mem {x : List UInt8} : ∀ {L : List (List UInt8)}, x ∈ L → x.length + 1 ≤ (unlinesP L).length
  | [], h => by cases h
  | y :: L, h => by
    have e : unlinesP (y :: L) = y ++ [10] ++ unlinesP L := by unfold unlinesP; rw [List.flatMap_cons]
    rw [e, List.length_append, List.length_append, List.length_singleton]
    rcases List.mem_cons.1 h with rfl | h
    · omega
    · have := unlines_mem h; omega
theorem unlines_len : ∀ (L : List (List UInt8)), L.length ≤ (unlinesP L).length
  | [] => Nat.le_refl _
  | y :: L => by
    have e : unlinesP (y :: L) = y ++ [10] ++ unlinesP L := by unfold unlinesP; rw [List.flatMap_cons]
    have := unlines_len L
    rw [e, List.length_append, List.length_append, List.length_singleton, List.length_cons]; omega
theorem unlines_bound {n : Nat} : ∀ (L : List (List UInt8)), (∀ x ∈ L, x.length ≤ n) → (unlinesP L).length ≤ L.length * (n + 1)
  | [], _ => by simp
  | y :: L, h => by
    have e : unlinesP (y :: L) = y ++ [10] ++ unlinesP L := by unfold unlinesP; rw [List.flatMap_cons]
    have h1 := unlines_bound L fun x hx => h x (List.mem_cons_of_mem _ hx)
    have h2 := h y (by simp)
    rw [e, List.length_append, List.length_append, List.length_singleton, List.length_cons, Nat.succ_mul]; omega
theorem lines_total (l : List UInt8) : (unlinesP (linesP l)).length ≤ l.length + 1 := by
  rw [unlines_lines]
  split
  · omega
  · simp
theorem lines_free (l : List UInt8) : ∀ x ∈ linesP l, (10 : UInt8) ∉ x := fun x hx => by
  unfold linesP at hx
  split at hx
  · cases hx
  · exact brk_free x hx
theorem fld_len : ∀ (l now : List UInt8), (fldA now l).length ≤ l.length + 1
  | [], now => by rw [fldA]; split <;> simp
  | c :: r, now => by
    rw [fldA]
    split
    · split
      · have := fld_len r []; simp; omega
      · have := fld_len r []; simp; omega
    · have := fld_len r (now ++ [c]); simp; omega
theorem fields_take_len (l : List UInt8) (i : Nat) : (((linesP l).take i).flatMap fieldsP).length ≤ l.length + 1 := by
  have h : (linesP l).flatMap fieldsP = ((linesP l).take i).flatMap fieldsP ++ ((linesP l).drop i).flatMap fieldsP := by rw [← List.flatMap_append, List.take_append_drop]
  have h2 := congrArg List.length h
  rw [fields_lines, List.length_append] at h2
  have := fld_len l []
  unfold fieldsP at h2
  unfold fieldsP
  omega
end Go.Proofs.YtkhmlicikbnmdaaDoor
