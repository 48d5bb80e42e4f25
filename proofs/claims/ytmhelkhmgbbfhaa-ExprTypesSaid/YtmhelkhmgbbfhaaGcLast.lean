/- Walk: whether two expressions are the same, of the program. -/
import Derived.Test.YtmhelkhmgbbfhaaGa5
import Derived.Test.YtmhelkhmgbbfhaaGa20
import Derived.Test.YtmhelkhmgbbfhaaGa22
import Derived.Test.YtmhelkhmgbbfhaaGa23
import Derived.Test.YtmhelkhmgbbfhaaGa24
import Derived.Test.YtmhelkhmgbbfhaaGa25
set_option linter.unusedSimpArgs false
set_option linter.unusedVariables false
namespace Go.Proofs.Ytmhelkhmgbbfhaa
open Go.RowKit Go.Lib

set_option maxHeartbeats 1000000 in
theorem eqf_g (l l2 : List Ex) (hl : l.length ≤ 1000000) (h : ∀ (i : Nat) (h1 : i < l.length) (h2 : i < l2.length), Gives Try.prog 36 [l[i].av, l2[i].av] (.bool (sameB l[i] l2[i]))) :
    Gives Try.prog 64 [.sl (l.map Ex.av), .sl (l2.map Ex.av), .fn 36 []] (.bool (sameBs l l2)) := by
  obtain ⟨R, hR⟩ : ∃ R, R = sameBs l l2 := ⟨_, rfl⟩
  rw [← hR]
  by_cases hlen : l.length = l2.length
  · have hlen' : (l.length : Int) = l2.length := by omega
    refine gives_of_awp Try.func64 Try.ntmps64 rfl rfl (by decide) rfl (by intro n; simp) fun σ n0 hcl hft => ?_
    repeat (rw [aseqC]; try simp (disch := first | omega | simp) [wrap_i64, -aseqC, hlen'])
    repeat (first | (refine awp_seq_k fun K hK => ?_) | (refine awp_regionC ?_; repeat (rw [aseqC]; try simp (disch := first | omega | simp) [wrap_i64, -aseqC, hlen'])) | (refine hK _ ?_; clear hK; clear K) | (clear hK; clear K; refine hK _ ?_; clear hK; clear K) | (clear hK; clear K; clear hK; clear K; refine hK _ ?_; clear hK; clear K) | refine awp_block ?_ | (refine awp_condC ?_; simp (disch := first | omega | simp) [wrap_i64, hlen']) | (refine awp_exit ?_; simp (disch := first | omega | simp)) | (refine awp_skip ?_; simp (disch := first | omega | simp)) | (refine awp_ret ?_; simp (disch := first | omega | simp)))
    refine awp_loopC hcl (fun k : Nat => [(1, .sl (l2.map Ex.av)), (2, .fn 36 []), (15, .sl (l.map Ex.av)), (16, .int l2.length), (17, .int k)]) (fun _ => [])
      (fun k => k ≤ l.length ∧ R = sameBs (l.drop k) (l2.drop k)) (fun k => l.length - k) 0 (by exact ⟨by omega, by rw [hR]; rfl⟩) (by simp) fun k hk => ?_
    obtain ⟨hk, he⟩ := hk
    by_cases hlt : k < l.length
    · have hlt2 : k < l2.length := by omega
      have hc := h k hlt hlt2
      have hd : R = (sameB l[k] l2[k] && sameBs (l.drop (k + 1)) (l2.drop (k + 1))) := by
        rw [he, List.drop_eq_getElem_cons hlt, List.drop_eq_getElem_cons hlt2, sameBs]
      cases hs : sameB l[k] l2[k] with
      | false =>
        obtain rfl : R = false := by rw [hd, hs]; rfl
        rw [hs] at hc
        repeat' (first | ((with_reducible refine aguard (fun hg => ?_) (fun hg => ?_)) <;> (try simp only [hg]) <;> (try simp only [beq_iff_eq, beq_eq_false_iff_ne, ne_eq, decide_eq_true_eq, decide_eq_false_iff_not, bne_iff_ne, bne_eq_false_iff_eq] at hg) <;> (try (first | simp only [eq_false hg, if_true, if_false] | simp only [eq_true hg, if_true, if_false])) <;> (try simp (disch := first | omega | simp) [wrap_i64, -aseqC, -anyC, hlt, hlt2])) | (with_reducible refine aseq_step ?_; try simp (disch := first | omega | simp) [wrap_i64, -aseqC, -anyC, hlt, hlt2]) | (with_reducible refine any_step' ?_; try simp (disch := first | omega | simp) [wrap_i64, -aseqC, -anyC, hlt, hlt2]) | (with_reducible refine aseq_end ?_; try simp (disch := first | omega | simp) [wrap_i64, -aseqC, -anyC, hlt, hlt2]) | (with_reducible refine any_end' ?_; try simp (disch := first | omega | simp) [wrap_i64, -aseqC, -anyC, hlt, hlt2]) | ((first | with_reducible refine sideG ?_ ?_ | with_reducible refine sideG2 ?_ ?_ | with_reducible refine sideS ?_ ?_ | with_reducible refine sideS2 ?_ ?_ | with_reducible refine sideS3 ?_ ?_ | with_reducible refine sideA ?_ ?_ | with_reducible refine sideA2 ?_ ?_ | with_reducible refine sideA3 ?_ ?_); (first | omega | assumption | (simp; done))) | (refine acall (hc) ?_; try simp (disch := first | omega | simp) [wrap_i64, -aseqC, -anyC, hlt, hlt2]) | (refine agives (hc) ?_; try simp (disch := first | omega | simp) [wrap_i64, -aseqC, -anyC, hlt, hlt2]) | (refine acallAt (hc) ?_; try simp (disch := first | omega | simp) [wrap_i64, -aseqC, -anyC, hlt, hlt2]) | (refine awp_seq_k fun K hK => ?_) | (refine awp_regionC ?_) | (refine awp_anyA true (by kernel_rfl) (by kernel_rfl) ?_) | (refine awp_anyA false (by kernel_rfl) (by kernel_rfl) ?_) | (refine hK _ ?_; clear hK; clear K) | (clear hK; clear K; refine hK _ ?_; clear hK; clear K) | (clear hK; clear K; clear hK; clear K; refine hK _ ?_; clear hK; clear K) | refine awp_block ?_ | (refine awp_condC ?_; simp (disch := first | omega | simp) [wrap_i64, -aseqC, -anyC, hlt, hlt2]) | (refine awp_exit ?_; try simp (disch := first | omega | simp) [wrap_i64, -aseqC, -anyC, hlt, hlt2]) | (refine awp_skip ?_; try simp (disch := first | omega | simp) [wrap_i64, -aseqC, -anyC, hlt, hlt2]) | (refine awp_ret ?_; try simp (disch := first | omega | simp) [wrap_i64, -aseqC, -anyC, hlt, hlt2]))
      | true =>
        rw [hs] at hc
        repeat' (first | ((with_reducible refine aguard (fun hg => ?_) (fun hg => ?_)) <;> (try simp only [hg]) <;> (try simp only [beq_iff_eq, beq_eq_false_iff_ne, ne_eq, decide_eq_true_eq, decide_eq_false_iff_not, bne_iff_ne, bne_eq_false_iff_eq] at hg) <;> (try (first | simp only [eq_false hg, if_true, if_false] | simp only [eq_true hg, if_true, if_false])) <;> (try simp (disch := first | omega | simp) [wrap_i64, -aseqC, -anyC, hlt, hlt2])) | (with_reducible refine aseq_step ?_; try simp (disch := first | omega | simp) [wrap_i64, -aseqC, -anyC, hlt, hlt2]) | (with_reducible refine any_step' ?_; try simp (disch := first | omega | simp) [wrap_i64, -aseqC, -anyC, hlt, hlt2]) | (with_reducible refine aseq_end ?_; try simp (disch := first | omega | simp) [wrap_i64, -aseqC, -anyC, hlt, hlt2]) | (with_reducible refine any_end' ?_; try simp (disch := first | omega | simp) [wrap_i64, -aseqC, -anyC, hlt, hlt2]) | ((first | with_reducible refine sideG ?_ ?_ | with_reducible refine sideG2 ?_ ?_ | with_reducible refine sideS ?_ ?_ | with_reducible refine sideS2 ?_ ?_ | with_reducible refine sideS3 ?_ ?_ | with_reducible refine sideA ?_ ?_ | with_reducible refine sideA2 ?_ ?_ | with_reducible refine sideA3 ?_ ?_); (first | omega | assumption | (simp; done))) | (refine acall (hc) ?_; try simp (disch := first | omega | simp) [wrap_i64, -aseqC, -anyC, hlt, hlt2]) | (refine agives (hc) ?_; try simp (disch := first | omega | simp) [wrap_i64, -aseqC, -anyC, hlt, hlt2]) | (refine acallAt (hc) ?_; try simp (disch := first | omega | simp) [wrap_i64, -aseqC, -anyC, hlt, hlt2]) | (refine awp_seq_k fun K hK => ?_) | (refine awp_regionC ?_) | (refine awp_anyA true (by kernel_rfl) (by kernel_rfl) ?_) | (refine awp_anyA false (by kernel_rfl) (by kernel_rfl) ?_) | (refine hK _ ?_; clear hK; clear K) | (clear hK; clear K; refine hK _ ?_; clear hK; clear K) | (clear hK; clear K; clear hK; clear K; refine hK _ ?_; clear hK; clear K) | refine awp_block ?_ | (refine awp_condC ?_; simp (disch := first | omega | simp) [wrap_i64, -aseqC, -anyC, hlt, hlt2]) | (refine awp_exit ?_; try simp (disch := first | omega | simp) [wrap_i64, -aseqC, -anyC, hlt, hlt2]) | (refine awp_skip ?_; try simp (disch := first | omega | simp) [wrap_i64, -aseqC, -anyC, hlt, hlt2]) | (refine awp_ret ?_; try simp (disch := first | omega | simp) [wrap_i64, -aseqC, -anyC, hlt, hlt2]))
        refine ⟨k + 1, ⟨by omega, by rw [hd, hs]; rfl⟩, by omega, by simp⟩
    · have h1 : k = l.length := by omega
      obtain rfl : R = true := by
        rw [he, h1, List.drop_length, hlen, List.drop_length, sameBs]
      have hlt2 : ¬ k < l2.length := by omega
      repeat (rw [aseqC]; try simp (disch := first | omega | simp) [wrap_i64, -aseqC, hlt, hlt2])
      repeat (first | (refine awp_seq_k fun K hK => ?_) | (refine awp_regionC ?_; repeat (rw [aseqC]; try simp (disch := first | omega | simp) [wrap_i64, -aseqC, hlt, hlt2])) | (refine hK _ ?_; clear hK; clear K) | (clear hK; clear K; refine hK _ ?_; clear hK; clear K) | (clear hK; clear K; clear hK; clear K; refine hK _ ?_; clear hK; clear K) | refine awp_block ?_ | (refine awp_condC ?_; simp (disch := first | omega | simp) [wrap_i64, hlt, hlt2]) | (refine awp_exit ?_; simp (disch := first | omega | simp)) | (refine awp_skip ?_; simp (disch := first | omega | simp)) | (refine awp_ret ?_; simp (disch := first | omega | simp)))
  · obtain rfl : R = false := by rw [hR, sameBs_len l l2 hlen]
    have hlen' : ¬ (l.length : Int) = l2.length := by omega
    refine gives_of_awp Try.func64 Try.ntmps64 rfl rfl (by decide) rfl (by intro n; simp) fun σ n0 hcl hft => ?_
    repeat' (first | ((with_reducible refine aguard (fun hg => ?_) (fun hg => ?_)) <;> (try simp only [hg]) <;> (try simp only [beq_iff_eq, beq_eq_false_iff_ne, ne_eq, decide_eq_true_eq, decide_eq_false_iff_not, bne_iff_ne, bne_eq_false_iff_eq] at hg) <;> (try (first | simp only [eq_false hg, if_true, if_false] | simp only [eq_true hg, if_true, if_false])) <;> (try simp (disch := first | omega | simp) [wrap_i64, -aseqC, -anyC, hlen'])) | (with_reducible refine aseq_step ?_; try simp (disch := first | omega | simp) [wrap_i64, -aseqC, -anyC, hlen']) | (with_reducible refine any_step' ?_; try simp (disch := first | omega | simp) [wrap_i64, -aseqC, -anyC, hlen']) | (with_reducible refine aseq_end ?_; try simp (disch := first | omega | simp) [wrap_i64, -aseqC, -anyC, hlen']) | (with_reducible refine any_end' ?_; try simp (disch := first | omega | simp) [wrap_i64, -aseqC, -anyC, hlen']) | ((first | with_reducible refine sideG ?_ ?_ | with_reducible refine sideG2 ?_ ?_ | with_reducible refine sideS ?_ ?_ | with_reducible refine sideS2 ?_ ?_ | with_reducible refine sideS3 ?_ ?_ | with_reducible refine sideA ?_ ?_ | with_reducible refine sideA2 ?_ ?_ | with_reducible refine sideA3 ?_ ?_); (first | omega | assumption | (simp; done))) | (refine awp_seq_k fun K hK => ?_) | (refine awp_regionC ?_) | (refine awp_anyA true (by kernel_rfl) (by kernel_rfl) ?_) | (refine awp_anyA false (by kernel_rfl) (by kernel_rfl) ?_) | (refine hK _ ?_; clear hK; clear K) | (clear hK; clear K; refine hK _ ?_; clear hK; clear K) | (clear hK; clear K; clear hK; clear K; refine hK _ ?_; clear hK; clear K) | refine awp_block ?_ | (refine awp_condC ?_; simp (disch := first | omega | simp) [wrap_i64, -aseqC, -anyC, hlen']) | (refine awp_exit ?_; try simp (disch := first | omega | simp) [wrap_i64, -aseqC, -anyC, hlen']) | (refine awp_skip ?_; try simp (disch := first | omega | simp) [wrap_i64, -aseqC, -anyC, hlen']) | (refine awp_ret ?_; try simp (disch := first | omega | simp) [wrap_i64, -aseqC, -anyC, hlen']))
    all_goals first | exact absurd (by assumption) hlen' | exact absurd (by assumption) hlen

set_option maxHeartbeats 1000000 in
theorem same_g (a : Ex) : ∀ b : Ex, parts a ≤ 1000000 → Gives Try.prog 36 [a.av, b.av] (.bool (sameB a b)) := by
  induction a using Ex.ind with | h o n s l ih => ?_
  intro b hp
  obtain ⟨o2, n2, s2, l2⟩ := b
  have hl : l.length ≤ 1000000 := by rw [parts] at hp; have := partsL_len l; omega
  have hc := eqf_g l l2 hl fun i h1 h2 => ih _ (List.getElem_mem h1) l2[i] (by rw [parts] at hp; have := partsL_mem l l[i] (List.getElem_mem h1); omega)
  obtain ⟨R, hR⟩ : ∃ R, R = sameB (.mk o n s l) (.mk o2 n2 s2 l2) := ⟨_, rfl⟩
  rw [← hR]
  rw [sameB] at hR
  by_cases h1 : o = o2
  · subst h1
    by_cases h2 : n = n2
    · subst h2
      by_cases h3 : s.toList = s2.toList
      · obtain rfl : R = sameBs l l2 := by rw [hR, h3]; simp
        refine gives_of_awp Try.func36 Try.ntmps36 rfl rfl (by decide) rfl (by intro n; simp) fun σ n0 hcl hft => ?_
        repeat (rw [aseqC]; try simp (disch := first | omega | simp) [wrap_i64, -aseqC, h3])
        repeat (first | (refine awp_seq_k fun K hK => ?_) | (refine awp_regionC ?_; repeat (rw [aseqC]; try simp (disch := first | omega | simp) [wrap_i64, -aseqC, h3])) | (refine hK _ ?_; clear hK; clear K) | (clear hK; clear K; refine hK _ ?_; clear hK; clear K) | (clear hK; clear K; clear hK; clear K; refine hK _ ?_; clear hK; clear K) | refine awp_block ?_ | (refine awp_condC ?_; simp (disch := first | omega | simp) [wrap_i64, h3]) | (refine awp_exit ?_; simp (disch := first | omega | simp)) | (refine awp_skip ?_; simp (disch := first | omega | simp)) | (refine awp_ret ?_; simp (disch := first | omega | simp)))
        refine acall (hc) ?_
        try simp (disch := first | omega | simp) [wrap_i64, -aseqC, h3]
        repeat (rw [aseqC]; try simp (disch := first | omega | simp) [wrap_i64, -aseqC, h3])
        repeat (first | (refine awp_seq_k fun K hK => ?_) | (refine awp_regionC ?_; repeat (rw [aseqC]; try simp (disch := first | omega | simp) [wrap_i64, -aseqC, h3])) | (refine hK _ ?_; clear hK; clear K) | (clear hK; clear K; refine hK _ ?_; clear hK; clear K) | (clear hK; clear K; clear hK; clear K; refine hK _ ?_; clear hK; clear K) | refine awp_block ?_ | (refine awp_condC ?_; simp (disch := first | omega | simp) [wrap_i64, h3]) | (refine awp_exit ?_; simp (disch := first | omega | simp)) | (refine awp_skip ?_; simp (disch := first | omega | simp)) | (refine awp_ret ?_; simp (disch := first | omega | simp)))
      · obtain rfl : R = false := by rw [hR, decide_eq_false h3]; simp
        have h3' : (s.toList == s2.toList) = false := by simpa using h3
        refine gives_of_awp Try.func36 Try.ntmps36 rfl rfl (by decide) rfl (by intro n; simp) fun σ n0 hcl hft => ?_
        repeat (rw [aseqC]; try simp (disch := first | omega | simp) [wrap_i64, -aseqC, h3'])
        repeat (first | (refine awp_seq_k fun K hK => ?_) | (refine awp_regionC ?_; repeat (rw [aseqC]; try simp (disch := first | omega | simp) [wrap_i64, -aseqC, h3'])) | (refine hK _ ?_; clear hK; clear K) | (clear hK; clear K; refine hK _ ?_; clear hK; clear K) | (clear hK; clear K; clear hK; clear K; refine hK _ ?_; clear hK; clear K) | refine awp_block ?_ | (refine awp_condC ?_; simp (disch := first | omega | simp) [wrap_i64, h3']) | (refine awp_exit ?_; simp (disch := first | omega | simp)) | (refine awp_skip ?_; simp (disch := first | omega | simp)) | (refine awp_ret ?_; simp (disch := first | omega | simp)))
    · obtain rfl : R = false := by rw [hR, decide_eq_false h2]; simp
      have h2' : (n == n2) = false := by simpa using h2
      refine gives_of_awp Try.func36 Try.ntmps36 rfl rfl (by decide) rfl (by intro n; simp) fun σ n0 hcl hft => ?_
      repeat (rw [aseqC]; try simp (disch := first | omega | simp) [wrap_i64, -aseqC, h2'])
      repeat (first | (refine awp_seq_k fun K hK => ?_) | (refine awp_regionC ?_; repeat (rw [aseqC]; try simp (disch := first | omega | simp) [wrap_i64, -aseqC, h2'])) | (refine hK _ ?_; clear hK; clear K) | (clear hK; clear K; refine hK _ ?_; clear hK; clear K) | (clear hK; clear K; clear hK; clear K; refine hK _ ?_; clear hK; clear K) | refine awp_block ?_ | (refine awp_condC ?_; simp (disch := first | omega | simp) [wrap_i64, h2']) | (refine awp_exit ?_; simp (disch := first | omega | simp)) | (refine awp_skip ?_; simp (disch := first | omega | simp)) | (refine awp_ret ?_; simp (disch := first | omega | simp)))
  · obtain rfl : R = false := by rw [hR, decide_eq_false h1]; simp
    have h1' : (o == o2) = false := by simpa using h1
    refine gives_of_awp Try.func36 Try.ntmps36 rfl rfl (by decide) rfl (by intro n; simp) fun σ n0 hcl hft => ?_
    repeat (rw [aseqC]; try simp (disch := first | omega | simp) [wrap_i64, -aseqC, h1'])
    repeat (first | (refine awp_seq_k fun K hK => ?_) | (refine awp_regionC ?_; repeat (rw [aseqC]; try simp (disch := first | omega | simp) [wrap_i64, -aseqC, h1'])) | (refine hK _ ?_; clear hK; clear K) | (clear hK; clear K; refine hK _ ?_; clear hK; clear K) | (clear hK; clear K; clear hK; clear K; refine hK _ ?_; clear hK; clear K) | refine awp_block ?_ | (refine awp_condC ?_; simp (disch := first | omega | simp) [wrap_i64, h1']) | (refine awp_exit ?_; simp (disch := first | omega | simp)) | (refine awp_skip ?_; simp (disch := first | omega | simp)) | (refine awp_ret ?_; simp (disch := first | omega | simp)))
end Go.Proofs.Ytmhelkhmgbbfhaa

/- The check of a drawn region with each ancestor listed once: regions with many guards. -/
namespace Go.Proofs.Ytmhelkhmgbbfhaa
open Go.RowKit Go.Lib

def nub : List Nat → List Nat
  | [] => []
  | x :: l => if (nub l).contains x then nub l else x :: nub l
theorem mem_nub {x : Nat} : ∀ {l : List Nat}, x ∈ nub l ↔ x ∈ l
  | [] => by simp [nub]
  | y :: l => by
    rw [nub]
    split
    · rename_i h
      rw [mem_nub, List.mem_cons]
      have hy : y ∈ l := mem_nub.1 (by simpa using h)
      exact ⟨.inr, fun h => h.elim (fun e => e ▸ hy) id⟩
    · rw [List.mem_cons, List.mem_cons, mem_nub]
def ancs2 (ops : List Oper) : List (List Nat) := ops.foldl (fun acc o => acc ++ [nub ((o.after.toList.filter (Region.binds .any)).flatMap fun e => e.on :: acc.getD e.on [])]) []
theorem ancs2_step (l : List Oper) (o : Oper) : ancs2 (l ++ [o]) = ancs2 l ++ [nub ((o.after.toList.filter (Region.binds .any)).flatMap fun e => e.on :: (ancs2 l).getD e.on [])] := by
  unfold ancs2; rw [List.foldl_append]; rfl
theorem snoc_ind {α : Type} {P : List α → Prop} (h0 : P []) (h1 : ∀ l a, P l → P (l ++ [a])) (l : List α) : P l := by
  have : ∀ m : List α, P m.reverse := fun m => by
    induction m with
    | nil => exact h0
    | cons a m ih => rw [List.reverse_cons]; exact h1 _ _ ih
  have h := this l.reverse
  rwa [List.reverse_reverse] at h
theorem ancs2_length (l : List Oper) : (ancs2 l).length = l.length := by
  induction l using snoc_ind with
  | h0 => rfl
  | h1 l o ih => rw [ancs2_step, List.length_append, ih]; simp
theorem ancs2_mem (l : List Oper) : ∀ i j, i ∈ (ancs2 l).getD j [] ↔ i ∈ (ancs l).getD j [] := by
  induction l using snoc_ind with
  | h0 => intro i j; rfl
  | h1 l o ih =>
    intro i j
    rw [ancs_step, ancs2_step]
    by_cases hj : j < l.length
    · rw [List.getD_eq_getElem?_getD, List.getElem?_append_left (by rw [ancs2_length]; exact hj), ← List.getD_eq_getElem?_getD, List.getD_eq_getElem?_getD (l := _ ++ _), List.getElem?_append_left (by rw [ancs_length]; exact hj), ← List.getD_eq_getElem?_getD]
      exact ih i j
    · rw [List.getD_eq_getElem?_getD, List.getElem?_append_right (by rw [ancs2_length]; omega), ancs2_length, List.getD_eq_getElem?_getD, List.getElem?_append_right (by rw [ancs_length]; omega), ancs_length]
      by_cases hj2 : j - l.length = 0
      · rw [hj2]
        simp only [List.getElem?_cons_zero, Option.getD_some, mem_nub, List.mem_flatMap, List.mem_cons]
        constructor
        · rintro ⟨e, h1, h2⟩
          exact ⟨e, h1, h2.elim .inl fun h => .inr ((ih i e.on).1 h)⟩
        · rintro ⟨e, h1, h2⟩
          exact ⟨e, h1, h2.elim .inl fun h => .inr ((ih i e.on).2 h)⟩
      · obtain ⟨k, hk⟩ : ∃ k, j - l.length = k + 1 := ⟨j - l.length - 1, by omega⟩
        rw [hk]
        simp
def anyB2 (ops : List Oper) (ks : List RK) : Bool :=
  let an := ancs2 ops
  let n := ops.length
  ks.length == n &&
  ((List.range n).all fun j => match ops[j]? with
    | none => false
    | some o => o.after.all (fun e => !Region.binds .any e || e.on < j) &&
      (match o.op with | .select _ _ => false | _ => true) &&
      ((List.range n).all fun i => i == j || match ops[i]? with
        | none => false
        | some p => (match o.dst, p.dst with | some d, some d' => d != d' | _, _ => true) &&
          (match p.dst with
            | some d => !(looks ops o).contains d || (i < j && (an.getD j []).contains i) || (j < i && (an.getD i []).contains j)
            | none => true) &&
          (match (ks.getD i .R).base, (ks.getD j .R).base with
            | .M, .W => i < j && (an.getD j []).contains i
            | .W, .W => (i < j && (an.getD j []).contains i) || (j < i && (an.getD i []).contains j)
            | _, _ => true) &&
          (match ks.getD i .R, ks.getD j .R with
            | .N, .W => i < j && (an.getD j []).contains i
            | .A, .W => decide (i < j)
            | _, _ => true)) &&
      (match o.dst with | some d => !(looks ops o).contains d | none => true))
theorem anyB2_eq (ops : List Oper) (ks : List RK) : anyB2 ops ks = anyB ops ks := by
  have h : ∀ i j, ((ancs2 ops).getD j []).contains i = ((ancs ops).getD j []).contains i := fun i j => by
    rw [Bool.eq_iff_iff, List.contains_iff_mem, List.contains_iff_mem, ancs2_mem]
  unfold anyB2 anyB
  simp only [h]
  rfl
theorem awp_anyC2 {P : Program} {s : AS} {id : Nat} {l : List Oper} {Q : Exit → AS → Prop} (ks : List RK) (hm : P.follows .mixedOrders = true) (hB : anyB2 l ks = true) (h : anyC P l.toArray [] 0 (Q .normal) l ks s) : awp P (.region id l.toArray true) Q s :=
  awp_anyC ks hm ((anyB2_eq l ks).symm.trans hB) h
end Go.Proofs.Ytmhelkhmgbbfhaa

/- The law ExprTypes: it returns true. -/
namespace Go.Proofs.Ytmhelkhmgbbfhaa
open Go.RowKit Go.Lib

theorem arg_ints {X : St} {L : List Int} {v : Value} (h : RR1 X (.sl (L.map AV.int)) v) : Rd X.w Any (.sl (L.map D.int)) [v] :=
  rd_of_rc _ _ (by rw [ints_av]; exact h)
theorem fair_g (F : List Fn) : Gives Try.prog 30 [.sl (F.map Fn.av)] (.bool (fair F)) :=
  gives_v fun X vals ha => by
    obtain ⟨v0, _, rfl, h0, h3⟩ := ha
    cases h3
    exact fair_any F Any v0 X.w (arg_fns h0)
theorem right_g (F : List Fn) (hp : ∀ f ∈ F, parts f.body ≤ 1000000) : Gives Try.prog 32 [.sl (F.map Fn.av)] (.bool (rightF F)) :=
  gives_v fun X vals ha => by
    obtain ⟨v0, _, rfl, h0, h3⟩ := ha
    cases h3
    exact right_any F Any v0 X.w (arg_fns h0) hp
theorem typ_rr (X : St) (n : Int) (b : Bool) : RR X (.tup [.int n, .bool b]) (.tuple #[.int .i64 n, .bool b]) := by
  refine ⟨[_, _], rfl, _, _, rfl, ?_, _, _, rfl, ?_, rfl⟩
  · show RC X (.v _) [_]
    rw [RC]
  · show RC X (.v _) [_]
    rw [RC]
theorem type_g (F : List Fn) (c p : List Int) (e : Ex) (hbd : parts e ≤ 1000000) (hpF : ∀ f ∈ F, parts f.body ≤ 1000000) :
    Gives Try.prog 11 [.sl (F.map Fn.av), .sl (c.map AV.int), .sl (p.map AV.int), e.av] (.tup [.int ((typeP F c p e).getD 0), .bool (typeP F c p e).isSome]) :=
  gives_of fun X vals ha => by
    obtain ⟨v0, _, rfl, h0, v1, _, rfl, h1, v2, _, rfl, h2, v3, _, rfl, h3, h4⟩ := ha
    cases h4
    obtain ⟨cs, rfl, hr⟩ := arg_ex h3
    refine (type_any F c p e Any Any Any Any v0 v1 v2 cs X.w (arg_fns h0) (arg_ints h1) (arg_ints h2) hr hbd hpF).mono ?_
    rintro r w' ⟨rfl, he⟩
    exact ⟨he, _, rfl, typ_rr (X.later w') _ _⟩
/-- small examples, and the two lists -/
abbrev typArgs (F : List Fn) (c p : List Int) (e f : Ex) : List AV := [.sl (F.map Fn.av), .sl (c.map AV.int), .sl (p.map AV.int), e.av, f.av]
set_option maxHeartbeats 4000000 in
theorem types_f (F : List Fn) (c p : List Int) (e f : Ex) (c1 : Gives Try.prog 30 [.sl (F.map Fn.av)] (.bool false)) : Gives Try.prog 7 (typArgs F c p e f) (.bool true) := by
  refine gives_of_awp Try.func7 Try.ntmps7 rfl rfl (by decide) rfl (by intro n; simp) fun σ n0 hcl hft => ?_
  repeat' (first | ((first | ((with_reducible refine aguard (fun hg => ?_) (fun hg => ?_)) <;> (try simp only [hg]) <;> (try simp only [beq_iff_eq, beq_eq_false_iff_ne, ne_eq, decide_eq_true_eq, decide_eq_false_iff_not, bne_iff_ne, bne_eq_false_iff_eq] at hg) <;> (try (first | simp only [eq_false hg, if_true, if_false] | simp only [eq_true hg, if_true, if_false]))) | with_reducible refine aseq_step ?_ | with_reducible refine any_step' ?_ | with_reducible refine aseq_end ?_ | with_reducible refine any_end' ?_ | refine acall (small_g) ?_ | refine agives (small_g) ?_ | refine acall (c1) ?_ | refine agives (c1) ?_ | refine awp_condC ?_ | refine awp_exit ?_ | refine awp_skip ?_ | refine awp_ret ?_) <;> (try simp (disch := first | omega | simp) [wrap_i64, -aseqC, -anyC])) | ((first | with_reducible refine sideG ?_ ?_ | with_reducible refine sideG2 ?_ ?_ | with_reducible refine sideS ?_ ?_ | with_reducible refine sideS2 ?_ ?_ | with_reducible refine sideS3 ?_ ?_ | with_reducible refine sideA ?_ ?_ | with_reducible refine sideA2 ?_ ?_ | with_reducible refine sideA3 ?_ ?_); (first | omega | assumption | (simp; done))) | (refine awp_seq_k fun K hK => ?_) | (refine awp_regionC ?_) | (refine awp_anyA true (by kernel_rfl) (by kernel_rfl) ?_) | (refine hK _ ?_; clear hK; clear K) | (clear hK; clear K; refine hK _ ?_; clear hK; clear K) | (clear hK; clear K; clear hK; clear K; refine hK _ ?_; clear hK; clear K) | refine awp_block ?_)
set_option maxHeartbeats 4000000 in
theorem types_1 (F : List Fn) (c p : List Int) (e f : Ex) (c1 : Gives Try.prog 30 [.sl (F.map Fn.av)] (.bool true)) (h1 : light e 100 20 < 0) : Gives Try.prog 7 (typArgs F c p e f) (.bool true) := by
  have c2 := light_g e 100 20 (by omega) (by omega) (by omega) (by omega)
  refine gives_of_awp Try.func7 Try.ntmps7 rfl rfl (by decide) rfl (by intro n; simp) fun σ n0 hcl hft => ?_
  repeat' (first | ((first | ((with_reducible refine aguard (fun hg => ?_) (fun hg => ?_)) <;> (try simp only [hg]) <;> (try simp only [beq_iff_eq, beq_eq_false_iff_ne, ne_eq, decide_eq_true_eq, decide_eq_false_iff_not, bne_iff_ne, bne_eq_false_iff_eq] at hg) <;> (try (first | simp only [eq_false hg, if_true, if_false] | simp only [eq_true hg, if_true, if_false]))) | with_reducible refine aseq_step ?_ | with_reducible refine any_step' ?_ | with_reducible refine aseq_end ?_ | with_reducible refine any_end' ?_ | refine acall (small_g) ?_ | refine agives (small_g) ?_ | refine acall (c1) ?_ | refine agives (c1) ?_ | refine acall (c2) ?_ | refine agives (c2) ?_ | refine awp_condC ?_ | refine awp_exit ?_ | refine awp_skip ?_ | refine awp_ret ?_) <;> (try simp (disch := first | omega | simp) [wrap_i64, -aseqC, -anyC, h1])) | ((first | with_reducible refine sideG ?_ ?_ | with_reducible refine sideG2 ?_ ?_ | with_reducible refine sideS ?_ ?_ | with_reducible refine sideS2 ?_ ?_ | with_reducible refine sideS3 ?_ ?_ | with_reducible refine sideA ?_ ?_ | with_reducible refine sideA2 ?_ ?_ | with_reducible refine sideA3 ?_ ?_); (first | omega | assumption | (simp; done))) | (refine awp_seq_k fun K hK => ?_) | (refine awp_regionC ?_) | (refine awp_anyA true (by kernel_rfl) (by kernel_rfl) ?_) | (refine hK _ ?_; clear hK; clear K) | (clear hK; clear K; refine hK _ ?_; clear hK; clear K) | (clear hK; clear K; clear hK; clear K; refine hK _ ?_; clear hK; clear K) | refine awp_block ?_)
set_option maxHeartbeats 4000000 in
theorem types_2 (F : List Fn) (c p : List Int) (e f : Ex) (c1 : Gives Try.prog 30 [.sl (F.map Fn.av)] (.bool true)) (h1 : ¬ light e 100 20 < 0) (h2 : light f 100 20 < 0) : Gives Try.prog 7 (typArgs F c p e f) (.bool true) := by
  have c2 := light_g e 100 20 (by omega) (by omega) (by omega) (by omega)
  have c3 := light_g f 100 20 (by omega) (by omega) (by omega) (by omega)
  refine gives_of_awp Try.func7 Try.ntmps7 rfl rfl (by decide) rfl (by intro n; simp) fun σ n0 hcl hft => ?_
  repeat' (first | ((first | ((with_reducible refine aguard (fun hg => ?_) (fun hg => ?_)) <;> (try simp only [hg]) <;> (try simp only [beq_iff_eq, beq_eq_false_iff_ne, ne_eq, decide_eq_true_eq, decide_eq_false_iff_not, bne_iff_ne, bne_eq_false_iff_eq] at hg) <;> (try (first | simp only [eq_false hg, if_true, if_false] | simp only [eq_true hg, if_true, if_false]))) | with_reducible refine aseq_step ?_ | with_reducible refine any_step' ?_ | with_reducible refine aseq_end ?_ | with_reducible refine any_end' ?_ | refine acall (small_g) ?_ | refine agives (small_g) ?_ | refine acall (c1) ?_ | refine agives (c1) ?_ | refine acall (c2) ?_ | refine agives (c2) ?_ | refine acall (c3) ?_ | refine agives (c3) ?_ | refine awp_condC ?_ | refine awp_exit ?_ | refine awp_skip ?_ | refine awp_ret ?_) <;> (try simp (disch := first | omega | simp) [wrap_i64, -aseqC, -anyC, h1, h2])) | ((first | with_reducible refine sideG ?_ ?_ | with_reducible refine sideG2 ?_ ?_ | with_reducible refine sideS ?_ ?_ | with_reducible refine sideS2 ?_ ?_ | with_reducible refine sideS3 ?_ ?_ | with_reducible refine sideA ?_ ?_ | with_reducible refine sideA2 ?_ ?_ | with_reducible refine sideA3 ?_ ?_); (first | omega | assumption | (simp; done))) | (refine awp_seq_k fun K hK => ?_) | (refine awp_regionC ?_) | (refine awp_anyA true (by kernel_rfl) (by kernel_rfl) ?_) | (refine hK _ ?_; clear hK; clear K) | (clear hK; clear K; refine hK _ ?_; clear hK; clear K) | (clear hK; clear K; clear hK; clear K; refine hK _ ?_; clear hK; clear K) | refine awp_block ?_)
set_option maxHeartbeats 4000000 in
theorem types_3 (F : List Fn) (c p : List Int) (e f : Ex) (c1 : Gives Try.prog 30 [.sl (F.map Fn.av)] (.bool true)) (h1 : ¬ light e 100 20 < 0) (h2 : ¬ light f 100 20 < 0) (h3 : (20 : Int) < c.length) : Gives Try.prog 7 (typArgs F c p e f) (.bool true) := by
  have c2 := light_g e 100 20 (by omega) (by omega) (by omega) (by omega)
  have c3 := light_g f 100 20 (by omega) (by omega) (by omega) (by omega)
  refine gives_of_awp Try.func7 Try.ntmps7 rfl rfl (by decide) rfl (by intro n; simp) fun σ n0 hcl hft => ?_
  repeat' (first | ((first | ((with_reducible refine aguard (fun hg => ?_) (fun hg => ?_)) <;> (try simp only [hg]) <;> (try simp only [beq_iff_eq, beq_eq_false_iff_ne, ne_eq, decide_eq_true_eq, decide_eq_false_iff_not, bne_iff_ne, bne_eq_false_iff_eq] at hg) <;> (try (first | simp only [eq_false hg, if_true, if_false] | simp only [eq_true hg, if_true, if_false]))) | with_reducible refine aseq_step ?_ | with_reducible refine any_step' ?_ | with_reducible refine aseq_end ?_ | with_reducible refine any_end' ?_ | refine acall (small_g) ?_ | refine agives (small_g) ?_ | refine acall (c1) ?_ | refine agives (c1) ?_ | refine acall (c2) ?_ | refine agives (c2) ?_ | refine acall (c3) ?_ | refine agives (c3) ?_ | refine awp_condC ?_ | refine awp_exit ?_ | refine awp_skip ?_ | refine awp_ret ?_) <;> (try simp (disch := first | omega | simp) [wrap_i64, -aseqC, -anyC, h1, h2, h3])) | ((first | with_reducible refine sideG ?_ ?_ | with_reducible refine sideG2 ?_ ?_ | with_reducible refine sideS ?_ ?_ | with_reducible refine sideS2 ?_ ?_ | with_reducible refine sideS3 ?_ ?_ | with_reducible refine sideA ?_ ?_ | with_reducible refine sideA2 ?_ ?_ | with_reducible refine sideA3 ?_ ?_); (first | omega | assumption | (simp; done))) | (refine awp_seq_k fun K hK => ?_) | (refine awp_regionC ?_) | (refine awp_anyA true (by kernel_rfl) (by kernel_rfl) ?_) | (refine hK _ ?_; clear hK; clear K) | (clear hK; clear K; refine hK _ ?_; clear hK; clear K) | (clear hK; clear K; clear hK; clear K; refine hK _ ?_; clear hK; clear K) | refine awp_block ?_)
set_option maxHeartbeats 4000000 in
theorem types_4 (F : List Fn) (c p : List Int) (e f : Ex) (c1 : Gives Try.prog 30 [.sl (F.map Fn.av)] (.bool true)) (h1 : ¬ light e 100 20 < 0) (h2 : ¬ light f 100 20 < 0) (h3 : ¬ (20 : Int) < c.length) (h4 : (20 : Int) < p.length) : Gives Try.prog 7 (typArgs F c p e f) (.bool true) := by
  have c2 := light_g e 100 20 (by omega) (by omega) (by omega) (by omega)
  have c3 := light_g f 100 20 (by omega) (by omega) (by omega) (by omega)
  refine gives_of_awp Try.func7 Try.ntmps7 rfl rfl (by decide) rfl (by intro n; simp) fun σ n0 hcl hft => ?_
  repeat' (first | ((first | ((with_reducible refine aguard (fun hg => ?_) (fun hg => ?_)) <;> (try simp only [hg]) <;> (try simp only [beq_iff_eq, beq_eq_false_iff_ne, ne_eq, decide_eq_true_eq, decide_eq_false_iff_not, bne_iff_ne, bne_eq_false_iff_eq] at hg) <;> (try (first | simp only [eq_false hg, if_true, if_false] | simp only [eq_true hg, if_true, if_false]))) | with_reducible refine aseq_step ?_ | with_reducible refine any_step' ?_ | with_reducible refine aseq_end ?_ | with_reducible refine any_end' ?_ | refine acall (small_g) ?_ | refine agives (small_g) ?_ | refine acall (c1) ?_ | refine agives (c1) ?_ | refine acall (c2) ?_ | refine agives (c2) ?_ | refine acall (c3) ?_ | refine agives (c3) ?_ | refine awp_condC ?_ | refine awp_exit ?_ | refine awp_skip ?_ | refine awp_ret ?_) <;> (try simp (disch := first | omega | simp) [wrap_i64, -aseqC, -anyC, h1, h2, h3, h4])) | ((first | with_reducible refine sideG ?_ ?_ | with_reducible refine sideG2 ?_ ?_ | with_reducible refine sideS ?_ ?_ | with_reducible refine sideS2 ?_ ?_ | with_reducible refine sideS3 ?_ ?_ | with_reducible refine sideA ?_ ?_ | with_reducible refine sideA2 ?_ ?_ | with_reducible refine sideA3 ?_ ?_); (first | omega | assumption | (simp; done))) | (refine awp_seq_k fun K hK => ?_) | (refine awp_regionC ?_) | (refine awp_anyA true (by kernel_rfl) (by kernel_rfl) ?_) | (refine hK _ ?_; clear hK; clear K) | (clear hK; clear K; refine hK _ ?_; clear hK; clear K) | (clear hK; clear K; clear hK; clear K; refine hK _ ?_; clear hK; clear K) | refine awp_block ?_)
set_option maxHeartbeats 4000000 in
theorem types_5 (F : List Fn) (c p : List Int) (e f : Ex) (c1 : Gives Try.prog 30 [.sl (F.map Fn.av)] (.bool true)) (h1 : ¬ light e 100 20 < 0) (h2 : ¬ light f 100 20 < 0) (h3 : ¬ (20 : Int) < c.length) (h4 : ¬ (20 : Int) < p.length) (hok : colsOk e) (hpF : ∀ f ∈ F, parts f.body ≤ 1000000) : Gives Try.prog 7 (typArgs F c p e f) (.bool true) := by
  have c2 := light_g e 100 20 (by omega) (by omega) (by omega) (by omega)
  have c3 := light_g f 100 20 (by omega) (by omega) (by omega) (by omega)
  have hpe : parts e ≤ 100 := by have := parts_of_light (n := 100) (by omega) (Int.not_lt.1 h1); omega
  have hpf : parts f ≤ 100 := by have := parts_of_light (n := 100) (by omega) (Int.not_lt.1 h2); omega
  have d1 := type_g F c p e (by omega) hpF
  have d2 := rtype_g F c p e (by omega) hpF
  have d3 := right_g F hpF
  have d4 := rright_g F hpF
  have d5 := reads_g e hok (by omega)
  have d6 := rreads_g e (by omega)
  have d7 := ints_g (readsP e) (readsP e) (by have := readsP_len e; omega)
  have d8 := same_g e f (by omega)
  have d9 := rsame_g e f (by omega)
  have d10 := same_g e e (by omega)
  rw [sameB_self] at d10
  simp only [decide_true] at d7
  generalize typeP F c p e = T at *
  generalize rightF F = RF at *
  generalize readsP e = RP at *
  generalize sameB e f = SB at *
  clear hok hpF hpe hpf
  refine gives_of_awp Try.func7 Try.ntmps7 rfl rfl (by decide) rfl (by intro n; simp) fun σ n0 hcl hft => ?_
  repeat' (first | ((with_reducible refine aguard (fun hg => ?_) (fun hg => ?_)) <;> (try simp only [hg]) <;> (try simp only [beq_iff_eq, beq_eq_false_iff_ne, ne_eq, decide_eq_true_eq, decide_eq_false_iff_not, bne_iff_ne, bne_eq_false_iff_eq] at hg) <;> (try (first | simp only [eq_false hg, if_true, if_false] | simp only [eq_true hg, if_true, if_false])) <;> (try simp (disch := first | omega | simp) [wrap_i64, -aseqC, -anyC, h1, h2, h3, h4])) | (with_reducible refine aseq_step ?_; try simp (disch := first | omega | simp) [wrap_i64, -aseqC, -anyC, h1, h2, h3, h4]) | (with_reducible refine any_step' ?_; try simp (disch := first | omega | simp) [wrap_i64, -aseqC, -anyC, h1, h2, h3, h4]) | (with_reducible refine aseq_end ?_; try simp (disch := first | omega | simp) [wrap_i64, -aseqC, -anyC, h1, h2, h3, h4]) | (with_reducible refine any_end' ?_; try simp (disch := first | omega | simp) [wrap_i64, -aseqC, -anyC, h1, h2, h3, h4]) | ((first | with_reducible refine sideG ?_ ?_ | with_reducible refine sideG2 ?_ ?_ | with_reducible refine sideS ?_ ?_ | with_reducible refine sideS2 ?_ ?_ | with_reducible refine sideS3 ?_ ?_ | with_reducible refine sideA ?_ ?_ | with_reducible refine sideA2 ?_ ?_ | with_reducible refine sideA3 ?_ ?_); (first | omega | assumption | (simp; done))) | (refine acall (small_g) ?_; try simp (disch := first | omega | simp) [wrap_i64, -aseqC, -anyC, h1, h2, h3, h4]) | (refine agives (small_g) ?_; try simp (disch := first | omega | simp) [wrap_i64, -aseqC, -anyC, h1, h2, h3, h4]) | (refine acallAt (small_g) ?_; try simp (disch := first | omega | simp) [wrap_i64, -aseqC, -anyC, h1, h2, h3, h4]) | (refine acall (c1) ?_; try simp (disch := first | omega | simp) [wrap_i64, -aseqC, -anyC, h1, h2, h3, h4]) | (refine agives (c1) ?_; try simp (disch := first | omega | simp) [wrap_i64, -aseqC, -anyC, h1, h2, h3, h4]) | (refine acallAt (c1) ?_; try simp (disch := first | omega | simp) [wrap_i64, -aseqC, -anyC, h1, h2, h3, h4]) | (refine acall (c2) ?_; try simp (disch := first | omega | simp) [wrap_i64, -aseqC, -anyC, h1, h2, h3, h4]) | (refine agives (c2) ?_; try simp (disch := first | omega | simp) [wrap_i64, -aseqC, -anyC, h1, h2, h3, h4]) | (refine acallAt (c2) ?_; try simp (disch := first | omega | simp) [wrap_i64, -aseqC, -anyC, h1, h2, h3, h4]) | (refine acall (c3) ?_; try simp (disch := first | omega | simp) [wrap_i64, -aseqC, -anyC, h1, h2, h3, h4]) | (refine agives (c3) ?_; try simp (disch := first | omega | simp) [wrap_i64, -aseqC, -anyC, h1, h2, h3, h4]) | (refine acallAt (c3) ?_; try simp (disch := first | omega | simp) [wrap_i64, -aseqC, -anyC, h1, h2, h3, h4]) | (refine acall (d1) ?_; try simp (disch := first | omega | simp) [wrap_i64, -aseqC, -anyC, h1, h2, h3, h4]) | (refine agives (d1) ?_; try simp (disch := first | omega | simp) [wrap_i64, -aseqC, -anyC, h1, h2, h3, h4]) | (refine acallAt (d1) ?_; try simp (disch := first | omega | simp) [wrap_i64, -aseqC, -anyC, h1, h2, h3, h4]) | (refine acall (d2) ?_; try simp (disch := first | omega | simp) [wrap_i64, -aseqC, -anyC, h1, h2, h3, h4]) | (refine agives (d2) ?_; try simp (disch := first | omega | simp) [wrap_i64, -aseqC, -anyC, h1, h2, h3, h4]) | (refine acallAt (d2) ?_; try simp (disch := first | omega | simp) [wrap_i64, -aseqC, -anyC, h1, h2, h3, h4]) | (refine awp_seq_k fun K hK => ?_) | (refine awp_regionC ?_) | (refine hK _ ?_; clear hK; clear K) | (clear hK; clear K; refine hK _ ?_; clear hK; clear K) | (clear hK; clear K; clear hK; clear K; refine hK _ ?_; clear hK; clear K) | refine awp_block ?_ | (refine awp_condC ?_; simp (disch := first | omega | simp) [wrap_i64, -aseqC, -anyC, h1, h2, h3, h4]) | (refine awp_exit ?_; try simp (disch := first | omega | simp) [wrap_i64, -aseqC, -anyC, h1, h2, h3, h4]) | (refine awp_skip ?_; try simp (disch := first | omega | simp) [wrap_i64, -aseqC, -anyC, h1, h2, h3, h4]) | (refine awp_ret ?_; try simp (disch := first | omega | simp) [wrap_i64, -aseqC, -anyC, h1, h2, h3, h4]))
  all_goals
    refine awp_anyC2 [.R, .R, .R, .R, .R, .R, .R, .R, .R, .R, .R, .R, .R, .M, .R, .M, .R, .R, .R, .M, .M, .M, .M, .M, .R, .R, .M, .M, .M, .M, .M, .M, .R, .R, .R, .M, .M, .M, .R, .R] (by kernel_rfl) (by kernel_rfl) ?_
    repeat' (first | ((first | ((with_reducible refine aguard (fun hg => ?_) (fun hg => ?_)) <;> (try simp only [hg]) <;> (try simp only [beq_iff_eq, beq_eq_false_iff_ne, ne_eq, decide_eq_true_eq, decide_eq_false_iff_not, bne_iff_ne, bne_eq_false_iff_eq] at hg) <;> (try (first | simp only [eq_false hg, if_true, if_false] | simp only [eq_true hg, if_true, if_false]))) | with_reducible refine aseq_step ?_ | with_reducible refine any_step' ?_ | with_reducible refine aseq_end ?_ | with_reducible refine any_end' ?_ | refine acall (d3) ?_ | refine agives (d3) ?_ | refine acall (d4) ?_ | refine agives (d4) ?_ | refine acall (d5) ?_ | refine agives (d5) ?_ | refine acall (d6) ?_ | refine agives (d6) ?_ | refine acall (d7) ?_ | refine agives (d7) ?_ | refine acall (d8) ?_ | refine agives (d8) ?_ | refine acall (d9) ?_ | refine agives (d9) ?_ | refine acall (d10) ?_ | refine agives (d10) ?_ | refine awp_condC ?_ | refine awp_exit ?_ | refine awp_skip ?_ | refine awp_ret ?_) <;> (try simp (disch := first | omega | simp) [wrap_i64, -aseqC, -anyC, h1, h2, h3, h4])) | ((first | with_reducible refine sideG ?_ ?_ | with_reducible refine sideG2 ?_ ?_ | with_reducible refine sideS ?_ ?_ | with_reducible refine sideS2 ?_ ?_ | with_reducible refine sideS3 ?_ ?_ | with_reducible refine sideA ?_ ?_ | with_reducible refine sideA2 ?_ ?_ | with_reducible refine sideA3 ?_ ?_); (first | omega | assumption | (simp; done))) | (refine awp_seq_k fun K hK => ?_) | (refine awp_regionC ?_) | (refine awp_anyA true (by kernel_rfl) (by kernel_rfl) ?_) | (refine hK _ ?_; clear hK; clear K) | (clear hK; clear K; refine hK _ ?_; clear hK; clear K) | (clear hK; clear K; clear hK; clear K; refine hK _ ?_; clear hK; clear K) | refine awp_block ?_)
theorem types_g (F : List Fn) (c p : List Int) (e f : Ex) (hok : colsOk e) : Gives Try.prog 7 (typArgs F c p e f) (.bool true) := by
  have c1 := fair_g F
  by_cases hf : fair F = false
  · rw [hf] at c1
    exact types_f F c p e f c1
  rw [Bool.not_eq_false] at hf
  rw [hf] at c1
  by_cases h1 : light e 100 20 < 0
  · exact types_1 F c p e f c1 h1
  by_cases h2 : light f 100 20 < 0
  · exact types_2 F c p e f c1 h1 h2
  by_cases h3 : (20 : Int) < c.length
  · exact types_3 F c p e f c1 h1 h2 h3
  by_cases h4 : (20 : Int) < p.length
  · exact types_4 F c p e f c1 h1 h2 h3 h4
  refine types_5 F c p e f c1 h1 h2 h3 h4 hok fun f hf2 => ?_
  unfold fair at hf
  simp only [Bool.and_eq_true, List.all_eq_true, decide_eq_true_eq] at hf
  have h := hf.1 f hf2
  unfold fairB at h
  simp only [Bool.and_eq_true, decide_eq_true_eq] at h
  have := parts_of_light (by omega) h.1
  omega
end Go.Proofs.Ytmhelkhmgbbfhaa

/- Readings of an expression whose numbers are ints. -/
namespace Go.Proofs.Ytmhelkhmgbbfhaa
open Go.RowKit Go.Lib

theorem colsOk_list : ∀ (l : List {e : Ex // colsOk e}), ∀ y ∈ preL (l.map (·.1)), y.op = 3 → (Lit.int .i64 y.n).wf = true
  | [], y, hy => by rw [List.map_nil, preL] at hy; cases hy
  | a :: l, y, hy => by
    rw [List.map_cons, preL, List.mem_append] at hy
    rcases hy with hy | hy
    · exact a.2 y hy
    · exact colsOk_list l y hy
section
variable {H : Type} {enc : TypeId × Value → H} {w : World} {sp : Nat → Bool} {hd : Bool}
theorem trods_exc : ∀ N : Nat, Trods enc Try.prog w sp hd 25 (fun e : {e : Ex // colsOk e} => e.1.d) N := by
  intro N
  induction N with
  | zero => intro n cs x hn; omega
  | succ N ih =>
    intro n cs x hn h
    obtain ⟨xs, m, rfl, -, hlen, hl2, hf⟩ := DataW.trod_struct Try.underlying25 h
    have hc3 : Try.prog.cellsOf 3 = 1 := by kernel_rfl
    have hc9 : Try.prog.cellsOf 9 = 1 := by kernel_rfl
    have hcl : Try.prog.cellsOf 23 = 1 := by kernel_rfl
    have hc : Try.prog.cellsOf 25 = 4 := by kernel_rfl
    rw [hc] at hlen
    obtain ⟨y0, h0⟩ := trod_field 0 3 0 1 hl2 hf ⟨_, rfl, rfl, rfl⟩ hc3
    obtain ⟨y1, h1⟩ := trod_field 1 3 1 1 hl2 hf ⟨_, rfl, rfl, rfl⟩ hc3
    obtain ⟨y2, h2⟩ := trod_field 2 9 2 1 hl2 hf ⟨_, rfl, rfl, rfl⟩ hc9
    obtain ⟨y3, h3⟩ := trod_field 3 23 3 1 hl2 hf ⟨_, rfl, rfl, rfl⟩ hcl
    obtain ⟨a0, r0⟩ := trods_int Try.underlying3 (m + 1) m _ _ (by omega) h0
    obtain ⟨a1, hcs1, -, hwf⟩ := DataW.trod_int Try.underlying3 h1
    have r1 : Rd w Any (D.int a1) [.int .i64 a1] := by rw [Rd]
    rw [← hcs1] at r1
    obtain ⟨a2, r2⟩ := trods_str Try.underlying9 (m + 1) m _ _ (by omega) h2
    obtain ⟨a3, r3⟩ := trods_sl Try.underlying23 hc (sz := 4) (by omega) (fun x : {e : Ex // colsOk e} => Ex.width x.1) ih m _ _ (by omega) h3
    refine ⟨⟨.mk a0 a1 a2 (a3.map (·.1)), ?_⟩, ?_⟩
    · intro y hy ho
      rw [pre, List.mem_cons] at hy
      rcases hy with rfl | hy
      · exact hwf
      · exact colsOk_list a3 y hy ho
    show Rd w Any (Ex.mk a0 a1 a2 (a3.map (·.1))).d _
    rw [Ex.d, Ex.ds_map, List.map_map]
    have r3 : Rd w Any (.sl (a3.map (Ex.d ∘ fun x => x.1))) _ := r3
    exact rd_st (rdS_cut (k := 1) r0 (rdS_cut (k := 1) r1 (rdS_cut (k := 1) r2 (rdS_cut (k := 1) r3 (rdS_end (by omega))))))

end
end Go.Proofs.Ytmhelkhmgbbfhaa

/- The law ExprTypes: for every input it returns true, and each argument reads afterwards as it read before. (written by gen_lift16.py) -/
namespace Go.Proofs.Ytmhelkhmgbbfhaa
open Go.ChangeShapes Go.WideShapes Go.ChangeAt Go.RowKit Go.Lib

set_option maxRecDepth 100000 in
theorem exprTypes_lifted (os : Os) (started : os.Started) (H : Type) (enc : TypeId × Value → H) :
    ReturnsInHanded {} Try.checked os 7 .any (Rows.exprTypesSpec.pre6 enc Try.prog Try.f7 Rows.exprTypesRow.domain false) (Rows.exprTypesSpec.post enc Try.prog Try.f7 false true false false) := by
  refine returnsInHanded_of_change (C := Try.checked) Try.own started (by kernel_rfl) Try.func7
    (ChangeSpec.witness6 (enc := enc) (C := Try.checked) false ⟨#[], #[.slice .none 0 0, .slice .none 0 0, .slice .none 0 0, .agg #[.int .i64 0, .int .i64 0, .string ByteArray.empty, .slice .none 0 0], .agg #[.int .i64 0, .int .i64 0, .string ByteArray.empty, .slice .none 0 0]], []⟩ 8 (by kernel_rfl) (by kernel_rfl) (by kernel_rfl) (by kernel_rfl)) ?_
  intro W base args ds gs before hval0 hW hcnd _
  have hval : ∀ (j : Nat) t v, Try.f7.params[j]? = some t → args[j]? = some v → Value.okWide Try.prog W .any base t v := hval0
  have hW' := hW
  obtain ⟨p, q, hA0, hV, rfl, hfz, hnd⟩ := hW
  have hA : DataW.TrodAll enc Try.prog W 0 (fun _ => true) true Try.f7.params.toList args.toList ds p := hA0
  rw [Try.params7] at hA hval
  obtain ⟨v0, v1, v2, v3, v4, d0, d1, d2, d3, d4, p0, p1, p2, p3, p4, rfl, rfl, rfl, h0, h1, h2, h3, h4⟩ := trodAll_five hA
  obtain ⟨rfl, rfl⟩ := trodVars_none hV
  obtain ⟨x0, r0⟩ := par_sl Try.underlying22 (hval 0 _ v0 rfl rfl) h0 trods_fns
  obtain ⟨x1, r1⟩ := par_sl Try.underlying31 (hval 1 _ v1 rfl rfl) h1 trods_ints
  obtain ⟨x2, r2⟩ := par_sl Try.underlying31 (hval 2 _ v2 rfl rfl) h2 trods_ints
  obtain ⟨x3, cs3, rfl, r3⟩ := par_st Try.underlying25 (hval 3 _ v3 rfl rfl) h3 trods_exc
  obtain ⟨x4, cs4, rfl, r4⟩ := par_st Try.underlying25 (hval 4 _ v4 rfl rfl) h4 trods_ex
  refine (calls_of_gives (vals := [v0, v1, v2, .agg cs3.toArray, .agg cs4.toArray]) (types_g x0 x1 x2 x3.1 x4 x3.2) ⟨_, _, rfl, flat_fns r0, _, _, rfl, flat_ints r1, _, _, rfl, flat_ints r2, _, _, rfl, flat_ex r3, _, _, rfl, flat_ex r4, rfl⟩).mono ?_
  rintro r W' ⟨rfl, hb⟩
  exact ⟨_, rfl, law_post (P := Try.prog) Try.laidOut hW' rfl rfl (by kernel_rfl) Try.underlying4 (by kernel_rfl) hb⟩

theorem exprTypes_holds : Rows.ExprTypesSaid :=
  OpenClaim.holds_of_wide 7 Try.f7 rfl rfl rfl rfl rfl rfl rfl ⟨rfl, rfl, rfl, rfl, rfl⟩ rfl rfl rfl rfl rfl (by kernel_rfl) Try.func7 (by kernel_rfl)
    (of_decide_eq_true (by kernel_rfl)) (by unfold Func.isWrapper; rw [if_neg (by decide +kernel)]; exact ⟨rfl, rfl⟩)
    (fun os started H enc _ => exprTypes_lifted os started H enc)
end Go.Proofs.Ytmhelkhmgbbfhaa
