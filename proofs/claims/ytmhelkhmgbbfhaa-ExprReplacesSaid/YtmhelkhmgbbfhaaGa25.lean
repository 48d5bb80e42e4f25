/- Walks: an ascending list with a number more; the columns that an expression reads, of the reference. -/
import Derived.Test.YtmhelkhmgbbfhaaGa20
import Derived.Test.YtmhelkhmgbbfhaaGa23
set_option linter.unusedSimpArgs false
set_option linter.unusedVariables false
namespace Go.Proofs.Ytmhelkhmgbbfhaa
open Go.RowKit Go.Lib

set_option maxHeartbeats 2000000 in
theorem with_g (l : List Int) (n : Int) (hl : l.length ≤ 2000000) : Gives Try.prog 63 [.sl (l.map AV.int), .int n] (.sl ((withP l n).map AV.int)) := by
  obtain ⟨R, hR⟩ : ∃ R, R = withP l n := ⟨_, rfl⟩
  rw [← hR]
  have w1 : ∀ k, AV.wid (List.take k (l.map AV.int)) 1 := fun k => AV.wid_take (AV.wid_ints l) k
  have w2 : ∀ k, AV.wid (List.drop k (l.map AV.int)) 1 := fun k => AV.wid_drop (AV.wid_ints l) k
  have w3 : ∀ k, AV.elms (List.take k (l.map AV.int)) := fun k y hy => AV.elms_ints l y (List.mem_of_mem_take hy)
  have w4 : ∀ k, AV.elms (List.drop k (l.map AV.int)) := fun k y hy => AV.elms_ints l y (List.mem_of_mem_drop hy)
  have t0 : List.take l.length (l.map AV.int) = l.map AV.int := List.take_of_length_le (by simp)
  refine gives_of_awp Try.func63 Try.ntmps63 rfl rfl (by decide) rfl (by intro n; simp) fun σ n0 hcl hft => ?_
  repeat' (first | ((with_reducible refine aguard (fun hg => ?_) (fun hg => ?_)) <;> (try simp only [hg]) <;> (try simp only [beq_iff_eq, beq_eq_false_iff_ne, ne_eq, decide_eq_true_eq, decide_eq_false_iff_not, bne_iff_ne, bne_eq_false_iff_eq] at hg) <;> (try (first | simp only [eq_false hg, if_true, if_false] | simp only [eq_true hg, if_true, if_false])) <;> (try simp (disch := first | omega | simp) [wrap_i64, -aseqC, -anyC])) | (with_reducible refine aseq_step ?_; try simp (disch := first | omega | simp) [wrap_i64, -aseqC, -anyC]) | (with_reducible refine any_step' ?_; try simp (disch := first | omega | simp) [wrap_i64, -aseqC, -anyC]) | (with_reducible refine aseq_end ?_; try simp (disch := first | omega | simp) [wrap_i64, -aseqC, -anyC]) | (with_reducible refine any_end' ?_; try simp (disch := first | omega | simp) [wrap_i64, -aseqC, -anyC]) | ((first | with_reducible refine sideG ?_ ?_ | with_reducible refine sideG2 ?_ ?_ | with_reducible refine sideS ?_ ?_ | with_reducible refine sideS2 ?_ ?_ | with_reducible refine sideS3 ?_ ?_ | with_reducible refine sideA ?_ ?_ | with_reducible refine sideA2 ?_ ?_ | with_reducible refine sideA3 ?_ ?_); (first | omega | assumption | (simp; done))) | (refine awp_seq_k fun K hK => ?_) | (refine awp_regionC ?_) | (refine awp_anyA true (by kernel_rfl) (by kernel_rfl) ?_) | (refine awp_anyA false (by kernel_rfl) (by kernel_rfl) ?_) | (refine hK _ ?_; clear hK; clear K) | (clear hK; clear K; refine hK _ ?_; clear hK; clear K) | (clear hK; clear K; clear hK; clear K; refine hK _ ?_; clear hK; clear K) | refine awp_block ?_ | (refine awp_condC ?_; simp (disch := first | omega | simp) [wrap_i64, -aseqC, -anyC]) | (refine awp_exit ?_; try simp (disch := first | omega | simp) [wrap_i64, -aseqC, -anyC]) | (refine awp_skip ?_; try simp (disch := first | omega | simp) [wrap_i64, -aseqC, -anyC]) | (refine awp_ret ?_; try simp (disch := first | omega | simp) [wrap_i64, -aseqC, -anyC]))
  refine awp_loopC hcl (fun k : Nat => [(0, .sl (l.map AV.int)), (1, .int n), (5, .int k)]) (fun _ => [])
    (fun k => k ≤ l.length ∧ ∀ j (h : j < l.length), j < k → l[j] < n) (fun k => l.length - k) 0 ⟨by omega, fun j h hj => by omega⟩ (by simp) fun k ⟨hk, he⟩ => ?_
  by_cases hlt : k < l.length
  · by_cases hx : l[k] < n
    · repeat' (first | ((with_reducible refine aguard (fun hg => ?_) (fun hg => ?_)) <;> (try simp only [hg]) <;> (try simp only [beq_iff_eq, beq_eq_false_iff_ne, ne_eq, decide_eq_true_eq, decide_eq_false_iff_not, bne_iff_ne, bne_eq_false_iff_eq] at hg) <;> (try (first | simp only [eq_false hg, if_true, if_false] | simp only [eq_true hg, if_true, if_false])) <;> (try simp (disch := first | omega | simp) [wrap_i64, -aseqC, -anyC, hlt, hx])) | (with_reducible refine aseq_step ?_; try simp (disch := first | omega | simp) [wrap_i64, -aseqC, -anyC, hlt, hx]) | (with_reducible refine any_step' ?_; try simp (disch := first | omega | simp) [wrap_i64, -aseqC, -anyC, hlt, hx]) | (with_reducible refine aseq_end ?_; try simp (disch := first | omega | simp) [wrap_i64, -aseqC, -anyC, hlt, hx]) | (with_reducible refine any_end' ?_; try simp (disch := first | omega | simp) [wrap_i64, -aseqC, -anyC, hlt, hx]) | ((first | with_reducible refine sideG ?_ ?_ | with_reducible refine sideG2 ?_ ?_ | with_reducible refine sideS ?_ ?_ | with_reducible refine sideS2 ?_ ?_ | with_reducible refine sideS3 ?_ ?_ | with_reducible refine sideA ?_ ?_ | with_reducible refine sideA2 ?_ ?_ | with_reducible refine sideA3 ?_ ?_); (first | omega | assumption | (simp; done))) | (refine awp_seq_k fun K hK => ?_) | (refine awp_regionC ?_) | (refine awp_anyA true (by kernel_rfl) (by kernel_rfl) ?_) | (refine awp_anyA false (by kernel_rfl) (by kernel_rfl) ?_) | (refine hK _ ?_; clear hK; clear K) | (clear hK; clear K; refine hK _ ?_; clear hK; clear K) | (clear hK; clear K; clear hK; clear K; refine hK _ ?_; clear hK; clear K) | refine awp_block ?_ | (refine awp_condC ?_; simp (disch := first | omega | simp) [wrap_i64, -aseqC, -anyC, hlt, hx]) | (refine awp_exit ?_; try simp (disch := first | omega | simp) [wrap_i64, -aseqC, -anyC, hlt, hx]) | (refine awp_skip ?_; try simp (disch := first | omega | simp) [wrap_i64, -aseqC, -anyC, hlt, hx]) | (refine awp_ret ?_; try simp (disch := first | omega | simp) [wrap_i64, -aseqC, -anyC, hlt, hx]))
      refine ⟨k + 1, ⟨by omega, fun j h hj => ?_⟩, by omega, by omega⟩
      by_cases hjk : j < k
      · exact he j h hjk
      · obtain rfl : j = k := by omega
        exact hx
    · have hw := withP_at n l k hk he (fun _ => hx)
      rw [dif_pos hlt] at hw
      have hm : ¬ (l.length : Int) - 1 < k := by omega
      by_cases hy : l[k] = n
      · obtain rfl : l = R := by rw [hR, hw, if_pos hy]
        repeat' (first | ((with_reducible refine aguard (fun hg => ?_) (fun hg => ?_)) <;> (try simp only [hg]) <;> (try simp only [beq_iff_eq, beq_eq_false_iff_ne, ne_eq, decide_eq_true_eq, decide_eq_false_iff_not, bne_iff_ne, bne_eq_false_iff_eq] at hg) <;> (try (first | simp only [eq_false hg, if_true, if_false] | simp only [eq_true hg, if_true, if_false])) <;> (try simp (disch := first | omega | simp) [wrap_i64, -aseqC, -anyC, hlt, hx, hy, hm, w1, w2, w3, w4, t0])) | (with_reducible refine aseq_step ?_; try simp (disch := first | omega | simp) [wrap_i64, -aseqC, -anyC, hlt, hx, hy, hm, w1, w2, w3, w4, t0]) | (with_reducible refine any_step' ?_; try simp (disch := first | omega | simp) [wrap_i64, -aseqC, -anyC, hlt, hx, hy, hm, w1, w2, w3, w4, t0]) | (with_reducible refine aseq_end ?_; try simp (disch := first | omega | simp) [wrap_i64, -aseqC, -anyC, hlt, hx, hy, hm, w1, w2, w3, w4, t0]) | (with_reducible refine any_end' ?_; try simp (disch := first | omega | simp) [wrap_i64, -aseqC, -anyC, hlt, hx, hy, hm, w1, w2, w3, w4, t0]) | ((first | with_reducible refine sideG ?_ ?_ | with_reducible refine sideG2 ?_ ?_ | with_reducible refine sideS ?_ ?_ | with_reducible refine sideS2 ?_ ?_ | with_reducible refine sideS3 ?_ ?_ | with_reducible refine sideA ?_ ?_ | with_reducible refine sideA2 ?_ ?_ | with_reducible refine sideA3 ?_ ?_); (first | omega | assumption | (simp; done))) | (refine awp_seq_k fun K hK => ?_) | (refine awp_regionC ?_) | (refine awp_anyA true (by kernel_rfl) (by kernel_rfl) ?_) | (refine awp_anyA false (by kernel_rfl) (by kernel_rfl) ?_) | (refine hK _ ?_; clear hK; clear K) | (clear hK; clear K; refine hK _ ?_; clear hK; clear K) | (clear hK; clear K; clear hK; clear K; refine hK _ ?_; clear hK; clear K) | refine awp_block ?_ | (refine awp_condC ?_; simp (disch := first | omega | simp) [wrap_i64, -aseqC, -anyC, hlt, hx, hy, hm, w1, w2, w3, w4, t0]) | (refine awp_exit ?_; try simp (disch := first | omega | simp) [wrap_i64, -aseqC, -anyC, hlt, hx, hy, hm, w1, w2, w3, w4, t0]) | (refine awp_skip ?_; try simp (disch := first | omega | simp) [wrap_i64, -aseqC, -anyC, hlt, hx, hy, hm, w1, w2, w3, w4, t0]) | (refine awp_ret ?_; try simp (disch := first | omega | simp) [wrap_i64, -aseqC, -anyC, hlt, hx, hy, hm, w1, w2, w3, w4, t0]))
      · obtain rfl : R = l.take k ++ [n] ++ l.drop k := by rw [hR, hw, if_neg hy]
        repeat' (first | ((with_reducible refine aguard (fun hg => ?_) (fun hg => ?_)) <;> (try simp only [hg]) <;> (try simp only [beq_iff_eq, beq_eq_false_iff_ne, ne_eq, decide_eq_true_eq, decide_eq_false_iff_not, bne_iff_ne, bne_eq_false_iff_eq] at hg) <;> (try (first | simp only [eq_false hg, if_true, if_false] | simp only [eq_true hg, if_true, if_false])) <;> (try simp (disch := first | omega | simp) [wrap_i64, -aseqC, -anyC, hlt, hx, hy, hm, w1, w2, w3, w4, t0])) | (with_reducible refine aseq_step ?_; try simp (disch := first | omega | simp) [wrap_i64, -aseqC, -anyC, hlt, hx, hy, hm, w1, w2, w3, w4, t0]) | (with_reducible refine any_step' ?_; try simp (disch := first | omega | simp) [wrap_i64, -aseqC, -anyC, hlt, hx, hy, hm, w1, w2, w3, w4, t0]) | (with_reducible refine aseq_end ?_; try simp (disch := first | omega | simp) [wrap_i64, -aseqC, -anyC, hlt, hx, hy, hm, w1, w2, w3, w4, t0]) | (with_reducible refine any_end' ?_; try simp (disch := first | omega | simp) [wrap_i64, -aseqC, -anyC, hlt, hx, hy, hm, w1, w2, w3, w4, t0]) | ((first | with_reducible refine sideG ?_ ?_ | with_reducible refine sideG2 ?_ ?_ | with_reducible refine sideS ?_ ?_ | with_reducible refine sideS2 ?_ ?_ | with_reducible refine sideS3 ?_ ?_ | with_reducible refine sideA ?_ ?_ | with_reducible refine sideA2 ?_ ?_ | with_reducible refine sideA3 ?_ ?_); (first | omega | assumption | (simp; done))) | (refine awp_seq_k fun K hK => ?_) | (refine awp_regionC ?_) | (refine awp_anyA true (by kernel_rfl) (by kernel_rfl) ?_) | (refine awp_anyA false (by kernel_rfl) (by kernel_rfl) ?_) | (refine hK _ ?_; clear hK; clear K) | (clear hK; clear K; refine hK _ ?_; clear hK; clear K) | (clear hK; clear K; clear hK; clear K; refine hK _ ?_; clear hK; clear K) | refine awp_block ?_ | (refine awp_condC ?_; simp (disch := first | omega | simp) [wrap_i64, -aseqC, -anyC, hlt, hx, hy, hm, w1, w2, w3, w4, t0]) | (refine awp_exit ?_; try simp (disch := first | omega | simp) [wrap_i64, -aseqC, -anyC, hlt, hx, hy, hm, w1, w2, w3, w4, t0]) | (refine awp_skip ?_; try simp (disch := first | omega | simp) [wrap_i64, -aseqC, -anyC, hlt, hx, hy, hm, w1, w2, w3, w4, t0]) | (refine awp_ret ?_; try simp (disch := first | omega | simp) [wrap_i64, -aseqC, -anyC, hlt, hx, hy, hm, w1, w2, w3, w4, t0]))
        all_goals exact absurd (by assumption) hy
  · have hw := withP_at n l k hk he (fun h => absurd h hlt)
    rw [dif_neg hlt] at hw
    obtain rfl : k = l.length := by omega
    obtain rfl : R = l ++ [n] := by rw [hR, hw]
    repeat' (first | ((with_reducible refine aguard (fun hg => ?_) (fun hg => ?_)) <;> (try simp only [hg]) <;> (try simp only [beq_iff_eq, beq_eq_false_iff_ne, ne_eq, decide_eq_true_eq, decide_eq_false_iff_not, bne_iff_ne, bne_eq_false_iff_eq] at hg) <;> (try (first | simp only [eq_false hg, if_true, if_false] | simp only [eq_true hg, if_true, if_false])) <;> (try simp (disch := first | omega | simp) [wrap_i64, -aseqC, -anyC, hlt, w1, w2, w3, w4, t0])) | (with_reducible refine aseq_step ?_; try simp (disch := first | omega | simp) [wrap_i64, -aseqC, -anyC, hlt, w1, w2, w3, w4, t0]) | (with_reducible refine any_step' ?_; try simp (disch := first | omega | simp) [wrap_i64, -aseqC, -anyC, hlt, w1, w2, w3, w4, t0]) | (with_reducible refine aseq_end ?_; try simp (disch := first | omega | simp) [wrap_i64, -aseqC, -anyC, hlt, w1, w2, w3, w4, t0]) | (with_reducible refine any_end' ?_; try simp (disch := first | omega | simp) [wrap_i64, -aseqC, -anyC, hlt, w1, w2, w3, w4, t0]) | ((first | with_reducible refine sideG ?_ ?_ | with_reducible refine sideG2 ?_ ?_ | with_reducible refine sideS ?_ ?_ | with_reducible refine sideS2 ?_ ?_ | with_reducible refine sideS3 ?_ ?_ | with_reducible refine sideA ?_ ?_ | with_reducible refine sideA2 ?_ ?_ | with_reducible refine sideA3 ?_ ?_); (first | omega | assumption | (simp; done))) | (refine awp_seq_k fun K hK => ?_) | (refine awp_regionC ?_) | (refine awp_anyA true (by kernel_rfl) (by kernel_rfl) ?_) | (refine awp_anyA false (by kernel_rfl) (by kernel_rfl) ?_) | (refine hK _ ?_; clear hK; clear K) | (clear hK; clear K; refine hK _ ?_; clear hK; clear K) | (clear hK; clear K; clear hK; clear K; refine hK _ ?_; clear hK; clear K) | refine awp_block ?_ | (refine awp_condC ?_; simp (disch := first | omega | simp) [wrap_i64, -aseqC, -anyC, hlt, w1, w2, w3, w4, t0]) | (refine awp_exit ?_; try simp (disch := first | omega | simp) [wrap_i64, -aseqC, -anyC, hlt, w1, w2, w3, w4, t0]) | (refine awp_skip ?_; try simp (disch := first | omega | simp) [wrap_i64, -aseqC, -anyC, hlt, w1, w2, w3, w4, t0]) | (refine awp_ret ?_; try simp (disch := first | omega | simp) [wrap_i64, -aseqC, -anyC, hlt, w1, w2, w3, w4, t0]))
/-- a nil slice, from now on only read -/
theorem awp_nilR {P : Program} {c : Code} {Q : Exit → AS → Prop} {n n0 : Nat} {t : Nat → AV} {σ : Nat → AB} {L : List AB} (d : Nat) (hd : t d = .v (.slice none 0 0))
    (h : awp P c Q ⟨n, upd t d (.sl []), σ, n0, L⟩) : awp P c Q ⟨n, t, σ, n0, L⟩ := by
  intro X0 a w ⟨X, hc⟩
  refine h X0 a w ⟨X, ⟨hc.w, hc.σ, hc.sr, hc.fr, hc.size, fun k => ?_, hc.defers, hc.fin⟩⟩
  show RR X (upd t d _ k) _
  unfold upd
  by_cases hk : k = d
  · subst hk
    rw [if_pos rfl]
    have h1 := hc.regs k
    change RR X (t k) _ at h1
    rw [hd] at h1
    have h2 : RC X (.v (.slice none 0 0)) [_] := h1
    have h3 := RC.pub1 (x := .v (.slice none 0 0)) rfl h2
    rw [AV.pub] at h3
    exact h3
  · rw [if_neg hk]; exact hc.regs k
theorem addAll_len : ∀ (ns l : List Int), (addAll l ns).length ≤ l.length + ns.length
  | [], l => by simp [addAll]
  | n :: ns, l => by
    have := addAll_len ns (withP l n)
    have h2 := withP_len n l
    rw [addAll, List.foldl_cons]
    rw [addAll] at this
    simp; omega
mutual
theorem readsP_len : ∀ e : Ex, (readsP e).length ≤ parts e
  | .mk o n s l => by
    rw [readsP, parts]
    have := readsL_len l (if o = 3 then [n] else [])
    split at this <;> simp_all <;> omega
theorem readsL_len : ∀ (l : List Ex) (acc : List Int), (readsL acc l).length ≤ acc.length + partsL l
  | [], acc => by rw [readsL, partsL]; omega
  | e :: l, acc => by
    rw [readsL, partsL]
    have h1 := readsL_len l (addAll acc (readsP e))
    have h2 := addAll_len (readsP e) acc
    have h3 := readsP_len e
    omega
end
theorem readsL_snoc : ∀ (l : List Ex) (e : Ex) (acc : List Int), readsL acc (l ++ [e]) = addAll (readsL acc l) (readsP e)
  | [], e, acc => by rw [List.nil_append, readsL, readsL, readsL]
  | x :: l, e, acc => by rw [List.cons_append, readsL, readsL, readsL_snoc l e]
theorem addAll_take (l ns : List Int) (k : Nat) (h : k < ns.length) : addAll l (ns.take (k + 1)) = withP (addAll l (ns.take k)) ns[k] := by
  rw [List.take_succ_eq_append_getElem h]
  unfold addAll
  rw [List.foldl_append]; rfl
set_option maxHeartbeats 4000000 in
theorem rreads_g (e : Ex) : parts e ≤ 1000000 → Gives Try.prog 35 [e.av] (.sl ((readsP e).map AV.int)) := by
  induction e using Ex.ind with | h o n s l ih => ?_
  intro hp
  have hll : l.length ≤ 1000000 := by rw [parts] at hp; have := partsL_len l; omega
  rw [readsP]
  obtain ⟨a0, ha0⟩ : ∃ a0 : List Int, a0 = if o = 3 then [n] else [] := ⟨_, rfl⟩
  rw [← ha0]
  obtain ⟨R, hR⟩ : ∃ R, R = readsL a0 l := ⟨_, rfl⟩
  rw [← hR]
  have hb : ∀ k, k ≤ l.length → (readsL a0 (l.take k)).length ≤ 1000000 := fun k hk => by
    have h1 := readsL_len (l.take k) a0
    have h2 := partsL_take_le l k
    have h3 : a0.length ≤ 1 := by rw [ha0]; split <;> simp
    rw [parts] at hp; omega
  by_cases ho : o = 3
  · refine gives_of_awp Try.func35 Try.ntmps35 rfl rfl (by decide) rfl (by intro n; simp) fun σ n0 hcl hft => ?_
    repeat' (first | ((with_reducible refine aguard (fun hg => ?_) (fun hg => ?_)) <;> (try simp only [hg]) <;> (try simp only [beq_iff_eq, beq_eq_false_iff_ne, ne_eq, decide_eq_true_eq, decide_eq_false_iff_not, bne_iff_ne, bne_eq_false_iff_eq] at hg) <;> (try (first | simp only [eq_false hg, if_true, if_false] | simp only [eq_true hg, if_true, if_false])) <;> (try simp (disch := first | omega | simp) [wrap_i64, -aseqC, -anyC, ho])) | (with_reducible refine aseq_step ?_; try simp (disch := first | omega | simp) [wrap_i64, -aseqC, -anyC, ho]) | (with_reducible refine any_step' ?_; try simp (disch := first | omega | simp) [wrap_i64, -aseqC, -anyC, ho]) | (with_reducible refine aseq_end ?_; try simp (disch := first | omega | simp) [wrap_i64, -aseqC, -anyC, ho]) | (with_reducible refine any_end' ?_; try simp (disch := first | omega | simp) [wrap_i64, -aseqC, -anyC, ho]) | ((first | with_reducible refine sideG ?_ ?_ | with_reducible refine sideG2 ?_ ?_ | with_reducible refine sideS ?_ ?_ | with_reducible refine sideS2 ?_ ?_ | with_reducible refine sideS3 ?_ ?_ | with_reducible refine sideA ?_ ?_ | with_reducible refine sideA2 ?_ ?_ | with_reducible refine sideA3 ?_ ?_); (first | omega | assumption | (simp; done))) | (refine awp_seq_k fun K hK => ?_) | (refine awp_regionC ?_) | (refine awp_anyA true (by kernel_rfl) (by kernel_rfl) ?_) | (refine awp_anyA false (by kernel_rfl) (by kernel_rfl) ?_) | (refine hK _ ?_; clear hK; clear K) | (clear hK; clear K; refine hK _ ?_; clear hK; clear K) | (clear hK; clear K; clear hK; clear K; refine hK _ ?_; clear hK; clear K) | refine awp_block ?_ | (refine awp_condC ?_; simp (disch := first | omega | simp) [wrap_i64, -aseqC, -anyC, ho]) | (refine awp_exit ?_; try simp (disch := first | omega | simp) [wrap_i64, -aseqC, -anyC, ho]) | (refine awp_skip ?_; try simp (disch := first | omega | simp) [wrap_i64, -aseqC, -anyC, ho]) | (refine awp_ret ?_; try simp (disch := first | omega | simp) [wrap_i64, -aseqC, -anyC, ho]))
    refine awp_loopC hcl (fun i : Nat => [(1, .ptr n0 0), (3, .sl ((readsL a0 (l.take i)).map AV.int)), (4, .int i)]) (fun _ => [.cells [.int o, .int n, .str s, .sl (l.map Ex.av)] 25]) (fun i => i ≤ l.length) (fun i => l.length - i) 0 (Nat.zero_le _) (by rw [ha0]; simp [readsL, ho]) fun i hi => ?_
    by_cases hlt : i < l.length
    · have hpi : parts l[i] ≤ 1000000 := by rw [parts] at hp; have := partsL_mem l l[i] (List.getElem_mem hlt); omega
      have hrec := ih l[i] (List.getElem_mem hlt) hpi
      have hlen0 := hb i hi
      have hlen1 := hb (i + 1) (by omega)
      have htk : readsL a0 (l.take (i + 1)) = addAll (readsL a0 (l.take i)) (readsP l[i]) := by rw [List.take_succ_eq_append_getElem hlt, readsL_snoc]
      rw [htk] at hlen1
      have hKl : (readsP l[i]).length ≤ 1000000 := Nat.le_trans (readsP_len l[i]) hpi
      obtain ⟨A, hA⟩ : ∃ A, A = readsL a0 (l.take i) := ⟨_, rfl⟩
      obtain ⟨K1, hK1⟩ : ∃ K1, K1 = readsP l[i] := ⟨_, rfl⟩
      rw [← hA] at htk hlen0 hlen1 ⊢
      rw [← hK1] at htk hlen1 hKl hrec
      repeat' (first | ((with_reducible refine aguard (fun hg => ?_) (fun hg => ?_)) <;> (try simp only [hg]) <;> (try simp only [beq_iff_eq, beq_eq_false_iff_ne, ne_eq, decide_eq_true_eq, decide_eq_false_iff_not, bne_iff_ne, bne_eq_false_iff_eq] at hg) <;> (try (first | simp only [eq_false hg, if_true, if_false] | simp only [eq_true hg, if_true, if_false])) <;> (try simp (disch := first | omega | simp) [wrap_i64, -aseqC, -anyC, hlt])) | (with_reducible refine aseq_step ?_; try simp (disch := first | omega | simp) [wrap_i64, -aseqC, -anyC, hlt]) | (with_reducible refine any_step' ?_; try simp (disch := first | omega | simp) [wrap_i64, -aseqC, -anyC, hlt]) | (with_reducible refine aseq_end ?_; try simp (disch := first | omega | simp) [wrap_i64, -aseqC, -anyC, hlt]) | (with_reducible refine any_end' ?_; try simp (disch := first | omega | simp) [wrap_i64, -aseqC, -anyC, hlt]) | ((first | with_reducible refine sideG ?_ ?_ | with_reducible refine sideG2 ?_ ?_ | with_reducible refine sideS ?_ ?_ | with_reducible refine sideS2 ?_ ?_ | with_reducible refine sideS3 ?_ ?_ | with_reducible refine sideA ?_ ?_ | with_reducible refine sideA2 ?_ ?_ | with_reducible refine sideA3 ?_ ?_); (first | omega | assumption | (simp; done))) | (refine acall (hrec) ?_; try simp (disch := first | omega | simp) [wrap_i64, -aseqC, -anyC, hlt]) | (refine agives (hrec) ?_; try simp (disch := first | omega | simp) [wrap_i64, -aseqC, -anyC, hlt]) | (refine acallAt (hrec) ?_; try simp (disch := first | omega | simp) [wrap_i64, -aseqC, -anyC, hlt]) | (refine awp_seq_k fun K hK => ?_) | (refine awp_regionC ?_) | (refine awp_anyA true (by kernel_rfl) (by kernel_rfl) ?_) | (refine awp_anyA false (by kernel_rfl) (by kernel_rfl) ?_) | (refine hK _ ?_; clear hK; clear K) | (clear hK; clear K; refine hK _ ?_; clear hK; clear K) | (clear hK; clear K; clear hK; clear K; refine hK _ ?_; clear hK; clear K) | refine awp_block ?_ | (refine awp_condC ?_; simp (disch := first | omega | simp) [wrap_i64, -aseqC, -anyC, hlt]) | (refine awp_exit ?_; try simp (disch := first | omega | simp) [wrap_i64, -aseqC, -anyC, hlt]) | (refine awp_skip ?_; try simp (disch := first | omega | simp) [wrap_i64, -aseqC, -anyC, hlt]) | (refine awp_ret ?_; try simp (disch := first | omega | simp) [wrap_i64, -aseqC, -anyC, hlt]))
      refine awp_loopC hcl (fun j : Nat => [(1, .ptr n0 0), (3, .sl ((addAll A (K1.take j)).map AV.int)), (4, .int i), (5, .sl (K1.map AV.int)), (6, .int j)]) (fun _ => [.cells [.int o, .int n, .str s, .sl (l.map Ex.av)] 25]) (fun j => j ≤ K1.length) (fun j => K1.length - j) 0 (Nat.zero_le _) (by simp [addAll, ho]) fun j hj => ?_
      by_cases hjl : j < K1.length
      · have hwl : (addAll A (K1.take j)).length ≤ 2000000 := by
          have := addAll_len (K1.take j) A
          rw [List.length_take] at this; omega
        have hw := with_g (addAll A (K1.take j)) K1[j] hwl
        rw [← addAll_take A K1 j hjl] at hw
        repeat' (first | ((with_reducible refine aguard (fun hg => ?_) (fun hg => ?_)) <;> (try simp only [hg]) <;> (try simp only [beq_iff_eq, beq_eq_false_iff_ne, ne_eq, decide_eq_true_eq, decide_eq_false_iff_not, bne_iff_ne, bne_eq_false_iff_eq] at hg) <;> (try (first | simp only [eq_false hg, if_true, if_false] | simp only [eq_true hg, if_true, if_false])) <;> (try simp (disch := first | omega | simp) [wrap_i64, -aseqC, -anyC, hjl])) | (with_reducible refine aseq_step ?_; try simp (disch := first | omega | simp) [wrap_i64, -aseqC, -anyC, hjl]) | (with_reducible refine any_step' ?_; try simp (disch := first | omega | simp) [wrap_i64, -aseqC, -anyC, hjl]) | (with_reducible refine aseq_end ?_; try simp (disch := first | omega | simp) [wrap_i64, -aseqC, -anyC, hjl]) | (with_reducible refine any_end' ?_; try simp (disch := first | omega | simp) [wrap_i64, -aseqC, -anyC, hjl]) | ((first | with_reducible refine sideG ?_ ?_ | with_reducible refine sideG2 ?_ ?_ | with_reducible refine sideS ?_ ?_ | with_reducible refine sideS2 ?_ ?_ | with_reducible refine sideS3 ?_ ?_ | with_reducible refine sideA ?_ ?_ | with_reducible refine sideA2 ?_ ?_ | with_reducible refine sideA3 ?_ ?_); (first | omega | assumption | (simp; done))) | (refine acall (hw) ?_; try simp (disch := first | omega | simp) [wrap_i64, -aseqC, -anyC, hjl]) | (refine agives (hw) ?_; try simp (disch := first | omega | simp) [wrap_i64, -aseqC, -anyC, hjl]) | (refine acallAt (hw) ?_; try simp (disch := first | omega | simp) [wrap_i64, -aseqC, -anyC, hjl]) | (refine awp_seq_k fun K hK => ?_) | (refine awp_regionC ?_) | (refine awp_anyA true (by kernel_rfl) (by kernel_rfl) ?_) | (refine awp_anyA false (by kernel_rfl) (by kernel_rfl) ?_) | (refine hK _ ?_; clear hK; clear K) | (clear hK; clear K; refine hK _ ?_; clear hK; clear K) | (clear hK; clear K; clear hK; clear K; refine hK _ ?_; clear hK; clear K) | refine awp_block ?_ | (refine awp_condC ?_; simp (disch := first | omega | simp) [wrap_i64, -aseqC, -anyC, hjl]) | (refine awp_exit ?_; try simp (disch := first | omega | simp) [wrap_i64, -aseqC, -anyC, hjl]) | (refine awp_skip ?_; try simp (disch := first | omega | simp) [wrap_i64, -aseqC, -anyC, hjl]) | (refine awp_ret ?_; try simp (disch := first | omega | simp) [wrap_i64, -aseqC, -anyC, hjl]))
        all_goals exact ⟨j + 1, by omega, by omega, rfl, by omega⟩
      · obtain rfl : j = K1.length := by omega
        rw [List.take_length, ← htk]
        repeat' (first | ((with_reducible refine aguard (fun hg => ?_) (fun hg => ?_)) <;> (try simp only [hg]) <;> (try simp only [beq_iff_eq, beq_eq_false_iff_ne, ne_eq, decide_eq_true_eq, decide_eq_false_iff_not, bne_iff_ne, bne_eq_false_iff_eq] at hg) <;> (try (first | simp only [eq_false hg, if_true, if_false] | simp only [eq_true hg, if_true, if_false])) <;> (try simp (disch := first | omega | simp) [wrap_i64, -aseqC, -anyC, hjl])) | (with_reducible refine aseq_step ?_; try simp (disch := first | omega | simp) [wrap_i64, -aseqC, -anyC, hjl]) | (with_reducible refine any_step' ?_; try simp (disch := first | omega | simp) [wrap_i64, -aseqC, -anyC, hjl]) | (with_reducible refine aseq_end ?_; try simp (disch := first | omega | simp) [wrap_i64, -aseqC, -anyC, hjl]) | (with_reducible refine any_end' ?_; try simp (disch := first | omega | simp) [wrap_i64, -aseqC, -anyC, hjl]) | ((first | with_reducible refine sideG ?_ ?_ | with_reducible refine sideG2 ?_ ?_ | with_reducible refine sideS ?_ ?_ | with_reducible refine sideS2 ?_ ?_ | with_reducible refine sideS3 ?_ ?_ | with_reducible refine sideA ?_ ?_ | with_reducible refine sideA2 ?_ ?_ | with_reducible refine sideA3 ?_ ?_); (first | omega | assumption | (simp; done))) | (refine awp_seq_k fun K hK => ?_) | (refine awp_regionC ?_) | (refine awp_anyA true (by kernel_rfl) (by kernel_rfl) ?_) | (refine awp_anyA false (by kernel_rfl) (by kernel_rfl) ?_) | (refine hK _ ?_; clear hK; clear K) | (clear hK; clear K; refine hK _ ?_; clear hK; clear K) | (clear hK; clear K; clear hK; clear K; refine hK _ ?_; clear hK; clear K) | refine awp_block ?_ | (refine awp_condC ?_; simp (disch := first | omega | simp) [wrap_i64, -aseqC, -anyC, hjl]) | (refine awp_exit ?_; try simp (disch := first | omega | simp) [wrap_i64, -aseqC, -anyC, hjl]) | (refine awp_skip ?_; try simp (disch := first | omega | simp) [wrap_i64, -aseqC, -anyC, hjl]) | (refine awp_ret ?_; try simp (disch := first | omega | simp) [wrap_i64, -aseqC, -anyC, hjl]))
        all_goals exact ⟨i + 1, by omega, by omega, rfl, by omega⟩
    · obtain rfl : i = l.length := by omega
      have hin : readsL a0 (l.take l.length) = R := by rw [List.take_length, hR]
      rw [hin]
      repeat' (first | ((with_reducible refine aguard (fun hg => ?_) (fun hg => ?_)) <;> (try simp only [hg]) <;> (try simp only [beq_iff_eq, beq_eq_false_iff_ne, ne_eq, decide_eq_true_eq, decide_eq_false_iff_not, bne_iff_ne, bne_eq_false_iff_eq] at hg) <;> (try (first | simp only [eq_false hg, if_true, if_false] | simp only [eq_true hg, if_true, if_false])) <;> (try simp (disch := first | omega | simp) [wrap_i64, -aseqC, -anyC, hlt])) | (with_reducible refine aseq_step ?_; try simp (disch := first | omega | simp) [wrap_i64, -aseqC, -anyC, hlt]) | (with_reducible refine any_step' ?_; try simp (disch := first | omega | simp) [wrap_i64, -aseqC, -anyC, hlt]) | (with_reducible refine aseq_end ?_; try simp (disch := first | omega | simp) [wrap_i64, -aseqC, -anyC, hlt]) | (with_reducible refine any_end' ?_; try simp (disch := first | omega | simp) [wrap_i64, -aseqC, -anyC, hlt]) | ((first | with_reducible refine sideG ?_ ?_ | with_reducible refine sideG2 ?_ ?_ | with_reducible refine sideS ?_ ?_ | with_reducible refine sideS2 ?_ ?_ | with_reducible refine sideS3 ?_ ?_ | with_reducible refine sideA ?_ ?_ | with_reducible refine sideA2 ?_ ?_ | with_reducible refine sideA3 ?_ ?_); (first | omega | assumption | (simp; done))) | (refine awp_seq_k fun K hK => ?_) | (refine awp_regionC ?_) | (refine awp_anyA true (by kernel_rfl) (by kernel_rfl) ?_) | (refine awp_anyA false (by kernel_rfl) (by kernel_rfl) ?_) | (refine hK _ ?_; clear hK; clear K) | (clear hK; clear K; refine hK _ ?_; clear hK; clear K) | (clear hK; clear K; clear hK; clear K; refine hK _ ?_; clear hK; clear K) | refine awp_block ?_ | (refine awp_condC ?_; simp (disch := first | omega | simp) [wrap_i64, -aseqC, -anyC, hlt]) | (refine awp_exit ?_; try simp (disch := first | omega | simp) [wrap_i64, -aseqC, -anyC, hlt]) | (refine awp_skip ?_; try simp (disch := first | omega | simp) [wrap_i64, -aseqC, -anyC, hlt]) | (refine awp_ret ?_; try simp (disch := first | omega | simp) [wrap_i64, -aseqC, -anyC, hlt]))
  · refine gives_of_awp Try.func35 Try.ntmps35 rfl rfl (by decide) rfl (by intro n; simp) fun σ n0 hcl hft => ?_
    repeat' (first | ((with_reducible refine aguard (fun hg => ?_) (fun hg => ?_)) <;> (try simp only [hg]) <;> (try simp only [beq_iff_eq, beq_eq_false_iff_ne, ne_eq, decide_eq_true_eq, decide_eq_false_iff_not, bne_iff_ne, bne_eq_false_iff_eq] at hg) <;> (try (first | simp only [eq_false hg, if_true, if_false] | simp only [eq_true hg, if_true, if_false])) <;> (try simp (disch := first | omega | simp) [wrap_i64, -aseqC, -anyC, ho])) | (with_reducible refine aseq_step ?_; try simp (disch := first | omega | simp) [wrap_i64, -aseqC, -anyC, ho]) | (with_reducible refine any_step' ?_; try simp (disch := first | omega | simp) [wrap_i64, -aseqC, -anyC, ho]) | (with_reducible refine aseq_end ?_; try simp (disch := first | omega | simp) [wrap_i64, -aseqC, -anyC, ho]) | (with_reducible refine any_end' ?_; try simp (disch := first | omega | simp) [wrap_i64, -aseqC, -anyC, ho]) | ((first | with_reducible refine sideG ?_ ?_ | with_reducible refine sideG2 ?_ ?_ | with_reducible refine sideS ?_ ?_ | with_reducible refine sideS2 ?_ ?_ | with_reducible refine sideS3 ?_ ?_ | with_reducible refine sideA ?_ ?_ | with_reducible refine sideA2 ?_ ?_ | with_reducible refine sideA3 ?_ ?_); (first | omega | assumption | (simp; done))) | (refine awp_seq_k fun K hK => ?_) | (refine awp_regionC ?_) | (refine awp_anyA true (by kernel_rfl) (by kernel_rfl) ?_) | (refine awp_anyA false (by kernel_rfl) (by kernel_rfl) ?_) | (refine hK _ ?_; clear hK; clear K) | (clear hK; clear K; refine hK _ ?_; clear hK; clear K) | (clear hK; clear K; clear hK; clear K; refine hK _ ?_; clear hK; clear K) | refine awp_block ?_ | (refine awp_condC ?_; simp (disch := first | omega | simp) [wrap_i64, -aseqC, -anyC, ho]) | (refine awp_exit ?_; try simp (disch := first | omega | simp) [wrap_i64, -aseqC, -anyC, ho]) | (refine awp_skip ?_; try simp (disch := first | omega | simp) [wrap_i64, -aseqC, -anyC, ho]) | (refine awp_ret ?_; try simp (disch := first | omega | simp) [wrap_i64, -aseqC, -anyC, ho]))
    all_goals first | exact absurd (by assumption) ho | skip
    refine awp_nilR 3 (by simp) ?_
    refine awp_loopC hcl (fun i : Nat => [(1, .ptr n0 0), (3, .sl ((readsL a0 (l.take i)).map AV.int)), (4, .int i)]) (fun _ => [.cells [.int o, .int n, .str s, .sl (l.map Ex.av)] 25]) (fun i => i ≤ l.length) (fun i => l.length - i) 0 (Nat.zero_le _) (by rw [ha0]; simp [readsL, ho]) fun i hi => ?_
    by_cases hlt : i < l.length
    · have hpi : parts l[i] ≤ 1000000 := by rw [parts] at hp; have := partsL_mem l l[i] (List.getElem_mem hlt); omega
      have hrec := ih l[i] (List.getElem_mem hlt) hpi
      have hlen0 := hb i hi
      have hlen1 := hb (i + 1) (by omega)
      have htk : readsL a0 (l.take (i + 1)) = addAll (readsL a0 (l.take i)) (readsP l[i]) := by rw [List.take_succ_eq_append_getElem hlt, readsL_snoc]
      rw [htk] at hlen1
      have hKl : (readsP l[i]).length ≤ 1000000 := Nat.le_trans (readsP_len l[i]) hpi
      obtain ⟨A, hA⟩ : ∃ A, A = readsL a0 (l.take i) := ⟨_, rfl⟩
      obtain ⟨K1, hK1⟩ : ∃ K1, K1 = readsP l[i] := ⟨_, rfl⟩
      rw [← hA] at htk hlen0 hlen1 ⊢
      rw [← hK1] at htk hlen1 hKl hrec
      repeat' (first | ((with_reducible refine aguard (fun hg => ?_) (fun hg => ?_)) <;> (try simp only [hg]) <;> (try simp only [beq_iff_eq, beq_eq_false_iff_ne, ne_eq, decide_eq_true_eq, decide_eq_false_iff_not, bne_iff_ne, bne_eq_false_iff_eq] at hg) <;> (try (first | simp only [eq_false hg, if_true, if_false] | simp only [eq_true hg, if_true, if_false])) <;> (try simp (disch := first | omega | simp) [wrap_i64, -aseqC, -anyC, hlt])) | (with_reducible refine aseq_step ?_; try simp (disch := first | omega | simp) [wrap_i64, -aseqC, -anyC, hlt]) | (with_reducible refine any_step' ?_; try simp (disch := first | omega | simp) [wrap_i64, -aseqC, -anyC, hlt]) | (with_reducible refine aseq_end ?_; try simp (disch := first | omega | simp) [wrap_i64, -aseqC, -anyC, hlt]) | (with_reducible refine any_end' ?_; try simp (disch := first | omega | simp) [wrap_i64, -aseqC, -anyC, hlt]) | ((first | with_reducible refine sideG ?_ ?_ | with_reducible refine sideG2 ?_ ?_ | with_reducible refine sideS ?_ ?_ | with_reducible refine sideS2 ?_ ?_ | with_reducible refine sideS3 ?_ ?_ | with_reducible refine sideA ?_ ?_ | with_reducible refine sideA2 ?_ ?_ | with_reducible refine sideA3 ?_ ?_); (first | omega | assumption | (simp; done))) | (refine acall (hrec) ?_; try simp (disch := first | omega | simp) [wrap_i64, -aseqC, -anyC, hlt]) | (refine agives (hrec) ?_; try simp (disch := first | omega | simp) [wrap_i64, -aseqC, -anyC, hlt]) | (refine acallAt (hrec) ?_; try simp (disch := first | omega | simp) [wrap_i64, -aseqC, -anyC, hlt]) | (refine awp_seq_k fun K hK => ?_) | (refine awp_regionC ?_) | (refine awp_anyA true (by kernel_rfl) (by kernel_rfl) ?_) | (refine awp_anyA false (by kernel_rfl) (by kernel_rfl) ?_) | (refine hK _ ?_; clear hK; clear K) | (clear hK; clear K; refine hK _ ?_; clear hK; clear K) | (clear hK; clear K; clear hK; clear K; refine hK _ ?_; clear hK; clear K) | refine awp_block ?_ | (refine awp_condC ?_; simp (disch := first | omega | simp) [wrap_i64, -aseqC, -anyC, hlt]) | (refine awp_exit ?_; try simp (disch := first | omega | simp) [wrap_i64, -aseqC, -anyC, hlt]) | (refine awp_skip ?_; try simp (disch := first | omega | simp) [wrap_i64, -aseqC, -anyC, hlt]) | (refine awp_ret ?_; try simp (disch := first | omega | simp) [wrap_i64, -aseqC, -anyC, hlt]))
      refine awp_loopC hcl (fun j : Nat => [(1, .ptr n0 0), (3, .sl ((addAll A (K1.take j)).map AV.int)), (4, .int i), (5, .sl (K1.map AV.int)), (6, .int j)]) (fun _ => [.cells [.int o, .int n, .str s, .sl (l.map Ex.av)] 25]) (fun j => j ≤ K1.length) (fun j => K1.length - j) 0 (Nat.zero_le _) (by simp [addAll, ho]) fun j hj => ?_
      by_cases hjl : j < K1.length
      · have hwl : (addAll A (K1.take j)).length ≤ 2000000 := by
          have := addAll_len (K1.take j) A
          rw [List.length_take] at this; omega
        have hw := with_g (addAll A (K1.take j)) K1[j] hwl
        rw [← addAll_take A K1 j hjl] at hw
        repeat' (first | ((with_reducible refine aguard (fun hg => ?_) (fun hg => ?_)) <;> (try simp only [hg]) <;> (try simp only [beq_iff_eq, beq_eq_false_iff_ne, ne_eq, decide_eq_true_eq, decide_eq_false_iff_not, bne_iff_ne, bne_eq_false_iff_eq] at hg) <;> (try (first | simp only [eq_false hg, if_true, if_false] | simp only [eq_true hg, if_true, if_false])) <;> (try simp (disch := first | omega | simp) [wrap_i64, -aseqC, -anyC, hjl])) | (with_reducible refine aseq_step ?_; try simp (disch := first | omega | simp) [wrap_i64, -aseqC, -anyC, hjl]) | (with_reducible refine any_step' ?_; try simp (disch := first | omega | simp) [wrap_i64, -aseqC, -anyC, hjl]) | (with_reducible refine aseq_end ?_; try simp (disch := first | omega | simp) [wrap_i64, -aseqC, -anyC, hjl]) | (with_reducible refine any_end' ?_; try simp (disch := first | omega | simp) [wrap_i64, -aseqC, -anyC, hjl]) | ((first | with_reducible refine sideG ?_ ?_ | with_reducible refine sideG2 ?_ ?_ | with_reducible refine sideS ?_ ?_ | with_reducible refine sideS2 ?_ ?_ | with_reducible refine sideS3 ?_ ?_ | with_reducible refine sideA ?_ ?_ | with_reducible refine sideA2 ?_ ?_ | with_reducible refine sideA3 ?_ ?_); (first | omega | assumption | (simp; done))) | (refine acall (hw) ?_; try simp (disch := first | omega | simp) [wrap_i64, -aseqC, -anyC, hjl]) | (refine agives (hw) ?_; try simp (disch := first | omega | simp) [wrap_i64, -aseqC, -anyC, hjl]) | (refine acallAt (hw) ?_; try simp (disch := first | omega | simp) [wrap_i64, -aseqC, -anyC, hjl]) | (refine awp_seq_k fun K hK => ?_) | (refine awp_regionC ?_) | (refine awp_anyA true (by kernel_rfl) (by kernel_rfl) ?_) | (refine awp_anyA false (by kernel_rfl) (by kernel_rfl) ?_) | (refine hK _ ?_; clear hK; clear K) | (clear hK; clear K; refine hK _ ?_; clear hK; clear K) | (clear hK; clear K; clear hK; clear K; refine hK _ ?_; clear hK; clear K) | refine awp_block ?_ | (refine awp_condC ?_; simp (disch := first | omega | simp) [wrap_i64, -aseqC, -anyC, hjl]) | (refine awp_exit ?_; try simp (disch := first | omega | simp) [wrap_i64, -aseqC, -anyC, hjl]) | (refine awp_skip ?_; try simp (disch := first | omega | simp) [wrap_i64, -aseqC, -anyC, hjl]) | (refine awp_ret ?_; try simp (disch := first | omega | simp) [wrap_i64, -aseqC, -anyC, hjl]))
        all_goals exact ⟨j + 1, by omega, by omega, rfl, by omega⟩
      · obtain rfl : j = K1.length := by omega
        rw [List.take_length, ← htk]
        repeat' (first | ((with_reducible refine aguard (fun hg => ?_) (fun hg => ?_)) <;> (try simp only [hg]) <;> (try simp only [beq_iff_eq, beq_eq_false_iff_ne, ne_eq, decide_eq_true_eq, decide_eq_false_iff_not, bne_iff_ne, bne_eq_false_iff_eq] at hg) <;> (try (first | simp only [eq_false hg, if_true, if_false] | simp only [eq_true hg, if_true, if_false])) <;> (try simp (disch := first | omega | simp) [wrap_i64, -aseqC, -anyC, hjl])) | (with_reducible refine aseq_step ?_; try simp (disch := first | omega | simp) [wrap_i64, -aseqC, -anyC, hjl]) | (with_reducible refine any_step' ?_; try simp (disch := first | omega | simp) [wrap_i64, -aseqC, -anyC, hjl]) | (with_reducible refine aseq_end ?_; try simp (disch := first | omega | simp) [wrap_i64, -aseqC, -anyC, hjl]) | (with_reducible refine any_end' ?_; try simp (disch := first | omega | simp) [wrap_i64, -aseqC, -anyC, hjl]) | ((first | with_reducible refine sideG ?_ ?_ | with_reducible refine sideG2 ?_ ?_ | with_reducible refine sideS ?_ ?_ | with_reducible refine sideS2 ?_ ?_ | with_reducible refine sideS3 ?_ ?_ | with_reducible refine sideA ?_ ?_ | with_reducible refine sideA2 ?_ ?_ | with_reducible refine sideA3 ?_ ?_); (first | omega | assumption | (simp; done))) | (refine awp_seq_k fun K hK => ?_) | (refine awp_regionC ?_) | (refine awp_anyA true (by kernel_rfl) (by kernel_rfl) ?_) | (refine awp_anyA false (by kernel_rfl) (by kernel_rfl) ?_) | (refine hK _ ?_; clear hK; clear K) | (clear hK; clear K; refine hK _ ?_; clear hK; clear K) | (clear hK; clear K; clear hK; clear K; refine hK _ ?_; clear hK; clear K) | refine awp_block ?_ | (refine awp_condC ?_; simp (disch := first | omega | simp) [wrap_i64, -aseqC, -anyC, hjl]) | (refine awp_exit ?_; try simp (disch := first | omega | simp) [wrap_i64, -aseqC, -anyC, hjl]) | (refine awp_skip ?_; try simp (disch := first | omega | simp) [wrap_i64, -aseqC, -anyC, hjl]) | (refine awp_ret ?_; try simp (disch := first | omega | simp) [wrap_i64, -aseqC, -anyC, hjl]))
        all_goals exact ⟨i + 1, by omega, by omega, rfl, by omega⟩
    · obtain rfl : i = l.length := by omega
      have hin : readsL a0 (l.take l.length) = R := by rw [List.take_length, hR]
      rw [hin]
      repeat' (first | ((with_reducible refine aguard (fun hg => ?_) (fun hg => ?_)) <;> (try simp only [hg]) <;> (try simp only [beq_iff_eq, beq_eq_false_iff_ne, ne_eq, decide_eq_true_eq, decide_eq_false_iff_not, bne_iff_ne, bne_eq_false_iff_eq] at hg) <;> (try (first | simp only [eq_false hg, if_true, if_false] | simp only [eq_true hg, if_true, if_false])) <;> (try simp (disch := first | omega | simp) [wrap_i64, -aseqC, -anyC, hlt])) | (with_reducible refine aseq_step ?_; try simp (disch := first | omega | simp) [wrap_i64, -aseqC, -anyC, hlt]) | (with_reducible refine any_step' ?_; try simp (disch := first | omega | simp) [wrap_i64, -aseqC, -anyC, hlt]) | (with_reducible refine aseq_end ?_; try simp (disch := first | omega | simp) [wrap_i64, -aseqC, -anyC, hlt]) | (with_reducible refine any_end' ?_; try simp (disch := first | omega | simp) [wrap_i64, -aseqC, -anyC, hlt]) | ((first | with_reducible refine sideG ?_ ?_ | with_reducible refine sideG2 ?_ ?_ | with_reducible refine sideS ?_ ?_ | with_reducible refine sideS2 ?_ ?_ | with_reducible refine sideS3 ?_ ?_ | with_reducible refine sideA ?_ ?_ | with_reducible refine sideA2 ?_ ?_ | with_reducible refine sideA3 ?_ ?_); (first | omega | assumption | (simp; done))) | (refine awp_seq_k fun K hK => ?_) | (refine awp_regionC ?_) | (refine awp_anyA true (by kernel_rfl) (by kernel_rfl) ?_) | (refine awp_anyA false (by kernel_rfl) (by kernel_rfl) ?_) | (refine hK _ ?_; clear hK; clear K) | (clear hK; clear K; refine hK _ ?_; clear hK; clear K) | (clear hK; clear K; clear hK; clear K; refine hK _ ?_; clear hK; clear K) | refine awp_block ?_ | (refine awp_condC ?_; simp (disch := first | omega | simp) [wrap_i64, -aseqC, -anyC, hlt]) | (refine awp_exit ?_; try simp (disch := first | omega | simp) [wrap_i64, -aseqC, -anyC, hlt]) | (refine awp_skip ?_; try simp (disch := first | omega | simp) [wrap_i64, -aseqC, -anyC, hlt]) | (refine awp_ret ?_; try simp (disch := first | omega | simp) [wrap_i64, -aseqC, -anyC, hlt]))
end Go.Proofs.Ytmhelkhmgbbfhaa

/- append to an empty slice of the call's own, as a slice that the call may write. -/
namespace Go.Proofs.Ytmhelkhmgbbfhaa
open Go.RowKit Go.Lib
variable {P : Program} {s : AS}

/-- an empty slice that will be written -/
theorem con_thaw {X0 X : St} {a : Act} {w : World} (hc : Con X0 s a w X) {r : Nat} {et : TypeId} {sz : Nat} (hσ : s.st r = .tail 0 et sz) :
    ∃ X', X'.w = X.w ∧ Con X0 ((s.set r .dead).ext (some (.vec [] et sz))) a w X' ∧ Fr X X' ∧ ∀ v, RC X (.gs r []) [v] → RC X' (.own s.nx 0) [v] := by
  have hX : X.σ r = .tail 0 et sz := by rw [hc.σ, hσ]
  have hlt : r < s.nx := Nat.lt_of_not_le fun h => by have := s.fin r h; rw [hσ] at this; cases this
  have hun : X.σ s.nx = .unborn := by rw [hc.σ]; exact s.fin _ (Nat.le_refl _)
  have hrn : r ≠ s.nx := by omega
  have hB := hc.sr.block r
  rw [hX] at hB
  obtain ⟨xs, hown⟩ := hB.2 rfl
  have hxs : xs = [] := List.eq_nil_of_length_eq_zero (by rw [hown.1]; simp)
  subst hxs
  have hbr : X.blk r = (X.μ r).ownBlock := by unfold St.blk; rw [hX]; rfl
  let X' : St := { X with μ := upd X.μ s.nx (X.μ r), σ := upd (upd X.σ r .dead) s.nx (.vec [] et sz) }
  have hσ1 : X'.σ s.nx = .vec [] et sz := by simp [X', upd]
  have hσ2 : X'.σ r = .dead := by simp [X', upd, hrn]
  have hσ3 : ∀ k, k ≠ r → k ≠ s.nx → X'.σ k = X.σ k ∧ X'.μ k = X.μ k := fun k h1 h2 => by simp [X', upd, h1, h2]
  have hμ1 : X'.μ s.nx = X.μ r := by simp [X', upd]
  have hb : ∀ k b, X'.blk k = some b → (k = s.nx ∧ X.blk r = some b) ∨ (k ≠ r ∧ k ≠ s.nx ∧ X.blk k = some b) := fun k b h => by
    unfold St.blk at h
    by_cases h1 : k = s.nx
    · subst h1
      rw [hσ1, hμ1] at h
      exact .inl ⟨rfl, hbr.trans h⟩
    · by_cases h2 : k = r
      · subst h2; rw [hσ2] at h; cases h
      · obtain ⟨e1, e2⟩ := hσ3 k h2 h1
        rw [e1, e2] at h
        exact .inr ⟨h2, h1, h⟩
  have hF : Fr X X' := ⟨rfl, rfl, rfl, Nat.le_refl _, fun _ _ _ => rfl, fun _ _ _ => rfl, fun _ _ h => h, fun b o h => .inl h, fun k => by
    unfold Ver
    by_cases h1 : k = s.nx
    · subst h1; rw [hun]; trivial
    · by_cases h2 : k = r
      · subst h2; rw [hX]; exact .inl hσ2
      · obtain ⟨e1, e2⟩ := hσ3 k h2 h1
        have := (Fr.refl X).ver k
        unfold Ver at this
        rw [e1, e2]; exact this, fun k b h => by
    rcases hb k b h with ⟨-, h⟩ | ⟨-, -, h⟩
    · exact .inr ⟨r, h⟩
    · exact .inr ⟨k, h⟩⟩
  refine ⟨X', rfl, ⟨hc.w, ?_, ⟨fun k => ?_, fun k k' b h1 h2 => ?_, fun k b o h1 h2 => ?_, fun b o h => hc.sr.old b o h, hc.sr.glob.mono fun _ _ _ h => h.fr hF⟩, hc.fr.trans hF, ?_, fun d => ?_, hc.defers, ?_⟩, hF, fun v hv => ?_⟩
  · rw [(ext_st _ _).1, AS.set_st _ _ _ hlt, ← hc.σ]
    have : (s.set r .dead).nx = s.nx := by
      unfold AS.set AS.nx; split <;> simp
    rw [this]
  · by_cases h1 : k = s.nx
    · subst h1; rw [hσ1, hμ1]; exact ⟨fun x hx => by simp at hx, [], hown, by rw [RCs]⟩
    · by_cases h2 : k = r
      · subst h2; rw [hσ2]; trivial
      · obtain ⟨e1, e2⟩ := hσ3 k h2 h1
        exact BR.fr hc.sr hF e1 e2 fun _ _ => rfl
  · rcases hb k b h1 with ⟨rfl, h3⟩ | ⟨h3, h4, h5⟩ <;> rcases hb k' b h2 with ⟨rfl, h6⟩ | ⟨h6, h7, h8⟩
    · rfl
    · exact absurd (hc.sr.alone _ _ b h8 h3) h6
    · exact absurd (hc.sr.alone _ _ b h5 h6) h3
    · exact hc.sr.alone _ _ b h5 h8
  · rcases hb k b h1 with ⟨rfl, h3⟩ | ⟨h3, h4, h5⟩
    · obtain ⟨_, e, s2, h6, h7⟩ := hc.sr.apart r b o h3 h2
      rw [hX] at h6; cases h6
      omega
    · obtain ⟨n2, e, s2, h6, h7⟩ := hc.sr.apart k b o h5 h2
      exact ⟨n2, e, s2, by rw [(hσ3 k h3 h4).1]; exact h6, h7⟩
  · have := (s.set_nx r .dead).1
    show _ = (s.set r .dead).n
    rw [this]; exact hc.size
  · have := (s.set_nx r .dead).2.2
    show RR X' ((s.set r .dead).t d) _
    rw [this]; exact (hc.regs d).fr hF
  · have := (s.set_nx r .dead).2.1
    show Fin _ (s.set r .dead).n0
    rw [this]; exact hc.fin
  · rw [RC] at hv
    obtain ⟨A, cap, b, off, hv1, -, -, -, -, -, hall⟩ := hv
    show RC X' (.own s.nx 0) [v]
    rw [RC]
    have hv2 : v = .slice A 0 cap := by simpa using hv1
    subst hv2
    refine ⟨by rw [hσ1]; simp, _, rfl, rfl, fun l e2 s2 h => ?_⟩
    rw [hσ1] at h; cases h
    exact ⟨Nat.le_refl _, fun _ => by rw [hμ1]; exact (hall _ _ _ hX).2 rfl⟩

theorem own_core {t : TypeId} {x y : Operand} {r n : Nat} {l ys : List AV} {e : TypeId} {sz by_ : Nat} {yv : AV} {K : AV → AS → Prop} {X0 X : St} {a : Act} {oper : Oper} (ho : oper.op = .call { callee := .builtin .append, args := #[x, y], argTypes := #[t, t] }) (hc : Con X0 s a X.w X)
    (ht : vinfo P t = some (e, sz, by_)) (hx : RC X (.own r n) [a.eval x]) (hn : n = l.length) (hσ : s.st r = .vec l e sz) (hy : RR X yv (a.eval y)) (hyl : yv.list = some ys) (hne : 0 < ys.length)
    (hw : ∀ z ∈ ys, z.width = sz) (h1 : ∀ z ∈ ys, z.elem = true) (hb : (l.length + ys.length) * by_ ≤ 140737488355328) (hK : K (.own r (l.length + ys.length)) (s.set r (.vec (l ++ ys) e sz))) (Q : Exit → Act → World → Prop) :
    oper.wp P a X.w (fun a' w' => ∃ v x s1 X', a' = a.put oper.dst v ∧ K x s1 ∧ Con X0 s1 a w' X' ∧ RR X' x v) Q := by
  subst hn
  rw [RC] at hx
  obtain ⟨-, v0, hv0, -, hall⟩ := hx
  have hX : X.σ r = .vec l e sz := by rw [hc.σ, hσ]
  have hvm : a.eval x = X.μ r := by
    have := (hall _ _ _ hX).2 rfl
    rw [← this]; simpa using hv0
  obtain ⟨A, cap, b, off, hyv', hc1, hc2, hA, hm⟩ := RR.list hyl hy
  obtain rfl := hA hne
  obtain ⟨news, hr2, hcell⟩ := hm.row
  have hB := hc.sr.block r
  rw [hX] at hB
  obtain ⟨hwd, xs, hown, hrs⟩ := hB
  obtain ⟨hu1, i, z, hi, hz, hsz, hby, hzs, hsz0, hby0, -⟩ := vinfo_spec ht
  have hlen : l.length + ys.length ≤ 140737488355328 := Nat.le_trans (Nat.le_mul_of_pos_right _ hby0) hb
  have hnl := RCs.len hr2 hw
  have hnc : ∀ j u, news[j]? = some u → X.w.cell? ((⟨b, off, none⟩ : Addr).add j) = some u := fun j u hj => by rw [addr_add]; exact hcell.at.get j u hj
  have h63 : l.length + ys.length ≤ maxLen := by unfold maxLen; omega
  subst hsz
  subst hby
  obtain ⟨v2, w2, hrun, hown2, hg, h3, h4⟩ := run_append_own_at (P := P) X.w 0 t oper.type e i z i.size i.bytes hu1 hi hz rfl rfl hzs hsz0 (X.μ r) l.length xs hown ⟨b, off, none⟩ ys.length cap news hnl hnc (RCs.oneCell hr2 h1) h63 hb (Nat.zero_le _)
  have hblk : X.blk r = (X.μ r).ownBlock := by unfold St.blk; rw [hX]; rfl
  have hno : ∀ b2 o, X.blk r = some b2 → ¬ X.S b2 o := fun b2 o h5 h6 => by
    obtain ⟨n2, e2, s2, h7, h8⟩ := hc.sr.apart r b2 o h5 h6
    rw [hX] at h7; cases h7
  have hT : Turns X w2 X.S r (.vec (l ++ ys) e i.size) v2 := by
    refine ⟨by rw [hblk]; exact hg, fun b2 h => ?_, ?_, fun b2 o h5 h6 => absurd h6 (hno b2 o h5), fun _ _ h => h, fun b2 o h => .inl h, fun b2 o h5 h6 => ?_, fun b2 h => (hown2.lt b2 h).2⟩
    · change v2.ownBlock = some b2 at h
      rcases h4 with h4 | h4
      · left; rw [hblk, ← h4, h]
      · right; rw [h4] at h; cases h; exact Nat.le_refl _
    · unfold Ver
      rw [hX]
      exact .inr ⟨l ++ ys, by simp [St.turn, upd], .inl (by simp; omega)⟩
    · exfalso
      change v2.ownBlock = some b2 at h5
      rcases h4 with h4 | h4
      · exact hno b2 o (by rw [hblk, ← h4]; exact h5) h6
      · rw [h4] at h5; cases h5
        exact absurd (hc.sr.old _ o h6) (Nat.lt_irrefl _)
  have hF := turn_fr hc.sr hT
  refine wp_value (w' := w2) (v := v2) (by simp [execOp, ho, resolve, invoke, builtin, hvm, hyv', hrun])
    ⟨v2, .own r (l.length + ys.length), _, _, rfl, hK, con_turn (v := v2) hc (by rw [hσ]; simp) hT ⟨fun x hx => ?_, xs ++ news, by rw [List.length_append]; exact hown2, ?_⟩, ?_⟩
  · rcases List.mem_append.1 hx with hx | hx
    · exact hwd x hx
    · exact hw x hx
  · exact RCs.fr hF _ _ (hrs.append hr2)
  · show RC _ (.own r _) [_]
    rw [RC]
    refine ⟨by simp [St.turn, upd], v2, rfl, ?_, fun l2 e2 s2 h => ?_⟩
    · rcases hown2.2 with ⟨h5, -⟩ | ⟨g, cap2, cur, h5, -⟩ <;> rw [h5] <;> rfl
    · simp [St.turn, upd] at h
      obtain ⟨rfl, rfl, rfl⟩ := h
      exact ⟨by simp, fun _ => by simp [St.turn, upd]⟩

theorem eop_appendV {t : TypeId} {x y : Operand} {r : Nat} {ys : List AV} {e : TypeId} {sz by_ : Nat} {K : AV → AS → Prop} (ht : vinfo P t = some (e, sz, by_)) (hx : s.eval x = .gs r []) (hσ : s.st r = .tail 0 e sz) (hyl : (s.eval y).list = some ys) (hne : 0 < ys.length)
    (hw : ∀ z ∈ ys, z.width = sz) (h1 : ∀ z ∈ ys, z.elem = true) (hb : ys.length * by_ ≤ 140737488355328) (hK : K (.own s.nx ys.length) ((s.set r .dead).ext (some (.vec ys e sz)))) :
    EOp P s (.call { callee := .builtin .append, args := #[x, y], argTypes := #[t, t] }) K := by
  intro X0 a w X oper ho hc Q
  have hw0 := hc.w
  subst hw0
  obtain ⟨X', hXw, hc', hF, hR⟩ := con_thaw hc hσ
  have hx2 := hc.eval x
  rw [hx] at hx2
  have hx3 := hR _ hx2
  rw [← hXw]
  rw [← hXw] at hc'
  have hnx : (s.set r .dead).nx = s.nx := by
    unfold AS.set AS.nx; split <;> simp
  refine own_core (s := (s.set r .dead).ext (some (.vec [] e sz))) (l := []) ho hc' ht hx3 rfl ?_ ((hc.eval y).fr hF) hyl hne hw h1 (by simpa using hb) ?_ Q
  · rw [(ext_st _ _).1, hnx]; simp [upd]
  · have : ((s.set r .dead).ext (some (.vec [] e sz))).set s.nx (.vec ([] ++ ys) e sz) = (s.set r .dead).ext (some (.vec ys e sz)) := by
      rw [← hnx]
      unfold AS.set AS.ext AS.nx
      dsimp only
      split <;> (dsimp only; rw [if_neg (by omega), Nat.add_sub_cancel_left]; simp)
    rw [this]; simpa using hK

/-- the operations up to one of them, then the rest -/
theorem aseqC_cut {ops : Array Oper} {K K' : AS → Prop} {l2 : List Oper} (hk : ∀ s, K' s → aseq P ops K l2 s) : ∀ {l1 : List Oper} {s : AS}, aseqC P ops K' l1 s → aseq P ops K (l1 ++ l2) s
  | [], s, h => hk s h
  | o :: l, s, h => by
    rw [aseqC] at h
    rw [List.cons_append, aseq]
    split at h
    · rename_i b hb
      cases b with
      | true => exact ⟨true, hb, (aev_sound (h.1 rfl)).mono fun x s1 ⟨h1, h2⟩ => ⟨h1, aseqC_cut hk h2⟩⟩
      | false => exact ⟨false, hb, (h.2 rfl).1, aseqC_cut hk (h.2 rfl).2⟩
    · exact h.elim
/-- an append to an empty slice, that gives a slice which the call may write -/
def ownApp (P : Program) (ops : Array Oper) (s : AS) (o : Oper) (K : AS → Prop) : Prop :=
  match o.op with
  | .call { callee := .builtin .append, args := ⟨[x, y]⟩, argTypes := ⟨[t, t']⟩ } => t' = t ∧ awant ops o s.t = some true ∧ (match vinfo P t with
    | some (e, sz, by_) => match s.eval x, (s.eval y).list with
      | .gs r [], some ys => s.st r = .tail 0 e sz ∧ 0 < ys.length ∧ AV.wid ys sz ∧ AV.elms ys ∧ ys.length * by_ ≤ 140737488355328 ∧ dstOk o.dst ((s.set r .dead).ext (some (.vec ys e sz))).n ∧ K (((s.set r .dead).ext (some (.vec ys e sz))).put o.dst (.own s.nx ys.length))
      | _, _ => False
    | none => False)
  | _ => False
theorem ownApp_sound {ops : Array Oper} {K K' : AS → Prop} {o : Oper} {l : List Oper} (hk : ∀ s, K' s → aseq P ops K l s) (h : ownApp P ops s o K') : aseq P ops K (o :: l) s := by
  unfold ownApp at h
  rw [aseq]
  split at h
  · rename_i x y t t' hop
    obtain ⟨rfl, hwt, h⟩ := h
    refine ⟨true, hwt, ?_⟩
    show EOp P s o.op _
    rw [hop]
    split at h
    · split at h
      · obtain ⟨h1, h2, h3, h4, h5, h6, h7⟩ := h
        exact eop_appendV ‹_› ‹_› h1 ‹_› h2 h3 h4 h5 ⟨h6, hk _ h7⟩
      · exact h.elim
    · exact h.elim
  · exact h.elim
theorem awp_regionV {id : Nat} {l : List Oper} {Q : Exit → AS → Prop} (k : Nat) {o : Oper} (ho : l[k]? = some o) (h : aseqC P l.toArray (fun s => ownApp P l.toArray s o fun s => aseqC P l.toArray (Q .normal) (l.drop (k + 1)) s) (l.take k) s) : awp P (.region id l.toArray false) Q s := by
  refine awp_region ?_
  have h1 : l = l.take k ++ o :: l.drop (k + 1) := by
    have hk := (List.getElem?_eq_some_iff.1 ho)
    obtain ⟨hk, he⟩ := hk
    rw [← he, ← List.drop_eq_getElem_cons hk, List.take_append_drop]
  have h2 : aseq P l.toArray (Q .normal) (l.take k ++ o :: l.drop (k + 1)) s := aseqC_cut (fun s' hs => ownApp_sound (fun s'' h => aseqC_sound h) hs) h
  rw [← h1] at h2; exact h2
/-- a region of four operations, the third an append to an empty slice that will be written -/
theorem awp_regionV4 {id : Nat} {o0 o1 o2 o3 : Oper} {args : Array Operand} {tys : Array TypeId} {Q : Exit → AS → Prop} (_hop : o2.op = .call { callee := .builtin .append, args := args, argTypes := tys })
    (h : aseqC P #[o0, o1, o2, o3] (fun s => ownApp P #[o0, o1, o2, o3] s o2 fun s => aseqC P #[o0, o1, o2, o3] (Q .normal) [o3] s) [o0, o1] s) : awp P (.region id #[o0, o1, o2, o3] false) Q s :=
  awp_regionV (l := [o0, o1, o2, o3]) 2 rfl h
attribute [simp] ownApp
end Go.Proofs.Ytmhelkhmgbbfhaa
