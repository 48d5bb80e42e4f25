/- Walks: of, Right and Type of the reference; the same as contracts of the first kind. -/
import Derived.Test.YtnkimlkoijfcpaaGreatDoorGf12
import Derived.Test.YtnkimlkoijfcpaaGreatDoorGf14
import Derived.Test.YtnkimlkoijfcpaaGreatDoorGf15
import Derived.Test.YtnkimlkoijfcpaaGreatDoorGf16
set_option linter.unusedSimpArgs false
set_option linter.unusedVariables false
namespace Go.Proofs.YtnkimlkoijfcpaaGreatDoor
open Go.RowKit Go.Lib
theorem rof_g (F : List Fn) (c p : List Int) (e : Ex) (hp : parts e ≤ 1000000) : Gives Tryz.prog 117 [.sl (F.map Fn.av), .sl (c.map AV.int), .sl (p.map AV.int), e.av] (.tup [.int ((tyD F c p e).getD 0), .bool (tyD F c p e).isSome]) := by
  have hlv := qda e
  have c1 := rlevels_g' e (by omega)
  have c2 := inner_g F c p e hp
  by_cases h : levels e > 12
  · have e1 : tyD F c p e = none := by unfold tyD; rw [if_pos h]
    rw [e1]
    clear c2
    generalize levels e = L at *
    have h' : 12 < L := h
    refine qn Tryz.func117 Tryz.ntmps117 rfl rfl (by decide) rfl (by intro n; simp) fun σ n0 hcl hft => ?_
    repeat' (first | ((first | ((with_reducible refine qo (fun hg => ?_) (fun hg => ?_)) <;> (try simp only [hg]) <;> (try simp only [gS] at hg) <;> (try (first | simp only [eq_false hg, gI] | simp only [eq_true hg, gI]))) | (with_reducible first | refine qg ?_ | refine qf ?_ | refine ql ?_ | refine qk ?_) | refine acall (c1) ?_ | refine qp (c1) ?_ | refine qd ?_ | refine qi ?_ | refine qj ?_ | refine qm ?_) <;> (try simp (disch := first | omega | simp) [qh, -qq, -qs, h'])) | ((with_reducible refine sideT ?_ ?_); first | omega | assumption | (simp; done)) | (refine qe fun K hK => ?_) | (refine qa ?_) | (refine qb true (by kernel_rfl) (by kernel_rfl) ?_) | (refine hK _ ?_; clear hK K) | (clear hK K; refine hK _ ?_; clear hK K) | (clear hK K; clear hK K; refine hK _ ?_; clear hK K) | refine qc ?_)
    all_goals (exfalso; omega)
  · have e1 : tyD F c p e = ty F c p e := by unfold tyD; rw [if_neg h]
    rw [e1]
    have hx := inner_eq F c p e
    have h' : ¬ 12 < levels e := h
    generalize levels e = L at *
    generalize innerX F c p e = X at *
    cases ht : ty F c p e with
    | none =>
      rw [ht] at c2
      simp at c2
      clear hx
      refine qn Tryz.func117 Tryz.ntmps117 rfl rfl (by decide) rfl (by intro n; simp) fun σ n0 hcl hft => ?_
      repeat' (first | ((first | ((with_reducible refine qo (fun hg => ?_) (fun hg => ?_)) <;> (try simp only [hg]) <;> (try simp only [gS] at hg) <;> (try (first | simp only [eq_false hg, gI] | simp only [eq_true hg, gI]))) | (with_reducible first | refine qg ?_ | refine qf ?_ | refine ql ?_ | refine qk ?_) | refine acall (c1) ?_ | refine qp (c1) ?_ | refine acall (c2) ?_ | refine qp (c2) ?_ | refine qd ?_ | refine qi ?_ | refine qj ?_ | refine qm ?_) <;> (try simp (disch := first | omega | simp) [qh, -qq, -qs, h'])) | ((with_reducible refine sideT ?_ ?_); first | omega | assumption | (simp; done)) | (refine qe fun K hK => ?_) | (refine qa ?_) | (refine qb true (by kernel_rfl) (by kernel_rfl) ?_) | (refine hK _ ?_; clear hK K) | (clear hK K; refine hK _ ?_; clear hK K) | (clear hK K; clear hK K; refine hK _ ?_; clear hK K) | refine qc ?_)
      all_goals (exfalso; omega)
    | some t =>
      rw [ht] at c2 hx
      rw [hx t rfl] at c2
      simp at c2
      clear hx
      refine qn Tryz.func117 Tryz.ntmps117 rfl rfl (by decide) rfl (by intro n; simp) fun σ n0 hcl hft => ?_
      repeat' (first | ((first | ((with_reducible refine qo (fun hg => ?_) (fun hg => ?_)) <;> (try simp only [hg]) <;> (try simp only [gS] at hg) <;> (try (first | simp only [eq_false hg, gI] | simp only [eq_true hg, gI]))) | (with_reducible first | refine qg ?_ | refine qf ?_ | refine ql ?_ | refine qk ?_) | refine acall (c1) ?_ | refine qp (c1) ?_ | refine acall (c2) ?_ | refine qp (c2) ?_ | refine qd ?_ | refine qi ?_ | refine qj ?_ | refine qm ?_) <;> (try simp (disch := first | omega | simp) [qh, -qq, -qs, h'])) | ((with_reducible refine sideT ?_ ?_); first | omega | assumption | (simp; done)) | (refine qe fun K hK => ?_) | (refine qa ?_) | (refine qb true (by kernel_rfl) (by kernel_rfl) ?_) | (refine hK _ ?_; clear hK K) | (clear hK K; refine hK _ ?_; clear hK K) | (clear hK K; clear hK K; refine hK _ ?_; clear hK K) | refine qc ?_)
      all_goals (exfalso; omega)
theorem fns_fits {F : List Fn} (h : AV.fitss [.sl (F.map Fn.av)]) : ∀ f ∈ F, f.params.length ≤ 9223372036854775807 := fun f hf => by
  have h1 := (AV.fitss_iff.1 h) _ (List.mem_singleton_self _)
  rw [AV.fits] at h1
  have h2 := (AV.fitss_iff.1 h1.2) f.av (List.mem_map_of_mem hf)
  unfold Fn.av at h2
  rw [AV.fits] at h2
  have h3 := (AV.fitss_iff.1 h2) (.sl (f.params.map AV.int)) (by simp)
  rw [AV.fits] at h3
  simpa using h3.1
set_option maxHeartbeats 8000000 in
theorem rright_g (F : List Fn) (hp : ∀ f ∈ F, parts f.body ≤ 1000000) : Gives Tryz.prog 74 [.sl (F.map Fn.av)] (.bool (qch F)) := by
  obtain ⟨B, hB⟩ : ∃ B, B = qch F := ⟨_, rfl⟩
  rw [← hB]
  refine qn Tryz.func74 Tryz.ntmps74 rfl rfl (by decide) rfl (by intro n; simp) fun σ n0 hcl hft => ?_
  repeat' (first | ((first | ((with_reducible refine qo (fun hg => ?_) (fun hg => ?_)) <;> (try simp only [hg]) <;> (try simp only [gS] at hg) <;> (try (first | simp only [eq_false hg, gI] | simp only [eq_true hg, gI]))) | (with_reducible first | refine qg ?_ | refine qf ?_ | refine ql ?_ | refine qk ?_) | refine qd ?_ | refine qi ?_ | refine qj ?_ | refine qm ?_) <;> (try simp (disch := first | omega | simp) [qh, -qq, -qs])) | ((with_reducible refine sideT ?_ ?_); first | omega | assumption | (simp; done)) | (refine qe fun K hK => ?_) | (refine qa ?_) | (refine qb true (by kernel_rfl) (by kernel_rfl) ?_) | (refine hK _ ?_; clear hK K) | (clear hK K; refine hK _ ?_; clear hK K) | (clear hK K; clear hK K; refine hK _ ?_; clear hK K) | refine qc ?_)
  refine qt hcl (fun i : Nat => [(0, .sl (F.map Fn.av)), (3, .int i)]) (fun _ => []) (fun i => i ≤ F.length ∧ i ≤ 21 ∧ ∀ j, j < i → j < F.length → okF F j = true) (fun i => F.length - i) 0 ⟨by omega, by omega, fun j h => by omega⟩ (by simp) fun i ⟨hi, hi2, he⟩ => ?_
  by_cases hlt : i < F.length
  rotate_left
  · have hBe : B = decide ((F.length : Int) ≤ 20) := by rw [hB]; exact rightF_end fun j hj => he j (by omega) hj
    subst hBe
    repeat' (first | ((first | ((with_reducible refine qo (fun hg => ?_) (fun hg => ?_)) <;> (try simp only [hg]) <;> (try simp only [gS] at hg) <;> (try (first | simp only [eq_false hg, gI] | simp only [eq_true hg, gI]))) | (with_reducible first | refine qg ?_ | refine qf ?_ | refine ql ?_ | refine qk ?_) | refine qd ?_ | refine qi ?_ | refine qj ?_ | refine qm ?_) <;> (try simp (disch := first | omega | simp) [qh, -qq, -qs, hlt])) | ((with_reducible refine sideT ?_ ?_); first | omega | assumption | (simp; done)) | (refine qe fun K hK => ?_) | (refine qa ?_) | (refine qb true (by kernel_rfl) (by kernel_rfl) ?_) | (refine hK _ ?_; clear hK K) | (clear hK K; refine hK _ ?_; clear hK K) | (clear hK K; clear hK K; refine hK _ ?_; clear hK K) | refine qc ?_)
  by_cases h20 : i ≤ 20
  rotate_left
  · have hBe : B = false := by
      rw [hB]; unfold qch
      have : ¬ (F.length : Int) ≤ 20 := by omega
      simp [this]
    subst hBe
    have h20b : ¬ (i : Int) ≤ 20 := by omega
    have h21 : ¬ F.length ≤ 20 := by omega
    repeat' (first | ((first | ((with_reducible refine qo (fun hg => ?_) (fun hg => ?_)) <;> (try simp only [hg]) <;> (try simp only [gS] at hg) <;> (try (first | simp only [eq_false hg, gI] | simp only [eq_true hg, gI]))) | (with_reducible first | refine qg ?_ | refine qf ?_ | refine ql ?_ | refine qk ?_) | refine qd ?_ | refine qi ?_ | refine qj ?_ | refine qm ?_) <;> (try simp (disch := first | omega | simp) [qh, -qq, -qs, hlt, h20, h20b, h21])) | ((with_reducible refine sideT ?_ ?_); first | omega | assumption | (simp; done)) | (refine qe fun K hK => ?_) | (refine qa ?_) | (refine qb true (by kernel_rfl) (by kernel_rfl) ?_) | (refine hK _ ?_; clear hK K) | (clear hK K; refine hK _ ?_; clear hK K) | (clear hK K; clear hK K; refine hK _ ?_; clear hK K) | refine qc ?_)
    all_goals omega
  have hpk := hp F[i] (List.getElem_mem hlt)
  obtain ⟨f, hf⟩ : ∃ f, f = F[i] := ⟨_, rfl⟩
  rw [← hf] at hpk
  have hok := okF_at hlt
  rw [← hf] at hok
  have hil : ¬ F.length < i := by omega
  have c1 := rof_g (F.take i) [] f.params f.body hpk
  rw [List.map_take] at c1
  have h20c : (i : Int) ≤ 20 := by omega
  repeat' (first | ((first | ((with_reducible refine qo (fun hg => ?_) (fun hg => ?_)) <;> (try simp only [hg]) <;> (try simp only [gS] at hg) <;> (try (first | simp only [eq_false hg, gI] | simp only [eq_true hg, gI]))) | (with_reducible first | refine qg ?_ | refine qf ?_ | refine ql ?_ | refine qk ?_) | refine qd ?_ | refine qi ?_ | refine qj ?_ | refine qm ?_) <;> (try simp (disch := first | omega | simp) [qh, -qq, -qs, hlt, h20, h20c, ← hf])) | ((with_reducible refine sideT ?_ ?_); first | omega | assumption | (simp; done)) | (refine qe fun K hK => ?_) | (refine qa ?_) | (refine qb true (by kernel_rfl) (by kernel_rfl) ?_) | (refine hK _ ?_; clear hK K) | (clear hK K; refine hK _ ?_; clear hK K) | (clear hK K; clear hK K; refine hK _ ?_; clear hK K) | refine qc ?_)
  all_goals first | (exfalso; omega; done) | skip
  refine qt hcl (fun k : Nat => [(0, .sl (F.map Fn.av)), (3, .int i), (4, .ptr n0 0), (5, .int k)]) (fun _ => [.cells f.av.cells 80]) (fun k => k ≤ f.params.length ∧ ∀ j (h : j < f.params.length), j < k → kindB f.params[j] = true) (fun k => f.params.length - k) 0 ⟨by omega, fun j h hj => by omega⟩ (by simp) fun k ⟨hk, hks⟩ => ?_
  by_cases hkl : k < f.params.length
  · have c2 := rkind_g f.params[k]
    cases hkb : kindB f.params[k] with
    | false =>
      rw [hkb] at c2
      have : B = false := by
        rw [hB]
        refine rightF_false hlt ?_
        rw [hok]
        have : f.params.all kindB = false := by
          rw [List.all_eq_false]
          exact ⟨f.params[k], List.getElem_mem hkl, by rw [hkb]; simp⟩
        rw [this]; simp
      subst this
      repeat' (first | ((first | ((with_reducible refine qo (fun hg => ?_) (fun hg => ?_)) <;> (try simp only [hg]) <;> (try simp only [gS] at hg) <;> (try (first | simp only [eq_false hg, gI] | simp only [eq_true hg, gI]))) | (with_reducible first | refine qg ?_ | refine qf ?_ | refine ql ?_ | refine qk ?_) | refine acall (c2) ?_ | refine qp (c2) ?_ | refine qd ?_ | refine qi ?_ | refine qj ?_ | refine qm ?_) <;> (try simp (disch := first | omega | simp) [qh, -qq, -qs, hkl])) | ((with_reducible refine sideT ?_ ?_); first | omega | assumption | (simp; done)) | (refine qe fun K hK => ?_) | (refine qa ?_) | (refine qb true (by kernel_rfl) (by kernel_rfl) ?_) | (refine hK _ ?_; clear hK K) | (clear hK K; refine hK _ ?_; clear hK K) | (clear hK K; clear hK K; refine hK _ ?_; clear hK K) | refine qc ?_)
    | true =>
      rw [hkb] at c2
      have hfl : f.params.length ≤ 9223372036854775807 := by rw [hf]; exact fns_fits hft _ (List.getElem_mem hlt)
      repeat' (first | ((first | ((with_reducible refine qo (fun hg => ?_) (fun hg => ?_)) <;> (try simp only [hg]) <;> (try simp only [gS] at hg) <;> (try (first | simp only [eq_false hg, gI] | simp only [eq_true hg, gI]))) | (with_reducible first | refine qg ?_ | refine qf ?_ | refine ql ?_ | refine qk ?_) | refine acall (c2) ?_ | refine qp (c2) ?_ | refine qd ?_ | refine qi ?_ | refine qj ?_ | refine qm ?_) <;> (try simp (disch := first | omega | simp) [qh, -qq, -qs, hkl])) | ((with_reducible refine sideT ?_ ?_); first | omega | assumption | (simp; done)) | (refine qe fun K hK => ?_) | (refine qa ?_) | (refine qb true (by kernel_rfl) (by kernel_rfl) ?_) | (refine hK _ ?_; clear hK K) | (clear hK K; refine hK _ ?_; clear hK K) | (clear hK K; clear hK K; refine hK _ ?_; clear hK K) | refine qc ?_)
      all_goals
        refine ⟨k + 1, ⟨by omega, fun j h hj => ?_⟩, by omega, by simp⟩
        by_cases hjk : j < k
        · exact hks j h hjk
        · obtain rfl : j = k := by omega
          exact hkb
  · have hall : f.params.all kindB = true := by
      rw [List.all_eq_true]
      intro x hx
      obtain ⟨j, h1, rfl⟩ := List.getElem_of_mem hx
      exact hks j h1 (by omega)
    rw [hall, Bool.true_and] at hok
    have hb : okF F i = false → B = false := fun h => by rw [hB]; exact rightF_false hlt h
    cases ht : tyD (F.take i) [] f.params f.body with
    | none =>
      rw [ht] at c1 hok
      have : B = false := hb (by rw [hok]; simp)
      subst this
      simp at c1
      repeat' (first | ((first | ((with_reducible refine qo (fun hg => ?_) (fun hg => ?_)) <;> (try simp only [hg]) <;> (try simp only [gS] at hg) <;> (try (first | simp only [eq_false hg, gI] | simp only [eq_true hg, gI]))) | (with_reducible first | refine qg ?_ | refine qf ?_ | refine ql ?_ | refine qk ?_) | refine acall (c1) ?_ | refine qp (c1) ?_ | refine qd ?_ | refine qi ?_ | refine qj ?_ | refine qm ?_) <;> (try simp (disch := first | omega | simp) [qh, -qq, -qs, hkl, hlt, hil])) | ((with_reducible refine sideT ?_ ?_); first | omega | assumption | (simp; done)) | (refine qe fun K hK => ?_) | (refine qa ?_) | (refine qb true (by kernel_rfl) (by kernel_rfl) ?_) | (refine hK _ ?_; clear hK K) | (clear hK K; refine hK _ ?_; clear hK K) | (clear hK K; clear hK K; refine hK _ ?_; clear hK K) | refine qc ?_)
    | some t =>
      rw [ht] at c1 hok
      simp at c1
      by_cases htr : t = f.res
      rotate_left
      · have : B = false := hb (by rw [hok]; simp [htr])
        subst this
        have htb : (t == f.res) = false := by simp [htr]
        repeat' (first | ((first | ((with_reducible refine qo (fun hg => ?_) (fun hg => ?_)) <;> (try simp only [hg]) <;> (try simp only [gS] at hg) <;> (try (first | simp only [eq_false hg, gI] | simp only [eq_true hg, gI]))) | (with_reducible first | refine qg ?_ | refine qf ?_ | refine ql ?_ | refine qk ?_) | refine acall (c1) ?_ | refine qp (c1) ?_ | refine qd ?_ | refine qi ?_ | refine qj ?_ | refine qm ?_) <;> (try simp (disch := first | omega | simp) [qh, -qq, -qs, hkl, hlt, hil, htr, htb])) | ((with_reducible refine sideT ?_ ?_); first | omega | assumption | (simp; done)) | (refine qe fun K hK => ?_) | (refine qa ?_) | (refine qb true (by kernel_rfl) (by kernel_rfl) ?_) | (refine hK _ ?_; clear hK K) | (clear hK K; refine hK _ ?_; clear hK K) | (clear hK K; clear hK K; refine hK _ ?_; clear hK K) | refine qc ?_)
        all_goals (exfalso; omega)
      by_cases hl6 : (f.params.length : Int) ≤ 6
      · have hoki : okF F i = true := by rw [hok]; simp [htr, hl6]
        have hl6' : ¬ 6 < f.params.length := by omega
        have hl6b : ¬ (6 : Int) < f.params.length := by omega
        repeat' (first | ((first | ((with_reducible refine qo (fun hg => ?_) (fun hg => ?_)) <;> (try simp only [hg]) <;> (try simp only [gS] at hg) <;> (try (first | simp only [eq_false hg, gI] | simp only [eq_true hg, gI]))) | (with_reducible first | refine qg ?_ | refine qf ?_ | refine ql ?_ | refine qk ?_) | refine acall (c1) ?_ | refine qp (c1) ?_ | refine qd ?_ | refine qi ?_ | refine qj ?_ | refine qm ?_) <;> (try simp (disch := first | omega | simp) [qh, -qq, -qs, hkl, hlt, hil, htr, hl6', hl6b])) | ((with_reducible refine sideT ?_ ?_); first | omega | assumption | (simp; done)) | (refine qe fun K hK => ?_) | (refine qa ?_) | (refine qb true (by kernel_rfl) (by kernel_rfl) ?_) | (refine hK _ ?_; clear hK K) | (clear hK K; refine hK _ ?_; clear hK K) | (clear hK K; clear hK K; refine hK _ ?_; clear hK K) | refine qc ?_)
        all_goals
          refine ⟨i + 1, ⟨by omega, by omega, fun j hj hjl => ?_⟩, by omega, by simp⟩
          by_cases hji : j < i
          · exact he j hji hjl
          · obtain rfl : j = i := by omega
            exact hoki
      · have : B = false := hb (by rw [hok]; simp [hl6])
        subst this
        have hl6' : 6 < f.params.length := by omega
        have hl6b : (6 : Int) < f.params.length := by omega
        repeat' (first | ((first | ((with_reducible refine qo (fun hg => ?_) (fun hg => ?_)) <;> (try simp only [hg]) <;> (try simp only [gS] at hg) <;> (try (first | simp only [eq_false hg, gI] | simp only [eq_true hg, gI]))) | (with_reducible first | refine qg ?_ | refine qf ?_ | refine ql ?_ | refine qk ?_) | refine acall (c1) ?_ | refine qp (c1) ?_ | refine qd ?_ | refine qi ?_ | refine qj ?_ | refine qm ?_) <;> (try simp (disch := first | omega | simp) [qh, -qq, -qs, hkl, hlt, hil, htr, hl6', hl6b])) | ((with_reducible refine sideT ?_ ?_); first | omega | assumption | (simp; done)) | (refine qe fun K hK => ?_) | (refine qa ?_) | (refine qb true (by kernel_rfl) (by kernel_rfl) ?_) | (refine hK _ ?_; clear hK K) | (clear hK K; refine hK _ ?_; clear hK K) | (clear hK K; clear hK K; refine hK _ ?_; clear hK K) | refine qc ?_)
theorem rtype_g (F : List Fn) (c p : List Int) (e : Ex) (hbd : parts e ≤ 1000000) (hpF : ∀ f ∈ F, parts f.body ≤ 1000000) :
    Gives Tryz.prog 61 [.sl (F.map Fn.av), .sl (c.map AV.int), .sl (p.map AV.int), e.av] (.tup [.int ((typeP F c p e).getD 0), .bool (typeP F c p e).isSome]) := by
  have c1 := rright_g F hpF
  have c2 := rof_g F c p e hbd
  unfold typeP
  cases h : qch F with
  | false =>
    rw [h] at c1
    refine qn Tryz.func61 Tryz.ntmps61 rfl rfl (by decide) rfl (by intro n; simp) fun σ n0 hcl hft => ?_
    repeat' (first | ((first | ((with_reducible refine qo (fun hg => ?_) (fun hg => ?_)) <;> (try simp only [hg]) <;> (try simp only [gS] at hg) <;> (try (first | simp only [eq_false hg, gI] | simp only [eq_true hg, gI]))) | (with_reducible first | refine qg ?_ | refine qf ?_ | refine ql ?_ | refine qk ?_) | refine acall (c1) ?_ | refine qp (c1) ?_ | refine qd ?_ | refine qi ?_ | refine qj ?_ | refine qm ?_) <;> (try simp (disch := first | omega | simp) [qh, -qq, -qs])) | ((with_reducible refine sideT ?_ ?_); first | omega | assumption | (simp; done)) | (refine qe fun K hK => ?_) | (refine qa ?_) | (refine qb true (by kernel_rfl) (by kernel_rfl) ?_) | (refine hK _ ?_; clear hK K) | (clear hK K; refine hK _ ?_; clear hK K) | (clear hK K; clear hK K; refine hK _ ?_; clear hK K) | refine qc ?_)
  | true =>
    rw [h] at c1
    simp only [if_true]
    generalize tyD F c p e = T at *
    refine qn Tryz.func61 Tryz.ntmps61 rfl rfl (by decide) rfl (by intro n; simp) fun σ n0 hcl hft => ?_
    repeat' (first | ((first | ((with_reducible refine qo (fun hg => ?_) (fun hg => ?_)) <;> (try simp only [hg]) <;> (try simp only [gS] at hg) <;> (try (first | simp only [eq_false hg, gI] | simp only [eq_true hg, gI]))) | (with_reducible first | refine qg ?_ | refine qf ?_ | refine ql ?_ | refine qk ?_) | refine acall (c1) ?_ | refine qp (c1) ?_ | refine acall (c2) ?_ | refine qp (c2) ?_ | refine qd ?_ | refine qi ?_ | refine qj ?_ | refine qm ?_) <;> (try simp (disch := first | omega | simp) [qh, -qq, -qs])) | ((with_reducible refine sideT ?_ ?_); first | omega | assumption | (simp; done)) | (refine qe fun K hK => ?_) | (refine qa ?_) | (refine qb true (by kernel_rfl) (by kernel_rfl) ?_) | (refine hK _ ?_; clear hK K) | (clear hK K; refine hK _ ?_; clear hK K) | (clear hK K; clear hK K; refine hK _ ?_; clear hK K) | refine qc ?_)
end Go.Proofs.YtnkimlkoijfcpaaGreatDoor

/- Walks: bounds of a map node of one expression, and whether it is right, of the reference of chapter 21. -/
namespace Go.Proofs.YtnkimlkoijfcpaaGreatDoor
open Go.RowKit Go.Lib
def nodeA (e : Ex) : AV := .agg [.int 2, .sl [], .str ByteArray.empty, .int 0, .sl [e.av], .int 0, .int 0, .int 0, .sl [], .sl [], .int 0, .int 0, .int 0, .sl [], .sl [], .sl []]
theorem within_g (n a b : Int) : Gives Tryz.prog 128 [.int n, .int a, .int b] (.bool (decide (a ≤ n) && decide (n ≤ b))) := by
  by_cases h : a ≤ n
  · refine qn Tryz.func128 Tryz.ntmps128 rfl rfl (by decide) rfl (by intro n; simp) fun σ n0 hcl hft => ?_
    repeat' (first | ((first | ((with_reducible refine qo (fun hg => ?_) (fun hg => ?_)) <;> (try simp only [hg]) <;> (try simp only [gS] at hg) <;> (try (first | simp only [eq_false hg, gI] | simp only [eq_true hg, gI]))) | (with_reducible first | refine qg ?_ | refine qf ?_ | refine ql ?_ | refine qk ?_) | refine qd ?_ | refine qi ?_ | refine qj ?_ | refine qm ?_) <;> (try simp (disch := first | omega | simp) [qh, -qq, -qs, h])) | ((with_reducible refine sideT ?_ ?_); first | omega | assumption | (simp; done)) | (refine qe fun K hK => ?_) | (refine qa ?_) | (refine qb true (by kernel_rfl) (by kernel_rfl) ?_) | (refine qb false (by kernel_rfl) (by kernel_rfl) ?_) | (refine hK _ ?_; clear hK K) | (clear hK K; refine hK _ ?_; clear hK K) | (clear hK K; clear hK K; refine hK _ ?_; clear hK K) | refine qc ?_)
  · refine qn Tryz.func128 Tryz.ntmps128 rfl rfl (by decide) rfl (by intro n; simp) fun σ n0 hcl hft => ?_
    repeat' (first | ((first | ((with_reducible refine qo (fun hg => ?_) (fun hg => ?_)) <;> (try simp only [hg]) <;> (try simp only [gS] at hg) <;> (try (first | simp only [eq_false hg, gI] | simp only [eq_true hg, gI]))) | (with_reducible first | refine qg ?_ | refine qf ?_ | refine ql ?_ | refine qk ?_) | refine qd ?_ | refine qi ?_ | refine qj ?_ | refine qm ?_) <;> (try simp (disch := first | omega | simp) [qh, -qq, -qs, h])) | ((with_reducible refine sideT ?_ ?_); first | omega | assumption | (simp; done)) | (refine qe fun K hK => ?_) | (refine qa ?_) | (refine qb true (by kernel_rfl) (by kernel_rfl) ?_) | (refine qb false (by kernel_rfl) (by kernel_rfl) ?_) | (refine hK _ ?_; clear hK K) | (clear hK K; refine hK _ ?_; clear hK K) | (clear hK K; clear hK K; refine hK _ ?_; clear hK K) | refine qc ?_)
theorem bounded_g (e : Ex) : Gives Tryz.prog 75 [nodeA e] (.bool true) := by
  have c := within_g 2 0 8
  unfold nodeA
  refine qn Tryz.func75 Tryz.ntmps75 rfl rfl (by decide) rfl (by intro n; simp) fun σ n0 hcl hft => ?_
  repeat' (first | ((first | ((with_reducible refine qo (fun hg => ?_) (fun hg => ?_)) <;> (try simp only [hg]) <;> (try simp only [gS] at hg) <;> (try (first | simp only [eq_false hg, gI] | simp only [eq_true hg, gI]))) | (with_reducible first | refine qg ?_ | refine qf ?_ | refine ql ?_ | refine qk ?_) | refine acall (c) ?_ | refine qp (c) ?_ | refine qr (c) ?_ | refine qd ?_ | refine qi ?_ | refine qj ?_ | refine qm ?_) <;> (try simp (disch := first | omega | simp) [qh, -qq, -qs])) | ((with_reducible refine sideT ?_ ?_); first | omega | assumption | (simp; done)) | (refine qe fun K hK => ?_) | (refine qa ?_) | (refine qb true (by kernel_rfl) (by kernel_rfl) ?_) | (refine qb false (by kernel_rfl) (by kernel_rfl) ?_) | (refine hK _ ?_; clear hK K) | (clear hK K; refine hK _ ?_; clear hK K) | (clear hK K; clear hK K; refine hK _ ?_; clear hK K) | refine qc ?_)
theorem inputs_g (e : Ex) : Gives Tryz.prog 76 [nodeA e] (.int 1) := by
  unfold nodeA
  refine qn Tryz.func76 Tryz.ntmps76 rfl rfl (by decide) rfl (by intro n; simp) fun σ n0 hcl hft => ?_
  repeat' (first | ((first | ((with_reducible refine qo (fun hg => ?_) (fun hg => ?_)) <;> (try simp only [hg]) <;> (try simp only [gS] at hg) <;> (try (first | simp only [eq_false hg, gI] | simp only [eq_true hg, gI]))) | (with_reducible first | refine qg ?_ | refine qf ?_ | refine ql ?_ | refine qk ?_) | refine qd ?_ | refine qi ?_ | refine qj ?_ | refine qm ?_) <;> (try simp (disch := first | omega | simp) [qh, -qq, -qs])) | ((with_reducible refine sideT ?_ ?_); first | omega | assumption | (simp; done)) | (refine qe fun K hK => ?_) | (refine qa ?_) | (refine qb true (by kernel_rfl) (by kernel_rfl) ?_) | (refine qb false (by kernel_rfl) (by kernel_rfl) ?_) | (refine hK _ ?_; clear hK K) | (clear hK K; refine hK _ ?_; clear hK K) | (clear hK K; clear hK K; refine hK _ ?_; clear hK K) | refine qc ?_)
def small21 (F : List Fn) (e : Ex) : Bool := decide (F.length ≤ 5) && (F.all fun f => decide (parts f.body ≤ 100) && decide (f.params.length ≤ 10)) && decide (parts e ≤ 200) && decide (levels e ≤ 12) && decide (stepsP F e ≤ 1000)
set_option maxHeartbeats 8000000 in
theorem rsmall21_g (F : List Fn) (e : Ex) (he : parts e ≤ 1000000) (hF : ∀ f ∈ F, parts f.body ≤ 1000000) (hlF : F.length ≤ 1000000) : Gives Tryz.prog 30 [.sl (F.map Fn.av), nodeA e] (.bool (small21 F e)) := by
  have c2 := rparts_g e he
  have c3 := rlevels_g' e (by have := qda e; omega)
  have c4 := rsteps_g F e he hF hlF
  obtain ⟨R, hR⟩ : ∃ R, R = small21 F e := ⟨_, rfl⟩
  rw [← hR]
  unfold nodeA
  refine qn Tryz.func30 Tryz.ntmps30 rfl rfl (by decide) rfl (by intro n; simp) fun σ n0 hcl hft => ?_
  repeat' (first | ((first | ((with_reducible refine qo (fun hg => ?_) (fun hg => ?_)) <;> (try simp only [hg]) <;> (try simp only [gS] at hg) <;> (try (first | simp only [eq_false hg, gI] | simp only [eq_true hg, gI]))) | (with_reducible first | refine qg ?_ | refine qf ?_ | refine ql ?_ | refine qk ?_) | refine qd ?_ | refine qi ?_ | refine qj ?_ | refine qm ?_) <;> (try simp (disch := first | omega | simp) [qh, -qq, -qs])) | ((with_reducible refine sideT ?_ ?_); first | omega | assumption | (simp; done)) | (refine qe fun K hK => ?_) | (refine qa ?_) | (refine qb true (by kernel_rfl) (by kernel_rfl) ?_) | (refine qb false (by kernel_rfl) (by kernel_rfl) ?_) | (refine hK _ ?_; clear hK K) | (clear hK K; refine hK _ ?_; clear hK K) | (clear hK K; clear hK K; refine hK _ ?_; clear hK K) | refine qc ?_)
  refine qt hcl (fun i : Nat => [(0, .sl (F.map Fn.av)), (3, .ptr n0 0), (5, .int i)]) (fun _ => [.cells [.int 2, .sl [], .str ByteArray.empty, .int 0, .sl [e.av], .int 0, .int 0, .int 0, .sl [], .sl [], .int 0, .int 0, .int 0, .sl [], .sl [], .sl []] 64])
    (fun i => i ≤ F.length ∧ i ≤ 6 ∧ ∀ j (h : j < F.length), j < i → parts F[j].body ≤ 100 ∧ F[j].params.length ≤ 10) (fun i => F.length - i) 0 ⟨by omega, by omega, fun j h hj => by omega⟩ (by simp) fun i ⟨hi, hi6, hks⟩ => ?_
  by_cases hlt : i < F.length
  · by_cases h6 : i < 6
    · have h6b : (i : Int) < 6 := by omega
      have hpk := hF F[i] (List.getElem_mem hlt)
      have c1 := rparts_g F[i].body hpk
      have hbad : ¬ (parts F[i].body ≤ 100 ∧ F[i].params.length ≤ 10) → R = false := fun hb => by
        rw [hR]; unfold small21
        have : (F.all fun f => decide (parts f.body ≤ 100) && decide (f.params.length ≤ 10)) = false := by
          rw [List.all_eq_false]
          exact ⟨F[i], List.getElem_mem hlt, by simpa using hb⟩
        rw [this]; simp
      obtain ⟨f, hf⟩ : ∃ f, f = F[i] := ⟨_, rfl⟩
      have hfi : parts f.body ≤ 100 → f.params.length ≤ 10 → ∀ j (h : j < F.length), j < i + 1 → parts F[j].body ≤ 100 ∧ F[j].params.length ≤ 10 := fun q1 q2 j h hj => by
        by_cases hji : j < i
        · exact hks j h hji
        · obtain rfl : j = i := by omega
          rw [← hf]; exact ⟨q1, q2⟩
      rw [← hf] at c1 hbad
      by_cases h1 : parts f.body ≤ 100
      · have h1b : ¬ (100 : Int) < parts f.body := by omega
        by_cases h2 : f.params.length ≤ 10
        · have h2b : ¬ (10 : Int) < f.params.length := by omega
          repeat' (first | ((first | ((with_reducible refine qo (fun hg => ?_) (fun hg => ?_)) <;> (try simp only [hg]) <;> (try simp only [gS] at hg) <;> (try (first | simp only [eq_false hg, gI] | simp only [eq_true hg, gI]))) | (with_reducible first | refine qg ?_ | refine qf ?_ | refine ql ?_ | refine qk ?_) | refine acall (c1) ?_ | refine qp (c1) ?_ | refine qr (c1) ?_ | refine qd ?_ | refine qi ?_ | refine qj ?_ | refine qm ?_) <;> (try simp (disch := first | omega | simp) [qh, -qq, -qs, hlt, h6b, h1b, h2b, ← hf])) | ((with_reducible refine sideT ?_ ?_); first | omega | assumption | (simp; done)) | (refine qe fun K hK => ?_) | (refine qa ?_) | (refine qb true (by kernel_rfl) (by kernel_rfl) ?_) | (refine qb false (by kernel_rfl) (by kernel_rfl) ?_) | (refine hK _ ?_; clear hK K) | (clear hK K; refine hK _ ?_; clear hK K) | (clear hK K; clear hK K; refine hK _ ?_; clear hK K) | refine qc ?_)
          all_goals exact ⟨i + 1, ⟨by omega, by omega, hfi h1 h2⟩, by omega, by simp⟩
        · have h2b : (10 : Int) < f.params.length := by omega
          have := hbad fun h => h2 h.2
          repeat' (first | ((first | ((with_reducible refine qo (fun hg => ?_) (fun hg => ?_)) <;> (try simp only [hg]) <;> (try simp only [gS] at hg) <;> (try (first | simp only [eq_false hg, gI] | simp only [eq_true hg, gI]))) | (with_reducible first | refine qg ?_ | refine qf ?_ | refine ql ?_ | refine qk ?_) | refine acall (c1) ?_ | refine qp (c1) ?_ | refine qr (c1) ?_ | refine qd ?_ | refine qi ?_ | refine qj ?_ | refine qm ?_) <;> (try simp (disch := first | omega | simp) [qh, -qq, -qs, hlt, h6b, h1b, h2b, this, ← hf])) | ((with_reducible refine sideT ?_ ?_); first | omega | assumption | (simp; done)) | (refine qe fun K hK => ?_) | (refine qa ?_) | (refine qb true (by kernel_rfl) (by kernel_rfl) ?_) | (refine qb false (by kernel_rfl) (by kernel_rfl) ?_) | (refine hK _ ?_; clear hK K) | (clear hK K; refine hK _ ?_; clear hK K) | (clear hK K; clear hK K; refine hK _ ?_; clear hK K) | refine qc ?_)
      · have h1b : (100 : Int) < parts f.body := by omega
        have := hbad fun h => h1 h.1
        repeat' (first | ((first | ((with_reducible refine qo (fun hg => ?_) (fun hg => ?_)) <;> (try simp only [hg]) <;> (try simp only [gS] at hg) <;> (try (first | simp only [eq_false hg, gI] | simp only [eq_true hg, gI]))) | (with_reducible first | refine qg ?_ | refine qf ?_ | refine ql ?_ | refine qk ?_) | refine acall (c1) ?_ | refine qp (c1) ?_ | refine qr (c1) ?_ | refine qd ?_ | refine qi ?_ | refine qj ?_ | refine qm ?_) <;> (try simp (disch := first | omega | simp) [qh, -qq, -qs, hlt, h6b, h1b, this, ← hf])) | ((with_reducible refine sideT ?_ ?_); first | omega | assumption | (simp; done)) | (refine qe fun K hK => ?_) | (refine qa ?_) | (refine qb true (by kernel_rfl) (by kernel_rfl) ?_) | (refine qb false (by kernel_rfl) (by kernel_rfl) ?_) | (refine hK _ ?_; clear hK K) | (clear hK K; refine hK _ ?_; clear hK K) | (clear hK K; clear hK K; refine hK _ ?_; clear hK K) | refine qc ?_)
    · have h6b : ¬ (i : Int) < 6 := by omega
      have : R = false := by
        rw [hR]; unfold small21
        rw [decide_eq_false (by omega)]; simp
      subst this
      have h5 : ¬ F.length ≤ 5 := by omega
      clear hR hks
      repeat' (first | ((first | ((with_reducible refine qo (fun hg => ?_) (fun hg => ?_)) <;> (try simp only [hg]) <;> (try simp only [gS] at hg) <;> (try (first | simp only [eq_false hg, gI] | simp only [eq_true hg, gI]))) | (with_reducible first | refine qg ?_ | refine qf ?_ | refine ql ?_ | refine qk ?_) | refine qd ?_ | refine qi ?_ | refine qj ?_ | refine qm ?_) <;> (try simp (disch := first | omega | simp) [qh, -qq, -qs, hlt, h6b])) | ((with_reducible refine sideT ?_ ?_); first | omega | assumption | (simp; done)) | (refine qe fun K hK => ?_) | (refine qa ?_) | (refine qb true (by kernel_rfl) (by kernel_rfl) ?_) | (refine qb false (by kernel_rfl) (by kernel_rfl) ?_) | (refine hK _ ?_; clear hK K) | (clear hK K; refine hK _ ?_; clear hK K) | (clear hK K; clear hK K; refine hK _ ?_; clear hK K) | refine qc ?_)
      refine qt hcl (fun i : Nat => [(0, .sl (F.map Fn.av)), (3, .ptr n0 0), (6, .int i)]) (fun _ => [.cells [.int 2, .sl [], .str ByteArray.empty, .int 0, .sl [e.av], .int 0, .int 0, .int 0, .sl [], .sl [], .int 0, .int 0, .int 0, .sl [], .sl [], .sl []] 64])
        (fun i => i ≤ 1) (fun i => 1 - i) 0 (by omega) (by simp) fun k hk => ?_
      match k, hk with
      | 0, _ =>
        repeat' (first | ((first | ((with_reducible refine qo (fun hg => ?_) (fun hg => ?_)) <;> (try simp only [hg]) <;> (try simp only [gS] at hg) <;> (try (first | simp only [eq_false hg, gI] | simp only [eq_true hg, gI]))) | (with_reducible first | refine qg ?_ | refine qf ?_ | refine ql ?_ | refine qk ?_) | refine acall (c2) ?_ | refine qp (c2) ?_ | refine qr (c2) ?_ | refine acall (c3) ?_ | refine qp (c3) ?_ | refine qr (c3) ?_ | refine acall (c4) ?_ | refine qp (c4) ?_ | refine qr (c4) ?_ | refine qd ?_ | refine qi ?_ | refine qj ?_ | refine qm ?_) <;> (try simp (disch := first | omega | simp) [qh, -qq, -qs])) | ((with_reducible refine sideT ?_ ?_); first | omega | assumption | (simp; done)) | (refine qe fun K hK => ?_) | (refine qa ?_) | (refine qb true (by kernel_rfl) (by kernel_rfl) ?_) | (refine qb false (by kernel_rfl) (by kernel_rfl) ?_) | (refine hK _ ?_; clear hK K) | (clear hK K; refine hK _ ?_; clear hK K) | (clear hK K; clear hK K; refine hK _ ?_; clear hK K) | refine qc ?_)
        all_goals exact ⟨1, by omega, by omega, by simp⟩
      | 1, _ =>
        repeat' (first | ((first | ((with_reducible refine qo (fun hg => ?_) (fun hg => ?_)) <;> (try simp only [hg]) <;> (try simp only [gS] at hg) <;> (try (first | simp only [eq_false hg, gI] | simp only [eq_true hg, gI]))) | (with_reducible first | refine qg ?_ | refine qf ?_ | refine ql ?_ | refine qk ?_) | refine qd ?_ | refine qi ?_ | refine qj ?_ | refine qm ?_) <;> (try simp (disch := first | omega | simp) [qh, -qq, -qs])) | ((with_reducible refine sideT ?_ ?_); first | omega | assumption | (simp; done)) | (refine qe fun K hK => ?_) | (refine qa ?_) | (refine qb true (by kernel_rfl) (by kernel_rfl) ?_) | (refine qb false (by kernel_rfl) (by kernel_rfl) ?_) | (refine hK _ ?_; clear hK K) | (clear hK K; refine hK _ ?_; clear hK K) | (clear hK K; clear hK K; refine hK _ ?_; clear hK K) | refine qc ?_)
        refine qt hcl (fun i : Nat => [(0, .sl (F.map Fn.av)), (3, .ptr n0 0), (7, .int i)]) (fun _ => [.cells [.int 2, .sl [], .str ByteArray.empty, .int 0, .sl [e.av], .int 0, .int 0, .int 0, .sl [], .sl [], .int 0, .int 0, .int 0, .sl [], .sl [], .sl []] 64])
          (fun i => i = 0) (fun i => 1 - i) 0 rfl (by simp) fun k hk => ?_
        subst hk
        repeat' (first | ((first | ((with_reducible refine qo (fun hg => ?_) (fun hg => ?_)) <;> (try simp only [hg]) <;> (try simp only [gS] at hg) <;> (try (first | simp only [eq_false hg, gI] | simp only [eq_true hg, gI]))) | (with_reducible first | refine qg ?_ | refine qf ?_ | refine ql ?_ | refine qk ?_) | refine qd ?_ | refine qi ?_ | refine qj ?_ | refine qm ?_) <;> (try simp (disch := first | omega | simp) [qh, -qq, -qs, h5])) | ((with_reducible refine sideT ?_ ?_); first | omega | assumption | (simp; done)) | (refine qe fun K hK => ?_) | (refine qa ?_) | (refine qb true (by kernel_rfl) (by kernel_rfl) ?_) | (refine qb false (by kernel_rfl) (by kernel_rfl) ?_) | (refine hK _ ?_; clear hK K) | (clear hK K; refine hK _ ?_; clear hK K) | (clear hK K; clear hK K; refine hK _ ?_; clear hK K) | refine qc ?_)
        all_goals (exfalso; omega)
  · obtain rfl : i = F.length := by omega
    have hRe : R = (decide (F.length ≤ 5) && decide (parts e ≤ 200) && decide (levels e ≤ 12) && decide (stepsP F e ≤ 1000)) := by
      rw [hR]; unfold small21
      have : (F.all fun f => decide (parts f.body ≤ 100) && decide (f.params.length ≤ 10)) = true := by
        rw [List.all_eq_true]
        intro f hf
        obtain ⟨j, h1, rfl⟩ := List.getElem_of_mem hf
        obtain ⟨q1, q2⟩ := hks j h1 h1
        simp [q1, q2]
      rw [this]; simp
    clear hR hks
    repeat' (first | ((first | ((with_reducible refine qo (fun hg => ?_) (fun hg => ?_)) <;> (try simp only [hg]) <;> (try simp only [gS] at hg) <;> (try (first | simp only [eq_false hg, gI] | simp only [eq_true hg, gI]))) | (with_reducible first | refine qg ?_ | refine qf ?_ | refine ql ?_ | refine qk ?_) | refine qd ?_ | refine qi ?_ | refine qj ?_ | refine qm ?_) <;> (try simp (disch := first | omega | simp) [qh, -qq, -qs, hlt])) | ((with_reducible refine sideT ?_ ?_); first | omega | assumption | (simp; done)) | (refine qe fun K hK => ?_) | (refine qa ?_) | (refine qb true (by kernel_rfl) (by kernel_rfl) ?_) | (refine qb false (by kernel_rfl) (by kernel_rfl) ?_) | (refine hK _ ?_; clear hK K) | (clear hK K; refine hK _ ?_; clear hK K) | (clear hK K; clear hK K; refine hK _ ?_; clear hK K) | refine qc ?_)
    refine qt hcl (fun i : Nat => [(0, .sl (F.map Fn.av)), (3, .ptr n0 0), (6, .int i)]) (fun _ => [.cells [.int 2, .sl [], .str ByteArray.empty, .int 0, .sl [e.av], .int 0, .int 0, .int 0, .sl [], .sl [], .int 0, .int 0, .int 0, .sl [], .sl [], .sl []] 64])
      (fun i => i ≤ 1 ∧ (i = 1 → parts e ≤ 200 ∧ levels e ≤ 12 ∧ stepsP F e ≤ 1000)) (fun i => 1 - i) 0 ⟨by omega, by omega⟩ (by simp) fun k ⟨hk, hq⟩ => ?_
    match k, hk, hq with
    | 0, _, _ =>
      generalize levels e = LV at *
      generalize stepsP F e = SP at *
      generalize parts e = PE at *
      repeat' (first | ((first | ((with_reducible refine qo (fun hg => ?_) (fun hg => ?_)) <;> (try simp only [hg]) <;> (try simp only [gS] at hg) <;> (try (first | simp only [eq_false hg, gI] | simp only [eq_true hg, gI]))) | (with_reducible first | refine qg ?_ | refine qf ?_ | refine ql ?_ | refine qk ?_) | refine acall (c2) ?_ | refine qp (c2) ?_ | refine qr (c2) ?_ | refine acall (c3) ?_ | refine qp (c3) ?_ | refine qr (c3) ?_ | refine acall (c4) ?_ | refine qp (c4) ?_ | refine qr (c4) ?_ | refine qd ?_ | refine qi ?_ | refine qj ?_ | refine qm ?_) <;> (try simp (disch := first | omega | simp) [qh, -qq, -qs])) | ((with_reducible refine sideT ?_ ?_); first | omega | assumption | (simp; done)) | (refine qe fun K hK => ?_) | (refine qa ?_) | (refine qb true (by kernel_rfl) (by kernel_rfl) ?_) | (refine qb false (by kernel_rfl) (by kernel_rfl) ?_) | (refine hK _ ?_; clear hK K) | (clear hK K; refine hK _ ?_; clear hK K) | (clear hK K; clear hK K; refine hK _ ?_; clear hK K) | refine qc ?_)
      all_goals first
        | exact ⟨1, ⟨by omega, fun _ => by omega⟩, by omega, by simp⟩
        | (rw [hRe]; simp only [Bool.and_eq_false_iff, decide_eq_false_iff_not]; omega)
    | 1, _, hq =>
      obtain ⟨q1, q2, q3⟩ := hq rfl
      have hRe2 : R = decide (F.length ≤ 5) := by rw [hRe]; simp [q1, q2, q3]
      clear hRe
      subst hRe2
      repeat' (first | ((first | ((with_reducible refine qo (fun hg => ?_) (fun hg => ?_)) <;> (try simp only [hg]) <;> (try simp only [gS] at hg) <;> (try (first | simp only [eq_false hg, gI] | simp only [eq_true hg, gI]))) | (with_reducible first | refine qg ?_ | refine qf ?_ | refine ql ?_ | refine qk ?_) | refine qd ?_ | refine qi ?_ | refine qj ?_ | refine qm ?_) <;> (try simp (disch := first | omega | simp) [qh, -qq, -qs])) | ((with_reducible refine sideT ?_ ?_); first | omega | assumption | (simp; done)) | (refine qe fun K hK => ?_) | (refine qa ?_) | (refine qb true (by kernel_rfl) (by kernel_rfl) ?_) | (refine qb false (by kernel_rfl) (by kernel_rfl) ?_) | (refine hK _ ?_; clear hK K) | (clear hK K; refine hK _ ?_; clear hK K) | (clear hK K; clear hK K; refine hK _ ?_; clear hK K) | refine qc ?_)
      refine qt hcl (fun i : Nat => [(0, .sl (F.map Fn.av)), (3, .ptr n0 0), (7, .int i)]) (fun _ => [.cells [.int 2, .sl [], .str ByteArray.empty, .int 0, .sl [e.av], .int 0, .int 0, .int 0, .sl [], .sl [], .int 0, .int 0, .int 0, .sl [], .sl [], .sl []] 64])
        (fun i => i = 0) (fun i => 1 - i) 0 rfl (by simp) fun k hk => ?_
      subst hk
      by_cases h5 : F.length ≤ 5
      · have h5b : (F.length : Int) ≤ 5 := by omega
        repeat' (first | ((first | ((with_reducible refine qo (fun hg => ?_) (fun hg => ?_)) <;> (try simp only [hg]) <;> (try simp only [gS] at hg) <;> (try (first | simp only [eq_false hg, gI] | simp only [eq_true hg, gI]))) | (with_reducible first | refine qg ?_ | refine qf ?_ | refine ql ?_ | refine qk ?_) | refine qd ?_ | refine qi ?_ | refine qj ?_ | refine qm ?_) <;> (try simp (disch := first | omega | simp) [qh, -qq, -qs, h5, h5b])) | ((with_reducible refine sideT ?_ ?_); first | omega | assumption | (simp; done)) | (refine qe fun K hK => ?_) | (refine qa ?_) | (refine qb true (by kernel_rfl) (by kernel_rfl) ?_) | (refine qb false (by kernel_rfl) (by kernel_rfl) ?_) | (refine hK _ ?_; clear hK K) | (clear hK K; refine hK _ ?_; clear hK K) | (clear hK K; clear hK K; refine hK _ ?_; clear hK K) | refine qc ?_)
      · have h5b : ¬ (F.length : Int) ≤ 5 := by omega
        repeat' (first | ((first | ((with_reducible refine qo (fun hg => ?_) (fun hg => ?_)) <;> (try simp only [hg]) <;> (try simp only [gS] at hg) <;> (try (first | simp only [eq_false hg, gI] | simp only [eq_true hg, gI]))) | (with_reducible first | refine qg ?_ | refine qf ?_ | refine ql ?_ | refine qk ?_) | refine qd ?_ | refine qi ?_ | refine qj ?_ | refine qm ?_) <;> (try simp (disch := first | omega | simp) [qh, -qq, -qs, h5, h5b])) | ((with_reducible refine sideT ?_ ?_); first | omega | assumption | (simp; done)) | (refine qe fun K hK => ?_) | (refine qa ?_) | (refine qb true (by kernel_rfl) (by kernel_rfl) ?_) | (refine qb false (by kernel_rfl) (by kernel_rfl) ?_) | (refine hK _ ?_; clear hK K) | (clear hK K; refine hK _ ?_; clear hK K) | (clear hK K; clear hK K; refine hK _ ?_; clear hK K) | refine qc ?_)
set_option maxHeartbeats 8000000 in
theorem rright21_g (F : List Fn) (e : Ex) (cols : List Int) (he : parts e ≤ 1000000) (hF : ∀ f ∈ F, parts f.body ≤ 1000000) :
    Gives Tryz.prog 31 [.sl (F.map Fn.av), nodeA e, .sl [.sl (cols.map AV.int)]] (.bool (qch F && (decide (0 < cols.length) && decide (cols.length ≤ 12)) && (typeP F cols [] e).isSome)) := by
  have c1 := rright_g F hF
  have c2 := bounded_g e
  have c3 := inputs_g e
  have c4 := rtype_g F cols [] e he hF
  rw [List.map_nil] at c4
  unfold nodeA at *
  cases h1 : qch F with
  | false =>
    rw [h1] at c1
    refine qn Tryz.func31 Tryz.ntmps31 rfl rfl (by decide) rfl (by intro n; simp) fun σ n0 hcl hft => ?_
    repeat' (first | ((first | ((with_reducible refine qo (fun hg => ?_) (fun hg => ?_)) <;> (try simp only [hg]) <;> (try simp only [gS] at hg) <;> (try (first | simp only [eq_false hg, gI] | simp only [eq_true hg, gI]))) | (with_reducible first | refine qg ?_ | refine qf ?_ | refine ql ?_ | refine qk ?_) | refine acall (c1) ?_ | refine qp (c1) ?_ | refine qr (c1) ?_ | refine qd ?_ | refine qi ?_ | refine qj ?_ | refine qm ?_) <;> (try simp (disch := first | omega | simp) [qh, -qq, -qs])) | ((with_reducible refine sideT ?_ ?_); first | omega | assumption | (simp; done)) | (refine qe fun K hK => ?_) | (refine qa ?_) | (refine qb true (by kernel_rfl) (by kernel_rfl) ?_) | (refine qb false (by kernel_rfl) (by kernel_rfl) ?_) | (refine hK _ ?_; clear hK K) | (clear hK K; refine hK _ ?_; clear hK K) | (clear hK K; clear hK K; refine hK _ ?_; clear hK K) | refine qc ?_)
  | true =>
    rw [h1] at c1
    by_cases h2 : cols.length = 0
    · have : cols = [] := List.eq_nil_of_length_eq_zero h2
      subst this
      refine qn Tryz.func31 Tryz.ntmps31 rfl rfl (by decide) rfl (by intro n; simp) fun σ n0 hcl hft => ?_
      repeat' (first | ((first | ((with_reducible refine qo (fun hg => ?_) (fun hg => ?_)) <;> (try simp only [hg]) <;> (try simp only [gS] at hg) <;> (try (first | simp only [eq_false hg, gI] | simp only [eq_true hg, gI]))) | (with_reducible first | refine qg ?_ | refine qf ?_ | refine ql ?_ | refine qk ?_) | refine acall (c1) ?_ | refine qp (c1) ?_ | refine qr (c1) ?_ | refine acall (c2) ?_ | refine qp (c2) ?_ | refine qr (c2) ?_ | refine acall (c3) ?_ | refine qp (c3) ?_ | refine qr (c3) ?_ | refine qd ?_ | refine qi ?_ | refine qj ?_ | refine qm ?_) <;> (try simp (disch := first | omega | simp) [qh, -qq, -qs])) | ((with_reducible refine sideT ?_ ?_); first | omega | assumption | (simp; done)) | (refine qe fun K hK => ?_) | (refine qa ?_) | (refine qb true (by kernel_rfl) (by kernel_rfl) ?_) | (refine qb false (by kernel_rfl) (by kernel_rfl) ?_) | (refine hK _ ?_; clear hK K) | (clear hK K; refine hK _ ?_; clear hK K) | (clear hK K; clear hK K; refine hK _ ?_; clear hK K) | refine qc ?_)
    · by_cases h3 : cols.length ≤ 12
      · have h3b : ¬ (12 : Int) < cols.length := by omega
        have h2b : ¬ (cols.length : Int) = 0 := by omega
        have h2c : 0 < cols.length := by omega
        generalize typeP F cols [] e = T at *
        rw [decide_eq_true h2c, decide_eq_true h3]
        simp only [Bool.true_and]
        refine qn Tryz.func31 Tryz.ntmps31 rfl rfl (by decide) rfl (by intro n; simp) fun σ n0 hcl hft => ?_
        repeat' (first | ((first | ((with_reducible refine qo (fun hg => ?_) (fun hg => ?_)) <;> (try simp only [hg]) <;> (try simp only [gS] at hg) <;> (try (first | simp only [eq_false hg, gI] | simp only [eq_true hg, gI]))) | (with_reducible first | refine qg ?_ | refine qf ?_ | refine ql ?_ | refine qk ?_) | refine acall (c1) ?_ | refine qp (c1) ?_ | refine qr (c1) ?_ | refine acall (c2) ?_ | refine qp (c2) ?_ | refine qr (c2) ?_ | refine acall (c3) ?_ | refine qp (c3) ?_ | refine qr (c3) ?_ | refine qd ?_ | refine qi ?_ | refine qj ?_ | refine qm ?_) <;> (try simp (disch := first | omega | simp) [qh, -qq, -qs, h2b, h3b])) | ((with_reducible refine sideT ?_ ?_); first | omega | assumption | (simp; done)) | (refine qe fun K hK => ?_) | (refine qa ?_) | (refine qb true (by kernel_rfl) (by kernel_rfl) ?_) | (refine qb false (by kernel_rfl) (by kernel_rfl) ?_) | (refine hK _ ?_; clear hK K) | (clear hK K; refine hK _ ?_; clear hK K) | (clear hK K; clear hK K; refine hK _ ?_; clear hK K) | refine qc ?_)
        all_goals try exact absurd (by assumption) h2b
        refine qt hcl (fun i : Nat => [(0, .sl (F.map Fn.av)), (4, .ptr n0 0), (7, .sl (cols.map AV.int)), (9, .int i)]) (fun _ => [.cells [.int 2, .sl [], .str ByteArray.empty, .int 0, .sl [e.av], .int 0, .int 0, .int 0, .sl [], .sl [], .int 0, .int 0, .int 0, .sl [], .sl [], .sl []] 64])
          (fun i => i ≤ 1 ∧ (i = 1 → T.isSome = true)) (fun i => 1 - i) 0 ⟨by omega, by omega⟩ (by simp) fun k ⟨hk, hq⟩ => ?_
        match k, hk, hq with
        | 0, _, _ =>
          cases hT : T.isSome with
          | false =>
            rw [hT] at c4
            repeat' (first | ((first | ((with_reducible refine qo (fun hg => ?_) (fun hg => ?_)) <;> (try simp only [hg]) <;> (try simp only [gS] at hg) <;> (try (first | simp only [eq_false hg, gI] | simp only [eq_true hg, gI]))) | (with_reducible first | refine qg ?_ | refine qf ?_ | refine ql ?_ | refine qk ?_) | refine acall (c4) ?_ | refine qp (c4) ?_ | refine qr (c4) ?_ | refine qd ?_ | refine qi ?_ | refine qj ?_ | refine qm ?_) <;> (try simp (disch := first | omega | simp) [qh, -qq, -qs])) | ((with_reducible refine sideT ?_ ?_); first | omega | assumption | (simp; done)) | (refine qe fun K hK => ?_) | (refine qa ?_) | (refine qb true (by kernel_rfl) (by kernel_rfl) ?_) | (refine qb false (by kernel_rfl) (by kernel_rfl) ?_) | (refine hK _ ?_; clear hK K) | (clear hK K; refine hK _ ?_; clear hK K) | (clear hK K; clear hK K; refine hK _ ?_; clear hK K) | refine qc ?_)
          | true =>
            rw [hT] at c4
            repeat' (first | ((first | ((with_reducible refine qo (fun hg => ?_) (fun hg => ?_)) <;> (try simp only [hg]) <;> (try simp only [gS] at hg) <;> (try (first | simp only [eq_false hg, gI] | simp only [eq_true hg, gI]))) | (with_reducible first | refine qg ?_ | refine qf ?_ | refine ql ?_ | refine qk ?_) | refine acall (c4) ?_ | refine qp (c4) ?_ | refine qr (c4) ?_ | refine qd ?_ | refine qi ?_ | refine qj ?_ | refine qm ?_) <;> (try simp (disch := first | omega | simp) [qh, -qq, -qs])) | ((with_reducible refine sideT ?_ ?_); first | omega | assumption | (simp; done)) | (refine qe fun K hK => ?_) | (refine qa ?_) | (refine qb true (by kernel_rfl) (by kernel_rfl) ?_) | (refine qb false (by kernel_rfl) (by kernel_rfl) ?_) | (refine hK _ ?_; clear hK K) | (clear hK K; refine hK _ ?_; clear hK K) | (clear hK K; clear hK K; refine hK _ ?_; clear hK K) | refine qc ?_)
            all_goals first | exact ⟨1, ⟨by omega, fun _ => hT⟩, by omega, by simp⟩ | exact ⟨1, by omega, by omega, by simp⟩
        | 1, _, hq =>
          have hT := hq rfl
          repeat' (first | ((first | ((with_reducible refine qo (fun hg => ?_) (fun hg => ?_)) <;> (try simp only [hg]) <;> (try simp only [gS] at hg) <;> (try (first | simp only [eq_false hg, gI] | simp only [eq_true hg, gI]))) | (with_reducible first | refine qg ?_ | refine qf ?_ | refine ql ?_ | refine qk ?_) | refine qd ?_ | refine qi ?_ | refine qj ?_ | refine qm ?_) <;> (try simp (disch := first | omega | simp) [qh, -qq, -qs, hT])) | ((with_reducible refine sideT ?_ ?_); first | omega | assumption | (simp; done)) | (refine qe fun K hK => ?_) | (refine qa ?_) | (refine qb true (by kernel_rfl) (by kernel_rfl) ?_) | (refine qb false (by kernel_rfl) (by kernel_rfl) ?_) | (refine hK _ ?_; clear hK K) | (clear hK K; refine hK _ ?_; clear hK K) | (clear hK K; clear hK K; refine hK _ ?_; clear hK K) | refine qc ?_)
      · have h3b : (12 : Int) < cols.length := by omega
        have h2b : ¬ (cols.length : Int) = 0 := by omega
        rw [decide_eq_false h3]
        simp only [Bool.and_false, Bool.false_and]
        refine qn Tryz.func31 Tryz.ntmps31 rfl rfl (by decide) rfl (by intro n; simp) fun σ n0 hcl hft => ?_
        repeat' (first | ((first | ((with_reducible refine qo (fun hg => ?_) (fun hg => ?_)) <;> (try simp only [hg]) <;> (try simp only [gS] at hg) <;> (try (first | simp only [eq_false hg, gI] | simp only [eq_true hg, gI]))) | (with_reducible first | refine qg ?_ | refine qf ?_ | refine ql ?_ | refine qk ?_) | refine acall (c1) ?_ | refine qp (c1) ?_ | refine qr (c1) ?_ | refine acall (c2) ?_ | refine qp (c2) ?_ | refine qr (c2) ?_ | refine acall (c3) ?_ | refine qp (c3) ?_ | refine qr (c3) ?_ | refine qd ?_ | refine qi ?_ | refine qj ?_ | refine qm ?_) <;> (try simp (disch := first | omega | simp) [qh, -qq, -qs, h2b, h3b])) | ((with_reducible refine sideT ?_ ?_); first | omega | assumption | (simp; done)) | (refine qe fun K hK => ?_) | (refine qa ?_) | (refine qb true (by kernel_rfl) (by kernel_rfl) ?_) | (refine qb false (by kernel_rfl) (by kernel_rfl) ?_) | (refine hK _ ?_; clear hK K) | (clear hK K; refine hK _ ?_; clear hK K) | (clear hK K; clear hK K; refine hK _ ?_; clear hK K) | refine qc ?_)
        all_goals exact absurd (by assumption) h2b
end Go.Proofs.YtnkimlkoijfcpaaGreatDoor

/- The first element with a property, and what loops that look for it know. -/
namespace Go.Proofs.YtnkimlkoijfcpaaGreatDoor
def idxP {α : Type} (p : α → Bool) : List α → Int
  | [] => -1
  | x :: l => if p x then 0 else if idxP p l = -1 then -1 else idxP p l + 1
section
variable {α : Type} {p : α → Bool}
theorem qdy (x : α) (l : List α) : idxP p (x :: l) = if p x then 0 else if idxP p l = -1 then -1 else idxP p l + 1 := rfl
theorem idxP_ge : ∀ l : List α, -1 ≤ idxP p l
  | [] => by simp [idxP]
  | x :: l => by
    have := idxP_ge l
    rw [qdy]
    split
    · omega
    · split <;> omega
theorem idxP_hit : ∀ {l : List α} {k : Nat} (h : k < l.length), p l[k] = true → (∀ j (h : j < l.length), j < k → p l[j] = false) → idxP p l = k
  | [], k, h, _, _ => by simp at h
  | x :: l, 0, h, h1, _ => by
    have h1' : p x = true := h1
    rw [qdy, if_pos h1']; rfl
  | x :: l, k + 1, h, h1, h2 => by
    have h0 : p x = false := h2 0 (by simp) (by omega)
    have hk : k < l.length := by simpa using h
    have ih := idxP_hit (l := l) (k := k) hk (by simpa using h1) fun j hj hjk => by have := h2 (j + 1) (by simpa using hj) (by omega); simpa using this
    rw [qdy, if_neg (by rw [h0]; simp), ih, if_neg (by omega)]
    omega
theorem idxP_miss : ∀ {l : List α}, (∀ j (h : j < l.length), p l[j] = false) → idxP p l = -1
  | [], _ => rfl
  | x :: l, h => by
    have h0 : p x = false := h 0 (by simp)
    rw [qdy, if_neg (by rw [h0]; simp), idxP_miss (l := l) fun j hj => by have := h (j + 1) (by simpa using hj); simpa using this]
    rfl
theorem idxP_lt {l : List α} {k : Nat} (h : idxP p l = k) : ∃ hk : k < l.length, p l[k] = true ∧ ∀ j (h : j < l.length), j < k → p l[j] = false := by
  induction l generalizing k with
  | nil => simp [idxP] at h
  | cons x l ih =>
    rw [qdy] at h
    split at h
    · rename_i hx
      obtain rfl : k = 0 := by omega
      exact ⟨by simp, hx, fun j _ hj => by omega⟩
    · rename_i hx
      split at h
      · omega
      · rename_i hn
        have hge := idxP_ge (p := p) l
        obtain ⟨hk, h1, h2⟩ := ih (k := k - 1) (by omega)
        obtain ⟨k', rfl⟩ : ∃ k', k = k' + 1 := ⟨k - 1, by omega⟩
        refine ⟨by simpa using hk, by simpa using h1, fun j hj hjk => ?_⟩
        cases j with
        | zero => simpa using hx
        | succ j => simpa using h2 j (by simpa using hj) (by omega)
theorem idxP_any (l : List α) : decide (0 ≤ idxP p l) = l.any p := by
  induction l with
  | nil => rfl
  | cons x l ih =>
    have hge := idxP_ge (p := p) l
    rw [List.any_cons, ← ih]
    rw [qdy]
    by_cases hx : p x = true
    · rw [if_pos hx, hx]; rfl
    · rw [if_neg hx]
      have : p x = false := by simpa using hx
      rw [this, Bool.false_or]
      split
      · rename_i h; rw [h]
      · exact decide_eq_decide.2 (by omega)
theorem all_hit {l : List α} {k : Nat} (h : k < l.length) (h1 : p l[k] = false) : l.all p = false := by
  rw [Bool.eq_false_iff]; intro h2
  rw [List.all_eq_true] at h2
  have := h2 l[k] (List.getElem_mem h)
  rw [h1] at this; cases this
theorem all_end {l : List α} (h : ∀ j (h : j < l.length), p l[j] = true) : l.all p = true := by
  rw [List.all_eq_true]
  intro x hx
  obtain ⟨j, hj, rfl⟩ := List.getElem_of_mem hx
  exact h j hj
theorem qdd {C : α → Prop} {l : List α} {k : Nat} (h : ∀ j (h : j < l.length), j < k → C l[j]) (hk : ∀ h : k < l.length, C l[k]) : ∀ j (h : j < l.length), j < k + 1 → C l[j] := fun j hj hjk => by
  by_cases he : j = k
  · subst he; exact hk hj
  · exact h j hj (by omega)
theorem qep {C : α → Prop} {l : List α} {k : Nat} (h : ∀ j (h : j < l.length), j < k → C l[j]) (hk : ¬ k < l.length) : ∀ j (h : j < l.length), C l[j] := fun j hj => h j hj (by omega)
end
def fillV {α : Type} (f : α → AV) (z : AV) (L : List α) (k : Nat) : List AV := (L.take k).map f ++ List.replicate (L.length - k) z
section
variable {α : Type} {f : α → AV} {z : AV} {L : List α} {k : Nat}
theorem fillV_len (h : k ≤ L.length) : (fillV f z L k).length = L.length := by
  unfold fillV; simp only [List.length_append, List.length_map, List.length_take, List.length_replicate]; omega
theorem fillV_get (h : k < L.length) : (fillV f z L k)[k]? = some z := by
  unfold fillV
  have hl : ((L.take k).map f).length = k := by simp only [List.length_map, List.length_take]; omega
  rw [List.getElem?_append_right (by omega), hl, Nat.sub_self, List.getElem?_replicate, if_pos (by omega)]
theorem fillV_set (h : k < L.length) : (fillV f z L k).set k (f L[k]) = fillV f z L (k + 1) := by
  unfold fillV
  have hl : ((L.take k).map f).length = k := by simp only [List.length_map, List.length_take]; omega
  rw [List.set_append_right _ _ (by omega), hl, Nat.sub_self]
  obtain ⟨m, hm⟩ : ∃ m, L.length - k = m + 1 := ⟨L.length - k - 1, by omega⟩
  rw [hm, List.replicate_succ, List.set_cons_zero, show L.length - (k + 1) = m by omega, List.take_succ_eq_append_getElem h, List.map_append, List.append_assoc]
  rfl
theorem fillV_all : fillV f z L L.length = L.map f := by
  unfold fillV; simp
theorem fillV_zero : fillV f z L 0 = List.replicate L.length z := by
  unfold fillV; simp
theorem fillV_cls {m : Nat} (hf : ∀ x, (f x).cl m) (hz : z.cl m) : AV.cls m (fillV f z L k) := by
  rw [AV.cls_iff]
  intro x hx
  unfold fillV at hx
  rcases List.mem_append.1 hx with h | h
  · obtain ⟨y, -, rfl⟩ := List.mem_map.1 h; exact hf y
  · rw [(List.mem_replicate.1 h).2]; exact hz
end
end Go.Proofs.YtnkimlkoijfcpaaGreatDoor
