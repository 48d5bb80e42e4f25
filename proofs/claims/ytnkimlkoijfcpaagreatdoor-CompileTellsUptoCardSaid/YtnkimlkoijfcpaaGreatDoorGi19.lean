/- Walks: of, Right and Type of the reference; the same as contracts of the first kind. -/
import Derived.Test.YtnkimlkoijfcpaaGreatDoorGi3
import Derived.Test.YtnkimlkoijfcpaaGreatDoorGi12
import Derived.Test.YtnkimlkoijfcpaaGreatDoorGi14
import Derived.Test.YtnkimlkoijfcpaaGreatDoorGi15
import Derived.Test.YtnkimlkoijfcpaaGreatDoorGi16
import Derived.Test.YtnkimlkoijfcpaaGreatDoorGi18
set_option linter.unusedSimpArgs false
set_option linter.unusedVariables false
namespace Go.Proofs.YtnkimlkoijfcpaaGreatDoor
open Go.RowKit Go.Lib
theorem rof_g (F : List Fn) (c p : List Int) (e : Ex) (hp : parts e ≤ 1000000) : Gives Tryz.prog 117 [.sl (F.map Fn.av), .sl (c.map AV.int), .sl (p.map AV.int), e.av] (.tup [.int ((tyD F c p e).getD 0), .bool (tyD F c p e).isSome]) := by
  have hlv := qcx e
  have c1 := rlevels_g' e (by omega)
  have c2 := inner_g F c p e hp
  by_cases h : levels e > 12
  · have e1 : tyD F c p e = none := by unfold tyD; rw [if_pos h]
    rw [e1]
    clear c2
    generalize levels e = L at *
    have h' : 12 < L := h
    refine qn Tryz.func117 Tryz.ntmps117 rfl rfl (by decide) rfl (by intro n; simp) fun σ n0 hcl hft => ?_
    repeat' (first | ((first | ((with_reducible refine qo (fun hg => ?_) (fun hg => ?_)) <;> (try simp only [hg]) <;> (try simp only [gS] at hg) <;> (try (first | simp only [eq_false hg, gI] | simp only [eq_true hg, gI]))) | (with_reducible first | refine qf ?_ | refine qe ?_ | refine qk ?_ | refine qj ?_) | refine acall (c1) ?_ | refine qp (c1) ?_ | refine qc ?_ | refine qh ?_ | refine qi ?_ | refine qm ?_) <;> (try simp (disch := first | omega | simp) [qg, -qq, -qr, h'])) | ((with_reducible refine sideT ?_ ?_); first | omega | assumption | (simp; done)) | (refine qd fun K hK => ?_) | (refine qa ?_) | refine ql ?_ | ((first | refine hK _ ?_ | (clear hK K; refine hK _ ?_) | (clear hK K; clear hK K; refine hK _ ?_)); clear hK K) | refine qb ?_)
    all_goals (exfalso; omega)
  · have e1 : tyD F c p e = ty F c p e := by unfold tyD; rw [if_neg h]
    rw [e1]
    have hx := inner_eq F c p e
    have h' : ¬ 12 < levels e := h
    generalize levels e = L at *
    generalize innerX F c p e = X at *
    cases ht : ty F c p e with
    | none =>
      rw [ht] at c2
      simp at c2
      clear hx
      refine qn Tryz.func117 Tryz.ntmps117 rfl rfl (by decide) rfl (by intro n; simp) fun σ n0 hcl hft => ?_
      repeat' (first | ((first | ((with_reducible refine qo (fun hg => ?_) (fun hg => ?_)) <;> (try simp only [hg]) <;> (try simp only [gS] at hg) <;> (try (first | simp only [eq_false hg, gI] | simp only [eq_true hg, gI]))) | (with_reducible first | refine qf ?_ | refine qe ?_ | refine qk ?_ | refine qj ?_) | refine acall (c1) ?_ | refine qp (c1) ?_ | refine acall (c2) ?_ | refine qp (c2) ?_ | refine qc ?_ | refine qh ?_ | refine qi ?_ | refine qm ?_) <;> (try simp (disch := first | omega | simp) [qg, -qq, -qr, h'])) | ((with_reducible refine sideT ?_ ?_); first | omega | assumption | (simp; done)) | (refine qd fun K hK => ?_) | (refine qa ?_) | refine ql ?_ | ((first | refine hK _ ?_ | (clear hK K; refine hK _ ?_) | (clear hK K; clear hK K; refine hK _ ?_)); clear hK K) | refine qb ?_)
      all_goals (exfalso; omega)
    | some t =>
      rw [ht] at c2 hx
      rw [hx t rfl] at c2
      simp at c2
      clear hx
      refine qn Tryz.func117 Tryz.ntmps117 rfl rfl (by decide) rfl (by intro n; simp) fun σ n0 hcl hft => ?_
      repeat' (first | ((first | ((with_reducible refine qo (fun hg => ?_) (fun hg => ?_)) <;> (try simp only [hg]) <;> (try simp only [gS] at hg) <;> (try (first | simp only [eq_false hg, gI] | simp only [eq_true hg, gI]))) | (with_reducible first | refine qf ?_ | refine qe ?_ | refine qk ?_ | refine qj ?_) | refine acall (c1) ?_ | refine qp (c1) ?_ | refine acall (c2) ?_ | refine qp (c2) ?_ | refine qc ?_ | refine qh ?_ | refine qi ?_ | refine qm ?_) <;> (try simp (disch := first | omega | simp) [qg, -qq, -qr, h'])) | ((with_reducible refine sideT ?_ ?_); first | omega | assumption | (simp; done)) | (refine qd fun K hK => ?_) | (refine qa ?_) | refine ql ?_ | ((first | refine hK _ ?_ | (clear hK K; refine hK _ ?_) | (clear hK K; clear hK K; refine hK _ ?_)); clear hK K) | refine qb ?_)
      all_goals (exfalso; omega)
theorem fns_fits {F : List Fn} (h : AV.fitss [.sl (F.map Fn.av)]) : ∀ f ∈ F, f.params.length ≤ 9223372036854775807 := fun f hf => by
  have h1 := (AV.fitss_iff.1 h) _ (List.mem_singleton_self _)
  rw [AV.fits] at h1
  have h2 := (AV.fitss_iff.1 h1.2) f.av (List.mem_map_of_mem hf)
  unfold Fn.av at h2
  rw [AV.fits] at h2
  have h3 := (AV.fitss_iff.1 h2) (.sl (f.params.map AV.int)) (by simp)
  rw [AV.fits] at h3
  simpa using h3.1
set_option maxHeartbeats 8000000 in
theorem rright_g (F : List Fn) (hp : ∀ f ∈ F, parts f.body ≤ 1000000) : Gives Tryz.prog 74 [.sl (F.map Fn.av)] (.bool (qdc F)) := by
  obtain ⟨B, hB⟩ : ∃ B, B = qdc F := ⟨_, rfl⟩
  rw [← hB]
  refine qn Tryz.func74 Tryz.ntmps74 rfl rfl (by decide) rfl (by intro n; simp) fun σ n0 hcl hft => ?_
  repeat' (first | ((first | ((with_reducible refine qo (fun hg => ?_) (fun hg => ?_)) <;> (try simp only [hg]) <;> (try simp only [gS] at hg) <;> (try (first | simp only [eq_false hg, gI] | simp only [eq_true hg, gI]))) | (with_reducible first | refine qf ?_ | refine qe ?_ | refine qk ?_ | refine qj ?_) | refine qc ?_ | refine qh ?_ | refine qi ?_ | refine qm ?_) <;> (try simp (disch := first | omega | simp) [qg, -qq, -qr])) | ((with_reducible refine sideT ?_ ?_); first | omega | assumption | (simp; done)) | (refine qd fun K hK => ?_) | (refine qa ?_) | refine ql ?_ | ((first | refine hK _ ?_ | (clear hK K; refine hK _ ?_) | (clear hK K; clear hK K; refine hK _ ?_)); clear hK K) | refine qb ?_)
  refine qs hcl (fun i : Nat => [(0, .sl (F.map Fn.av)), (3, .int i)]) (fun _ => []) (fun i => i ≤ F.length ∧ i ≤ 21 ∧ ∀ j, j < i → j < F.length → okF F j = true) (fun i => F.length - i) 0 ⟨by omega, by omega, fun j h => by omega⟩ (by simp) fun i ⟨hi, hi2, he⟩ => ?_
  by_cases hlt : i < F.length
  rotate_left
  · have hBe : B = decide ((F.length : Int) ≤ 20) := by rw [hB]; exact rightF_end fun j hj => he j (by omega) hj
    subst hBe
    repeat' (first | ((first | ((with_reducible refine qo (fun hg => ?_) (fun hg => ?_)) <;> (try simp only [hg]) <;> (try simp only [gS] at hg) <;> (try (first | simp only [eq_false hg, gI] | simp only [eq_true hg, gI]))) | (with_reducible first | refine qf ?_ | refine qe ?_ | refine qk ?_ | refine qj ?_) | refine qc ?_ | refine qh ?_ | refine qi ?_ | refine qm ?_) <;> (try simp (disch := first | omega | simp) [qg, -qq, -qr, hlt])) | ((with_reducible refine sideT ?_ ?_); first | omega | assumption | (simp; done)) | (refine qd fun K hK => ?_) | (refine qa ?_) | refine ql ?_ | ((first | refine hK _ ?_ | (clear hK K; refine hK _ ?_) | (clear hK K; clear hK K; refine hK _ ?_)); clear hK K) | refine qb ?_)
  by_cases h20 : i ≤ 20
  rotate_left
  · have hBe : B = false := by
      rw [hB]; unfold qdc
      have : ¬ (F.length : Int) ≤ 20 := by omega
      simp [this]
    subst hBe
    have h20b : ¬ (i : Int) ≤ 20 := by omega
    have h21 : ¬ F.length ≤ 20 := by omega
    repeat' (first | ((first | ((with_reducible refine qo (fun hg => ?_) (fun hg => ?_)) <;> (try simp only [hg]) <;> (try simp only [gS] at hg) <;> (try (first | simp only [eq_false hg, gI] | simp only [eq_true hg, gI]))) | (with_reducible first | refine qf ?_ | refine qe ?_ | refine qk ?_ | refine qj ?_) | refine qc ?_ | refine qh ?_ | refine qi ?_ | refine qm ?_) <;> (try simp (disch := first | omega | simp) [qg, -qq, -qr, hlt, h20, h20b, h21])) | ((with_reducible refine sideT ?_ ?_); first | omega | assumption | (simp; done)) | (refine qd fun K hK => ?_) | (refine qa ?_) | refine ql ?_ | ((first | refine hK _ ?_ | (clear hK K; refine hK _ ?_) | (clear hK K; clear hK K; refine hK _ ?_)); clear hK K) | refine qb ?_)
    all_goals omega
  have hpk := hp F[i] (List.getElem_mem hlt)
  obtain ⟨f, hf⟩ : ∃ f, f = F[i] := ⟨_, rfl⟩
  rw [← hf] at hpk
  have hok := okF_at hlt
  rw [← hf] at hok
  have hil : ¬ F.length < i := by omega
  have c1 := rof_g (F.take i) [] f.params f.body hpk
  rw [List.map_take] at c1
  have h20c : (i : Int) ≤ 20 := by omega
  repeat' (first | ((first | ((with_reducible refine qo (fun hg => ?_) (fun hg => ?_)) <;> (try simp only [hg]) <;> (try simp only [gS] at hg) <;> (try (first | simp only [eq_false hg, gI] | simp only [eq_true hg, gI]))) | (with_reducible first | refine qf ?_ | refine qe ?_ | refine qk ?_ | refine qj ?_) | refine qc ?_ | refine qh ?_ | refine qi ?_ | refine qm ?_) <;> (try simp (disch := first | omega | simp) [qg, -qq, -qr, hlt, h20, h20c, ← hf])) | ((with_reducible refine sideT ?_ ?_); first | omega | assumption | (simp; done)) | (refine qd fun K hK => ?_) | (refine qa ?_) | refine ql ?_ | ((first | refine hK _ ?_ | (clear hK K; refine hK _ ?_) | (clear hK K; clear hK K; refine hK _ ?_)); clear hK K) | refine qb ?_)
  all_goals first | (exfalso; omega; done) | skip
  refine qs hcl (fun k : Nat => [(0, .sl (F.map Fn.av)), (3, .int i), (4, .ptr n0 0), (5, .int k)]) (fun _ => [.cells f.av.cells 80]) (fun k => k ≤ f.params.length ∧ ∀ j (h : j < f.params.length), j < k → kindB f.params[j] = true) (fun k => f.params.length - k) 0 ⟨by omega, fun j h hj => by omega⟩ (by simp) fun k ⟨hk, hks⟩ => ?_
  by_cases hkl : k < f.params.length
  · have c2 := rkind_g f.params[k]
    cases hkb : kindB f.params[k] with
    | false =>
      rw [hkb] at c2
      have : B = false := by
        rw [hB]
        refine rightF_false hlt ?_
        rw [hok]
        have : f.params.all kindB = false := by
          rw [List.all_eq_false]
          exact ⟨f.params[k], List.getElem_mem hkl, by rw [hkb]; simp⟩
        rw [this]; simp
      subst this
      repeat' (first | ((first | ((with_reducible refine qo (fun hg => ?_) (fun hg => ?_)) <;> (try simp only [hg]) <;> (try simp only [gS] at hg) <;> (try (first | simp only [eq_false hg, gI] | simp only [eq_true hg, gI]))) | (with_reducible first | refine qf ?_ | refine qe ?_ | refine qk ?_ | refine qj ?_) | refine acall (c2) ?_ | refine qp (c2) ?_ | refine qc ?_ | refine qh ?_ | refine qi ?_ | refine qm ?_) <;> (try simp (disch := first | omega | simp) [qg, -qq, -qr, hkl])) | ((with_reducible refine sideT ?_ ?_); first | omega | assumption | (simp; done)) | (refine qd fun K hK => ?_) | (refine qa ?_) | refine ql ?_ | ((first | refine hK _ ?_ | (clear hK K; refine hK _ ?_) | (clear hK K; clear hK K; refine hK _ ?_)); clear hK K) | refine qb ?_)
    | true =>
      rw [hkb] at c2
      have hfl : f.params.length ≤ 9223372036854775807 := by rw [hf]; exact fns_fits hft _ (List.getElem_mem hlt)
      repeat' (first | ((first | ((with_reducible refine qo (fun hg => ?_) (fun hg => ?_)) <;> (try simp only [hg]) <;> (try simp only [gS] at hg) <;> (try (first | simp only [eq_false hg, gI] | simp only [eq_true hg, gI]))) | (with_reducible first | refine qf ?_ | refine qe ?_ | refine qk ?_ | refine qj ?_) | refine acall (c2) ?_ | refine qp (c2) ?_ | refine qc ?_ | refine qh ?_ | refine qi ?_ | refine qm ?_) <;> (try simp (disch := first | omega | simp) [qg, -qq, -qr, hkl])) | ((with_reducible refine sideT ?_ ?_); first | omega | assumption | (simp; done)) | (refine qd fun K hK => ?_) | (refine qa ?_) | refine ql ?_ | ((first | refine hK _ ?_ | (clear hK K; refine hK _ ?_) | (clear hK K; clear hK K; refine hK _ ?_)); clear hK K) | refine qb ?_)
      all_goals
        refine ⟨k + 1, ⟨by omega, fun j h hj => ?_⟩, by omega, by simp⟩
        by_cases hjk : j < k
        · exact hks j h hjk
        · obtain rfl : j = k := by omega
          exact hkb
  · have hall : f.params.all kindB = true := by
      rw [List.all_eq_true]
      intro x hx
      obtain ⟨j, h1, rfl⟩ := List.getElem_of_mem hx
      exact hks j h1 (by omega)
    rw [hall, Bool.true_and] at hok
    have hb : okF F i = false → B = false := fun h => by rw [hB]; exact rightF_false hlt h
    cases ht : tyD (F.take i) [] f.params f.body with
    | none =>
      rw [ht] at c1 hok
      have : B = false := hb (by rw [hok]; simp)
      subst this
      simp at c1
      repeat' (first | ((first | ((with_reducible refine qo (fun hg => ?_) (fun hg => ?_)) <;> (try simp only [hg]) <;> (try simp only [gS] at hg) <;> (try (first | simp only [eq_false hg, gI] | simp only [eq_true hg, gI]))) | (with_reducible first | refine qf ?_ | refine qe ?_ | refine qk ?_ | refine qj ?_) | refine acall (c1) ?_ | refine qp (c1) ?_ | refine qc ?_ | refine qh ?_ | refine qi ?_ | refine qm ?_) <;> (try simp (disch := first | omega | simp) [qg, -qq, -qr, hkl, hlt, hil])) | ((with_reducible refine sideT ?_ ?_); first | omega | assumption | (simp; done)) | (refine qd fun K hK => ?_) | (refine qa ?_) | refine ql ?_ | ((first | refine hK _ ?_ | (clear hK K; refine hK _ ?_) | (clear hK K; clear hK K; refine hK _ ?_)); clear hK K) | refine qb ?_)
    | some t =>
      rw [ht] at c1 hok
      simp at c1
      by_cases htr : t = f.res
      rotate_left
      · have : B = false := hb (by rw [hok]; simp [htr])
        subst this
        have htb : (t == f.res) = false := by simp [htr]
        repeat' (first | ((first | ((with_reducible refine qo (fun hg => ?_) (fun hg => ?_)) <;> (try simp only [hg]) <;> (try simp only [gS] at hg) <;> (try (first | simp only [eq_false hg, gI] | simp only [eq_true hg, gI]))) | (with_reducible first | refine qf ?_ | refine qe ?_ | refine qk ?_ | refine qj ?_) | refine acall (c1) ?_ | refine qp (c1) ?_ | refine qc ?_ | refine qh ?_ | refine qi ?_ | refine qm ?_) <;> (try simp (disch := first | omega | simp) [qg, -qq, -qr, hkl, hlt, hil, htr, htb])) | ((with_reducible refine sideT ?_ ?_); first | omega | assumption | (simp; done)) | (refine qd fun K hK => ?_) | (refine qa ?_) | refine ql ?_ | ((first | refine hK _ ?_ | (clear hK K; refine hK _ ?_) | (clear hK K; clear hK K; refine hK _ ?_)); clear hK K) | refine qb ?_)
        all_goals (exfalso; omega)
      by_cases hl6 : (f.params.length : Int) ≤ 6
      · have hoki : okF F i = true := by rw [hok]; simp [htr, hl6]
        have hl6' : ¬ 6 < f.params.length := by omega
        have hl6b : ¬ (6 : Int) < f.params.length := by omega
        repeat' (first | ((first | ((with_reducible refine qo (fun hg => ?_) (fun hg => ?_)) <;> (try simp only [hg]) <;> (try simp only [gS] at hg) <;> (try (first | simp only [eq_false hg, gI] | simp only [eq_true hg, gI]))) | (with_reducible first | refine qf ?_ | refine qe ?_ | refine qk ?_ | refine qj ?_) | refine acall (c1) ?_ | refine qp (c1) ?_ | refine qc ?_ | refine qh ?_ | refine qi ?_ | refine qm ?_) <;> (try simp (disch := first | omega | simp) [qg, -qq, -qr, hkl, hlt, hil, htr, hl6', hl6b])) | ((with_reducible refine sideT ?_ ?_); first | omega | assumption | (simp; done)) | (refine qd fun K hK => ?_) | (refine qa ?_) | refine ql ?_ | ((first | refine hK _ ?_ | (clear hK K; refine hK _ ?_) | (clear hK K; clear hK K; refine hK _ ?_)); clear hK K) | refine qb ?_)
        all_goals
          refine ⟨i + 1, ⟨by omega, by omega, fun j hj hjl => ?_⟩, by omega, by simp⟩
          by_cases hji : j < i
          · exact he j hji hjl
          · obtain rfl : j = i := by omega
            exact hoki
      · have : B = false := hb (by rw [hok]; simp [hl6])
        subst this
        have hl6' : 6 < f.params.length := by omega
        have hl6b : (6 : Int) < f.params.length := by omega
        repeat' (first | ((first | ((with_reducible refine qo (fun hg => ?_) (fun hg => ?_)) <;> (try simp only [hg]) <;> (try simp only [gS] at hg) <;> (try (first | simp only [eq_false hg, gI] | simp only [eq_true hg, gI]))) | (with_reducible first | refine qf ?_ | refine qe ?_ | refine qk ?_ | refine qj ?_) | refine acall (c1) ?_ | refine qp (c1) ?_ | refine qc ?_ | refine qh ?_ | refine qi ?_ | refine qm ?_) <;> (try simp (disch := first | omega | simp) [qg, -qq, -qr, hkl, hlt, hil, htr, hl6', hl6b])) | ((with_reducible refine sideT ?_ ?_); first | omega | assumption | (simp; done)) | (refine qd fun K hK => ?_) | (refine qa ?_) | refine ql ?_ | ((first | refine hK _ ?_ | (clear hK K; refine hK _ ?_) | (clear hK K; clear hK K; refine hK _ ?_)); clear hK K) | refine qb ?_)
theorem rtype_g (F : List Fn) (c p : List Int) (e : Ex) (hbd : parts e ≤ 1000000) (hpF : ∀ f ∈ F, parts f.body ≤ 1000000) :
    Gives Tryz.prog 61 [.sl (F.map Fn.av), .sl (c.map AV.int), .sl (p.map AV.int), e.av] (.tup [.int ((typeP F c p e).getD 0), .bool (typeP F c p e).isSome]) := by
  have c1 := rright_g F hpF
  have c2 := rof_g F c p e hbd
  unfold typeP
  cases h : qdc F with
  | false =>
    rw [h] at c1
    refine qn Tryz.func61 Tryz.ntmps61 rfl rfl (by decide) rfl (by intro n; simp) fun σ n0 hcl hft => ?_
    repeat' (first | ((first | ((with_reducible refine qo (fun hg => ?_) (fun hg => ?_)) <;> (try simp only [hg]) <;> (try simp only [gS] at hg) <;> (try (first | simp only [eq_false hg, gI] | simp only [eq_true hg, gI]))) | (with_reducible first | refine qf ?_ | refine qe ?_ | refine qk ?_ | refine qj ?_) | refine acall (c1) ?_ | refine qp (c1) ?_ | refine qc ?_ | refine qh ?_ | refine qi ?_ | refine qm ?_) <;> (try simp (disch := first | omega | simp) [qg, -qq, -qr])) | ((with_reducible refine sideT ?_ ?_); first | omega | assumption | (simp; done)) | (refine qd fun K hK => ?_) | (refine qa ?_) | refine ql ?_ | ((first | refine hK _ ?_ | (clear hK K; refine hK _ ?_) | (clear hK K; clear hK K; refine hK _ ?_)); clear hK K) | refine qb ?_)
  | true =>
    rw [h] at c1
    simp only [if_true]
    generalize tyD F c p e = T at *
    refine qn Tryz.func61 Tryz.ntmps61 rfl rfl (by decide) rfl (by intro n; simp) fun σ n0 hcl hft => ?_
    repeat' (first | ((first | ((with_reducible refine qo (fun hg => ?_) (fun hg => ?_)) <;> (try simp only [hg]) <;> (try simp only [gS] at hg) <;> (try (first | simp only [eq_false hg, gI] | simp only [eq_true hg, gI]))) | (with_reducible first | refine qf ?_ | refine qe ?_ | refine qk ?_ | refine qj ?_) | refine acall (c1) ?_ | refine qp (c1) ?_ | refine acall (c2) ?_ | refine qp (c2) ?_ | refine qc ?_ | refine qh ?_ | refine qi ?_ | refine qm ?_) <;> (try simp (disch := first | omega | simp) [qg, -qq, -qr])) | ((with_reducible refine sideT ?_ ?_); first | omega | assumption | (simp; done)) | (refine qd fun K hK => ?_) | (refine qa ?_) | refine ql ?_ | ((first | refine hK _ ?_ | (clear hK K; refine hK _ ?_) | (clear hK K; clear hK K; refine hK _ ?_)); clear hK K) | refine qb ?_)
end Go.Proofs.YtnkimlkoijfcpaaGreatDoor

/- Walks of layer 26: the raw program, of the reference. -/
namespace Go.Proofs.YtnkimlkoijfcpaaGreatDoor
open Go.RowKit Go.Lib
theorem rawI_snoc (L : List Ex) : ∀ (l : List Ex) (x : Ex) (i : Nat), rawI L (l ++ [x]) i = rawI L l i ++ [insE L (i + l.length) x]
  | [], x, i => by rw [List.nil_append, rawI, rawI, rawI]; rfl
  | y :: l, x, i => by rw [List.cons_append, rawI, rawI, rawI_snoc L l, List.cons_append, List.length_cons, show i + 1 + l.length = i + (l.length + 1) by omega]
set_option maxHeartbeats 8000000 in
theorem rraw_g (cols : List Int) (e : Ex) (hp : parts e ≤ 1000) : Gives Tryz.prog 64 [.sl (cols.map AV.int), e.av] (rawP cols e).av := by
  have c1 := parts26_g e (by omega)
  have hml := partsP_len e []
  rw [List.length_nil] at hml
  have hmp := partsP_small (B := 1000) e [] (by simp) hp
  unfold rawP
  generalize qbc e [] = M at *
  have c2 := fun x => find26_g M x (by omega) (fun y hy => by have := hmp y hy; omega)
  have c3 := fun (i : Nat) (h : i < M.length) => rtype_g [] cols [] M[i] (by have := hmp _ (List.getElem_mem h); omega) (by simp)
  simp only [List.map_nil] at c3
  have c2e := c2 e
  obtain ⟨I, hI⟩ : ∃ I : Nat → List Ins, I = fun k => rawI M (M.take k) 0 := ⟨_, rfl⟩
  obtain ⟨T, hT⟩ : ∃ T : Nat → List Int, T = fun k => (M.take k).map (typE cols) := ⟨_, rfl⟩
  have I0 : I 0 = [] := by rw [hI]; rfl
  have T0 : T 0 = [] := by rw [hT]; rfl
  have Il : ∀ k, k ≤ M.length → (I k).length = k := fun k hk => by rw [hI]; dsimp only; rw [rawI_len, List.length_take]; omega
  have Tl : ∀ k, k ≤ M.length → (T k).length = k := fun k hk => by rw [hT]; simp; omega
  have Is : ∀ k (h : k < M.length), I (k + 1) = I k ++ [insE M k M[k]] := fun k h => by
    rw [hI]; dsimp only; rw [List.take_succ_eq_append_getElem h, rawI_snoc, List.length_take, Nat.zero_add, Nat.min_eq_left (by omega)]
  have Ts : ∀ k (h : k < M.length), T (k + 1) = T k ++ [typE cols M[k]] := fun k h => by
    rw [hT]; dsimp only; rw [List.take_succ_eq_append_getElem h, List.map_append]; rfl
  have IE : I M.length = rawI M M 0 := by rw [hI]; dsimp only; rw [List.take_length]
  have TE : T M.length = M.map (typE cols) := by rw [hT]; dsimp only; rw [List.take_length]
  clear hI hT
  rw [← IE, ← TE]
  obtain ⟨o, n, s, l⟩ := e
  generalize findE M (.mk o n s l) = J at *
  rw [Ex.av_mk] at c1 c2e ⊢
  refine qn Tryz.func64 Tryz.ntmps64 rfl rfl (by decide) rfl (by intro n; simp) fun σ n0 hcl hft => ?_
  repeat' (first | ((first | ((with_reducible refine qo (fun hg => ?_) (fun hg => ?_)) <;> (try simp only [hg]) <;> (try simp only [gS] at hg) <;> (try (first | simp only [eq_false hg, gI] | simp only [eq_true hg, gI]))) | (with_reducible first | refine qf ?_ | refine qe ?_ | refine qk ?_ | refine qj ?_) | refine awp_regionO (id := 1) 1 (by rfl) ?_ | refine acall (c1) ?_ | refine qp (c1) ?_ | refine acall (c2e) ?_ | refine qp (c2e) ?_ | refine qc ?_ | refine qh ?_ | refine qi ?_ | refine qm ?_) <;> (try simp (disch := first | omega | simp) [qg, -qq, -qr, List.take_succ_cons, List.drop_succ_cons])) | ((with_reducible refine sideT ?_ ?_); first | omega | assumption | (simp; done)) | (refine qd fun K hK => ?_) | (refine qa ?_) | refine ql ?_ | ((first | refine hK _ ?_ | (clear hK K; refine hK _ ?_) | (clear hK K; clear hK K; refine hK _ ?_)); clear hK K) | refine qb ?_)
  refine qbf 2 0 78 7 (by rfl) (by rfl) ?_
  refine qbf 2 1 3 1 (by rfl) (by rfl) ?_
  refine qs hcl (fun i : Nat => [(0, .sl (cols.map AV.int)), (3, .ptr n0 0), (4, .ptr (n0 + 1) 0), (5, .sl (M.map Ex.av)), (6, .ptr (n0 + 2) 0), (7, .int i)])
    (fun i => [.cells [.int o, .int n, .str s, .sl (l.map Ex.av)] 25, .cells [.v (.slice none 0 0), .v (.slice none 0 0), .int 0] 45,
      .cells [.gs (n0 + 3) ((I i).map Ins.av), .gs (n0 + 4) ((T i).map AV.int), .int J] 45, .tail (I i).length 78 7, .tail (T i).length 3 1])
    (fun i => i ≤ M.length) (fun i => M.length - i) 0 (by omega) (by simp [I0, T0]) fun i hi => ?_
  have il := Il i hi
  have tl := Tl i hi
  by_cases hlt : i < M.length
  · have is := Is i hlt
    have ts := Ts i hlt
    have c4 := c3 i hlt
    have hz1 : ((I i).length + 1) * 56 ≤ 140737488355328 := by omega
    have hz2 : ((T i).length + 1) * 8 ≤ 140737488355328 := by omega
    obtain ⟨y, hy⟩ : ∃ y, y = M[i] := ⟨_, rfl⟩
    rw [← hy] at is ts c4
    unfold insE at is
    have hya : y.args.length ≤ 1000000 := by
      have h1 := hmp _ (List.getElem_mem hlt)
      rw [← hy] at h1
      obtain ⟨o2, n2, s2, l2⟩ := y
      rw [parts] at h1
      have := qbd l2
      show l2.length ≤ _
      omega
    have c5 := fun k (h : k < y.args.length) => c2 y.args[k]
    obtain ⟨A, hA⟩ : ∃ A : Nat → Nat → Int, A = fun k m => if m < k then argI M y m else 0 := ⟨_, rfl⟩
    have A0 : A 0 0 = 0 ∧ A 0 1 = 0 ∧ A 0 2 = 0 := by rw [hA]; simp
    have A1 : ∀ k m (h : k < y.args.length), A (k + 1) m = if m = k then findE M y.args[k] else A k m := fun k m h => by
      rw [hA]; dsimp only
      by_cases hm : m = k
      · subst hm
        rw [if_pos (by omega), if_pos rfl, argI, List.getElem?_eq_getElem h]
      · rw [if_neg hm]
        by_cases hm2 : m < k
        · rw [if_pos (by omega), if_pos hm2]
        · rw [if_neg (by omega), if_neg hm2]
    have A2 : ∀ m, argI M y m = A y.args.length m := fun m => by
      rw [hA]; dsimp only
      split
      · rfl
      · rename_i h; rw [argI, List.getElem?_eq_none (by omega)]
    clear hA
    rw [A2, A2, A2] at is
    repeat' (first | ((first | ((with_reducible refine qo (fun hg => ?_) (fun hg => ?_)) <;> (try simp only [hg]) <;> (try simp only [gS] at hg) <;> (try (first | simp only [eq_false hg, gI] | simp only [eq_true hg, gI]))) | (with_reducible first | refine qf ?_ | refine qe ?_ | refine qk ?_ | refine qj ?_) | refine qc ?_ | refine qh ?_ | refine qi ?_ | refine qm ?_) <;> (try simp (disch := first | omega | simp) [qg, -qq, -qr, hlt, ← hy])) | ((with_reducible refine sideT ?_ ?_); first | omega | assumption | (simp; done)) | (refine qd fun K hK => ?_) | (refine qa ?_) | refine ql ?_ | ((first | refine hK _ ?_ | (clear hK K; refine hK _ ?_) | (clear hK K; clear hK K; refine hK _ ?_)); clear hK K) | refine qb ?_)
    refine qs hcl (fun k : Nat => [(0, .sl (cols.map AV.int)), (3, .ptr n0 0), (4, .ptr (n0 + 1) 0), (5, .sl (M.map Ex.av)), (6, .ptr (n0 + 2) 0), (7, .int i), (8, .ptr (n0 + 5) 0), (9, .int k)])
      (fun k => [.cells [.int o, .int n, .str s, .sl (l.map Ex.av)] 25, .cells [.v (.slice none 0 0), .v (.slice none 0 0), .int 0] 45,
        .cells [.gs (n0 + 3) ((I i).map Ins.av), .gs (n0 + 4) ((T i).map AV.int), .int J] 45, .tail (I i).length 78 7, .tail (T i).length 3 1,
        .cells [.int y.op, .int i, .int (A k 0), .int (A k 1), .int (A k 2), .int y.n, .str y.s] 78])
      (fun k => k ≤ y.args.length) (fun k => y.args.length - k) 0 (by omega) (by simp [A0]) fun k hk => ?_
    by_cases hlk : k < y.args.length
    · have c6 := c5 k hlk
      have a0 := A1 k 0 hlk
      have a1 := A1 k 1 hlk
      have a2 := A1 k 2 hlk
      generalize hw : findE M y.args[k] = w at *
      by_cases k0 : k = 0
      · subst k0
        have hq : y.args ≠ [] := fun e => by rw [e] at hlk; simp at hlk
        simp at a0 a1 a2
        repeat' (first | ((first | ((with_reducible refine qo (fun hg => ?_) (fun hg => ?_)) <;> (try simp only [hg]) <;> (try simp only [gS] at hg) <;> (try (first | simp only [eq_false hg, gI] | simp only [eq_true hg, gI]))) | (with_reducible first | refine qf ?_ | refine qe ?_ | refine qk ?_ | refine qj ?_) | refine acall (c6) ?_ | refine qp (c6) ?_ | refine qc ?_ | refine qh ?_ | refine qi ?_ | refine qm ?_) <;> (try simp (disch := first | omega | simp) [qg, -qq, -qr, hlt, ← hy, hq, hlk])) | ((with_reducible refine sideT ?_ ?_); first | omega | assumption | (simp; done)) | (refine qd fun K hK => ?_) | (refine qa ?_) | refine ql ?_ | ((first | refine hK _ ?_ | (clear hK K; refine hK _ ?_) | (clear hK K; clear hK K; refine hK _ ?_)); clear hK K) | refine qb ?_)
        all_goals first | (refine ⟨1, by omega, by omega, ?_⟩; simp [a0, a1, a2]; done) | skip
      · by_cases k1 : k = 1
        · subst k1
          have hq : (1 : Int) < y.args.length := by omega
          simp at a0 a1 a2
          repeat' (first | ((first | ((with_reducible refine qo (fun hg => ?_) (fun hg => ?_)) <;> (try simp only [hg]) <;> (try simp only [gS] at hg) <;> (try (first | simp only [eq_false hg, gI] | simp only [eq_true hg, gI]))) | (with_reducible first | refine qf ?_ | refine qe ?_ | refine qk ?_ | refine qj ?_) | refine acall (c6) ?_ | refine qp (c6) ?_ | refine qc ?_ | refine qh ?_ | refine qi ?_ | refine qm ?_) <;> (try simp (disch := first | omega | simp) [qg, -qq, -qr, hlt, ← hy, hq, hlk])) | ((with_reducible refine sideT ?_ ?_); first | omega | assumption | (simp; done)) | (refine qd fun K hK => ?_) | (refine qa ?_) | refine ql ?_ | ((first | refine hK _ ?_ | (clear hK K; refine hK _ ?_) | (clear hK K; clear hK K; refine hK _ ?_)); clear hK K) | refine qb ?_)
          all_goals first | (refine ⟨2, by omega, by omega, ?_⟩; simp [a0, a1, a2]; done) | skip
        · by_cases k2 : k = 2
          · subst k2
            have hq : (2 : Int) < y.args.length := by omega
            simp at a0 a1 a2
            repeat' (first | ((first | ((with_reducible refine qo (fun hg => ?_) (fun hg => ?_)) <;> (try simp only [hg]) <;> (try simp only [gS] at hg) <;> (try (first | simp only [eq_false hg, gI] | simp only [eq_true hg, gI]))) | (with_reducible first | refine qf ?_ | refine qe ?_ | refine qk ?_ | refine qj ?_) | refine acall (c6) ?_ | refine qp (c6) ?_ | refine qc ?_ | refine qh ?_ | refine qi ?_ | refine qm ?_) <;> (try simp (disch := first | omega | simp) [qg, -qq, -qr, hlt, ← hy, hq, hlk])) | ((with_reducible refine sideT ?_ ?_); first | omega | assumption | (simp; done)) | (refine qd fun K hK => ?_) | (refine qa ?_) | refine ql ?_ | ((first | refine hK _ ?_ | (clear hK K; refine hK _ ?_) | (clear hK K; clear hK K; refine hK _ ?_)); clear hK K) | refine qb ?_)
            all_goals first | (refine ⟨3, by omega, by omega, ?_⟩; simp [a0, a1, a2]; done) | skip
          · rw [if_neg (by omega)] at a0 a1 a2
            repeat' (first | ((first | ((with_reducible refine qo (fun hg => ?_) (fun hg => ?_)) <;> (try simp only [hg]) <;> (try simp only [gS] at hg) <;> (try (first | simp only [eq_false hg, gI] | simp only [eq_true hg, gI]))) | (with_reducible first | refine qf ?_ | refine qe ?_ | refine qk ?_ | refine qj ?_) | refine acall (c6) ?_ | refine qp (c6) ?_ | refine qc ?_ | refine qh ?_ | refine qi ?_ | refine qm ?_) <;> (try simp (disch := first | omega | simp) [qg, -qq, -qr, hlt, ← hy, hlk, k0, k1, k2])) | ((with_reducible refine sideT ?_ ?_); first | omega | assumption | (simp; done)) | (refine qd fun K hK => ?_) | (refine qa ?_) | refine ql ?_ | ((first | refine hK _ ?_ | (clear hK K; refine hK _ ?_) | (clear hK K; clear hK K; refine hK _ ?_)); clear hK K) | refine qb ?_)
            all_goals first | (exfalso; omega) | (refine ⟨k + 1, by omega, by omega, ?_⟩; simp [a0, a1, a2]; done) | skip
    · obtain rfl : k = y.args.length := by omega
      repeat' (first | ((first | ((with_reducible refine qo (fun hg => ?_) (fun hg => ?_)) <;> (try simp only [hg]) <;> (try simp only [gS] at hg) <;> (try (first | simp only [eq_false hg, gI] | simp only [eq_true hg, gI]))) | (with_reducible first | refine qf ?_ | refine qe ?_ | refine qk ?_ | refine qj ?_) | refine acall (c4) ?_ | refine qp (c4) ?_ | refine qc ?_ | refine qh ?_ | refine qi ?_ | refine qm ?_) <;> (try simp (disch := first | omega | simp) [qg, -qq, -qr, hlt, ← hy, hlk, hz1, hz2])) | ((with_reducible refine sideT ?_ ?_); first | omega | assumption | (simp; done)) | (refine qd fun K hK => ?_) | (refine qa ?_) | refine ql ?_ | ((first | refine hK _ ?_ | (clear hK K; refine hK _ ?_) | (clear hK K; clear hK K; refine hK _ ?_)); clear hK K) | refine qb ?_)
      refine ⟨i + 1, by omega, by omega, ?_⟩
      rw [is, ts]
      simp [Ins.av, -Ins.av_fold, typE]
  · obtain rfl : i = M.length := by omega
    repeat' (first | ((first | ((with_reducible refine qo (fun hg => ?_) (fun hg => ?_)) <;> (try simp only [hg]) <;> (try simp only [gS] at hg) <;> (try (first | simp only [eq_false hg, gI] | simp only [eq_true hg, gI]))) | (with_reducible first | refine qf ?_ | refine qe ?_ | refine qk ?_ | refine qj ?_) | refine qc ?_ | refine qh ?_ | refine qi ?_ | refine qm ?_) <;> (try simp (disch := first | omega | simp) [qg, -qq, -qr, hlt])) | ((with_reducible refine sideT ?_ ?_); first | omega | assumption | (simp; done)) | (refine qd fun K hK => ?_) | (refine qa ?_) | refine ql ?_ | ((first | refine hK _ ?_ | (clear hK K; refine hK _ ?_) | (clear hK K; clear hK K; refine hK _ ?_)); clear hK K) | refine qb ?_)
    rfl
end Go.Proofs.YtnkimlkoijfcpaaGreatDoor

/- Tables of the program: the address of an element of a global array, and what stands there. -/
namespace Go.Proofs.YtnkimlkoijfcpaaGreatDoor
open Go.RowKit Go.Lib
section
variable {P : Program} {ev : Operand → AV} {σ : Nat → AB}
theorem fop_indexG {t e : TypeId} {n g : Nat} {p i : Operand} {ik : IntKind} {k : Int} {ag : Bool} {sz : Nat} (ht : P.underlying t = some (.array n e)) (hs : tinfo P e = some (ag, sz)) (hp : ev p = .v (.pointer (some ⟨g, 0, none⟩))) (hi : ev i = .v (.int ik k)) (h0 : 0 ≤ k) (h1 : k < n) :
    FOp P ev σ (.indexAddr t p i) (.v (.pointer (some ⟨g, k.toNat * sz, none⟩))) none := FOp.of fun X a oper ho hS hsub hev => by
  have h := hev p (by simp [Op.operands])
  have h2 := hev i (by simp [Op.operands])
  rw [hp, RR.v] at h; rw [hi, RR.v] at h2
  refine ⟨.pointer (some ⟨g, k.toNat * sz, none⟩), ?_, RR.v.2 rfl⟩
  have := (qbw hs X.w).2
  simp [execOp, ho, h, h2, Instr.indexAt, Instr.sureAddr, asIntOf, underlying, ht, h0, h1, this, qbi]
theorem fop_loadG {t : TypeId} {p : Operand} {g o n : Nat} {cs : List Value} {v : Value} (ht : tinfo P t = some (false, n)) (hp : ev p = .v (.pointer (some ⟨g, o, none⟩))) (hg : gtab g = some cs) (hv : cs[o]? = some v) :
    FOp P ev σ (.load t p) (.v v) none := FOp.of fun X a oper ho hS hsub hev => by
  have h := hev p (by simp [Op.operands])
  rw [hp, RR.v] at h
  have hG := gtab_ok hS.glob hg
  have hc := hG.1.at.get o v hv
  rw [Nat.zero_add] at hc
  refine ⟨v, ?_, RR.v.2 rfl⟩
  have h1 : (loadVar t ⟨g, o, none⟩).run P X.w = .ok v X.w := by simp [loadVar, (qbw ht X.w).1, hc]
  simp [execOp, ho, h, Instr.loadAt, Instr.sureAddr, h1]
end
def aevG (P : Program) (s : AS) (o : Op) (K : AV → AS → Prop) : Prop :=
  match o with
  | .indexAddr t p i => match P.underlying t with
    | some (.array n e) => match tinfo P e, s.eval p, s.eval i with
      | some (_, sz), .v (.pointer (some ⟨g, 0, none⟩)), .v (.int _ k) => 0 ≤ k ∧ k < n ∧ K (.v (.pointer (some ⟨g, k.toNat * sz, none⟩))) s
      | _, _, _ => False
    | _ => aev P s (.indexAddr t p i) K
  | .load t p => match s.eval p with
    | .v (.pointer (some ⟨g, o, none⟩)) => match tinfo P t, gtab g with
      | some (false, _), some cs => match cs[o]? with
        | some v => K (.v v) s
        | none => False
      | _, _ => False
    | _ => aev P s (.load t p) K
  | o => aev P s o K
theorem aevG_sound {P : Program} {s : AS} {o : Op} {K : AV → AS → Prop} (h : aevG P s o K) : EOp P s o K := by
  unfold aevG at h
  split at h
  · split at h
    · split at h
      · exact eop_fun (nb := none) (fop_indexG ‹_› ‹_› ‹_› ‹_› h.1 h.2.1) h.2.2
      · exact h.elim
    · exact qcf h
  · split at h
    · split at h
      · split at h
        · exact eop_fun (nb := none) (fop_loadG ‹_› ‹_› ‹_› ‹_›) h
        · exact h.elim
      · exact h.elim
    · exact qcf h
  · exact qcf h
def aseqG (P : Program) (ops : Array Oper) (K : AS → Prop) : List Oper → AS → Prop
  | [], s => K s
  | o :: l, s => match awant ops o s.t with
    | some b => qbz b (aevG P s o.op (fun x s1 => dstOk o.dst s1.n ∧ aseqG P ops K l (s1.put o.dst x))) (dstOk o.dst s.n ∧ aseqG P ops K l (s.put o.dst (.v undef)))
    | none => False
theorem aseqG_sound {P : Program} {ops : Array Oper} {K : AS → Prop} : ∀ {l : List Oper} {s : AS}, aseqG P ops K l s → aseq P ops K l s
  | [], _, h => h
  | o :: l, s, h => by
    rw [aseqG] at h
    rw [aseq]
    split at h
    · rename_i b hb
      cases b with
      | true => exact ⟨true, hb, (aevG_sound (h.1 rfl)).mono fun x s1 ⟨h1, h2⟩ => ⟨h1, aseqG_sound h2⟩⟩
      | false => exact ⟨false, hb, (h.2 rfl).1, aseqG_sound (h.2 rfl).2⟩
    · exact h.elim
theorem awp_regionG {P : Program} {s : AS} {id : Nat} {l : List Oper} {Q : Exit → AS → Prop} (h : aseqG P l.toArray (Q .normal) l s) : awp P (.region id l.toArray false) Q s := qcm (aseqG_sound h)
theorem aseqG_step {P : Program} {ops : Array Oper} {K : AS → Prop} {o : Oper} {l : List Oper} {s : AS} (h : match awant ops o s.t with
    | some b => qbz b (aevG P s o.op (fun x s1 => dstOk o.dst s1.n ∧ aseqG P ops K l (s1.put o.dst x))) (dstOk o.dst s.n ∧ aseqG P ops K l (s.put o.dst (.v undef)))
    | none => False) : aseqG P ops K (o :: l) s := h
theorem aseqG_end {P : Program} {ops : Array Oper} {K : AS → Prop} {s : AS} (h : K s) : aseqG P ops K [] s := h
attribute [simp] aevG
end Go.Proofs.YtnkimlkoijfcpaaGreatDoor

/- Slices that a call does not make: parts of them. -/
namespace Go.Proofs.YtnkimlkoijfcpaaGreatDoor
@[simp] theorem AV.cls_take {m : Nat} {l : List AV} (h : AV.cls m l) (k : Nat) : AV.cls m (l.take k) := AV.cls_iff.2 fun x hx => AV.cls_iff.1 h x (List.mem_of_mem_take hx)
@[simp] theorem AV.cls_replicate {m n : Nat} {x : AV} (h : x.cl m) : AV.cls m (List.replicate n x) := AV.cls_iff.2 fun y hy => by rw [(List.mem_replicate.1 hy).2]; exact h
theorem loc_nil {σ : Nat → AB} {n0 : Nat} (h : Fin σ n0) : loc σ n0 [] = σ := by
  funext r
  unfold loc
  split
  · rfl
  · rename_i hr; rw [h r (by omega)]; rfl
end Go.Proofs.YtnkimlkoijfcpaaGreatDoor

/- Walks of layer 25: operations, operands, and whether an instruction is formed. -/
namespace Go.Proofs.YtnkimlkoijfcpaaGreatDoor
open Go.RowKit Go.Lib
theorem isOp_g (o : Int) : Gives Tryz.prog 145 [.int o] (.bool (opOk o)) := by
  by_cases h : 0 ≤ o ∧ o < 23
  · have h2 : o = 0 ∨ o = 1 ∨ o = 2 ∨ o = 3 ∨ o = 4 ∨ o = 5 ∨ o = 6 ∨ o = 7 ∨ o = 8 ∨ o = 9 ∨ o = 10 ∨ o = 11 ∨ o = 12 ∨ o = 13 ∨ o = 14 ∨ o = 15 ∨ o = 16 ∨ o = 17 ∨ o = 18 ∨ o = 19 ∨ o = 20 ∨ o = 21 ∨ o = 22 := by omega
    clear h
    rcases h2 with rfl | rfl | rfl | rfl | rfl | rfl | rfl | rfl | rfl | rfl | rfl | rfl | rfl | rfl | rfl | rfl | rfl | rfl | rfl | rfl | rfl | rfl | rfl
    all_goals
      refine qn Tryz.func145 Tryz.ntmps145 rfl rfl (by decide) rfl (by intro n; simp) fun σ n0 hcl hft => ?_
      repeat' (first | ((first | ((with_reducible refine qo (fun hg => ?_) (fun hg => ?_)) <;> (try simp only [hg]) <;> (try simp only [gS] at hg) <;> (try (first | simp only [eq_false hg, gI] | simp only [eq_true hg, gI]))) | (with_reducible first | refine qf ?_ | refine qe ?_ | refine qk ?_ | refine qj ?_ | refine aseqG_step ?_ | refine aseqG_end ?_) | refine qc ?_ | refine qh ?_ | refine qi ?_ | refine qm ?_) <;> (try simp (disch := first | omega | simp) [qg, -qq, -qr])) | (with_reducible refine awp_regionG (id := 1) ?_) | ((with_reducible refine sideT ?_ ?_); first | omega | assumption | (simp; done)) | (refine qd fun K hK => ?_) | (refine qa ?_) | refine ql ?_ | ((first | refine hK _ ?_ | (clear hK K; refine hK _ ?_) | (clear hK K; clear hK K; refine hK _ ?_)); clear hK K) | refine qb ?_)
      try rfl
  · have hf : opOk o = false := by unfold opOk; simp; omega
    rw [hf]
    by_cases h0 : 0 ≤ o
    · have h1 : ¬ o < 23 := by omega
      refine qn Tryz.func145 Tryz.ntmps145 rfl rfl (by decide) rfl (by intro n; simp) fun σ n0 hcl hft => ?_
      repeat' (first | ((first | ((with_reducible refine qo (fun hg => ?_) (fun hg => ?_)) <;> (try simp only [hg]) <;> (try simp only [gS] at hg) <;> (try (first | simp only [eq_false hg, gI] | simp only [eq_true hg, gI]))) | (with_reducible first | refine qf ?_ | refine qe ?_ | refine qk ?_ | refine qj ?_ | refine aseqG_step ?_ | refine aseqG_end ?_) | refine qc ?_ | refine qh ?_ | refine qi ?_ | refine qm ?_) <;> (try simp (disch := first | omega | simp) [qg, -qq, -qr, h0, h1])) | (with_reducible refine awp_regionG (id := 1) ?_) | ((with_reducible refine sideT ?_ ?_); first | omega | assumption | (simp; done)) | (refine qd fun K hK => ?_) | (refine qa ?_) | refine ql ?_ | ((first | refine hK _ ?_ | (clear hK K; refine hK _ ?_) | (clear hK K; clear hK K; refine hK _ ?_)); clear hK K) | refine qb ?_)
    · refine qn Tryz.func145 Tryz.ntmps145 rfl rfl (by decide) rfl (by intro n; simp) fun σ n0 hcl hft => ?_
      repeat' (first | ((first | ((with_reducible refine qo (fun hg => ?_) (fun hg => ?_)) <;> (try simp only [hg]) <;> (try simp only [gS] at hg) <;> (try (first | simp only [eq_false hg, gI] | simp only [eq_true hg, gI]))) | (with_reducible first | refine qf ?_ | refine qe ?_ | refine qk ?_ | refine qj ?_ | refine aseqG_step ?_ | refine aseqG_end ?_) | refine qc ?_ | refine qh ?_ | refine qi ?_ | refine qm ?_) <;> (try simp (disch := first | omega | simp) [qg, -qq, -qr, h0])) | (with_reducible refine awp_regionG (id := 1) ?_) | ((with_reducible refine sideT ?_ ?_); first | omega | assumption | (simp; done)) | (refine qd fun K hK => ?_) | (refine qa ?_) | refine ql ?_ | ((first | refine hK _ ?_ | (clear hK K; refine hK _ ?_) | (clear hK K; clear hK K; refine hK _ ?_)); clear hK K) | refine qb ?_)
theorem arity_g (o : Int) : Gives Tryz.prog 146 [.int o] (.int (arO o)) := by
  obtain ⟨R, hR⟩ : ∃ R, R = arO o := ⟨_, rfl⟩
  rw [← hR]
  unfold arO at hR
  refine qn Tryz.func146 Tryz.ntmps146 rfl rfl (by decide) rfl (by intro n; simp) fun σ n0 hcl hft => ?_
  repeat' (first | ((first | ((with_reducible refine qo (fun hg => ?_) (fun hg => ?_)) <;> (try simp only [hg]) <;> (try simp only [gS] at hg) <;> (try (first | simp only [eq_false hg, gI] | simp only [eq_true hg, gI]))) | (with_reducible first | refine qf ?_ | refine qe ?_ | refine qk ?_ | refine qj ?_) | refine qc ?_ | refine qh ?_ | refine qi ?_ | refine qm ?_) <;> (try simp (disch := first | omega | simp) [qg, -qq, -qr])) | ((with_reducible refine sideT ?_ ?_); first | omega | assumption | (simp; done)) | (refine qd fun K hK => ?_) | (refine qa ?_) | refine ql ?_ | ((first | refine hK _ ?_ | (clear hK K; refine hK _ ?_) | (clear hK K; clear hK K; refine hK _ ?_)); clear hK K) | refine qb ?_)
  all_goals (subst hR; simp_all)
theorem ops_g (x : Ins) : Gives Tryz.prog 114 [x.av] (.sl ((opsP x).map AV.int)) := by
  have c1 := isOp_g x.op
  have c2 := arity_g x.op
  have hle := arO_le x.op
  unfold opsP
  generalize opOk x.op = b at *
  generalize arO x.op = n at *
  have hcl : ∀ m, AV.cls m ([AV.int x.a, .int x.b, .int x.c].take n) := fun m => AV.cls_take (by simp) n
  cases b
  · refine qn Tryz.func114 Tryz.ntmps114 rfl rfl (by decide) rfl (by intro n; simp) fun σ n0 hcl hft => ?_
    repeat' (first | ((first | ((with_reducible refine qo (fun hg => ?_) (fun hg => ?_)) <;> (try simp only [hg]) <;> (try simp only [gS] at hg) <;> (try (first | simp only [eq_false hg, gI] | simp only [eq_true hg, gI]))) | (with_reducible first | refine qf ?_ | refine qe ?_ | refine qk ?_ | refine qj ?_) | refine acall (c1) ?_ | refine qp (c1) ?_ | refine qc ?_ | refine qh ?_ | refine qi ?_ | refine qm ?_) <;> (try simp (disch := first | omega | simp) [qg, -qq, -qr])) | ((with_reducible refine sideT ?_ ?_); first | omega | assumption | (simp; done)) | (refine qd fun K hK => ?_) | (refine qa ?_) | refine ql ?_ | ((first | refine hK _ ?_ | (clear hK K; refine hK _ ?_) | (clear hK K; clear hK K; refine hK _ ?_)); clear hK K) | refine qb ?_)
  · refine qn Tryz.func114 Tryz.ntmps114 rfl rfl (by decide) rfl (by intro n; simp) fun σ n0 hcl hft => ?_
    repeat' (first | ((first | ((with_reducible refine qo (fun hg => ?_) (fun hg => ?_)) <;> (try simp only [hg]) <;> (try simp only [gS] at hg) <;> (try (first | simp only [eq_false hg, gI] | simp only [eq_true hg, gI]))) | (with_reducible first | refine qf ?_ | refine qe ?_ | refine qk ?_ | refine qj ?_) | refine acall (c1) ?_ | refine qp (c1) ?_ | refine acall (c2) ?_ | refine qp (c2) ?_ | refine qc ?_ | refine qh ?_ | refine qi ?_ | refine qm ?_) <;> (try simp (disch := first | omega | simp) [qg, -qq, -qr])) | ((with_reducible refine sideT ?_ ?_); first | omega | assumption | (simp; done)) | (refine qd fun K hK => ?_) | (refine qa ?_) | refine ql ?_ | ((first | refine hK _ ?_ | (clear hK K; refine hK _ ?_) | (clear hK K; clear hK K; refine hK _ ?_)); clear hK K) | refine qb ?_)
    all_goals first | exact hcl _ | simp_all
end Go.Proofs.YtnkimlkoijfcpaaGreatDoor

/- Walk of layer 25: whether an instruction is formed. -/
namespace Go.Proofs.YtnkimlkoijfcpaaGreatDoor
open Go.RowKit Go.Lib
end Go.Proofs.YtnkimlkoijfcpaaGreatDoor

/- Walks of layer 25's reference: names, operands, whether an instruction is formed. -/
namespace Go.Proofs.YtnkimlkoijfcpaaGreatDoor
open Go.RowKit Go.Lib
theorem rarity_g (o : Int) : Gives Tryz.prog 162 [.int o] (.int (arO o)) := by
  obtain ⟨R, hR⟩ : ∃ R, R = arO o := ⟨_, rfl⟩
  rw [← hR]
  unfold arO at hR
  refine qn Tryz.func162 Tryz.ntmps162 rfl rfl (by decide) rfl (by intro n; simp) fun σ n0 hcl hft => ?_
  repeat' (first | ((first | ((with_reducible refine qo (fun hg => ?_) (fun hg => ?_)) <;> (try simp only [hg]) <;> (try simp only [gS] at hg) <;> (try (first | simp only [eq_false hg, gI] | simp only [eq_true hg, gI]))) | (with_reducible first | refine qf ?_ | refine qe ?_ | refine qk ?_ | refine qj ?_) | refine qc ?_ | refine qh ?_ | refine qi ?_ | refine qm ?_ | refine awp_label ?_) <;> (try simp (disch := first | omega | simp) [qg, -qq, -qr])) | ((with_reducible refine sideT ?_ ?_); first | omega | assumption | (simp; done)) | (refine qd fun K hK => ?_) | (refine qa ?_) | refine ql ?_ | ((first | refine hK _ ?_ | (clear hK K; refine hK _ ?_) | (clear hK K; clear hK K; refine hK _ ?_)); clear hK K) | refine qb ?_ | refine awp_scope ?_)
  all_goals (subst hR; simp_all)
def nameS (o : Int) : ByteArray := if 0 ≤ o ∧ o < 23 then (match qba[o.toNat]? with | some (.string s) => s | _ => ByteArray.empty) else ByteArray.empty
theorem cases23 {o : Int} (h : 0 ≤ o ∧ o < 23) : o = 0 ∨ o = 1 ∨ o = 2 ∨ o = 3 ∨ o = 4 ∨ o = 5 ∨ o = 6 ∨ o = 7 ∨ o = 8 ∨ o = 9 ∨ o = 10 ∨ o = 11 ∨ o = 12 ∨ o = 13 ∨ o = 14 ∨ o = 15 ∨ o = 16 ∨ o = 17 ∨ o = 18 ∨ o = 19 ∨ o = 20 ∨ o = 21 ∨ o = 22 := by omega
theorem nameS_ok (o : Int) : (nameS o).toList = [] ↔ opOk o = false := by
  rw [ByteArray.toList_eq]
  by_cases h : 0 ≤ o ∧ o < 23
  · rcases cases23 h with rfl | rfl | rfl | rfl | rfl | rfl | rfl | rfl | rfl | rfl | rfl | rfl | rfl | rfl | rfl | rfl | rfl | rfl | rfl | rfl | rfl | rfl | rfl
    all_goals decide
  · unfold nameS
    rw [if_neg h]
    have hf : opOk o = false := by unfold opOk; simp; omega
    rw [hf]; simp
set_option maxHeartbeats 4000000 in
theorem rname_g (o : Int) : Gives Tryz.prog 161 [.int o] (.str (nameS o)) := by
  by_cases h : 0 ≤ o ∧ o < 23
  · rcases cases23 h with rfl | rfl | rfl | rfl | rfl | rfl | rfl | rfl | rfl | rfl | rfl | rfl | rfl | rfl | rfl | rfl | rfl | rfl | rfl | rfl | rfl | rfl | rfl
    all_goals
      refine qn Tryz.func161 Tryz.ntmps161 rfl rfl (by decide) rfl (by intro n; simp) fun σ n0 hcl hft => ?_
      repeat' (first | ((first | ((with_reducible refine qo (fun hg => ?_) (fun hg => ?_)) <;> (try simp only [hg]) <;> (try simp only [gS] at hg) <;> (try (first | simp only [eq_false hg, gI] | simp only [eq_true hg, gI]))) | (with_reducible first | refine qf ?_ | refine qe ?_ | refine qk ?_ | refine qj ?_) | refine qc ?_ | refine qh ?_ | refine qi ?_ | refine qm ?_) <;> (try simp (disch := first | omega | simp) [qg, -qq, -qr])) | ((with_reducible refine sideT ?_ ?_); first | omega | assumption | (simp; done)) | (refine qd fun K hK => ?_) | (refine qa ?_) | refine ql ?_ | ((first | refine hK _ ?_ | (clear hK K; refine hK _ ?_) | (clear hK K; clear hK K; refine hK _ ?_)); clear hK K) | refine qb ?_)
      try rfl
  · have hn : nameS o = ByteArray.empty := by unfold nameS; rw [if_neg h]
    rw [hn]
    by_cases h0 : o < 0
    · refine qn Tryz.func161 Tryz.ntmps161 rfl rfl (by decide) rfl (by intro n; simp) fun σ n0 hcl hft => ?_
      repeat' (first | ((first | ((with_reducible refine qo (fun hg => ?_) (fun hg => ?_)) <;> (try simp only [hg]) <;> (try simp only [gS] at hg) <;> (try (first | simp only [eq_false hg, gI] | simp only [eq_true hg, gI]))) | (with_reducible first | refine qf ?_ | refine qe ?_ | refine qk ?_ | refine qj ?_) | refine qc ?_ | refine qh ?_ | refine qi ?_ | refine qm ?_) <;> (try simp (disch := first | omega | simp) [qg, -qq, -qr, h0])) | ((with_reducible refine sideT ?_ ?_); first | omega | assumption | (simp; done)) | (refine qd fun K hK => ?_) | (refine qa ?_) | refine ql ?_ | ((first | refine hK _ ?_ | (clear hK K; refine hK _ ?_) | (clear hK K; clear hK K; refine hK _ ?_)); clear hK K) | refine qb ?_)
      all_goals first | rfl | (exfalso; omega) | skip
    · have h1 : (23 : Int) ≤ o := by omega
      refine qn Tryz.func161 Tryz.ntmps161 rfl rfl (by decide) rfl (by intro n; simp) fun σ n0 hcl hft => ?_
      repeat' (first | ((first | ((with_reducible refine qo (fun hg => ?_) (fun hg => ?_)) <;> (try simp only [hg]) <;> (try simp only [gS] at hg) <;> (try (first | simp only [eq_false hg, gI] | simp only [eq_true hg, gI]))) | (with_reducible first | refine qf ?_ | refine qe ?_ | refine qk ?_ | refine qj ?_) | refine qc ?_ | refine qh ?_ | refine qi ?_ | refine qm ?_) <;> (try simp (disch := first | omega | simp) [qg, -qq, -qr, h0, h1])) | ((with_reducible refine sideT ?_ ?_); first | omega | assumption | (simp; done)) | (refine qd fun K hK => ?_) | (refine qa ?_) | refine ql ?_ | ((first | refine hK _ ?_ | (clear hK K; refine hK _ ?_) | (clear hK K; clear hK K; refine hK _ ?_)); clear hK K) | refine qb ?_)
      all_goals first | rfl | (exfalso; omega) | skip
set_option maxHeartbeats 1000000 in
theorem rops_g (x : Ins) : Gives Tryz.prog 120 [x.av] (.sl ((opsP x).map AV.int)) := by
  have c1 := rname_g x.op
  have c2 := rarity_g x.op
  have hle := arO_le x.op
  have hok := nameS_ok x.op
  unfold opsP
  generalize opOk x.op = b at *
  generalize arO x.op = n at *
  generalize nameS x.op = s at *
  have hcl : ∀ m, AV.cls m ([AV.int x.a, .int x.b, .int x.c].take n) := fun m => AV.cls_take (by simp) n
  cases b
  · have hs : s.toList = [] := hok.2 rfl
    refine qn Tryz.func120 Tryz.ntmps120 rfl rfl (by decide) rfl (by intro n; simp) fun σ n0 hcl hft => ?_
    repeat' (first | ((first | ((with_reducible refine qo (fun hg => ?_) (fun hg => ?_)) <;> (try simp only [hg]) <;> (try simp only [gS] at hg) <;> (try (first | simp only [eq_false hg, gI] | simp only [eq_true hg, gI]))) | (with_reducible first | refine qf ?_ | refine qe ?_ | refine qk ?_ | refine qj ?_) | refine acall (c1) ?_ | refine qp (c1) ?_ | refine qc ?_ | refine qh ?_ | refine qi ?_ | refine qm ?_) <;> (try simp (disch := first | omega | simp) [qg, -qq, -qr, hs])) | ((with_reducible refine sideT ?_ ?_); first | omega | assumption | (simp; done)) | (refine qd fun K hK => ?_) | (refine qa ?_) | refine ql ?_ | ((first | refine hK _ ?_ | (clear hK K; refine hK _ ?_) | (clear hK K; clear hK K; refine hK _ ?_)); clear hK K) | refine qb ?_)
    all_goals first | rfl
  · have hs : ¬ s.toList = [] := fun e => by have := hok.1 e; cases this
    refine qn Tryz.func120 Tryz.ntmps120 rfl rfl (by decide) rfl (by intro n; simp) fun σ n0 hcl hft => ?_
    repeat' (first | ((first | ((with_reducible refine qo (fun hg => ?_) (fun hg => ?_)) <;> (try simp only [hg]) <;> (try simp only [gS] at hg) <;> (try (first | simp only [eq_false hg, gI] | simp only [eq_true hg, gI]))) | (with_reducible first | refine qf ?_ | refine qe ?_ | refine qk ?_ | refine qj ?_) | refine acall (c1) ?_ | refine qp (c1) ?_ | refine acall (c2) ?_ | refine qp (c2) ?_ | refine qc ?_ | refine qh ?_ | refine qi ?_ | refine qm ?_) <;> (try simp (disch := first | omega | simp) [qg, -qq, -qr, hs])) | ((with_reducible refine sideT ?_ ?_); first | omega | assumption | (simp; done)) | (refine qd fun K hK => ?_) | (refine qa ?_) | refine ql ?_ | ((first | refine hK _ ?_ | (clear hK K; refine hK _ ?_) | (clear hK K; clear hK K; refine hK _ ?_)); clear hK K) | refine qb ?_)
    all_goals first | exact hcl _ | (simp_all; done)
end Go.Proofs.YtnkimlkoijfcpaaGreatDoor
