/- Walks of the laws of layer 25: bounds, programs that suit, equal programs. -/
import Derived.Test.YtgpcpmfdklpifaaGreatDoorGa14
import Derived.Test.YtgpcpmfdklpifaaGreatDoorGa16
set_option linter.unusedSimpArgs false
set_option linter.unusedVariables false
namespace Go.Proofs.YtgpcpmfdklpifaaGreatDoor
open Go.RowKit Go.Lib
def fewB (c : Cod) : Bool := c.ins.all (fun x => decide (x.s.size ≤ 210)) && (decide (c.ins.length ≤ 60) && decide (c.types.length ≤ 60))
theorem gives_lenA {P : Program} {f : FuncId} {l r : List AV} {tl : List AV} {x : AV} (h : l.length ≤ 9223372036854775807 → Gives P f (.agg (.sl l :: r) :: tl) x) : Gives P f (.agg (.sl l :: r) :: tl) x := by
  intro σ X vals nx hS hσ hF hR
  have hl : l.length ≤ 9223372036854775807 := by
    obtain ⟨v, vs', -, h1, -⟩ := hR
    obtain ⟨cs, -, h1⟩ := h1
    rw [R1s] at h1
    obtain ⟨v, vs, -, -, h2, -⟩ := h1
    rw [RC] at h2
    obtain ⟨A, cap, b, off, -, h2, h3, -⟩ := h2
    omega
  exact h hl σ X vals nx hS hσ hF hR
theorem few_g (c : Cod) : Gives Tryz.prog 20 [c.av] (.bool (fewB c)) := by
  obtain ⟨R, hR⟩ : ∃ R, R = fewB c := ⟨_, rfl⟩
  rw [← hR]
  unfold fewB at hR
  obtain ⟨ins, types, out⟩ := c
  simp only at hR
  unfold Cod.av
  refine gives_lenA fun hlen => ?_
  simp only [List.length_map] at hlen
  refine qn Tryz.func20 Tryz.ntmps20 rfl rfl (by decide) rfl (by intro n; simp) fun σ n0 hcl hft => ?_
  repeat' (first | ((first | ((with_reducible refine qo (fun hg => ?_) (fun hg => ?_)) <;> (try simp only [hg]) <;> (try simp only [gS] at hg) <;> (try (first | simp only [eq_false hg, gI] | simp only [eq_true hg, gI]))) | (with_reducible first | refine qc ?_ | refine qb ?_ | refine qi ?_ | refine qh ?_) | refine qe ?_ | refine qj ?_ | refine qk ?_ | refine qm ?_) <;> (try simp (disch := first | omega | simp) [qg, -qq, -qs])) | ((with_reducible refine sideT ?_ ?_); first | omega | assumption | (simp; done)) | (refine qf fun K hK => ?_) | (refine qa ?_) | refine ql ?_ | ((first | refine hK _ ?_ | (clear hK K; refine hK _ ?_) | (clear hK K; clear hK K; refine hK _ ?_)); clear hK K) | refine qd ?_)
  refine qr hcl (fun k : Nat => [(1, .ptr n0 0), (3, .int k)]) (fun _ => [.cells [.sl (ins.map Ins.av), .sl (types.map AV.int), .int out] 25])
    (fun k => k ≤ ins.length ∧ ∀ j (h : j < ins.length), j < k → ins[j].s.size ≤ 210) (fun k => ins.length - k) 0 (by simp) (by simp) fun k ⟨hk, he⟩ => ?_
  by_cases hlt : k < ins.length
  · by_cases hs : ins[k].s.size ≤ 210
    · have hs2 : ¬ (210 : Int) < ins[k].s.size := by omega
      repeat' (first | ((first | ((with_reducible refine qo (fun hg => ?_) (fun hg => ?_)) <;> (try simp only [hg]) <;> (try simp only [gS] at hg) <;> (try (first | simp only [eq_false hg, gI] | simp only [eq_true hg, gI]))) | (with_reducible first | refine qc ?_ | refine qb ?_ | refine qi ?_ | refine qh ?_) | refine qe ?_ | refine qj ?_ | refine qk ?_ | refine qm ?_) <;> (try simp (disch := first | omega | simp) [qg, -qq, -qs, hlt, hs2])) | ((with_reducible refine sideT ?_ ?_); first | omega | assumption | (simp; done)) | (refine qf fun K hK => ?_) | (refine qa ?_) | refine ql ?_ | ((first | refine hK _ ?_ | (clear hK K; refine hK _ ?_) | (clear hK K; clear hK K; refine hK _ ?_)); clear hK K) | refine qd ?_)
      exact ⟨k + 1, ⟨by omega, qcu (C := fun x : Ins => x.s.size ≤ 210) he fun _ => hs⟩, by omega, by simp⟩
    · have hs2 : (210 : Int) < ins[k].s.size := by omega
      have hb : ins.all (fun x => decide (x.s.size ≤ 210)) = false := by
        rw [List.all_eq_false]
        exact ⟨ins[k], List.getElem_mem _, by simpa using hs⟩
      rw [hb] at hR
      repeat' (first | ((first | ((with_reducible refine qo (fun hg => ?_) (fun hg => ?_)) <;> (try simp only [hg]) <;> (try simp only [gS] at hg) <;> (try (first | simp only [eq_false hg, gI] | simp only [eq_true hg, gI]))) | (with_reducible first | refine qc ?_ | refine qb ?_ | refine qi ?_ | refine qh ?_) | refine qe ?_ | refine qj ?_ | refine qk ?_ | refine qm ?_) <;> (try simp (disch := first | omega | simp) [qg, -qq, -qs, hlt, hs2])) | ((with_reducible refine sideT ?_ ?_); first | omega | assumption | (simp; done)) | (refine qf fun K hK => ?_) | (refine qa ?_) | refine ql ?_ | ((first | refine hK _ ?_ | (clear hK K; refine hK _ ?_) | (clear hK K; clear hK K; refine hK _ ?_)); clear hK K) | refine qd ?_)
      exact hR
  · have hb : ins.all (fun x => decide (x.s.size ≤ 210)) = true := by
      rw [List.all_eq_true]
      intro x hx
      obtain ⟨j, hj, rfl⟩ := List.mem_iff_getElem.1 hx
      exact decide_eq_true (he j hj (by omega))
    rw [hb, Bool.true_and] at hR
    repeat' (first | ((first | ((with_reducible refine qo (fun hg => ?_) (fun hg => ?_)) <;> (try simp only [hg]) <;> (try simp only [gS] at hg) <;> (try (first | simp only [eq_false hg, gI] | simp only [eq_true hg, gI]))) | (with_reducible first | refine qc ?_ | refine qb ?_ | refine qi ?_ | refine qh ?_) | refine qe ?_ | refine qj ?_ | refine qk ?_ | refine qm ?_) <;> (try simp (disch := first | omega | simp) [qg, -qq, -qs, hlt])) | ((with_reducible refine sideT ?_ ?_); first | omega | assumption | (simp; done)) | (refine qf fun K hK => ?_) | (refine qa ?_) | refine ql ?_ | ((first | refine hK _ ?_ | (clear hK K; refine hK _ ?_) | (clear hK K; clear hK K; refine hK _ ?_)); clear hK K) | refine qd ?_)
    all_goals
      rw [hR, Bool.eq_iff_iff]
      simp
      omega
def suitsB (c : Cod) (cols : List Int) (row : List Val) : Bool :=
  fewB c && (decide (cols.length ≤ 12) && (decide (row.length = cols.length) && (rowOk row && (decide (row.map Val.k = cols) && decide ((verP c cols).2 = 0)))))
set_option maxHeartbeats 4000000 in
theorem suits_g (c : Cod) (cols : List Int) (row : List Val) : Gives Tryz.prog 8 [c.av, .sl (cols.map AV.int), .sl (row.map Val.av)] (.bool (suitsB c cols row)) := by
  have c1 := few_g c
  obtain ⟨R, hR⟩ : ∃ R, R = suitsB c cols row := ⟨_, rfl⟩
  rw [← hR]
  unfold suitsB at hR
  by_cases h1 : ¬ cols.length ≤ 12
  · have h1a : (12 : Int) < cols.length := by omega
    rw [decide_eq_false h1, Bool.false_and, Bool.and_false] at hR
    obtain ⟨ins, types, out⟩ := c
    generalize fewB _ = b at *
    cases b
    · refine qn Tryz.func8 Tryz.ntmps8 rfl rfl (by decide) rfl (by intro n; simp) fun σ n0 hcl hft => ?_
      repeat' (first | ((first | ((with_reducible refine qo (fun hg => ?_) (fun hg => ?_)) <;> (try simp only [hg]) <;> (try simp only [gS] at hg) <;> (try (first | simp only [eq_false hg, gI] | simp only [eq_true hg, gI]))) | (with_reducible first | refine qc ?_ | refine qb ?_ | refine qi ?_ | refine qh ?_) | refine acall (c1) ?_ | refine qp (c1) ?_ | refine qe ?_ | refine qj ?_ | refine qk ?_ | refine qm ?_) <;> (try simp (disch := first | omega | simp) [qg, -qq, -qs, h1a])) | ((with_reducible refine sideT ?_ ?_); first | omega | assumption | (simp; done)) | (refine qf fun K hK => ?_) | (refine qa ?_) | refine ql ?_ | ((first | refine hK _ ?_ | (clear hK K; refine hK _ ?_) | (clear hK K; clear hK K; refine hK _ ?_)); clear hK K) | refine qd ?_)
      all_goals exact hR
    · refine qn Tryz.func8 Tryz.ntmps8 rfl rfl (by decide) rfl (by intro n; simp) fun σ n0 hcl hft => ?_
      repeat' (first | ((first | ((with_reducible refine qo (fun hg => ?_) (fun hg => ?_)) <;> (try simp only [hg]) <;> (try simp only [gS] at hg) <;> (try (first | simp only [eq_false hg, gI] | simp only [eq_true hg, gI]))) | (with_reducible first | refine qc ?_ | refine qb ?_ | refine qi ?_ | refine qh ?_) | refine acall (c1) ?_ | refine qp (c1) ?_ | refine qe ?_ | refine qj ?_ | refine qk ?_ | refine qm ?_) <;> (try simp (disch := first | omega | simp) [qg, -qq, -qs, h1a])) | ((with_reducible refine sideT ?_ ?_); first | omega | assumption | (simp; done)) | (refine qf fun K hK => ?_) | (refine qa ?_) | refine ql ?_ | ((first | refine hK _ ?_ | (clear hK K; refine hK _ ?_) | (clear hK K; clear hK K; refine hK _ ?_)); clear hK K) | refine qd ?_)
      all_goals exact hR
  replace h1 : cols.length ≤ 12 := by omega
  have h1a : ¬ (12 : Int) < cols.length := by omega
  rw [decide_eq_true h1, Bool.true_and] at hR
  by_cases h2 : ¬ row.length = cols.length
  · have h2a : ¬ (row.length : Int) = cols.length := by omega
    have h2b : ((row.length : Int) != cols.length) = true := bne_iff_ne.2 h2a
    rw [decide_eq_false h2, Bool.false_and, Bool.and_false] at hR
    obtain ⟨ins, types, out⟩ := c
    generalize fewB _ = b at *
    cases b
    · refine qn Tryz.func8 Tryz.ntmps8 rfl rfl (by decide) rfl (by intro n; simp) fun σ n0 hcl hft => ?_
      repeat' (first | ((first | ((with_reducible refine qo (fun hg => ?_) (fun hg => ?_)) <;> (try simp only [hg]) <;> (try simp only [gS] at hg) <;> (try (first | simp only [eq_false hg, gI] | simp only [eq_true hg, gI]))) | (with_reducible first | refine qc ?_ | refine qb ?_ | refine qi ?_ | refine qh ?_) | refine acall (c1) ?_ | refine qp (c1) ?_ | refine qe ?_ | refine qj ?_ | refine qk ?_ | refine qm ?_) <;> (try simp (disch := first | omega | simp) [qg, -qq, -qs, h1a, h2a, h2b])) | ((with_reducible refine sideT ?_ ?_); first | omega | assumption | (simp; done)) | (refine qf fun K hK => ?_) | (refine qa ?_) | refine ql ?_ | ((first | refine hK _ ?_ | (clear hK K; refine hK _ ?_) | (clear hK K; clear hK K; refine hK _ ?_)); clear hK K) | refine qd ?_)
      all_goals exact hR
    · refine qn Tryz.func8 Tryz.ntmps8 rfl rfl (by decide) rfl (by intro n; simp) fun σ n0 hcl hft => ?_
      repeat' (first | ((first | ((with_reducible refine qo (fun hg => ?_) (fun hg => ?_)) <;> (try simp only [hg]) <;> (try simp only [gS] at hg) <;> (try (first | simp only [eq_false hg, gI] | simp only [eq_true hg, gI]))) | (with_reducible first | refine qc ?_ | refine qb ?_ | refine qi ?_ | refine qh ?_) | refine acall (c1) ?_ | refine qp (c1) ?_ | refine qe ?_ | refine qj ?_ | refine qk ?_ | refine qm ?_) <;> (try simp (disch := first | omega | simp) [qg, -qq, -qs, h1a, h2a, h2b])) | ((with_reducible refine sideT ?_ ?_); first | omega | assumption | (simp; done)) | (refine qf fun K hK => ?_) | (refine qa ?_) | refine ql ?_ | ((first | refine hK _ ?_ | (clear hK K; refine hK _ ?_) | (clear hK K; clear hK K; refine hK _ ?_)); clear hK K) | refine qd ?_)
      all_goals exact hR
  replace h2 : row.length = cols.length := by omega
  have h2a : (row.length : Int) = cols.length := by omega
  have h2b : ((row.length : Int) != cols.length) = false := by rw [h2a]; simp
  rw [decide_eq_true h2, Bool.true_and] at hR
  have c2 := rrow_g row (by omega)
  have c3 := qds c cols (by omega)
  generalize fewB c = b at *
  generalize rowOk row = b2 at *
  generalize verP c cols = V at *
  obtain ⟨ins, types, out⟩ := c
  cases b
  · rw [Bool.false_and] at hR
    refine qn Tryz.func8 Tryz.ntmps8 rfl rfl (by decide) rfl (by intro n; simp) fun σ n0 hcl hft => ?_
    repeat' (first | ((first | ((with_reducible refine qo (fun hg => ?_) (fun hg => ?_)) <;> (try simp only [hg]) <;> (try simp only [gS] at hg) <;> (try (first | simp only [eq_false hg, gI] | simp only [eq_true hg, gI]))) | (with_reducible first | refine qc ?_ | refine qb ?_ | refine qi ?_ | refine qh ?_) | refine acall (c1) ?_ | refine qp (c1) ?_ | refine acall (c2) ?_ | refine qp (c2) ?_ | refine qe ?_ | refine qj ?_ | refine qk ?_ | refine qm ?_) <;> (try simp (disch := first | omega | simp) [qg, -qq, -qs, h1a, h2a, h2b])) | ((with_reducible refine sideT ?_ ?_); first | omega | assumption | (simp; done)) | (refine qf fun K hK => ?_) | (refine qa ?_) | refine ql ?_ | ((first | refine hK _ ?_ | (clear hK K; refine hK _ ?_) | (clear hK K; clear hK K; refine hK _ ?_)); clear hK K) | refine qd ?_)
    all_goals exact hR
  rw [Bool.true_and] at hR
  cases b2
  · rw [Bool.false_and] at hR
    refine qn Tryz.func8 Tryz.ntmps8 rfl rfl (by decide) rfl (by intro n; simp) fun σ n0 hcl hft => ?_
    repeat' (first | ((first | ((with_reducible refine qo (fun hg => ?_) (fun hg => ?_)) <;> (try simp only [hg]) <;> (try simp only [gS] at hg) <;> (try (first | simp only [eq_false hg, gI] | simp only [eq_true hg, gI]))) | (with_reducible first | refine qc ?_ | refine qb ?_ | refine qi ?_ | refine qh ?_) | refine acall (c1) ?_ | refine qp (c1) ?_ | refine acall (c2) ?_ | refine qp (c2) ?_ | refine qe ?_ | refine qj ?_ | refine qk ?_ | refine qm ?_) <;> (try simp (disch := first | omega | simp) [qg, -qq, -qs, h1a, h2a, h2b])) | ((with_reducible refine sideT ?_ ?_); first | omega | assumption | (simp; done)) | (refine qf fun K hK => ?_) | (refine qa ?_) | refine ql ?_ | ((first | refine hK _ ?_ | (clear hK K; refine hK _ ?_) | (clear hK K; clear hK K; refine hK _ ?_)); clear hK K) | refine qd ?_)
    all_goals exact hR
  rw [Bool.true_and] at hR
  refine qn Tryz.func8 Tryz.ntmps8 rfl rfl (by decide) rfl (by intro n; simp) fun σ n0 hcl hft => ?_
  repeat' (first | ((first | ((with_reducible refine qo (fun hg => ?_) (fun hg => ?_)) <;> (try simp only [hg]) <;> (try simp only [gS] at hg) <;> (try (first | simp only [eq_false hg, gI] | simp only [eq_true hg, gI]))) | (with_reducible first | refine qc ?_ | refine qb ?_ | refine qi ?_ | refine qh ?_) | refine acall (c1) ?_ | refine qp (c1) ?_ | refine acall (c2) ?_ | refine qp (c2) ?_ | refine qe ?_ | refine qj ?_ | refine qk ?_ | refine qm ?_) <;> (try simp (disch := first | omega | simp) [qg, -qq, -qs, h1a, h2a, h2b])) | ((with_reducible refine sideT ?_ ?_); first | omega | assumption | (simp; done)) | (refine qf fun K hK => ?_) | (refine qa ?_) | refine ql ?_ | ((first | refine hK _ ?_ | (clear hK K; refine hK _ ?_) | (clear hK K; clear hK K; refine hK _ ?_)); clear hK K) | refine qd ?_)
  refine qr hcl (fun k : Nat => [(1, .sl (cols.map AV.int)), (2, .sl (row.map Val.av)), (3, .ptr n0 0), (7, .int k)]) (fun _ => [.cells [.sl (ins.map Ins.av), .sl (types.map AV.int), .int out] 25])
    (fun k => k ≤ row.length ∧ ∀ j (h : j < row.length) (h2 : j < cols.length), j < k → row[j].k = cols[j]) (fun k => row.length - k) 0 (by simp) (by simp) fun k ⟨hk, he⟩ => ?_
  by_cases hlt : k < row.length
  · have hlt2 : k < cols.length := by omega
    by_cases hs : row[k].k = cols[k]
    · have hs2 : (row[k].k != cols[k]) = false := by simpa using hs
      repeat' (first | ((first | ((with_reducible refine qo (fun hg => ?_) (fun hg => ?_)) <;> (try simp only [hg]) <;> (try simp only [gS] at hg) <;> (try (first | simp only [eq_false hg, gI] | simp only [eq_true hg, gI]))) | (with_reducible first | refine qc ?_ | refine qb ?_ | refine qi ?_ | refine qh ?_) | refine qe ?_ | refine qj ?_ | refine qk ?_ | refine qm ?_) <;> (try simp (disch := first | omega | simp) [qg, -qq, -qs, hlt, hlt2, hs, hs2, h2a])) | ((with_reducible refine sideT ?_ ?_); first | omega | assumption | (simp; done)) | (refine qf fun K hK => ?_) | (refine qa ?_) | refine ql ?_ | ((first | refine hK _ ?_ | (clear hK K; refine hK _ ?_) | (clear hK K; clear hK K; refine hK _ ?_)); clear hK K) | refine qd ?_)
      all_goals first | exact absurd (by assumption) hs | exact absurd hs (by assumption) | exact ⟨k + 1, ⟨by omega, fun j h h3 hj => by
        by_cases hjk : j = k
        · subst hjk; exact hs
        · exact he j h h3 (by omega)⟩, by omega, by simp⟩
    · have hs2 : (row[k].k != cols[k]) = true := by simpa using hs
      have hb : ¬ row.map Val.k = cols := fun e => hs (by subst e; simp)
      rw [decide_eq_false hb, Bool.false_and] at hR
      repeat' (first | ((first | ((with_reducible refine qo (fun hg => ?_) (fun hg => ?_)) <;> (try simp only [hg]) <;> (try simp only [gS] at hg) <;> (try (first | simp only [eq_false hg, gI] | simp only [eq_true hg, gI]))) | (with_reducible first | refine qc ?_ | refine qb ?_ | refine qi ?_ | refine qh ?_) | refine qe ?_ | refine qj ?_ | refine qk ?_ | refine qm ?_) <;> (try simp (disch := first | omega | simp) [qg, -qq, -qs, hlt, hlt2, hs, hs2, h2a])) | ((with_reducible refine sideT ?_ ?_); first | omega | assumption | (simp; done)) | (refine qf fun K hK => ?_) | (refine qa ?_) | refine ql ?_ | ((first | refine hK _ ?_ | (clear hK K; refine hK _ ?_) | (clear hK K; clear hK K; refine hK _ ?_)); clear hK K) | refine qd ?_)
      all_goals first | exact absurd (by assumption) hs | exact hR
  · have hb : row.map Val.k = cols := by
      refine List.ext_getElem (by simpa using h2) fun j hj1 hj2 => ?_
      rw [List.getElem_map]; exact he j _ hj2 (by simp at hj1; omega)
    rw [decide_eq_true hb, Bool.true_and] at hR
    have hlt3 : ¬ k < cols.length := by omega
    repeat' (first | ((first | ((with_reducible refine qo (fun hg => ?_) (fun hg => ?_)) <;> (try simp only [hg]) <;> (try simp only [gS] at hg) <;> (try (first | simp only [eq_false hg, gI] | simp only [eq_true hg, gI]))) | (with_reducible first | refine qc ?_ | refine qb ?_ | refine qi ?_ | refine qh ?_) | refine acall (c3) ?_ | refine qp (c3) ?_ | refine qe ?_ | refine qj ?_ | refine qk ?_ | refine qm ?_) <;> (try simp (disch := first | omega | simp) [qg, -qq, -qs, hlt, hlt3, h2a])) | ((with_reducible refine sideT ?_ ?_); first | omega | assumption | (simp; done)) | (refine qf fun K hK => ?_) | (refine qa ?_) | refine ql ?_ | ((first | refine hK _ ?_ | (clear hK K; refine hK _ ?_) | (clear hK K; clear hK K; refine hK _ ?_)); clear hK K) | refine qd ?_)
    all_goals (rw [hR, Bool.eq_iff_iff]; simp)
theorem suits_ok {c : Cod} {cols : List Int} {row : List Val} (h : suitsB c cols row = true) : CodOk c cols ∧ fewB c = true ∧ cols.length ≤ 12 ∧ row.map Val.k = cols ∧ rowOk row = true := by
  unfold suitsB at h
  simp only [Bool.and_eq_true, decide_eq_true_eq] at h
  obtain ⟨h1, h2, h3, h4, h5, h6⟩ := h
  exact ⟨verP_ok.1 h6, h1, h2, h5, h4⟩
end Go.Proofs.YtgpcpmfdklpifaaGreatDoor

/- Walks of layer 25's reference: names, operands, whether an instruction is formed. -/
namespace Go.Proofs.YtgpcpmfdklpifaaGreatDoor
open Go.RowKit Go.Lib
theorem rarity_g (o : Int) : Gives Tryz.prog 52 [.int o] (.int (arO o)) := by
  obtain ⟨R, hR⟩ : ∃ R, R = arO o := ⟨_, rfl⟩
  rw [← hR]
  unfold arO at hR
  refine qn Tryz.func52 Tryz.ntmps52 rfl rfl (by decide) rfl (by intro n; simp) fun σ n0 hcl hft => ?_
  repeat' (first | ((first | ((with_reducible refine qo (fun hg => ?_) (fun hg => ?_)) <;> (try simp only [hg]) <;> (try simp only [gS] at hg) <;> (try (first | simp only [eq_false hg, gI] | simp only [eq_true hg, gI]))) | (with_reducible first | refine qc ?_ | refine qb ?_ | refine qi ?_ | refine qh ?_) | refine qe ?_ | refine qj ?_ | refine qk ?_ | refine qm ?_ | refine awp_label ?_) <;> (try simp (disch := first | omega | simp) [qg, -qq, -qs])) | ((with_reducible refine sideT ?_ ?_); first | omega | assumption | (simp; done)) | (refine qf fun K hK => ?_) | (refine qa ?_) | refine ql ?_ | ((first | refine hK _ ?_ | (clear hK K; refine hK _ ?_) | (clear hK K; clear hK K; refine hK _ ?_)); clear hK K) | refine qd ?_ | refine awp_scope ?_)
  all_goals (subst hR; simp_all)
def nameS (o : Int) : ByteArray := if 0 ≤ o ∧ o < 23 then (match qv[o.toNat]? with | some (.string s) => s | _ => ByteArray.empty) else ByteArray.empty
theorem cases23 {o : Int} (h : 0 ≤ o ∧ o < 23) : o = 0 ∨ o = 1 ∨ o = 2 ∨ o = 3 ∨ o = 4 ∨ o = 5 ∨ o = 6 ∨ o = 7 ∨ o = 8 ∨ o = 9 ∨ o = 10 ∨ o = 11 ∨ o = 12 ∨ o = 13 ∨ o = 14 ∨ o = 15 ∨ o = 16 ∨ o = 17 ∨ o = 18 ∨ o = 19 ∨ o = 20 ∨ o = 21 ∨ o = 22 := by omega
theorem nameS_ok (o : Int) : (nameS o).toList = [] ↔ opOk o = false := by
  rw [ByteArray.toList_eq]
  by_cases h : 0 ≤ o ∧ o < 23
  · rcases cases23 h with rfl | rfl | rfl | rfl | rfl | rfl | rfl | rfl | rfl | rfl | rfl | rfl | rfl | rfl | rfl | rfl | rfl | rfl | rfl | rfl | rfl | rfl | rfl
    all_goals decide
  · unfold nameS
    rw [if_neg h]
    have hf : opOk o = false := by unfold opOk; simp; omega
    rw [hf]; simp
set_option maxHeartbeats 4000000 in
theorem rname_g (o : Int) : Gives Tryz.prog 51 [.int o] (.str (nameS o)) := by
  by_cases h : 0 ≤ o ∧ o < 23
  · rcases cases23 h with rfl | rfl | rfl | rfl | rfl | rfl | rfl | rfl | rfl | rfl | rfl | rfl | rfl | rfl | rfl | rfl | rfl | rfl | rfl | rfl | rfl | rfl | rfl
    all_goals
      refine qn Tryz.func51 Tryz.ntmps51 rfl rfl (by decide) rfl (by intro n; simp) fun σ n0 hcl hft => ?_
      repeat' (first | ((first | ((with_reducible refine qo (fun hg => ?_) (fun hg => ?_)) <;> (try simp only [hg]) <;> (try simp only [gS] at hg) <;> (try (first | simp only [eq_false hg, gI] | simp only [eq_true hg, gI]))) | (with_reducible first | refine qc ?_ | refine qb ?_ | refine qi ?_ | refine qh ?_) | refine qe ?_ | refine qj ?_ | refine qk ?_ | refine qm ?_) <;> (try simp (disch := first | omega | simp) [qg, -qq, -qs])) | ((with_reducible refine sideT ?_ ?_); first | omega | assumption | (simp; done)) | (refine qf fun K hK => ?_) | (refine qa ?_) | refine ql ?_ | ((first | refine hK _ ?_ | (clear hK K; refine hK _ ?_) | (clear hK K; clear hK K; refine hK _ ?_)); clear hK K) | refine qd ?_)
      try rfl
  · have hn : nameS o = ByteArray.empty := by unfold nameS; rw [if_neg h]
    rw [hn]
    by_cases h0 : o < 0
    · refine qn Tryz.func51 Tryz.ntmps51 rfl rfl (by decide) rfl (by intro n; simp) fun σ n0 hcl hft => ?_
      repeat' (first | ((first | ((with_reducible refine qo (fun hg => ?_) (fun hg => ?_)) <;> (try simp only [hg]) <;> (try simp only [gS] at hg) <;> (try (first | simp only [eq_false hg, gI] | simp only [eq_true hg, gI]))) | (with_reducible first | refine qc ?_ | refine qb ?_ | refine qi ?_ | refine qh ?_) | refine qe ?_ | refine qj ?_ | refine qk ?_ | refine qm ?_) <;> (try simp (disch := first | omega | simp) [qg, -qq, -qs, h0])) | ((with_reducible refine sideT ?_ ?_); first | omega | assumption | (simp; done)) | (refine qf fun K hK => ?_) | (refine qa ?_) | refine ql ?_ | ((first | refine hK _ ?_ | (clear hK K; refine hK _ ?_) | (clear hK K; clear hK K; refine hK _ ?_)); clear hK K) | refine qd ?_)
      all_goals first | rfl | (exfalso; omega) | skip
    · have h1 : (23 : Int) ≤ o := by omega
      refine qn Tryz.func51 Tryz.ntmps51 rfl rfl (by decide) rfl (by intro n; simp) fun σ n0 hcl hft => ?_
      repeat' (first | ((first | ((with_reducible refine qo (fun hg => ?_) (fun hg => ?_)) <;> (try simp only [hg]) <;> (try simp only [gS] at hg) <;> (try (first | simp only [eq_false hg, gI] | simp only [eq_true hg, gI]))) | (with_reducible first | refine qc ?_ | refine qb ?_ | refine qi ?_ | refine qh ?_) | refine qe ?_ | refine qj ?_ | refine qk ?_ | refine qm ?_) <;> (try simp (disch := first | omega | simp) [qg, -qq, -qs, h0, h1])) | ((with_reducible refine sideT ?_ ?_); first | omega | assumption | (simp; done)) | (refine qf fun K hK => ?_) | (refine qa ?_) | refine ql ?_ | ((first | refine hK _ ?_ | (clear hK K; refine hK _ ?_) | (clear hK K; clear hK K; refine hK _ ?_)); clear hK K) | refine qd ?_)
      all_goals first | rfl | (exfalso; omega) | skip
set_option maxHeartbeats 1000000 in
theorem rops_g (x : Ins) : Gives Tryz.prog 24 [x.av] (.sl ((opsP x).map AV.int)) := by
  have c1 := rname_g x.op
  have c2 := rarity_g x.op
  have hle := qdd x.op
  have hok := nameS_ok x.op
  unfold opsP
  generalize opOk x.op = b at *
  generalize arO x.op = n at *
  generalize nameS x.op = s at *
  have hcl : ∀ m, AV.cls m ([AV.int x.a, .int x.b, .int x.c].take n) := fun m => AV.cls_take (by simp) n
  cases b
  · have hs : s.toList = [] := hok.2 rfl
    refine qn Tryz.func24 Tryz.ntmps24 rfl rfl (by decide) rfl (by intro n; simp) fun σ n0 hcl hft => ?_
    repeat' (first | ((first | ((with_reducible refine qo (fun hg => ?_) (fun hg => ?_)) <;> (try simp only [hg]) <;> (try simp only [gS] at hg) <;> (try (first | simp only [eq_false hg, gI] | simp only [eq_true hg, gI]))) | (with_reducible first | refine qc ?_ | refine qb ?_ | refine qi ?_ | refine qh ?_) | refine acall (c1) ?_ | refine qp (c1) ?_ | refine qe ?_ | refine qj ?_ | refine qk ?_ | refine qm ?_) <;> (try simp (disch := first | omega | simp) [qg, -qq, -qs, hs])) | ((with_reducible refine sideT ?_ ?_); first | omega | assumption | (simp; done)) | (refine qf fun K hK => ?_) | (refine qa ?_) | refine ql ?_ | ((first | refine hK _ ?_ | (clear hK K; refine hK _ ?_) | (clear hK K; clear hK K; refine hK _ ?_)); clear hK K) | refine qd ?_)
    all_goals first | rfl
  · have hs : ¬ s.toList = [] := fun e => by have := hok.1 e; cases this
    refine qn Tryz.func24 Tryz.ntmps24 rfl rfl (by decide) rfl (by intro n; simp) fun σ n0 hcl hft => ?_
    repeat' (first | ((first | ((with_reducible refine qo (fun hg => ?_) (fun hg => ?_)) <;> (try simp only [hg]) <;> (try simp only [gS] at hg) <;> (try (first | simp only [eq_false hg, gI] | simp only [eq_true hg, gI]))) | (with_reducible first | refine qc ?_ | refine qb ?_ | refine qi ?_ | refine qh ?_) | refine acall (c1) ?_ | refine qp (c1) ?_ | refine acall (c2) ?_ | refine qp (c2) ?_ | refine qe ?_ | refine qj ?_ | refine qk ?_ | refine qm ?_) <;> (try simp (disch := first | omega | simp) [qg, -qq, -qs, hs])) | ((with_reducible refine sideT ?_ ?_); first | omega | assumption | (simp; done)) | (refine qf fun K hK => ?_) | (refine qa ?_) | refine ql ?_ | ((first | refine hK _ ?_ | (clear hK K; refine hK _ ?_) | (clear hK K; clear hK K; refine hK _ ?_)); clear hK K) | refine qd ?_)
    all_goals first | exact hcl _ | (simp_all; done)
set_option maxHeartbeats 4000000 in
theorem rformed_g (x : Ins) : Gives Tryz.prog 49 [x.av] (.bool (qbh x)) := by
  have c1 := rname_g x.op
  have c2 := rarity_g x.op
  have hle := qdd x.op
  have hok := nameS_ok x.op
  obtain ⟨R, hR⟩ : ∃ R, R = qbh x := ⟨_, rfl⟩
  rw [← hR]
  unfold qbh at hR
  generalize opOk x.op = b at *
  generalize arO x.op = n at *
  generalize nameS x.op = s at *
  have hz : x.s.size = 0 ↔ x.s.toList = [] := by
    rw [Lib.size_eq, ← ByteArray.toList_eq]; exact List.length_eq_zero_iff
  simp only [hz] at hR
  cases b
  · have hs : s.toList = [] := hok.2 rfl
    rw [Bool.false_and, Bool.false_and] at hR
    refine qn Tryz.func49 Tryz.ntmps49 rfl rfl (by decide) rfl (by intro n; simp) fun σ n0 hcl hft => ?_
    repeat' (first | ((first | ((with_reducible refine qo (fun hg => ?_) (fun hg => ?_)) <;> (try simp only [hg]) <;> (try simp only [gS] at hg) <;> (try (first | simp only [eq_false hg, gI] | simp only [eq_true hg, gI]))) | (with_reducible first | refine qc ?_ | refine qb ?_ | refine qi ?_ | refine qh ?_) | refine acall (c1) ?_ | refine qp (c1) ?_ | refine qe ?_ | refine qj ?_ | refine qk ?_ | refine qm ?_) <;> (try simp (disch := first | omega | simp) [qg, -qq, -qs, hs])) | ((with_reducible refine sideT ?_ ?_); first | omega | assumption | (simp; done)) | (refine qf fun K hK => ?_) | (refine qa ?_) | refine ql ?_ | ((first | refine hK _ ?_ | (clear hK K; refine hK _ ?_) | (clear hK K; clear hK K; refine hK _ ?_)); clear hK K) | refine qd ?_)
    all_goals (rw [hR])
  · have hs : ¬ s.toList = [] := fun e => by have := hok.1 e; cases this
    rw [Bool.true_and] at hR
    have hn : n = 0 ∨ n = 1 ∨ n = 2 ∨ n = 3 := by omega
    clear hok
    rcases hn with rfl | rfl | rfl | rfl
    all_goals
      refine qn Tryz.func49 Tryz.ntmps49 rfl rfl (by decide) rfl (by intro n; simp) fun σ n0 hcl hft => ?_
      repeat' (first | ((first | ((with_reducible refine qo (fun hg => ?_) (fun hg => ?_)) <;> (try simp only [hg]) <;> (try simp only [gS] at hg) <;> (try (first | simp only [eq_false hg, gI] | simp only [eq_true hg, gI]))) | (with_reducible first | refine qc ?_ | refine qb ?_ | refine qi ?_ | refine qh ?_) | refine acall (c1) ?_ | refine qp (c1) ?_ | refine acall (c2) ?_ | refine qp (c2) ?_ | refine qe ?_ | refine qj ?_ | refine qk ?_ | refine qm ?_) <;> (try simp (disch := first | omega | simp) [qg, -qq, -qs, hs])) | ((with_reducible refine sideT ?_ ?_); first | omega | assumption | (simp; done)) | (refine qf fun K hK => ?_) | (refine qa ?_) | refine ql ?_ | ((first | refine hK _ ?_ | (clear hK K; refine hK _ ?_) | (clear hK K; clear hK K; refine hK _ ?_)); clear hK K) | refine qd ?_)
      all_goals first | (rw [hR, Bool.eq_iff_iff]; simp_all; done) | (rw [hR, Bool.eq_iff_iff]; simp_all; omega)
end Go.Proofs.YtgpcpmfdklpifaaGreatDoor

/- Walks: the type of an expression, and whether functions are right, as the reference finds them. -/
namespace Go.Proofs.YtgpcpmfdklpifaaGreatDoor
open Go.RowKit Go.Lib
theorem rkind_g (n : Int) : Gives Tryz.prog 57 [.int n] (.bool (kindB n)) := by
  have e : kindB n = (decide (0 ≤ n) && decide (n < 3)) := rfl
  rw [e]
  by_cases h : 0 ≤ n
  · refine qn Tryz.func57 Tryz.ntmps57 rfl rfl (by decide) rfl (by intro n; simp) fun σ n0 hcl hft => ?_
    repeat' (first | ((first | ((with_reducible refine qo (fun hg => ?_) (fun hg => ?_)) <;> (try simp only [hg]) <;> (try simp only [gS] at hg) <;> (try (first | simp only [eq_false hg, gI] | simp only [eq_true hg, gI]))) | (with_reducible first | refine qc ?_ | refine qb ?_ | refine qi ?_ | refine qh ?_) | refine qe ?_ | refine qj ?_ | refine qk ?_ | refine qm ?_) <;> (try simp (disch := first | omega | simp) [qg, -qq, -qs, h])) | ((with_reducible refine sideT ?_ ?_); first | omega | assumption | (simp; done)) | (refine qf fun K hK => ?_) | (refine qa ?_) | refine ql ?_ | ((first | refine hK _ ?_ | (clear hK K; refine hK _ ?_) | (clear hK K; clear hK K; refine hK _ ?_)); clear hK K) | refine qd ?_)
  · refine qn Tryz.func57 Tryz.ntmps57 rfl rfl (by decide) rfl (by intro n; simp) fun σ n0 hcl hft => ?_
    repeat' (first | ((first | ((with_reducible refine qo (fun hg => ?_) (fun hg => ?_)) <;> (try simp only [hg]) <;> (try simp only [gS] at hg) <;> (try (first | simp only [eq_false hg, gI] | simp only [eq_true hg, gI]))) | (with_reducible first | refine qc ?_ | refine qb ?_ | refine qi ?_ | refine qh ?_) | refine qe ?_ | refine qj ?_ | refine qk ?_ | refine qm ?_) <;> (try simp (disch := first | omega | simp) [qg, -qq, -qs, h])) | ((with_reducible refine sideT ?_ ?_); first | omega | assumption | (simp; done)) | (refine qf fun K hK => ?_) | (refine qa ?_) | refine ql ?_ | ((first | refine hK _ ?_ | (clear hK K; refine hK _ ?_) | (clear hK K; clear hK K; refine hK _ ?_)); clear hK K) | refine qd ?_)
def atX (l : List Int) (n : Int) : Int := if 0 ≤ n ∧ n < l.length then l.getD n.toNat 0 else 0
theorem rat_g (l : List Int) (n : Int) : Gives Tryz.prog 77 [.sl (l.map AV.int), .int n] (.tup [.int (atX l n), .bool (pickT l n).isSome]) := by
  by_cases h0 : n < 0
  · have e1 : atX l n = 0 := by unfold atX; rw [if_neg (by omega)]
    have e2 : (pickT l n).isSome = false := by unfold pickT; rw [if_pos h0]; rfl
    rw [e1, e2]
    refine qn Tryz.func77 Tryz.ntmps77 rfl rfl (by decide) rfl (by intro n; simp) fun σ n0 hcl hft => ?_
    repeat' (first | ((first | ((with_reducible refine qo (fun hg => ?_) (fun hg => ?_)) <;> (try simp only [hg]) <;> (try simp only [gS] at hg) <;> (try (first | simp only [eq_false hg, gI] | simp only [eq_true hg, gI]))) | (with_reducible first | refine qc ?_ | refine qb ?_ | refine qi ?_ | refine qh ?_) | refine qe ?_ | refine qj ?_ | refine qk ?_ | refine qm ?_) <;> (try simp (disch := first | omega | simp) [qg, -qq, -qs, h0])) | ((with_reducible refine sideT ?_ ?_); first | omega | assumption | (simp; done)) | (refine qf fun K hK => ?_) | (refine qa ?_) | refine ql ?_ | ((first | refine hK _ ?_ | (clear hK K; refine hK _ ?_) | (clear hK K; clear hK K; refine hK _ ?_)); clear hK K) | refine qd ?_)
  obtain ⟨k, rfl⟩ : ∃ k : Nat, n = k := ⟨n.toNat, by omega⟩
  by_cases h1 : k < l.length
  · have e1 : atX l k = l[k] := by unfold atX; rw [if_pos (by omega), List.getD_eq_getElem?_getD]; simp [h1]
    have e2 : (pickT l k).isSome = kindB l[k] := by
      unfold pickT
      rw [if_neg h0, Int.toNat_natCast, List.getElem?_eq_getElem h1]
      simp only
      cases kindB l[k] <;> rfl
    rw [e1, e2]
    have c := rkind_g l[k]
    have h3 : ¬ l.length ≤ k := by omega
    refine qn Tryz.func77 Tryz.ntmps77 rfl rfl (by decide) rfl (by intro n; simp) fun σ n0 hcl hft => ?_
    repeat' (first | ((first | ((with_reducible refine qo (fun hg => ?_) (fun hg => ?_)) <;> (try simp only [hg]) <;> (try simp only [gS] at hg) <;> (try (first | simp only [eq_false hg, gI] | simp only [eq_true hg, gI]))) | (with_reducible first | refine qc ?_ | refine qb ?_ | refine qi ?_ | refine qh ?_) | refine acall (c) ?_ | refine qp (c) ?_ | refine qe ?_ | refine qj ?_ | refine qk ?_ | refine qm ?_) <;> (try simp (disch := first | omega | simp) [qg, -qq, -qs, h0, h1, h3])) | ((with_reducible refine sideT ?_ ?_); first | omega | assumption | (simp; done)) | (refine qf fun K hK => ?_) | (refine qa ?_) | refine ql ?_ | ((first | refine hK _ ?_ | (clear hK K; refine hK _ ?_) | (clear hK K; clear hK K; refine hK _ ?_)); clear hK K) | refine qd ?_)
  · have e1 : atX l k = 0 := by unfold atX; rw [if_neg (by omega)]
    have e2 : (pickT l k).isSome = false := by
      unfold pickT
      rw [if_neg h0, Int.toNat_natCast, List.getElem?_eq_none (by omega)]; rfl
    rw [e1, e2]
    have h2 : (l.length : Int) ≤ k := by omega
    refine qn Tryz.func77 Tryz.ntmps77 rfl rfl (by decide) rfl (by intro n; simp) fun σ n0 hcl hft => ?_
    repeat' (first | ((first | ((with_reducible refine qo (fun hg => ?_) (fun hg => ?_)) <;> (try simp only [hg]) <;> (try simp only [gS] at hg) <;> (try (first | simp only [eq_false hg, gI] | simp only [eq_true hg, gI]))) | (with_reducible first | refine qc ?_ | refine qb ?_ | refine qi ?_ | refine qh ?_) | refine qe ?_ | refine qj ?_ | refine qk ?_ | refine qm ?_) <;> (try simp (disch := first | omega | simp) [qg, -qq, -qs, h0, h1, h2])) | ((with_reducible refine sideT ?_ ?_); first | omega | assumption | (simp; done)) | (refine qf fun K hK => ?_) | (refine qa ?_) | refine ql ?_ | ((first | refine hK _ ?_ | (clear hK K; refine hK _ ?_) | (clear hK K; clear hK K; refine hK _ ?_)); clear hK K) | refine qd ?_)
def numP (op : Int) : Int := if 0 ≤ op ∧ op ≤ 5 then 0 else if op = 6 ∨ op = 7 ∨ op = 20 then 1 else if op = 21 then 3 else if 5 < op ∧ op < 21 then 2 else -1
set_option maxHeartbeats 4000000 in
theorem rnumber_g (op : Int) : Gives Tryz.prog 76 [.int op] (.int (numP op)) := by
  obtain ⟨N, hN⟩ : ∃ N, N = numP op := ⟨_, rfl⟩
  rw [← hN]
  refine qn Tryz.func76 Tryz.ntmps76 rfl rfl (by decide) rfl (by intro n; simp) fun σ n0 hcl hft => ?_
  repeat' (first | ((first | ((with_reducible refine qo (fun hg => ?_) (fun hg => ?_)) <;> (try simp only [hg]) <;> (try simp only [gS] at hg) <;> (try (first | simp only [eq_false hg, gI] | simp only [eq_true hg, gI]))) | (with_reducible first | refine qc ?_ | refine qb ?_ | refine qi ?_ | refine qh ?_) | refine qe ?_ | refine qj ?_ | refine qk ?_ | refine qm ?_) <;> (try simp (disch := first | omega | simp) [qg, -qq, -qs])) | ((with_reducible refine sideT ?_ ?_); first | omega | assumption | (simp; done)) | (refine qf fun K hK => ?_) | (refine qa ?_) | refine ql ?_ | ((first | refine hK _ ?_ | (clear hK K; refine hK _ ?_) | (clear hK K; clear hK K; refine hK _ ?_)); clear hK K) | refine qd ?_)
  all_goals (rw [hN]; unfold numP; (repeat' split) <;> omega)
set_option maxHeartbeats 4000000 in
theorem rcall_g (F : List Fn) (n : Int) (ts : List Int) : Gives Tryz.prog 75 [.sl (F.map Fn.av), .int n, .sl (ts.map AV.int)] (.tup [.int ((callT F n ts).getD 0), .bool (callT F n ts).isSome]) := by
  obtain ⟨C, hC⟩ : ∃ C, C = callT F n ts := ⟨_, rfl⟩
  rw [← hC]
  unfold callT at hC
  by_cases h0 : n < 0
  · rw [if_pos h0] at hC
    subst hC
    refine qn Tryz.func75 Tryz.ntmps75 rfl rfl (by decide) rfl (by intro n; simp) fun σ n0 hcl hft => ?_
    repeat' (first | ((first | ((with_reducible refine qo (fun hg => ?_) (fun hg => ?_)) <;> (try simp only [hg]) <;> (try simp only [gS] at hg) <;> (try (first | simp only [eq_false hg, gI] | simp only [eq_true hg, gI]))) | (with_reducible first | refine qc ?_ | refine qb ?_ | refine qi ?_ | refine qh ?_) | refine qe ?_ | refine qj ?_ | refine qk ?_ | refine qm ?_) <;> (try simp (disch := first | omega | simp) [qg, -qq, -qs, h0])) | ((with_reducible refine sideT ?_ ?_); first | omega | assumption | (simp; done)) | (refine qf fun K hK => ?_) | (refine qa ?_) | refine ql ?_ | ((first | refine hK _ ?_ | (clear hK K; refine hK _ ?_) | (clear hK K; clear hK K; refine hK _ ?_)); clear hK K) | refine qd ?_)
  obtain ⟨k, rfl⟩ : ∃ k : Nat, n = k := ⟨n.toNat, by omega⟩
  rw [if_neg h0, Int.toNat_natCast] at hC
  by_cases h1 : k < F.length
  · rw [List.getElem?_eq_getElem h1] at hC
    dsimp only at hC
    have h1' : ¬ F.length ≤ k := by omega
    obtain ⟨f, hf⟩ : ∃ f, f = F[k] := ⟨_, rfl⟩
    rw [← hf] at hC
    by_cases h2 : f.params.length = ts.length
    · refine qn Tryz.func75 Tryz.ntmps75 rfl rfl (by decide) rfl (by intro n; simp) fun σ n0 hcl hft => ?_
      repeat' (first | ((first | ((with_reducible refine qo (fun hg => ?_) (fun hg => ?_)) <;> (try simp only [hg]) <;> (try simp only [gS] at hg) <;> (try (first | simp only [eq_false hg, gI] | simp only [eq_true hg, gI]))) | (with_reducible first | refine qc ?_ | refine qb ?_ | refine qi ?_ | refine qh ?_) | refine qe ?_ | refine qj ?_ | refine qk ?_ | refine qm ?_) <;> (try simp (disch := first | omega | simp) [qg, -qq, -qs, h0, h1, h1', ← hf, h2])) | ((with_reducible refine sideT ?_ ?_); first | omega | assumption | (simp; done)) | (refine qf fun K hK => ?_) | (refine qa ?_) | refine ql ?_ | ((first | refine hK _ ?_ | (clear hK K; refine hK _ ?_) | (clear hK K; clear hK K; refine hK _ ?_)); clear hK K) | refine qd ?_)
      have hts : ts.length ≤ 9223372036854775807 := by
        have := (AV.fitss_iff.1 hft) (.sl (ts.map AV.int)) (by simp)
        simp [AV.fits] at this
        exact this.1
      refine qr hcl (fun i : Nat => [(2, .sl (ts.map AV.int)), (6, .int 0), (7, .bool false), (8, .ptr n0 0), (9, .int i)]) (fun _ => [.cells f.av.cells 88]) (fun i => i ≤ ts.length ∧ ∀ j (h : j < ts.length) (h' : j < f.params.length), j < i → ts[j] = f.params[j]) (fun i => ts.length - i) 0 ⟨by omega, fun j h h' hj => by omega⟩ (by simp) fun i ⟨hi, he⟩ => ?_
      by_cases hlt : i < ts.length
      · have hlt2 : i < f.params.length := by omega
        by_cases hx : ts[i] = f.params[i]
        · repeat' (first | ((first | ((with_reducible refine qo (fun hg => ?_) (fun hg => ?_)) <;> (try simp only [hg]) <;> (try simp only [gS] at hg) <;> (try (first | simp only [eq_false hg, gI] | simp only [eq_true hg, gI]))) | (with_reducible first | refine qc ?_ | refine qb ?_ | refine qi ?_ | refine qh ?_) | refine qe ?_ | refine qj ?_ | refine qk ?_ | refine qm ?_) <;> (try simp (disch := first | omega | simp) [qg, -qq, -qs, hlt, hlt2, hx])) | ((with_reducible refine sideT ?_ ?_); first | omega | assumption | (simp; done)) | (refine qf fun K hK => ?_) | (refine qa ?_) | refine ql ?_ | ((first | refine hK _ ?_ | (clear hK K; refine hK _ ?_) | (clear hK K; clear hK K; refine hK _ ?_)); clear hK K) | refine qd ?_)
          all_goals
            refine ⟨i + 1, ⟨by omega, fun j h h' hj => ?_⟩, by omega, by simp⟩
            by_cases hji : j < i
            · exact he j h h' hji
            · obtain rfl : j = i := by omega
              exact hx
        · have : C = none := by rw [hC, if_neg]; intro h; exact hx (by simp only [h])
          subst this
          repeat' (first | ((first | ((with_reducible refine qo (fun hg => ?_) (fun hg => ?_)) <;> (try simp only [hg]) <;> (try simp only [gS] at hg) <;> (try (first | simp only [eq_false hg, gI] | simp only [eq_true hg, gI]))) | (with_reducible first | refine qc ?_ | refine qb ?_ | refine qi ?_ | refine qh ?_) | refine qe ?_ | refine qj ?_ | refine qk ?_ | refine qm ?_) <;> (try simp (disch := first | omega | simp) [qg, -qq, -qs, hlt, hlt2, hx])) | ((with_reducible refine sideT ?_ ?_); first | omega | assumption | (simp; done)) | (refine qf fun K hK => ?_) | (refine qa ?_) | refine ql ?_ | ((first | refine hK _ ?_ | (clear hK K; refine hK _ ?_) | (clear hK K; clear hK K; refine hK _ ?_)); clear hK K) | refine qd ?_)
          all_goals (exfalso; exact hx (by assumption))
      · have : C = some f.res := by
          rw [hC, if_pos]
          exact List.ext_getElem (by omega) fun j h1 h2 => (he j h2 h1 (by omega)).symm
        subst this
        repeat' (first | ((first | ((with_reducible refine qo (fun hg => ?_) (fun hg => ?_)) <;> (try simp only [hg]) <;> (try simp only [gS] at hg) <;> (try (first | simp only [eq_false hg, gI] | simp only [eq_true hg, gI]))) | (with_reducible first | refine qc ?_ | refine qb ?_ | refine qi ?_ | refine qh ?_) | refine qe ?_ | refine qj ?_ | refine qk ?_ | refine qm ?_) <;> (try simp (disch := first | omega | simp) [qg, -qq, -qs, hlt])) | ((with_reducible refine sideT ?_ ?_); first | omega | assumption | (simp; done)) | (refine qf fun K hK => ?_) | (refine qa ?_) | refine ql ?_ | ((first | refine hK _ ?_ | (clear hK K; refine hK _ ?_) | (clear hK K; clear hK K; refine hK _ ?_)); clear hK K) | refine qd ?_)
    · have : C = none := by rw [hC, if_neg]; intro h; rw [h] at h2; exact h2 rfl
      subst this
      refine qn Tryz.func75 Tryz.ntmps75 rfl rfl (by decide) rfl (by intro n; simp) fun σ n0 hcl hft => ?_
      repeat' (first | ((first | ((with_reducible refine qo (fun hg => ?_) (fun hg => ?_)) <;> (try simp only [hg]) <;> (try simp only [gS] at hg) <;> (try (first | simp only [eq_false hg, gI] | simp only [eq_true hg, gI]))) | (with_reducible first | refine qc ?_ | refine qb ?_ | refine qi ?_ | refine qh ?_) | refine qe ?_ | refine qj ?_ | refine qk ?_ | refine qm ?_) <;> (try simp (disch := first | omega | simp) [qg, -qq, -qs, h0, h1, h1', ← hf, h2])) | ((with_reducible refine sideT ?_ ?_); first | omega | assumption | (simp; done)) | (refine qf fun K hK => ?_) | (refine qa ?_) | refine ql ?_ | ((first | refine hK _ ?_ | (clear hK K; refine hK _ ?_) | (clear hK K; clear hK K; refine hK _ ?_)); clear hK K) | refine qd ?_)
      all_goals (exfalso; omega)
  · rw [List.getElem?_eq_none (by omega)] at hC
    subst hC
    have h2 : (F.length : Int) ≤ k := by omega
    refine qn Tryz.func75 Tryz.ntmps75 rfl rfl (by decide) rfl (by intro n; simp) fun σ n0 hcl hft => ?_
    repeat' (first | ((first | ((with_reducible refine qo (fun hg => ?_) (fun hg => ?_)) <;> (try simp only [hg]) <;> (try simp only [gS] at hg) <;> (try (first | simp only [eq_false hg, gI] | simp only [eq_true hg, gI]))) | (with_reducible first | refine qc ?_ | refine qb ?_ | refine qi ?_ | refine qh ?_) | refine qe ?_ | refine qj ?_ | refine qk ?_ | refine qm ?_) <;> (try simp (disch := first | omega | simp) [qg, -qq, -qs, h0, h1, h2])) | ((with_reducible refine sideT ?_ ?_); first | omega | assumption | (simp; done)) | (refine qf fun K hK => ?_) | (refine qa ?_) | refine ql ?_ | ((first | refine hK _ ?_ | (clear hK K; refine hK _ ?_) | (clear hK K; clear hK K; refine hK _ ?_)); clear hK K) | refine qd ?_)
def tailX (F : List Fn) (c p : List Int) (o n : Int) (s : ByteArray) (ts : List Int) : Int :=
  if s.size ≠ 0 ∧ o ≠ 1 then 0 else if o = 22 then (callT F n ts).getD 0 else if numP o ≠ ts.length then 0
  else if o = 0 then 0 else if o = 2 then 2 else if o = 3 then atX c n else if o = 4 then atX p n else if n ≠ 0 then 0
  else if o = 1 then 1 else if o = 5 then 0 else if o = 6 then 2 else if o = 7 ∨ o = 20 then 0 else if o ≤ 12 then 0 else if o ≤ 18 then 2 else if o = 19 then 1 else ts.getD 1 0
def innerX (F : List Fn) (c p : List Int) : Ex → Int
  | .mk o n s l => match tys F c p l with
    | some ts => tailX F c p o n s ts
    | none => 0
theorem at_pick {l : List Int} {n t : Int} (h : pickT l n = some t) : atX l n = t := by
  unfold pickT at h
  split at h
  · cases h
  · cases hv : l[n.toNat]? with
    | none => rw [hv] at h; cases h
    | some v =>
      rw [hv] at h
      dsimp only at h
      split at h
      · cases h
        have := (List.getElem?_eq_some_iff.1 hv).1
        unfold atX
        rw [if_pos (by omega), List.getD_eq_getElem?_getD, hv]; rfl
      · cases h
theorem tailT_num {F : List Fn} {c p : List Int} {o n t : Int} {s : ByteArray} {ts : List Int} (h : tailT F c p o n s ts = some t) (h22 : o ≠ 22) : numP o = ts.length := by
  unfold tailT at h
  split at h
  · cases h
  unfold numP
  split at h
  · rename_i hn
    subst hn
    unfold leafT at h
    split at h
    · subst o; rfl
    split at h
    · subst o; rfl
    split at h
    · subst o; rfl
    split at h
    · subst o; rfl
    split at h
    · subst o; rfl
    split at h
    · subst o; rfl
    · cases h
  · unfold operT at h
    split at h
    · cases h
    split at h
    · subst o; split at h
      · rename_i e; rw [e]; rfl
      · cases h
    split at h
    · subst o; split at h
      · rename_i e; rw [e]; rfl
      · cases h
    split at h
    · subst o; split at h
      · rename_i e; rw [e]; rfl
      · cases h
    split at h
    · split at h
      · rename_i ho e; rw [e, if_neg (by omega), if_neg (by omega), if_neg (by omega), if_pos (by omega)]; rfl
      · cases h
    split at h
    · split at h
      · rename_i ho _ _ _ ; rw [if_neg (by omega), if_neg (by omega), if_neg (by omega), if_pos (by omega)]; rfl
      · cases h
    split at h
    · split at h
      · rename_i ho e; rw [e, if_neg (by omega), if_neg (by omega), if_neg (by omega), if_pos (by omega)]; rfl
      · cases h
    split at h
    · split at h
      · rename_i ho e; rw [e, if_neg (by omega), if_neg (by omega), if_neg (by omega), if_pos (by omega)]; rfl
      · cases h
    split at h
    · subst o
      split at h
      · rfl
      · cases h
    · cases h
theorem tail_eq {F : List Fn} {c p : List Int} {o n t : Int} {s : ByteArray} {ts : List Int} (h : tailT F c p o n s ts = some t) : tailX F c p o n s ts = t := by
  have hnum := fun h22 => tailT_num h h22
  unfold tailT at h
  unfold tailX
  split at h
  · cases h
  rename_i hs
  rw [if_neg hs]
  split at h
  · rename_i h22
    rw [if_pos h22, h]; rfl
  rename_i h22
  rw [if_neg h22, if_neg (by rw [hnum h22]; simp)]
  split at h
  · unfold leafT at h
    split at h
    · rename_i h0; rw [if_pos h0]; cases h; rfl
    rename_i h0; rw [if_neg h0]
    split at h
    · rename_i h2; rw [if_pos h2]; split at h <;> cases h; rfl
    rename_i h2; rw [if_neg h2]
    split at h
    · rename_i h3; rw [if_pos h3]; exact at_pick h
    rename_i h3; rw [if_neg h3]
    split at h
    · rename_i h4; rw [if_pos h4]; exact at_pick h
    rename_i h4; rw [if_neg h4]
    split at h
    · rename_i h1
      split at h
      · rename_i hn; cases h; rw [if_neg (by omega), if_pos h1]
      · cases h
    rename_i h1
    split at h
    · rename_i h5
      split at h
      · rename_i hn; cases h; rw [if_neg (by omega), if_neg h1, if_pos h5]
      · cases h
    · cases h
  · unfold operT at h
    split at h
    · cases h
    rename_i hn
    split at h
    · subst o; split at h <;> cases h; simp [hn]
    split at h
    · subst o; split at h <;> cases h; simp [hn]
    split at h
    · subst o; split at h <;> cases h; simp [hn]
    split at h
    · rename_i ho; split at h <;> cases h
      rw [if_neg (by omega), if_neg (by omega), if_neg (by omega), if_neg (by omega), if_neg hn, if_neg (by omega), if_neg (by omega), if_neg (by omega), if_neg (by omega), if_pos (by omega)]
    split at h
    · rename_i ho
      rw [if_neg (by omega), if_neg (by omega), if_neg (by omega), if_neg (by omega), if_neg hn, if_neg (by omega), if_neg (by omega), if_neg (by omega), if_neg (by omega), if_neg (by omega), if_pos (by omega)]
      split at h
      · split at h <;> cases h; rfl
      · cases h
    split at h
    · rename_i ho; split at h <;> cases h
      rw [if_neg (by omega), if_neg (by omega), if_neg (by omega), if_neg (by omega), if_neg hn, if_neg (by omega), if_neg (by omega), if_neg (by omega), if_neg (by omega), if_neg (by omega), if_pos (by omega)]
    split at h
    · subst o; split at h <;> cases h; simp [hn]
    split at h
    · subst o
      split at h
      · split at h
        · rename_i hb; cases h; simp [hn]; exact hb.2
        · cases h
      · cases h
    · cases h
theorem inner_eq (F : List Fn) (c p : List Int) : ∀ (e : Ex) (t : Int), ty F c p e = some t → innerX F c p e = t
  | .mk o n s l, t, h => by
    rw [ty] at h
    rw [innerX]
    cases hl : tys F c p l with
    | none => rw [hl] at h; cases h
    | some ts => rw [hl] at h; exact tail_eq h
theorem numP_len {o : Int} {ts : List Int} (h : numP o = ts.length) (h22 : o ≠ 22) :
    ((o = 0 ∨ o = 1 ∨ o = 2 ∨ o = 3 ∨ o = 4 ∨ o = 5) ∧ ts = []) ∨ ((o = 6 ∨ o = 7 ∨ o = 20) ∧ ∃ a, ts = [a]) ∨ (o = 21 ∧ ∃ a b d, ts = [a, b, d]) ∨
    ((o = 8 ∨ o = 9 ∨ o = 10 ∨ o = 11 ∨ o = 12 ∨ o = 13 ∨ o = 14 ∨ o = 15 ∨ o = 16 ∨ o = 17 ∨ o = 18 ∨ o = 19) ∧ ∃ a b, ts = [a, b]) := by
  unfold numP at h
  split at h
  · exact .inl ⟨by omega, List.eq_nil_of_length_eq_zero (by omega)⟩
  split at h
  · refine .inr (.inl ⟨by omega, ?_⟩)
    match ts, h with
    | [a], _ => exact ⟨a, rfl⟩
  split at h
  · refine .inr (.inr (.inl ⟨by omega, ?_⟩))
    match ts, h with
    | [a, b, d], _ => exact ⟨a, b, d, rfl⟩
  split at h
  · refine .inr (.inr (.inr ⟨by omega, ?_⟩))
    match ts, h with
    | [a, b], _ => exact ⟨a, b, rfl⟩
  · omega
end Go.Proofs.YtgpcpmfdklpifaaGreatDoor
