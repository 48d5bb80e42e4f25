/- Walks of layer 27's reference: Run, Select, Project. -/
import Derived.Test.YtnkakofcejkhiaaDoorGa15
import Derived.Test.YtnkakofcejkhiaaDoorGa18
import Derived.Test.YtnkakofcejkhiaaDoorGa19
import Derived.Test.YtnkakofcejkhiaaDoorGa20
import Derived.Test.YtnkakofcejkhiaaDoorGb2
import Derived.Test.YtnkakofcejkhiaaDoorGb4
set_option linter.unusedSimpArgs false
set_option linter.unusedVariables false
namespace Go.Proofs.YtnkakofcejkhiaaDoor
open Go.RowKit Go.Lib
set_option maxHeartbeats 4000000 in
theorem rRun_g (c : Cod) (cols : List Int) (L : List Delta) (hc : cols.length ≤ 1000000) (hL : L.length ≤ 1000000) (hr : ∀ d ∈ L, d.row.length ≤ 1000000) :
    Gives Tryd.prog 14 [c.av, .sl (cols.map AV.int), .sl (L.map Delta.av)] (.tup [.sl ((runP c cols L).1.map Val.av), .int (runP c cols L).2]) := by
  have c1 := rverify_g c cols hc
  have c2 := rfits_g cols L hc hL hr
  obtain ⟨R, hR⟩ : ∃ R, R = runP c cols L := ⟨_, rfl⟩
  rw [← hR]
  unfold runP at hR
  by_cases hv : (verP c cols).2 = 0
  · rw [if_neg (by omega)] at hR
    rw [hv] at c1
    cases hf : fitsD cols L
    · rw [hf] at c2 hR
      rw [if_pos rfl] at hR
      obtain ⟨ins, types, out⟩ := c
      refine qm Tryd.func14 Tryd.ntmps14 rfl rfl (by decide) rfl (by intro n; simp) fun σ n0 hcl hft => ?_
      repeat' (first | ((first | ((with_reducible refine qo (fun hg => ?_) (fun hg => ?_)) <;> (try simp only [hg]) <;> (try simp only [beq_iff_eq, beq_eq_false_iff_ne, ne_eq, decide_eq_true_eq, decide_eq_false_iff_not, bne_iff_ne, bne_eq_false_iff_eq] at hg) <;> (try (first | simp only [eq_false hg, if_true, if_false] | simp only [eq_true hg, if_true, if_false]))) | (with_reducible first | refine qd ?_ | refine qc ?_ | refine qi ?_ | refine qh ?_) | refine acall (c1) ?_ | refine qv (c1) ?_ | refine qw (c1) ?_ | refine acall (c2) ?_ | refine qv (c2) ?_ | refine qw (c2) ?_ | refine qf ?_ | refine qj ?_ | refine qk ?_ | refine qn ?_) <;> (try simp (disch := first | omega | simp) [ql, -qu, -qx])) | ((with_reducible first | refine sideG ?_ ?_ | refine qr ?_ ?_ | refine sideS ?_ ?_ | refine qs ?_ ?_ | refine qt ?_ ?_ | refine sideA ?_ ?_ | refine qp ?_ ?_ | refine qq ?_ ?_); first | omega | assumption | (simp; done)) | (refine qg fun K hK => ?_) | (refine qa ?_) | (refine qb true (by kernel_rfl) (by kernel_rfl) ?_) | (refine qb false (by kernel_rfl) (by kernel_rfl) ?_) | (refine hK _ ?_; clear hK K) | (clear hK K; refine hK _ ?_; clear hK K) | (clear hK K; clear hK K; refine hK _ ?_; clear hK K) | refine qe ?_)
      all_goals (rw [hR]; simp)
    · rw [hf] at c2 hR
      rw [if_neg (by simp)] at hR
      have hok := verP_ok.1 hv
      rw [hR]
      have hRl : (runD c L).length = L.length := by unfold runD; simp
      have hRg : ∀ k (h : k < L.length) (h2 : k < (runD c L).length), (runD c L)[k] = valC c L[k].time L[k].row := fun k h h2 => by simp only [runD, List.getElem_map]
      have c3 : ∀ k (h : k < L.length), Gives Tryd.prog 42 [c.av, .int L[k].time, .sl (L[k].row.map Val.av)] (valC c L[k].time L[k].row).av := fun k h => rvalue_g hok _ (fitsD_mem hf (List.getElem_mem _))
      clear hR
      generalize runD c L = V at *
      obtain ⟨ins, types, out⟩ := c
      refine qm Tryd.func14 Tryd.ntmps14 rfl rfl (by decide) rfl (by intro n; simp) fun σ n0 hcl hft => ?_
      repeat' (first | ((first | ((with_reducible refine qo (fun hg => ?_) (fun hg => ?_)) <;> (try simp only [hg]) <;> (try simp only [beq_iff_eq, beq_eq_false_iff_ne, ne_eq, decide_eq_true_eq, decide_eq_false_iff_not, bne_iff_ne, bne_eq_false_iff_eq] at hg) <;> (try (first | simp only [eq_false hg, if_true, if_false] | simp only [eq_true hg, if_true, if_false]))) | (with_reducible first | refine qd ?_ | refine qc ?_ | refine qi ?_ | refine qh ?_) | refine acall (c1) ?_ | refine qv (c1) ?_ | refine qw (c1) ?_ | refine acall (c2) ?_ | refine qv (c2) ?_ | refine qw (c2) ?_ | refine qf ?_ | refine qj ?_ | refine qk ?_ | refine qn ?_) <;> (try simp (disch := first | omega | simp) [ql, -qu, -qx])) | ((with_reducible first | refine sideG ?_ ?_ | refine qr ?_ ?_ | refine sideS ?_ ?_ | refine qs ?_ ?_ | refine qt ?_ ?_ | refine sideA ?_ ?_ | refine qp ?_ ?_ | refine qq ?_ ?_); first | omega | assumption | (simp; done)) | (refine qg fun K hK => ?_) | (refine qa ?_) | (refine qb true (by kernel_rfl) (by kernel_rfl) ?_) | (refine qb false (by kernel_rfl) (by kernel_rfl) ?_) | (refine hK _ ?_; clear hK K) | (clear hK K; refine hK _ ?_; clear hK K) | (clear hK K; clear hK K; refine hK _ ?_; clear hK K) | refine qe ?_)
      refine awp_adoptR 10 39 3 (by simp) ?_
      refine qbb hcl (fun k : Nat => [(2, .sl (L.map Delta.av)), (3, .ptr n0 0), (10, .gs (n0 + 1) ((V.take k).map Val.av)), (11, .int k)])
        (fun k => [.cells [.sl (ins.map Ins.av), .sl (types.map AV.int), .int out] 25, .tail k 39 3]) (fun k => k ≤ L.length) (fun k => L.length - k) 0 (by omega) (by simp) fun k hk => ?_
      by_cases hlt : k < L.length
      · have hkV : k < V.length := by omega
        have c4 := c3 k hlt
        rw [← hRg k hlt hkV] at c4
        have hsz : (k + 1) * 32 ≤ 140737488355328 := by omega
        have hml : min k V.length = k := by omega
        have hwd : AV.wid (List.take k (List.map Val.av V)) 3 := by rw [← List.map_take]; exact Val.avs_wid _
        have htk : List.take (k + 1) (List.map Val.av V) = List.take k (List.map Val.av V) ++ [(V[k]'hkV).av] := by rw [List.take_succ_eq_append_getElem (by simpa using hkV), List.getElem_map]
        repeat' (first | ((first | ((with_reducible refine qo (fun hg => ?_) (fun hg => ?_)) <;> (try simp only [hg]) <;> (try simp only [beq_iff_eq, beq_eq_false_iff_ne, ne_eq, decide_eq_true_eq, decide_eq_false_iff_not, bne_iff_ne, bne_eq_false_iff_eq] at hg) <;> (try (first | simp only [eq_false hg, if_true, if_false] | simp only [eq_true hg, if_true, if_false]))) | (with_reducible first | refine qd ?_ | refine qc ?_ | refine qi ?_ | refine qh ?_) | refine acall (c4) ?_ | refine qv (c4) ?_ | refine qw (c4) ?_ | refine qf ?_ | refine qj ?_ | refine qk ?_ | refine qn ?_) <;> (try simp (disch := first | omega | simp) [ql, -qu, -qx, hlt, hsz, hml, hwd])) | ((with_reducible first | refine sideG ?_ ?_ | refine qr ?_ ?_ | refine sideS ?_ ?_ | refine qs ?_ ?_ | refine qt ?_ ?_ | refine sideA ?_ ?_ | refine qp ?_ ?_ | refine qq ?_ ?_); first | omega | assumption | (simp; done)) | (refine qg fun K hK => ?_) | (refine qa ?_) | (refine qb true (by kernel_rfl) (by kernel_rfl) ?_) | (refine qb false (by kernel_rfl) (by kernel_rfl) ?_) | (refine hK _ ?_; clear hK K) | (clear hK K; refine hK _ ?_; clear hK K) | (clear hK K; clear hK K; refine hK _ ?_; clear hK K) | refine qe ?_)
        exact ⟨k + 1, by omega, by omega, rfl, htk.symm, by omega⟩
      · obtain rfl : k = L.length := by omega
        rw [List.take_of_length_le (by omega)]
        repeat' (first | ((first | ((with_reducible refine qo (fun hg => ?_) (fun hg => ?_)) <;> (try simp only [hg]) <;> (try simp only [beq_iff_eq, beq_eq_false_iff_ne, ne_eq, decide_eq_true_eq, decide_eq_false_iff_not, bne_iff_ne, bne_eq_false_iff_eq] at hg) <;> (try (first | simp only [eq_false hg, if_true, if_false] | simp only [eq_true hg, if_true, if_false]))) | (with_reducible first | refine qd ?_ | refine qc ?_ | refine qi ?_ | refine qh ?_) | refine qf ?_ | refine qj ?_ | refine qk ?_ | refine qn ?_) <;> (try simp (disch := first | omega | simp) [ql, -qu, -qx, hlt])) | ((with_reducible first | refine sideG ?_ ?_ | refine qr ?_ ?_ | refine sideS ?_ ?_ | refine qs ?_ ?_ | refine qt ?_ ?_ | refine sideA ?_ ?_ | refine qp ?_ ?_ | refine qq ?_ ?_); first | omega | assumption | (simp; done)) | (refine qg fun K hK => ?_) | (refine qa ?_) | (refine qb true (by kernel_rfl) (by kernel_rfl) ?_) | (refine qb false (by kernel_rfl) (by kernel_rfl) ?_) | (refine hK _ ?_; clear hK K) | (clear hK K; refine hK _ ?_; clear hK K) | (clear hK K; clear hK K; refine hK _ ?_; clear hK K) | refine qe ?_)
  · rw [if_pos hv] at hR
    rw [hR]
    obtain ⟨ins, types, out⟩ := c
    refine qm Tryd.func14 Tryd.ntmps14 rfl rfl (by decide) rfl (by intro n; simp) fun σ n0 hcl hft => ?_
    repeat' (first | ((first | ((with_reducible refine qo (fun hg => ?_) (fun hg => ?_)) <;> (try simp only [hg]) <;> (try simp only [beq_iff_eq, beq_eq_false_iff_ne, ne_eq, decide_eq_true_eq, decide_eq_false_iff_not, bne_iff_ne, bne_eq_false_iff_eq] at hg) <;> (try (first | simp only [eq_false hg, if_true, if_false] | simp only [eq_true hg, if_true, if_false]))) | (with_reducible first | refine qd ?_ | refine qc ?_ | refine qi ?_ | refine qh ?_) | refine acall (c1) ?_ | refine qv (c1) ?_ | refine qw (c1) ?_ | refine qf ?_ | refine qj ?_ | refine qk ?_ | refine qn ?_) <;> (try simp (disch := first | omega | simp) [ql, -qu, -qx, hv])) | ((with_reducible first | refine sideG ?_ ?_ | refine qr ?_ ?_ | refine sideS ?_ ?_ | refine qs ?_ ?_ | refine qt ?_ ?_ | refine sideA ?_ ?_ | refine qp ?_ ?_ | refine qq ?_ ?_); first | omega | assumption | (simp; done)) | (refine qg fun K hK => ?_) | (refine qa ?_) | (refine qb true (by kernel_rfl) (by kernel_rfl) ?_) | (refine qb false (by kernel_rfl) (by kernel_rfl) ?_) | (refine hK _ ?_; clear hK K) | (clear hK K; refine hK _ ?_; clear hK K) | (clear hK K; clear hK K; refine hK _ ?_; clear hK K) | refine qe ?_)
    all_goals first | exact absurd (by assumption) hv | simp
set_option maxHeartbeats 4000000 in
theorem rSelect_g (c : Cod) (cols : List Int) (L : List Delta) (hc : cols.length ≤ 1000000) (hL : L.length ≤ 1000000) (hr : ∀ d ∈ L, d.row.length ≤ 1000000) :
    Gives Tryd.prog 16 [c.av, .sl (cols.map AV.int), .sl (L.map Delta.av)] (.tup [.sl ((selP c cols L).1.map Delta.av), .int (selP c cols L).2]) := by
  have c1 := rverify_g c cols hc
  have c2 := rRun_g c cols L hc hL hr
  obtain ⟨R, hR⟩ : ∃ R, R = selP c cols L := ⟨_, rfl⟩
  rw [← hR]
  unfold selP at hR
  unfold runP at c2
  obtain ⟨ins, types, out⟩ := c
  by_cases hv : (verP ⟨ins, types, out⟩ cols).2 = 0
  · rw [if_neg (by omega)] at hR c2
    have hok := verP_ok.1 hv
    rw [hv] at c1
    have o0 : 0 ≤ out := hok.out0
    have o1 : out < types.length := hok.out1
    have hty : types.getD out.toNat 0 = types[out.toNat]'(by omega) := by rw [List.getD_eq_getElem?_getD, List.getElem?_eq_getElem (by omega)]; rfl
    simp only at hR
    rw [hty] at hR
    by_cases ht : types[out.toNat]'(by omega) = 2
    · rw [if_neg (by omega)] at hR
      cases hf : fitsD cols L
      · rw [hf] at c2 hR
        rw [if_pos rfl] at c2 hR
        refine qm Tryd.func16 Tryd.ntmps16 rfl rfl (by decide) rfl (by intro n; simp) fun σ n0 hcl hft => ?_
        repeat' (first | ((first | ((with_reducible refine qo (fun hg => ?_) (fun hg => ?_)) <;> (try simp only [hg]) <;> (try simp only [beq_iff_eq, beq_eq_false_iff_ne, ne_eq, decide_eq_true_eq, decide_eq_false_iff_not, bne_iff_ne, bne_eq_false_iff_eq] at hg) <;> (try (first | simp only [eq_false hg, if_true, if_false] | simp only [eq_true hg, if_true, if_false]))) | (with_reducible first | refine qd ?_ | refine qc ?_ | refine qi ?_ | refine qh ?_) | refine acall (c1) ?_ | refine qv (c1) ?_ | refine qw (c1) ?_ | refine acall (c2) ?_ | refine qv (c2) ?_ | refine qw (c2) ?_ | refine qf ?_ | refine qj ?_ | refine qk ?_ | refine qn ?_) <;> (try simp (disch := first | omega | simp) [ql, -qu, -qx, o0, o1, ht])) | ((with_reducible first | refine sideG ?_ ?_ | refine qr ?_ ?_ | refine sideS ?_ ?_ | refine qs ?_ ?_ | refine qt ?_ ?_ | refine sideA ?_ ?_ | refine qp ?_ ?_ | refine qq ?_ ?_); first | omega | assumption | (simp; done)) | (refine qg fun K hK => ?_) | (refine qa ?_) | (refine qb true (by kernel_rfl) (by kernel_rfl) ?_) | (refine qb false (by kernel_rfl) (by kernel_rfl) ?_) | (refine hK _ ?_; clear hK K) | (clear hK K; refine hK _ ?_; clear hK K) | (clear hK K; clear hK K; refine hK _ ?_; clear hK K) | refine qe ?_)
        all_goals (rw [hR]; simp)
      · rw [hf] at c2 hR
        rw [if_neg (by simp)] at c2 hR
        have hVl : (runD ⟨ins, types, out⟩ L).length = L.length := by unfold runD; simp
        refine qm Tryd.func16 Tryd.ntmps16 rfl rfl (by decide) rfl (by intro n; simp) fun σ n0 hcl hft => ?_
        repeat' (first | ((first | ((with_reducible refine qo (fun hg => ?_) (fun hg => ?_)) <;> (try simp only [hg]) <;> (try simp only [beq_iff_eq, beq_eq_false_iff_ne, ne_eq, decide_eq_true_eq, decide_eq_false_iff_not, bne_iff_ne, bne_eq_false_iff_eq] at hg) <;> (try (first | simp only [eq_false hg, if_true, if_false] | simp only [eq_true hg, if_true, if_false]))) | (with_reducible first | refine qd ?_ | refine qc ?_ | refine qi ?_ | refine qh ?_) | refine acall (c1) ?_ | refine qv (c1) ?_ | refine qw (c1) ?_ | refine acall (c2) ?_ | refine qv (c2) ?_ | refine qw (c2) ?_ | refine qf ?_ | refine qj ?_ | refine qk ?_ | refine qn ?_) <;> (try simp (disch := first | omega | simp) [ql, -qu, -qx, o0, o1, ht])) | ((with_reducible first | refine sideG ?_ ?_ | refine qr ?_ ?_ | refine sideS ?_ ?_ | refine qs ?_ ?_ | refine qt ?_ ?_ | refine sideA ?_ ?_ | refine qp ?_ ?_ | refine qq ?_ ?_); first | omega | assumption | (simp; done)) | (refine qg fun K hK => ?_) | (refine qa ?_) | (refine qb true (by kernel_rfl) (by kernel_rfl) ?_) | (refine qb false (by kernel_rfl) (by kernel_rfl) ?_) | (refine hK _ ?_; clear hK K) | (clear hK K; refine hK _ ?_; clear hK K) | (clear hK K; clear hK K; refine hK _ ?_; clear hK K) | refine qe ?_)
        refine awp_adoptR 12 37 3 (by simp) ?_
        refine qbb hcl (fun k : Nat => [(2, .sl (L.map Delta.av)), (10, .sl ((runD ⟨ins, types, out⟩ L).map Val.av)), (12, .gs (n0 + 1) (((L.take k).filter fun d => decide ((valC ⟨ins, types, out⟩ d.time d.row).n = 1)).map Delta.av)), (13, .int k)])
          (fun k => [.cells [.sl (ins.map Ins.av), .sl (types.map AV.int), .int out] 25, .tail ((L.take k).filter fun d => decide ((valC ⟨ins, types, out⟩ d.time d.row).n = 1)).length 37 3])
          (fun k => k ≤ L.length) (fun k => L.length - k) 0 (by omega) (by simp) fun k hk => ?_
        by_cases hlt : k < L.length
        · have hfl := filter_le (fun d : Delta => decide ((valC ⟨ins, types, out⟩ d.time d.row).n = 1)) L k
          have hfs := filter_snoc (fun d : Delta => decide ((valC ⟨ins, types, out⟩ d.time d.row).n = 1)) L hlt
          have hvg : (runD ⟨ins, types, out⟩ L)[k]'(by omega) = valC ⟨ins, types, out⟩ L[k].time L[k].row := by unfold runD; simp
          have hk2 : k < (runD ⟨ins, types, out⟩ L).length := by omega
          by_cases hp : (valC ⟨ins, types, out⟩ L[k].time L[k].row).n = 1
          · rw [if_pos (by simpa using hp)] at hfs
            repeat' (first | ((first | ((with_reducible refine qo (fun hg => ?_) (fun hg => ?_)) <;> (try simp only [hg]) <;> (try simp only [beq_iff_eq, beq_eq_false_iff_ne, ne_eq, decide_eq_true_eq, decide_eq_false_iff_not, bne_iff_ne, bne_eq_false_iff_eq] at hg) <;> (try (first | simp only [eq_false hg, if_true, if_false] | simp only [eq_true hg, if_true, if_false]))) | (with_reducible first | refine qd ?_ | refine qc ?_ | refine qi ?_ | refine qh ?_) | refine qf ?_ | refine qj ?_ | refine qk ?_ | refine qn ?_) <;> (try simp (disch := first | omega | simp) [ql, -qu, -qx, hlt, hVl, hk2, hvg, hp])) | ((with_reducible first | refine sideG ?_ ?_ | refine qr ?_ ?_ | refine sideS ?_ ?_ | refine qs ?_ ?_ | refine qt ?_ ?_ | refine sideA ?_ ?_ | refine qp ?_ ?_ | refine qq ?_ ?_); first | omega | assumption | (simp; done)) | (refine qg fun K hK => ?_) | (refine qa ?_) | (refine qb true (by kernel_rfl) (by kernel_rfl) ?_) | (refine qb false (by kernel_rfl) (by kernel_rfl) ?_) | (refine hK _ ?_; clear hK K) | (clear hK K; refine hK _ ?_; clear hK K) | (clear hK K; clear hK K; refine hK _ ?_; clear hK K) | refine qe ?_)
            all_goals first | exact absurd hp (by assumption) | (refine ⟨k + 1, by omega, by omega, ?_⟩; rw [hfs]; simp)
          · rw [if_neg (by simpa using hp)] at hfs
            repeat' (first | ((first | ((with_reducible refine qo (fun hg => ?_) (fun hg => ?_)) <;> (try simp only [hg]) <;> (try simp only [beq_iff_eq, beq_eq_false_iff_ne, ne_eq, decide_eq_true_eq, decide_eq_false_iff_not, bne_iff_ne, bne_eq_false_iff_eq] at hg) <;> (try (first | simp only [eq_false hg, if_true, if_false] | simp only [eq_true hg, if_true, if_false]))) | (with_reducible first | refine qd ?_ | refine qc ?_ | refine qi ?_ | refine qh ?_) | refine qf ?_ | refine qj ?_ | refine qk ?_ | refine qn ?_) <;> (try simp (disch := first | omega | simp) [ql, -qu, -qx, hlt, hVl, hk2, hvg, hp])) | ((with_reducible first | refine sideG ?_ ?_ | refine qr ?_ ?_ | refine sideS ?_ ?_ | refine qs ?_ ?_ | refine qt ?_ ?_ | refine sideA ?_ ?_ | refine qp ?_ ?_ | refine qq ?_ ?_); first | omega | assumption | (simp; done)) | (refine qg fun K hK => ?_) | (refine qa ?_) | (refine qb true (by kernel_rfl) (by kernel_rfl) ?_) | (refine qb false (by kernel_rfl) (by kernel_rfl) ?_) | (refine hK _ ?_; clear hK K) | (clear hK K; refine hK _ ?_; clear hK K) | (clear hK K; clear hK K; refine hK _ ?_; clear hK K) | refine qe ?_)
            all_goals first | exact absurd (by assumption) hp | (refine ⟨k + 1, by omega, by omega, ?_⟩; rw [hfs]; simp)
        · obtain rfl : k = L.length := by omega
          rw [List.take_length]
          repeat' (first | ((first | ((with_reducible refine qo (fun hg => ?_) (fun hg => ?_)) <;> (try simp only [hg]) <;> (try simp only [beq_iff_eq, beq_eq_false_iff_ne, ne_eq, decide_eq_true_eq, decide_eq_false_iff_not, bne_iff_ne, bne_eq_false_iff_eq] at hg) <;> (try (first | simp only [eq_false hg, if_true, if_false] | simp only [eq_true hg, if_true, if_false]))) | (with_reducible first | refine qd ?_ | refine qc ?_ | refine qi ?_ | refine qh ?_) | refine qf ?_ | refine qj ?_ | refine qk ?_ | refine qn ?_) <;> (try simp (disch := first | omega | simp) [ql, -qu, -qx, hlt])) | ((with_reducible first | refine sideG ?_ ?_ | refine qr ?_ ?_ | refine sideS ?_ ?_ | refine qs ?_ ?_ | refine qt ?_ ?_ | refine sideA ?_ ?_ | refine qp ?_ ?_ | refine qq ?_ ?_); first | omega | assumption | (simp; done)) | (refine qg fun K hK => ?_) | (refine qa ?_) | (refine qb true (by kernel_rfl) (by kernel_rfl) ?_) | (refine qb false (by kernel_rfl) (by kernel_rfl) ?_) | (refine hK _ ?_; clear hK K) | (clear hK K; refine hK _ ?_; clear hK K) | (clear hK K; clear hK K; refine hK _ ?_; clear hK K) | refine qe ?_)
          all_goals (rw [hR]; simp)
    · rw [if_pos ht] at hR
      refine qm Tryd.func16 Tryd.ntmps16 rfl rfl (by decide) rfl (by intro n; simp) fun σ n0 hcl hft => ?_
      repeat' (first | ((first | ((with_reducible refine qo (fun hg => ?_) (fun hg => ?_)) <;> (try simp only [hg]) <;> (try simp only [beq_iff_eq, beq_eq_false_iff_ne, ne_eq, decide_eq_true_eq, decide_eq_false_iff_not, bne_iff_ne, bne_eq_false_iff_eq] at hg) <;> (try (first | simp only [eq_false hg, if_true, if_false] | simp only [eq_true hg, if_true, if_false]))) | (with_reducible first | refine qd ?_ | refine qc ?_ | refine qi ?_ | refine qh ?_) | refine acall (c1) ?_ | refine qv (c1) ?_ | refine qw (c1) ?_ | refine qf ?_ | refine qj ?_ | refine qk ?_ | refine qn ?_) <;> (try simp (disch := first | omega | simp) [ql, -qu, -qx, o0, o1, ht])) | ((with_reducible first | refine sideG ?_ ?_ | refine qr ?_ ?_ | refine sideS ?_ ?_ | refine qs ?_ ?_ | refine qt ?_ ?_ | refine sideA ?_ ?_ | refine qp ?_ ?_ | refine qq ?_ ?_); first | omega | assumption | (simp; done)) | (refine qg fun K hK => ?_) | (refine qa ?_) | (refine qb true (by kernel_rfl) (by kernel_rfl) ?_) | (refine qb false (by kernel_rfl) (by kernel_rfl) ?_) | (refine hK _ ?_; clear hK K) | (clear hK K; refine hK _ ?_; clear hK K) | (clear hK K; clear hK K; refine hK _ ?_; clear hK K) | refine qe ?_)
      all_goals first | exact absurd (by assumption) ht | (rw [hR]; simp)
  · rw [if_pos hv] at hR
    refine qm Tryd.func16 Tryd.ntmps16 rfl rfl (by decide) rfl (by intro n; simp) fun σ n0 hcl hft => ?_
    repeat' (first | ((first | ((with_reducible refine qo (fun hg => ?_) (fun hg => ?_)) <;> (try simp only [hg]) <;> (try simp only [beq_iff_eq, beq_eq_false_iff_ne, ne_eq, decide_eq_true_eq, decide_eq_false_iff_not, bne_iff_ne, bne_eq_false_iff_eq] at hg) <;> (try (first | simp only [eq_false hg, if_true, if_false] | simp only [eq_true hg, if_true, if_false]))) | (with_reducible first | refine qd ?_ | refine qc ?_ | refine qi ?_ | refine qh ?_) | refine acall (c1) ?_ | refine qv (c1) ?_ | refine qw (c1) ?_ | refine qf ?_ | refine qj ?_ | refine qk ?_ | refine qn ?_) <;> (try simp (disch := first | omega | simp) [ql, -qu, -qx, hv])) | ((with_reducible first | refine sideG ?_ ?_ | refine qr ?_ ?_ | refine sideS ?_ ?_ | refine qs ?_ ?_ | refine qt ?_ ?_ | refine sideA ?_ ?_ | refine qp ?_ ?_ | refine qq ?_ ?_); first | omega | assumption | (simp; done)) | (refine qg fun K hK => ?_) | (refine qa ?_) | (refine qb true (by kernel_rfl) (by kernel_rfl) ?_) | (refine qb false (by kernel_rfl) (by kernel_rfl) ?_) | (refine hK _ ?_; clear hK K) | (clear hK K; refine hK _ ?_; clear hK K) | (clear hK K; clear hK K; refine hK _ ?_; clear hK K) | refine qe ?_)
    all_goals first | exact absurd (by assumption) hv | (rw [hR]; simp)
def firstE (cols : List Int) : List Cod → Int
  | [] => 0
  | c :: l => if (verP c cols).2 ≠ 0 then (verP c cols).2 else firstE cols l
def projD (cs : List Cod) (L : List Delta) : List Delta := L.map fun d => ⟨d.time, cs.map fun c => valC c d.time d.row, d.n⟩
def projP (cs : List Cod) (cols : List Int) (L : List Delta) : List Delta × Int :=
  if cs.length = 0 ∨ 12 < cs.length then ([], 1) else if firstE cols cs ≠ 0 then ([], firstE cols cs) else if fitsD cols L = false then ([], 16) else (projD cs L, 0)
theorem firstE_at (cols : List Int) : ∀ (l : List Cod) (k : Nat) (h : k < l.length), (∀ j (hj : j < l.length), j < k → (verP l[j] cols).2 = 0) → (verP l[k] cols).2 ≠ 0 → firstE cols l = (verP l[k] cols).2
  | c :: l, 0, _, _, h2 => by
    have h3 : (verP c cols).2 ≠ 0 := h2
    rw [firstE, if_pos h3]; rfl
  | c :: l, k + 1, h, h1, h2 => by
    rw [firstE, if_neg (by have := h1 0 (by simp) (by omega); simp at this; omega)]
    exact firstE_at cols l k (by simpa using h) (fun j hj hjk => h1 (j + 1) (by simpa using hj) (by omega)) h2
theorem firstE_all (cols : List Int) : ∀ (l : List Cod), (∀ j (hj : j < l.length), (verP l[j] cols).2 = 0) → firstE cols l = 0
  | [], _ => rfl
  | c :: l, h => by
    rw [firstE, if_neg (by have := h 0 (by simp); simp at this; omega)]
    exact firstE_all cols l fun j hj => h (j + 1) (by simpa using hj)
set_option maxHeartbeats 8000000 in
theorem rProject_g (cs : List Cod) (cols : List Int) (L : List Delta) (hcs : cs.length ≤ 1000000) (hc : cols.length ≤ 1000000) (hL : L.length ≤ 1000000) (hr : ∀ d ∈ L, d.row.length ≤ 1000000) :
    Gives Tryd.prog 19 [.sl (cs.map Cod.av), .sl (cols.map AV.int), .sl (L.map Delta.av)] (.tup [.sl ((projP cs cols L).1.map Delta.av), .int (projP cs cols L).2]) := by
  have c2 := rfits_g cols L hc hL hr
  obtain ⟨R, hR⟩ : ∃ R, R = projP cs cols L := ⟨_, rfl⟩
  rw [← hR]
  unfold projP at hR
  by_cases h0 : cs.length = 0 ∨ 12 < cs.length
  · rw [if_pos h0] at hR
    rcases h0 with h0 | h0
    · obtain rfl := List.eq_nil_of_length_eq_zero h0
      refine qm Tryd.func19 Tryd.ntmps19 rfl rfl (by decide) rfl (by intro n; simp) fun σ n0 hcl hft => ?_
      repeat' (first | ((first | ((with_reducible refine qo (fun hg => ?_) (fun hg => ?_)) <;> (try simp only [hg]) <;> (try simp only [beq_iff_eq, beq_eq_false_iff_ne, ne_eq, decide_eq_true_eq, decide_eq_false_iff_not, bne_iff_ne, bne_eq_false_iff_eq] at hg) <;> (try (first | simp only [eq_false hg, if_true, if_false] | simp only [eq_true hg, if_true, if_false]))) | (with_reducible first | refine qd ?_ | refine qc ?_ | refine qi ?_ | refine qh ?_) | refine qf ?_ | refine qj ?_ | refine qk ?_ | refine qn ?_) <;> (try simp (disch := first | omega | simp) [ql, -qu, -qx])) | ((with_reducible first | refine sideG ?_ ?_ | refine qr ?_ ?_ | refine sideS ?_ ?_ | refine qs ?_ ?_ | refine qt ?_ ?_ | refine sideA ?_ ?_ | refine qp ?_ ?_ | refine qq ?_ ?_); first | omega | assumption | (simp; done)) | (refine qg fun K hK => ?_) | (refine qa ?_) | (refine qb true (by kernel_rfl) (by kernel_rfl) ?_) | (refine qb false (by kernel_rfl) (by kernel_rfl) ?_) | (refine hK _ ?_; clear hK K) | (clear hK K; refine hK _ ?_; clear hK K) | (clear hK K; clear hK K; refine hK _ ?_; clear hK K) | refine qe ?_)
      all_goals (rw [hR]; simp)
    · have h1 : (12 : Int) < cs.length := by omega
      have h2 : ¬ (cs.length : Int) < 1 := by omega
      refine qm Tryd.func19 Tryd.ntmps19 rfl rfl (by decide) rfl (by intro n; simp) fun σ n0 hcl hft => ?_
      repeat' (first | ((first | ((with_reducible refine qo (fun hg => ?_) (fun hg => ?_)) <;> (try simp only [hg]) <;> (try simp only [beq_iff_eq, beq_eq_false_iff_ne, ne_eq, decide_eq_true_eq, decide_eq_false_iff_not, bne_iff_ne, bne_eq_false_iff_eq] at hg) <;> (try (first | simp only [eq_false hg, if_true, if_false] | simp only [eq_true hg, if_true, if_false]))) | (with_reducible first | refine qd ?_ | refine qc ?_ | refine qi ?_ | refine qh ?_) | refine qf ?_ | refine qj ?_ | refine qk ?_ | refine qn ?_) <;> (try simp (disch := first | omega | simp) [ql, -qu, -qx, h1, h2])) | ((with_reducible first | refine sideG ?_ ?_ | refine qr ?_ ?_ | refine sideS ?_ ?_ | refine qs ?_ ?_ | refine qt ?_ ?_ | refine sideA ?_ ?_ | refine qp ?_ ?_ | refine qq ?_ ?_); first | omega | assumption | (simp; done)) | (refine qg fun K hK => ?_) | (refine qa ?_) | (refine qb true (by kernel_rfl) (by kernel_rfl) ?_) | (refine qb false (by kernel_rfl) (by kernel_rfl) ?_) | (refine hK _ ?_; clear hK K) | (clear hK K; refine hK _ ?_; clear hK K) | (clear hK K; clear hK K; refine hK _ ?_; clear hK K) | refine qe ?_)
      all_goals first | (rw [hR]; simp; done) | (exfalso; omega)
  rw [if_neg h0] at hR
  have h1 : ¬ (12 : Int) < cs.length := by omega
  have h2 : ¬ (cs.length : Int) < 1 := by omega
  have h3 : cs ≠ [] := fun e => h0 (.inl (by rw [e]; rfl))
  refine qm Tryd.func19 Tryd.ntmps19 rfl rfl (by decide) rfl (by intro n; simp) fun σ n0 hcl hft => ?_
  repeat' (first | ((first | ((with_reducible refine qo (fun hg => ?_) (fun hg => ?_)) <;> (try simp only [hg]) <;> (try simp only [beq_iff_eq, beq_eq_false_iff_ne, ne_eq, decide_eq_true_eq, decide_eq_false_iff_not, bne_iff_ne, bne_eq_false_iff_eq] at hg) <;> (try (first | simp only [eq_false hg, if_true, if_false] | simp only [eq_true hg, if_true, if_false]))) | (with_reducible first | refine qd ?_ | refine qc ?_ | refine qi ?_ | refine qh ?_) | refine qf ?_ | refine qj ?_ | refine qk ?_ | refine qn ?_) <;> (try simp (disch := first | omega | simp) [ql, -qu, -qx, h1, h2, h3])) | ((with_reducible first | refine sideG ?_ ?_ | refine qr ?_ ?_ | refine sideS ?_ ?_ | refine qs ?_ ?_ | refine qt ?_ ?_ | refine sideA ?_ ?_ | refine qp ?_ ?_ | refine qq ?_ ?_); first | omega | assumption | (simp; done)) | (refine qg fun K hK => ?_) | (refine qa ?_) | (refine qb true (by kernel_rfl) (by kernel_rfl) ?_) | (refine qb false (by kernel_rfl) (by kernel_rfl) ?_) | (refine hK _ ?_; clear hK K) | (clear hK K; refine hK _ ?_; clear hK K) | (clear hK K; clear hK K; refine hK _ ?_; clear hK K) | refine qe ?_)
  all_goals first | (exfalso; omega) | skip
  refine qbb hcl (fun k : Nat => [(0, .sl (cs.map Cod.av)), (1, .sl (cols.map AV.int)), (2, .sl (L.map Delta.av)), (8, .int k)]) (fun _ => []) (fun k => k ≤ cs.length ∧ ∀ j (hj : j < cs.length), j < k → (verP cs[j] cols).2 = 0) (fun k => cs.length - k) 0 (by simp) (by simp) fun k ⟨hk, hek⟩ => ?_
  by_cases hlt : k < cs.length
  · have c1 := rverify_g cs[k] cols hc
    by_cases hv : (verP cs[k] cols).2 = 0
    · rw [hv] at c1
      repeat' (first | ((first | ((with_reducible refine qo (fun hg => ?_) (fun hg => ?_)) <;> (try simp only [hg]) <;> (try simp only [beq_iff_eq, beq_eq_false_iff_ne, ne_eq, decide_eq_true_eq, decide_eq_false_iff_not, bne_iff_ne, bne_eq_false_iff_eq] at hg) <;> (try (first | simp only [eq_false hg, if_true, if_false] | simp only [eq_true hg, if_true, if_false]))) | (with_reducible first | refine qd ?_ | refine qc ?_ | refine qi ?_ | refine qh ?_) | refine acall (c1) ?_ | refine qv (c1) ?_ | refine qw (c1) ?_ | refine qf ?_ | refine qj ?_ | refine qk ?_ | refine qn ?_) <;> (try simp (disch := first | omega | simp) [ql, -qu, -qx, hlt])) | ((with_reducible first | refine sideG ?_ ?_ | refine qr ?_ ?_ | refine sideS ?_ ?_ | refine qs ?_ ?_ | refine qt ?_ ?_ | refine sideA ?_ ?_ | refine qp ?_ ?_ | refine qq ?_ ?_); first | omega | assumption | (simp; done)) | (refine qg fun K hK => ?_) | (refine qa ?_) | (refine qb true (by kernel_rfl) (by kernel_rfl) ?_) | (refine qb false (by kernel_rfl) (by kernel_rfl) ?_) | (refine hK _ ?_; clear hK K) | (clear hK K; refine hK _ ?_; clear hK K) | (clear hK K; clear hK K; refine hK _ ?_; clear hK K) | refine qe ?_)
      exact ⟨k + 1, ⟨by omega, fun j hj hjk => by
        by_cases hjk2 : j = k
        · subst hjk2; exact hv
        · exact hek j hj (by omega)⟩, by omega, by omega⟩
    · have hfe := firstE_at cols cs k hlt hek hv
      rw [hfe, if_pos hv] at hR
      repeat' (first | ((first | ((with_reducible refine qo (fun hg => ?_) (fun hg => ?_)) <;> (try simp only [hg]) <;> (try simp only [beq_iff_eq, beq_eq_false_iff_ne, ne_eq, decide_eq_true_eq, decide_eq_false_iff_not, bne_iff_ne, bne_eq_false_iff_eq] at hg) <;> (try (first | simp only [eq_false hg, if_true, if_false] | simp only [eq_true hg, if_true, if_false]))) | (with_reducible first | refine qd ?_ | refine qc ?_ | refine qi ?_ | refine qh ?_) | refine acall (c1) ?_ | refine qv (c1) ?_ | refine qw (c1) ?_ | refine qf ?_ | refine qj ?_ | refine qk ?_ | refine qn ?_) <;> (try simp (disch := first | omega | simp) [ql, -qu, -qx, hlt, hv])) | ((with_reducible first | refine sideG ?_ ?_ | refine qr ?_ ?_ | refine sideS ?_ ?_ | refine qs ?_ ?_ | refine qt ?_ ?_ | refine sideA ?_ ?_ | refine qp ?_ ?_ | refine qq ?_ ?_); first | omega | assumption | (simp; done)) | (refine qg fun K hK => ?_) | (refine qa ?_) | (refine qb true (by kernel_rfl) (by kernel_rfl) ?_) | (refine qb false (by kernel_rfl) (by kernel_rfl) ?_) | (refine hK _ ?_; clear hK K) | (clear hK K; refine hK _ ?_; clear hK K) | (clear hK K; clear hK K; refine hK _ ?_; clear hK K) | refine qe ?_)
      all_goals first | exact absurd (by assumption) hv | (rw [hR]; simp)
  have hall : ∀ j (hj : j < cs.length), (verP cs[j] cols).2 = 0 := fun j hj => hek j hj (by omega)
  rw [firstE_all cols cs hall, if_neg (by simp)] at hR
  cases hf : fitsD cols L
  · rw [hf] at c2 hR
    rw [if_pos rfl] at hR
    repeat' (first | ((first | ((with_reducible refine qo (fun hg => ?_) (fun hg => ?_)) <;> (try simp only [hg]) <;> (try simp only [beq_iff_eq, beq_eq_false_iff_ne, ne_eq, decide_eq_true_eq, decide_eq_false_iff_not, bne_iff_ne, bne_eq_false_iff_eq] at hg) <;> (try (first | simp only [eq_false hg, if_true, if_false] | simp only [eq_true hg, if_true, if_false]))) | (with_reducible first | refine qd ?_ | refine qc ?_ | refine qi ?_ | refine qh ?_) | refine acall (c2) ?_ | refine qv (c2) ?_ | refine qw (c2) ?_ | refine qf ?_ | refine qj ?_ | refine qk ?_ | refine qn ?_) <;> (try simp (disch := first | omega | simp) [ql, -qu, -qx, hlt])) | ((with_reducible first | refine sideG ?_ ?_ | refine qr ?_ ?_ | refine sideS ?_ ?_ | refine qs ?_ ?_ | refine qt ?_ ?_ | refine sideA ?_ ?_ | refine qp ?_ ?_ | refine qq ?_ ?_); first | omega | assumption | (simp; done)) | (refine qg fun K hK => ?_) | (refine qa ?_) | (refine qb true (by kernel_rfl) (by kernel_rfl) ?_) | (refine qb false (by kernel_rfl) (by kernel_rfl) ?_) | (refine hK _ ?_; clear hK K) | (clear hK K; refine hK _ ?_; clear hK K) | (clear hK K; clear hK K; refine hK _ ?_; clear hK K) | refine qe ?_)
    all_goals (rw [hR]; simp)
  rw [hf] at c2 hR
  rw [if_neg (by simp)] at hR
  repeat' (first | ((first | ((with_reducible refine qo (fun hg => ?_) (fun hg => ?_)) <;> (try simp only [hg]) <;> (try simp only [beq_iff_eq, beq_eq_false_iff_ne, ne_eq, decide_eq_true_eq, decide_eq_false_iff_not, bne_iff_ne, bne_eq_false_iff_eq] at hg) <;> (try (first | simp only [eq_false hg, if_true, if_false] | simp only [eq_true hg, if_true, if_false]))) | (with_reducible first | refine qd ?_ | refine qc ?_ | refine qi ?_ | refine qh ?_) | refine acall (c2) ?_ | refine qv (c2) ?_ | refine qw (c2) ?_ | refine qf ?_ | refine qj ?_ | refine qk ?_ | refine qn ?_) <;> (try simp (disch := first | omega | simp) [ql, -qu, -qx, hlt])) | ((with_reducible first | refine sideG ?_ ?_ | refine qr ?_ ?_ | refine sideS ?_ ?_ | refine qs ?_ ?_ | refine qt ?_ ?_ | refine sideA ?_ ?_ | refine qp ?_ ?_ | refine qq ?_ ?_); first | omega | assumption | (simp; done)) | (refine qg fun K hK => ?_) | (refine qa ?_) | (refine qb true (by kernel_rfl) (by kernel_rfl) ?_) | (refine qb false (by kernel_rfl) (by kernel_rfl) ?_) | (refine hK _ ?_; clear hK K) | (clear hK K; refine hK _ ?_; clear hK K) | (clear hK K; clear hK K; refine hK _ ?_; clear hK K) | refine qe ?_)
  refine awp_adoptR 11 37 3 (by simp) ?_
  obtain ⟨D, hD⟩ : ∃ D, D = projD cs L := ⟨_, rfl⟩
  have hDl : D.length = L.length := by rw [hD]; unfold projD; simp
  have hDg : ∀ i (h : i < L.length) (h2 : i < D.length), D[i] = ⟨L[i].time, cs.map fun c => valC c L[i].time L[i].row, L[i].n⟩ := fun i h h2 => by subst hD; simp [projD]
  rw [← hD] at hR
  clear hD
  have hcs12 : cs.length ≤ 12 := by omega
  refine qbb hcl (fun i : Nat => [(0, .sl (cs.map Cod.av)), (1, .sl (cols.map AV.int)), (2, .sl (L.map Delta.av)), (11, .gs n0 ((D.take i).map Delta.av)), (12, .int i)]) (fun i => [.tail i 37 3])
    (fun i => i ≤ L.length) (fun i => L.length - i) 0 (by omega) (by simp) fun i hi => ?_
  by_cases hli : i < L.length
  · have hliD : i < D.length := by omega
    have hdg := hDg i hli hliD
    have c3 : ∀ j (h : j < cs.length), Gives Tryd.prog 42 [cs[j].av, .int L[i].time, .sl (L[i].row.map Val.av)] (valC cs[j] L[i].time L[i].row).av := fun j h => rvalue_g (verP_ok.1 (hall j h)) _ (fitsD_mem hf (List.getElem_mem _))
    obtain ⟨VS, hVS⟩ : ∃ VS, VS = cs.map fun c => valC c L[i].time L[i].row := ⟨_, rfl⟩
    have hVl : VS.length = cs.length := by rw [hVS, List.length_map]
    have hVg : ∀ j (h : j < cs.length) (h2 : j < VS.length), VS[j] = valC cs[j] L[i].time L[i].row := fun j h h2 => by subst hVS; simp
    rw [← hVS] at hdg
    clear hVS
    have hszi : (i + 1) * 40 ≤ 140737488355328 := by omega
    have hwi : AV.wid (List.take i (List.map Delta.av D)) 3 := by rw [← List.map_take]; exact Delta.avs_wid _
    have hmi : min i D.length = i := by omega
    have htki : List.take (i + 1) (List.map Delta.av D) = List.take i (List.map Delta.av D) ++ [(D[i]'hliD).av] := by rw [List.take_succ_eq_append_getElem (by simpa using hliD), List.getElem_map]
    repeat' (first | ((first | ((with_reducible refine qo (fun hg => ?_) (fun hg => ?_)) <;> (try simp only [hg]) <;> (try simp only [beq_iff_eq, beq_eq_false_iff_ne, ne_eq, decide_eq_true_eq, decide_eq_false_iff_not, bne_iff_ne, bne_eq_false_iff_eq] at hg) <;> (try (first | simp only [eq_false hg, if_true, if_false] | simp only [eq_true hg, if_true, if_false]))) | (with_reducible first | refine qd ?_ | refine qc ?_ | refine qi ?_ | refine qh ?_) | refine qf ?_ | refine qj ?_ | refine qk ?_ | refine qn ?_) <;> (try simp (disch := first | omega | simp) [ql, -qu, -qx, hli])) | ((with_reducible first | refine sideG ?_ ?_ | refine qr ?_ ?_ | refine sideS ?_ ?_ | refine qs ?_ ?_ | refine qt ?_ ?_ | refine sideA ?_ ?_ | refine qp ?_ ?_ | refine qq ?_ ?_); first | omega | assumption | (simp; done)) | (refine qg fun K hK => ?_) | (refine qa ?_) | (refine qb true (by kernel_rfl) (by kernel_rfl) ?_) | (refine qb false (by kernel_rfl) (by kernel_rfl) ?_) | (refine hK _ ?_; clear hK K) | (clear hK K; refine hK _ ?_; clear hK K) | (clear hK K; clear hK K; refine hK _ ?_; clear hK K) | refine qe ?_)
    refine awp_adoptC 1 1 39 3 (by rfl) (by rfl) ?_
    refine qbb hcl (fun j : Nat => [(0, .sl (cs.map Cod.av)), (1, .sl (cols.map AV.int)), (2, .sl (L.map Delta.av)), (11, .gs n0 ((D.take i).map Delta.av)), (12, .int i), (13, .ptr (n0 + 1) 0), (14, .int j)])
      (fun j => [.tail i 37 3, .cells [.int L[i].time, .gs (n0 + 2) ((VS.take j).map Val.av), .int L[i].n] 37, .tail j 39 3])
      (fun j => j ≤ cs.length) (fun j => cs.length - j) 0 (by omega) (by simp) fun j hj => ?_
    by_cases hlj : j < cs.length
    · have hljV : j < VS.length := by omega
      have c4 := c3 j hlj
      rw [← hVg j hlj hljV] at c4
      have hszj : (j + 1) * 32 ≤ 140737488355328 := by omega
      have hwj : AV.wid (List.take j (List.map Val.av VS)) 3 := by rw [← List.map_take]; exact Val.avs_wid _
      have hmj : min j VS.length = j := by omega
      have htkj : List.take (j + 1) (List.map Val.av VS) = List.take j (List.map Val.av VS) ++ [(VS[j]'hljV).av] := by rw [List.take_succ_eq_append_getElem (by simpa using hljV), List.getElem_map]
      repeat' (first | ((first | ((with_reducible refine qo (fun hg => ?_) (fun hg => ?_)) <;> (try simp only [hg]) <;> (try simp only [beq_iff_eq, beq_eq_false_iff_ne, ne_eq, decide_eq_true_eq, decide_eq_false_iff_not, bne_iff_ne, bne_eq_false_iff_eq] at hg) <;> (try (first | simp only [eq_false hg, if_true, if_false] | simp only [eq_true hg, if_true, if_false]))) | (with_reducible first | refine qd ?_ | refine qc ?_ | refine qi ?_ | refine qh ?_) | refine acall (c4) ?_ | refine qv (c4) ?_ | refine qw (c4) ?_ | refine qf ?_ | refine qj ?_ | refine qk ?_ | refine qn ?_) <;> (try simp (disch := first | omega | simp) [ql, -qu, -qx, hlj, hli, hszj, hwj, hmj])) | (with_reducible refine qb (id := 19) false (by kernel_rfl) (by kernel_rfl) ?_) | ((with_reducible first | refine sideG ?_ ?_ | refine qr ?_ ?_ | refine sideS ?_ ?_ | refine qs ?_ ?_ | refine qt ?_ ?_ | refine sideA ?_ ?_ | refine qp ?_ ?_ | refine qq ?_ ?_); first | omega | assumption | (simp; done)) | (refine qg fun K hK => ?_) | (refine qa ?_) | (refine qb true (by kernel_rfl) (by kernel_rfl) ?_) | (refine qb false (by kernel_rfl) (by kernel_rfl) ?_) | (refine hK _ ?_; clear hK K) | (clear hK K; refine hK _ ?_; clear hK K) | (clear hK K; clear hK K; refine hK _ ?_; clear hK K) | refine qe ?_)
      exact ⟨j + 1, by omega, by omega, ⟨htkj.symm, rfl⟩, by omega⟩
    · obtain rfl : j = cs.length := by omega
      have htk2 : List.take cs.length (List.map Val.av VS) = List.map Val.av VS := List.take_of_length_le (by rw [List.length_map]; omega)
      repeat' (first | ((first | ((with_reducible refine qo (fun hg => ?_) (fun hg => ?_)) <;> (try simp only [hg]) <;> (try simp only [beq_iff_eq, beq_eq_false_iff_ne, ne_eq, decide_eq_true_eq, decide_eq_false_iff_not, bne_iff_ne, bne_eq_false_iff_eq] at hg) <;> (try (first | simp only [eq_false hg, if_true, if_false] | simp only [eq_true hg, if_true, if_false]))) | (with_reducible first | refine qd ?_ | refine qc ?_ | refine qi ?_ | refine qh ?_) | refine qf ?_ | refine qj ?_ | refine qk ?_ | refine qn ?_) <;> (try simp (disch := first | omega | simp) [ql, -qu, -qx, hlj, hszi, hwi, hmi, htk2])) | ((with_reducible first | refine sideG ?_ ?_ | refine qr ?_ ?_ | refine sideS ?_ ?_ | refine qs ?_ ?_ | refine qt ?_ ?_ | refine sideA ?_ ?_ | refine qp ?_ ?_ | refine qq ?_ ?_); first | omega | assumption | (simp; done)) | (refine qg fun K hK => ?_) | (refine qa ?_) | (refine qb true (by kernel_rfl) (by kernel_rfl) ?_) | (refine qb false (by kernel_rfl) (by kernel_rfl) ?_) | (refine hK _ ?_; clear hK K) | (clear hK K; refine hK _ ?_; clear hK K) | (clear hK K; clear hK K; refine hK _ ?_; clear hK K) | refine qe ?_)
      exact ⟨i + 1, by omega, by omega, rfl, by rw [htki, hdg]; rfl, by omega⟩
  · obtain rfl : i = L.length := by omega
    rw [List.take_of_length_le (by omega)]
    repeat' (first | ((first | ((with_reducible refine qo (fun hg => ?_) (fun hg => ?_)) <;> (try simp only [hg]) <;> (try simp only [beq_iff_eq, beq_eq_false_iff_ne, ne_eq, decide_eq_true_eq, decide_eq_false_iff_not, bne_iff_ne, bne_eq_false_iff_eq] at hg) <;> (try (first | simp only [eq_false hg, if_true, if_false] | simp only [eq_true hg, if_true, if_false]))) | (with_reducible first | refine qd ?_ | refine qc ?_ | refine qi ?_ | refine qh ?_) | refine qf ?_ | refine qj ?_ | refine qk ?_ | refine qn ?_) <;> (try simp (disch := first | omega | simp) [ql, -qu, -qx, hli])) | ((with_reducible first | refine sideG ?_ ?_ | refine qr ?_ ?_ | refine sideS ?_ ?_ | refine qs ?_ ?_ | refine qt ?_ ?_ | refine sideA ?_ ?_ | refine qp ?_ ?_ | refine qq ?_ ?_); first | omega | assumption | (simp; done)) | (refine qg fun K hK => ?_) | (refine qa ?_) | (refine qb true (by kernel_rfl) (by kernel_rfl) ?_) | (refine qb false (by kernel_rfl) (by kernel_rfl) ?_) | (refine hK _ ?_; clear hK K) | (clear hK K; refine hK _ ?_; clear hK K) | (clear hK K; clear hK K; refine hK _ ?_; clear hK K) | refine qe ?_)
    rw [hR]; simp
end Go.Proofs.YtnkakofcejkhiaaDoor

/- A nil slice in an element of an own slice, from now on one that can grow. -/
namespace Go.Proofs.YtnkakofcejkhiaaDoor
open Go.RowKit Go.Lib
theorem RCs.set {X : St} {y z : AV} (h : ∀ vs, RC X y vs → RC X z vs) : ∀ {l : List AV} {xs : List Value} {k : Nat}, RCs X l xs → l[k]? = some y → RCs X (l.set k z) xs
  | [], _, _, _, h => by simp at h
  | d :: l, xs, 0, hr, hk => by
    rw [RCs] at hr
    obtain ⟨c1, c2, rfl, h1, h2⟩ := hr
    simp at hk
    subst hk
    rw [List.set_cons_zero, RCs]
    exact ⟨c1, c2, rfl, h _ h1, h2⟩
  | d :: l, xs, k + 1, hr, hk => by
    rw [RCs] at hr
    obtain ⟨c1, c2, rfl, h1, h2⟩ := hr
    rw [List.set_cons_succ, RCs]
    exact ⟨c1, c2, rfl, h1, RCs.set h h2 (by simpa using hk)⟩
theorem con_revec {s : AS} {X0 X : St} {a : Act} {w : World} {r : Nat} {l l' : List AV} {e : TypeId} {sz : Nat} (hc : Con X0 s a w X) (hσ : s.st r = .vec l e sz) (hl : l'.length = l.length) (hw : (∀ x ∈ l, x.width = sz) → ∀ x ∈ l', x.width = sz) (h : ∀ xs, RCs X l xs → RCs X l' xs) :
    ∃ X', Con X0 (s.set r (.vec l' e sz)) a w X' := by
  have hX : X.σ r = .vec l e sz := by rw [hc.σ, hσ]
  have hlt : r < s.nx := Nat.lt_of_not_le fun h => by have := s.fin r h; rw [hσ] at this; cases this
  obtain ⟨e1, e2, e3⟩ := s.set_nx r (.vec l' e sz)
  let X' : St := { X with σ := upd X.σ r (.vec l' e sz) }
  have hb : ∀ k, X'.blk k = X.blk k := fun k => by
    by_cases hk : k = r
    · subst hk; simp [X', St.blk, upd, hX, AB.blk]
    · simp [X', St.blk, upd, hk]
  have hF : Fr X X' := ⟨rfl, rfl, rfl, Nat.le_refl _, fun _ _ _ => rfl, fun _ _ _ => rfl, fun _ _ h => h, fun _ _ h => .inl h, fun k => by
    by_cases hk : k = r
    · subst hk; unfold Ver; rw [hX]; exact .inr ⟨l', by simp [X', upd], .inr ⟨hl.symm, rfl⟩⟩
    · have h1 : X'.σ k = X.σ k := by simp [X', upd, hk]
      have := (Fr.refl X).ver k
      unfold Ver at this ⊢
      rw [h1]; exact this, fun k b h => .inr ⟨k, by rw [← hb]; exact h⟩⟩
  refine ⟨X', hc.w, ?_, ⟨fun k => ?_, fun k k' b h1 h2 => hc.sr.alone k k' b (by rw [← hb]; exact h1) (by rw [← hb]; exact h2), fun k b o h1 h2 => ?_, hc.sr.old, hc.sr.glob.mono fun _ _ _ h => h.fr hF⟩, hc.fr.trans hF, by rw [e1]; exact hc.size, fun d => by rw [e3]; exact (hc.regs d).fr hF, hc.defers, by rw [e2]; exact hc.fin⟩
  · show upd X.σ r _ = _
    rw [hc.σ, AS.set_st _ _ _ hlt]
  · by_cases hk : k = r
    · subst hk
      have h1 : X'.σ k = .vec l' e sz := by simp [X', upd]
      rw [h1]
      have hB := hc.sr.block k
      rw [hX] at hB
      obtain ⟨hwd, xs, ho, hr⟩ := hB
      refine ⟨hw hwd, xs, ?_, RCs.fr hF _ _ (h xs hr)⟩
      show X'.w.ownsRow 0 e sz (X'.μ k) l'.length xs
      rw [hl]; exact ho
    · exact BR.fr hc.sr hF (by simp [X', upd, hk]) rfl fun _ _ => rfl
  · obtain ⟨n, e2, s2, h4, h5⟩ := hc.sr.apart k b o (by rw [← hb]; exact h1) h2
    have hk : k ≠ r := fun hk => by rw [hk, hX] at h4; cases h4
    exact ⟨n, e2, s2, by simp [X', upd, hk, h4], h5⟩
theorem awp_adoptE {P : Program} {code : Code} {Q : Exit → AS → Prop} {n n0 : Nat} {t : Nat → AV} {σ : Nat → AB} {L : List AB} (i k c : Nat) (e : TypeId) (sz : Nat) {l cs : List AV} {et : TypeId} {s2 : Nat} (hL : L[i]? = some (.vec l et s2)) (hk : l[k]? = some (.agg cs)) (hc0 : cs[c]? = some (.v (.slice none 0 0)))
    (h : awp P code Q ⟨n, t, σ, n0, L.set i (.vec (l.set k (.agg (cs.set c (.gs (n0 + L.length) [])))) et s2) ++ [.tail 0 e sz]⟩) : awp P code Q ⟨n, t, σ, n0, L⟩ := by
  intro X0 a w ⟨X, hc⟩
  have hi := (List.getElem?_eq_some_iff.1 hL).1
  obtain ⟨X', hXw, hc', hF, hR⟩ := con_adopt hc e sz
  have hst : (AS.ext ⟨n, t, σ, n0, L⟩ (some (.tail 0 e sz))).st (n0 + i) = .vec l et s2 := by
    show loc σ n0 (L ++ [_]) (n0 + i) = _
    unfold loc
    rw [if_neg (by omega), Nat.add_sub_cancel_left, List.getD_eq_getElem?_getD, List.getElem?_append_left hi, hL]; rfl
  obtain ⟨X2, hc2⟩ := con_revec (l' := l.set k (.agg (cs.set c (.gs (n0 + L.length) [])))) hc' hst (by rw [List.length_set]) (fun hw x hx => by
    rcases List.mem_or_eq_of_mem_set hx with hx | rfl
    · exact hw x hx
    · have := hw _ (List.mem_of_getElem? hk)
      rw [AV.width] at this ⊢
      rw [List.length_set]; exact this) fun xs hr => RCs.set (fun vs hv => by
    rw [RC] at hv ⊢
    exact R1s.set rfl hv hc0 fun v hv => by
      rw [RC] at hv
      obtain rfl : v = .slice none 0 0 := by simpa using hv
      exact hR) hr hk
  refine h X0 a w ⟨X2, ?_⟩
  have : (AS.ext ⟨n, t, σ, n0, L⟩ (some (.tail 0 e sz))).set (n0 + i) (.vec (l.set k (.agg (cs.set c (.gs (n0 + L.length) [])))) et s2) = ⟨n, t, σ, n0, L.set i (.vec (l.set k (.agg (cs.set c (.gs (n0 + L.length) [])))) et s2) ++ [.tail 0 e sz]⟩ := by
    unfold AS.set AS.ext
    dsimp only
    rw [if_neg (by omega), Nat.add_sub_cancel_left, List.set_append_left _ _ hi]
  rw [this] at hc2; exact hc2
end Go.Proofs.YtnkakofcejkhiaaDoor

/- A part of a walk to which the call's own blocks are blocks of the caller; many nil slices in a vector's elements, from now on ones that can grow; and back to slices that are only read. -/
namespace Go.Proofs.YtnkakofcejkhiaaDoor
open Go.RowKit Go.Lib
theorem awp_rebase {P : Program} {c : Code} {Q Q' : Exit → AS → Prop} {s : AS} (s1 : AS) (hst : s1.st = s.st) (hn : s1.n = s.n) (ht : s1.t = s.t) (h0 : s.n0 ≤ s1.n0) (hQ : ∀ e s', Q' e s' → ∃ s2, Q e s2 ∧ s2.st = s'.st ∧ s2.n = s'.n ∧ s2.t = s'.t ∧ s2.n0 = s.n0)
    (h : awp P c Q' s1) : awp P c Q s := by
  intro X0 a w ⟨X, hc⟩
  refine wp_mono (h X0 a w ⟨X, hc.w, by rw [hc.σ, hst], hc.sr, hc.fr, by rw [hn]; exact hc.size, fun d => by rw [ht]; exact hc.regs d, hc.defers, fun r hr => hc.fin r (by omega)⟩) ?_
  rintro e a' w' ⟨s', hq, X', hc'⟩
  obtain ⟨s2, h1, h2, h3, h4, h5⟩ := hQ e s' hq
  exact ⟨s2, h1, X', hc'.w, by rw [hc'.σ, h2], hc'.sr, hc'.fr, by rw [h3]; exact hc'.size, fun d => by rw [h4]; exact hc'.regs d, hc'.defers, by rw [h5]; exact hc.fin⟩
def AS.un (s : AS) (σ : Nat → AB) (n0 m : Nat) : AS := ⟨s.n, s.t, σ, n0, (List.range m).map (fun i => s.st (n0 + i)) ++ s.L⟩
theorem AS.un_st {s : AS} {σ : Nat → AB} {n0 m : Nat} (h : s.n0 = n0 + m) (hσ : ∀ r, r < n0 → s.σ r = σ r) : (s.un σ n0 m).st = s.st := by
  funext r
  show loc σ n0 ((List.range m).map (fun i => s.st (n0 + i)) ++ s.L) r = s.st r
  unfold loc
  by_cases h1 : r < n0
  · rw [if_pos h1]
    unfold AS.st loc
    rw [if_pos (by omega), hσ r h1]
  · rw [if_neg h1, List.getD_eq_getElem?_getD]
    by_cases h2 : r < n0 + m
    · rw [List.getElem?_append_left (by simp; omega), List.getElem?_map, List.getElem?_range (by omega)]
      show s.st (n0 + (r - n0)) = _
      rw [show n0 + (r - n0) = r by omega]
    · rw [List.getElem?_append_right (by simp; omega), List.length_map, List.length_range, ← List.getD_eq_getElem?_getD]
      unfold AS.st loc
      rw [if_neg (by omega)]
      congr 1
      omega
theorem awp_reb {P : Program} {c : Code} {Q : Exit → AS → Prop} {n n0 : Nat} {t : Nat → AV} {σ : Nat → AB} {L : List AB} (σ' : Nat → AB) (m : Nat) (hm : L.length = m) (hσ' : ∀ r, σ' r = loc σ n0 L r)
    (h : awp P c (fun e s' => s'.n0 = n0 + m ∧ (∀ r, r < n0 → s'.σ r = σ r) ∧ Q e (s'.un σ n0 m)) ⟨n, t, σ', n0 + m, []⟩) : awp P c Q ⟨n, t, σ, n0, L⟩ := by
  subst hm
  refine awp_rebase ⟨n, t, σ', n0 + L.length, []⟩ ?_ rfl rfl (Nat.le_add_right _ _) ?_ h
  · funext r
    show loc σ' (n0 + L.length) [] r = loc σ n0 L r
    unfold loc
    split
    · rw [hσ']; rfl
    · rw [if_neg (by omega), List.getD_eq_getElem?_getD, List.getD_eq_getElem?_getD, List.getElem?_eq_none (l := L) (by omega)]; rfl
  · rintro e s' ⟨h1, h2, h3⟩
    exact ⟨_, h3, AS.un_st h1 h2, rfl, rfl, rfl⟩
def adopted (c q : Nat) : List (List AV) → List AV
  | [] => []
  | cs :: l => .agg (cs.set c (.gs q [])) :: adopted c (q + 1) l
theorem adopted_len (c : Nat) : ∀ (l : List (List AV)) (q : Nat), (adopted c q l).length = l.length
  | [], _ => rfl
  | cs :: l, q => by rw [adopted, List.length_cons, adopted_len c l, List.length_cons]
theorem adopted_snoc (c : Nat) (cs : List AV) : ∀ (l : List (List AV)) (q : Nat), adopted c q (l ++ [cs]) = adopted c q l ++ [.agg (cs.set c (.gs (q + l.length) []))]
  | [], _ => rfl
  | x :: l, q => by
    rw [List.cons_append, adopted, adopted_snoc c cs l, adopted, List.cons_append, List.length_cons, show q + 1 + l.length = q + (l.length + 1) by omega]
theorem adopted_get (c : Nat) : ∀ (l : List (List AV)) (q i : Nat), (adopted c q l)[i]? = l[i]?.map fun cs => AV.agg (cs.set c (.gs (q + i) []))
  | [], _, _ => rfl
  | x :: l, q, 0 => rfl
  | x :: l, q, i + 1 => by
    rw [adopted, List.getElem?_cons_succ, adopted_get c l, List.getElem?_cons_succ, show q + 1 + i = q + (i + 1) by omega]
theorem awp_adoptsE {P : Program} {code : Code} {Q : Exit → AS → Prop} {n n0 : Nat} {t : Nat → AV} {σ : Nat → AB} {L : List AB} (i c : Nat) (e : TypeId) (sz : Nat) {l : List (List AV)} {et : TypeId} {s2 : Nat} (hL : L[i]? = some (.vec (l.map AV.agg) et s2)) (hc0 : ∀ cs ∈ l, cs[c]? = some (.v (.slice none 0 0)))
    (h : awp P code Q ⟨n, t, σ, n0, L.set i (.vec (adopted c (n0 + L.length) l) et s2) ++ List.replicate l.length (.tail 0 e sz)⟩) : awp P code Q ⟨n, t, σ, n0, L⟩ := by
  have hi := (List.getElem?_eq_some_iff.1 hL).1
  have key : ∀ (b a : List (List AV)), l = a ++ b → awp P code Q ⟨n, t, σ, n0, L.set i (.vec (adopted c (n0 + L.length) a ++ b.map AV.agg) et s2) ++ List.replicate a.length (.tail 0 e sz)⟩ := fun b => by
    induction b with
    | nil =>
      intro a ha
      rw [List.append_nil] at ha
      subst ha
      rw [List.map_nil, List.append_nil]; exact h
    | cons cs b ih =>
      intro a ha
      have h2 := ih (a ++ [cs]) (by rw [ha]; simp)
      refine awp_adoptE i a.length c e sz (l := adopted c (n0 + L.length) a ++ (cs :: b).map AV.agg) (cs := cs) (et := et) (s2 := s2) ?_ ?_ (hc0 cs (by rw [ha]; simp)) ?_
      · rw [List.getElem?_append_left (by simpa using hi), List.getElem?_set_self hi]
      · rw [List.getElem?_append_right (by rw [adopted_len]; omega), adopted_len, Nat.sub_self]; rfl
      · have e1 : (adopted c (n0 + L.length) a ++ (cs :: b).map AV.agg).set a.length (.agg (cs.set c (.gs (n0 + (L.set i (.vec (adopted c (n0 + L.length) a ++ (cs :: b).map AV.agg) et s2) ++ List.replicate a.length (AB.tail 0 e sz)).length) []))) = adopted c (n0 + L.length) (a ++ [cs]) ++ b.map AV.agg := by
          rw [List.set_append_right _ _ (by rw [adopted_len]; omega), adopted_len, Nat.sub_self, List.map_cons, List.set_cons_zero, adopted_snoc, List.append_assoc, List.length_append, List.length_set, List.length_replicate, Nat.add_assoc]
          rfl
        rw [e1, List.set_append_left _ _ (by simpa using hi), List.set_set, List.append_assoc, ← List.replicate_succ']
        rw [List.length_append, List.length_singleton] at h2
        exact h2
  have h0 := key l [] rfl
  have e0 : L.set i (.vec (l.map AV.agg) et s2) = L := by
    apply List.ext_getElem? ; intro k
    by_cases hk : k = i
    · subst hk; rw [List.getElem?_set_self hi, hL]
    · rw [List.getElem?_set_ne (Ne.symm hk)]
  rw [adopted, List.nil_append, e0, List.length_nil, List.replicate_zero, List.append_nil] at h0
  exact h0
theorem RCs.pubs {X : St} : ∀ {l : List AV} {xs : List Value}, RCs X l xs → RCs X (l.map AV.pub) xs
  | [], _, h => h
  | d :: l, _, h => by
    obtain ⟨c1, c2, rfl, h1, h2⟩ := h
    exact ⟨c1, c2, rfl, h1.pub, RCs.pubs h2⟩
theorem pub_width (x : AV) : x.pub.width = x.width := by
  have hp : ∀ l : List AV, (AV.pubs l).length = l.length := fun l => by
    induction l with
    | nil => rw [AV.pubs]
    | cons y l ih => rw [AV.pubs, List.length_cons, List.length_cons, ih]
  cases x with
  | agg l => rw [AV.pub]; exact hp l
  | v y => rw [AV.pub]; unfold pubV; split <;> rfl
  | tup l => rw [AV.pub]; rfl
  | gs r l => rw [AV.pub]; rfl
  | _ => rw [AV.pub]
theorem awp_pubE {P : Program} {code : Code} {Q : Exit → AS → Prop} {n n0 : Nat} {t : Nat → AV} {σ : Nat → AB} {L : List AB} (i : Nat) {l : List AV} {et : TypeId} {s2 : Nat} (hL : L[i]? = some (.vec l et s2))
    (h : awp P code Q ⟨n, t, σ, n0, L.set i (.vec (l.map AV.pub) et s2)⟩) : awp P code Q ⟨n, t, σ, n0, L⟩ := by
  intro X0 a w ⟨X, hc⟩
  have hi := (List.getElem?_eq_some_iff.1 hL).1
  have hst : (AS.mk n t σ n0 L).st (n0 + i) = .vec l et s2 := by
    show loc σ n0 L (n0 + i) = _
    unfold loc
    rw [if_neg (by omega), Nat.add_sub_cancel_left, List.getD_eq_getElem?_getD, hL]; rfl
  obtain ⟨X2, hc2⟩ := con_revec (l' := l.map AV.pub) hc hst (by rw [List.length_map]) (fun hw x hx => by
    obtain ⟨y, hy, rfl⟩ := List.mem_map.1 hx
    rw [pub_width]; exact hw y hy) fun xs hr => RCs.pubs hr
  refine h X0 a w ⟨X2, ?_⟩
  have : (AS.mk n t σ n0 L).set (n0 + i) (.vec (l.map AV.pub) et s2) = ⟨n, t, σ, n0, L.set i (.vec (l.map AV.pub) et s2)⟩ := by
    unfold AS.set; dsimp only; rw [if_neg (by omega), Nat.add_sub_cancel_left]
  rw [this] at hc2; exact hc2
end Go.Proofs.YtnkakofcejkhiaaDoor
