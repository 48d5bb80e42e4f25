/- api.Code as an abstract value. -/
import Derived.WideShapes
import Derived.Laws.Strings
import Derived.Test.YtnkakofcejkhiaaDoorGa1
import Derived.Test.YtnkakofcejkhiaaDoorGa12
import Derived.Test.YtnkakofcejkhiaaDoorGa14
import Derived.Test.YtnkakofcejkhiaaDoorGa15
import Derived.Test.YtnkakofcejkhiaaDoorGa16
import Derived.Test.YtnkakofcejkhiaaDoorGa17
set_option linter.unusedSimpArgs false
set_option linter.unusedVariables false
namespace Go.Proofs.YtnkakofcejkhiaaDoor
open Go.RowKit Go.Lib
def Cod.av (x : Cod) : AV := .agg [.sl (x.ins.map Ins.av), .sl (x.types.map AV.int), .int x.out]
@[simp] theorem Cod.av_nt (x : Cod) : x.av.nt = true := rfl
@[simp] theorem Cod.av_sure (x : Cod) : x.av.sure = true := rfl
@[simp] theorem Cod.av_elem (x : Cod) : x.av.elem = true := rfl
@[simp] theorem Cod.av_width (x : Cod) : x.av.width = 3 := rfl
@[simp] theorem Cod.av_pub (x : Cod) : x.av.pub = x.av := by unfold Cod.av; rw [AV.pub]; simp only [AV.pubs_cons, AV.pubs_nil, AV.pub_v, pubV, AV.pub_sl]
@[simp] theorem Cod.av_cells (x : Cod) : x.av.cells = [.sl (x.ins.map Ins.av), .sl (x.types.map AV.int), .int x.out] := rfl
@[simp] theorem Cod.av_fold (x : Cod) : AV.agg [.sl (x.ins.map Ins.av), .sl (x.types.map AV.int), .int x.out] = x.av := rfl
@[simp] theorem Cod.av_val? (x : Cod) : x.av.val? = none := rfl
@[simp] theorem Cod.rd_all (x : Cod) (σ : Nat → AB) : rdAt σ true 3 (.ep x.av 0) = some x.av := rfl
@[simp] theorem Cod.rd_0 (x : Cod) (σ : Nat → AB) (n : Nat) : rdAt σ false n (.ep x.av 0) = some (.sl (x.ins.map Ins.av)) := rfl
@[simp] theorem Cod.rd_1 (x : Cod) (σ : Nat → AB) (n : Nat) : rdAt σ false n (.ep x.av 1) = some (.sl (x.types.map AV.int)) := rfl
@[simp] theorem Cod.rd_2 (x : Cod) (σ : Nat → AB) (n : Nat) : rdAt σ false n (.ep x.av 2) = some (.int x.out) := rfl
@[simp] theorem Cod.av_cl (x : Cod) (m : Nat) : x.av.cl m := by unfold Cod.av; simp [-Cod.av_fold]
@[simp] theorem Cod.avs_cl (l : List Cod) (m : Nat) : AV.cls m (l.map Cod.av) := AV.cls_map (fun f => f.av_cl m) l
@[simp] theorem Cod.avs_wid (l : List Cod) : AV.wid (l.map Cod.av) 3 := AV.wid_map (f := Cod.av) (fun a => a.av_width) l
@[simp] theorem Cod.avs_elms (l : List Cod) : AV.elms (l.map Cod.av) := AV.elms_map (f := Cod.av) (fun a => a.av_elem) l
theorem Cod.d_av (x : Cod) : x.d.av = x.av := by
  simp only [Cod.d, Cod.av, D.av, D.cs, D.avs_map, List.map_map, List.nil_append, List.cons_append, List.append_nil]
  rw [show D.av ∘ Ins.d = Ins.av from funext Ins.d_av]
  try rfl
theorem Cod.ds_av (l : List Cod) : (D.sl (l.map Cod.d)).av = .sl (l.map Cod.av) := by
  rw [D.av, D.avs_map, List.map_map]
  first
  | rfl
  | (congr 1; exact List.map_congr_left fun x _ => x.d_av)
theorem Cod.flat {w : World} {x : Cod} {cs : List Value} (h : Rd w Any x.d cs) : RR1 (St.flat w) x.av (.agg cs.toArray) := by
  have := qcz h
  rw [Cod.d_av, Cod.av, RC] at this
  exact ⟨cs, rfl, this⟩
theorem Cod.flats {w : World} {l : List Cod} {v : Value} (h : Rd w Any (.sl (l.map Cod.d)) [v]) : RR1 (St.flat w) (.sl (l.map Cod.av)) v := by
  have := qcz h
  rw [Cod.ds_av] at this
  exact this
end Go.Proofs.YtnkakofcejkhiaaDoor

/- Walk of layer 25: Verify. -/
namespace Go.Proofs.YtnkakofcejkhiaaDoor
open Go.RowKit Go.Lib
theorem vkind_g (t : Int) : Gives Tryd.prog 36 [.int t] (.bool (decide (t < 0) || decide (3 ≤ t))) := by
  refine qm Tryd.func36 Tryd.ntmps36 rfl rfl (by decide) rfl (by intro n; simp) fun σ n0 hcl hft => ?_
  repeat' (first | ((first | ((with_reducible refine qo (fun hg => ?_) (fun hg => ?_)) <;> (try simp only [hg]) <;> (try simp only [beq_iff_eq, beq_eq_false_iff_ne, ne_eq, decide_eq_true_eq, decide_eq_false_iff_not, bne_iff_ne, bne_eq_false_iff_eq] at hg) <;> (try (first | simp only [eq_false hg, if_true, if_false] | simp only [eq_true hg, if_true, if_false]))) | (with_reducible first | refine qd ?_ | refine qc ?_ | refine qi ?_ | refine qh ?_) | refine qf ?_ | refine qj ?_ | refine qk ?_ | refine qn ?_) <;> (try simp (disch := first | omega | simp) [ql, -qu, -qx])) | ((with_reducible first | refine sideG ?_ ?_ | refine qr ?_ ?_ | refine sideS ?_ ?_ | refine qs ?_ ?_ | refine qt ?_ ?_ | refine sideA ?_ ?_ | refine qp ?_ ?_ | refine qq ?_ ?_); first | omega | assumption | (simp; done)) | (refine qg fun K hK => ?_) | (refine qa ?_) | (refine qb true (by kernel_rfl) (by kernel_rfl) ?_) | (refine hK _ ?_; clear hK K) | (clear hK K; refine hK _ ?_; clear hK K) | (clear hK K; clear hK K; refine hK _ ?_; clear hK K) | refine qe ?_)
  all_goals simp_all
  all_goals omega
set_option maxHeartbeats 4000000 in
theorem verify_g (c : Cod) (cols : List Int) (hc : cols.length ≤ 1000000) : Gives Tryd.prog 11 [c.av, .sl (cols.map AV.int)] (.tup [.int (verP c cols).1, .int (verP c cols).2]) := by
  obtain ⟨R, hR⟩ : ∃ R, R = verP c cols := ⟨_, rfl⟩
  rw [← hR]
  unfold verP at hR
  obtain ⟨ins, types, out⟩ := c
  simp only at hR
  by_cases h1 : 1000 < ins.length ∨ 1000 < types.length
  · rw [if_pos h1] at hR
    refine qm Tryd.func11 Tryd.ntmps11 rfl rfl (by decide) rfl (by intro n; simp) fun σ n0 hcl hft => ?_
    repeat' (first | ((first | ((with_reducible refine qo (fun hg => ?_) (fun hg => ?_)) <;> (try simp only [hg]) <;> (try simp only [beq_iff_eq, beq_eq_false_iff_ne, ne_eq, decide_eq_true_eq, decide_eq_false_iff_not, bne_iff_ne, bne_eq_false_iff_eq] at hg) <;> (try (first | simp only [eq_false hg, if_true, if_false] | simp only [eq_true hg, if_true, if_false]))) | (with_reducible first | refine qd ?_ | refine qc ?_ | refine qi ?_ | refine qh ?_) | refine qf ?_ | refine qj ?_ | refine qk ?_ | refine qn ?_) <;> (try simp (disch := first | omega | simp) [ql, -qu, -qx])) | ((with_reducible first | refine sideG ?_ ?_ | refine qr ?_ ?_ | refine sideS ?_ ?_ | refine qs ?_ ?_ | refine qt ?_ ?_ | refine sideA ?_ ?_ | refine qp ?_ ?_ | refine qq ?_ ?_); first | omega | assumption | (simp; done)) | (refine qg fun K hK => ?_) | (refine qa ?_) | (refine qb true (by kernel_rfl) (by kernel_rfl) ?_) | (refine hK _ ?_; clear hK K) | (clear hK K; refine hK _ ?_; clear hK K) | (clear hK K; clear hK K; refine hK _ ?_; clear hK K) | refine qe ?_)
    all_goals (rw [hR]; first | (simp; done) | omega)
  rw [if_neg h1] at hR
  have h1a : ¬ (1000 : Int) < ins.length := by omega
  have h1b : ¬ (1000 : Int) < types.length := by omega
  have c1 := contI_n types (fun t => decide (t < 0) || decide (3 ≤ t)) 36 (by kernel_rfl) (fun t _ => vkind_g t) (by omega)
  cases hk : types.any (fun t => decide (t < 0) || decide (3 ≤ t))
  · rw [hk] at c1 hR
    rw [if_neg (by simp)] at hR
    obtain ⟨V, hV⟩ : ∃ V, V = verL cols types ins 0 (List.replicate types.length false) := ⟨_, rfl⟩
    rw [← hV] at hR
    try dsimp only at hR
    have hsz : 1 * types.length ≤ 281474976710656 := by omega
    refine qm Tryd.func11 Tryd.ntmps11 rfl rfl (by decide) rfl (by intro n; simp) fun σ n0 hcl hft => ?_
    repeat' (first | ((first | ((with_reducible refine qo (fun hg => ?_) (fun hg => ?_)) <;> (try simp only [hg]) <;> (try simp only [beq_iff_eq, beq_eq_false_iff_ne, ne_eq, decide_eq_true_eq, decide_eq_false_iff_not, bne_iff_ne, bne_eq_false_iff_eq] at hg) <;> (try (first | simp only [eq_false hg, if_true, if_false] | simp only [eq_true hg, if_true, if_false]))) | (with_reducible first | refine qd ?_ | refine qc ?_ | refine qi ?_ | refine qh ?_) | refine acall (c1) ?_ | refine qv (c1) ?_ | refine qf ?_ | refine qj ?_ | refine qk ?_ | refine qn ?_) <;> (try simp (disch := first | omega | simp) [ql, -qu, -qx, h1a, h1b, hsz])) | ((with_reducible first | refine sideG ?_ ?_ | refine qr ?_ ?_ | refine sideS ?_ ?_ | refine qs ?_ ?_ | refine qt ?_ ?_ | refine sideA ?_ ?_ | refine qp ?_ ?_ | refine qq ?_ ?_); first | omega | assumption | (simp; done)) | (refine qg fun K hK => ?_) | (refine qa ?_) | (refine qb true (by kernel_rfl) (by kernel_rfl) ?_) | (refine hK _ ?_; clear hK K) | (clear hK K; refine hK _ ?_; clear hK K) | (clear hK K; clear hK K; refine hK _ ?_; clear hK K) | refine qe ?_)
    refine qbb hcl (fun b : Nat × List Bool => [(1, .sl (cols.map AV.int)), (2, .ptr n0 0), (6, .own (n0 + 1) types.length), (28, .sl (ins.map Ins.av)), (29, .int ins.length), (30, .int b.1)])
      (fun b => [.cells [.sl (ins.map Ins.av), .sl (types.map AV.int), .int out] 25, .vec (b.2.map AV.bool) 4 1])
      (fun b => b.1 ≤ ins.length ∧ b.2.length = types.length ∧ V = verL cols types (ins.drop b.1) b.1 b.2) (fun b => ins.length - b.1) (0, List.replicate types.length false) ⟨by omega, by simp, hV⟩ (by simp) fun ⟨k, D⟩ ⟨hk1, hD, hVk⟩ => ?_
    simp only at hk1 hD hVk
    by_cases hlt : k < ins.length
    · have hdr : ins.drop k = ins[k] :: ins.drop (k + 1) := List.drop_eq_getElem_cons hlt
      rw [hdr, verL] at hVk
      have c2 : ∀ τ : Nat → AB, τ (n0 + 1) = .vec (D.map AV.bool) 4 1 → qbj Tryd.prog 37 [ins[k].av, .sl (cols.map AV.int), .sl (types.map AV.int), .own (n0 + 1) types.length] τ (.int (verI cols types D ins[k])) := fun τ h => by
        have := ver_g ins[k] cols types D hD (by omega) hc τ (n0 + 1) h
        rwa [hD] at this
      by_cases hv : verI cols types D ins[k] = 0
      · rw [if_pos hv] at hVk
        rw [hv] at c2
        have hok := verI_ok hv
        have t0 := hok.to0
        have t1 : ins[k].to < D.length := by rw [hD]; exact hok.to1
        repeat' (first | ((first | ((with_reducible refine qo (fun hg => ?_) (fun hg => ?_)) <;> (try simp only [hg]) <;> (try simp only [beq_iff_eq, beq_eq_false_iff_ne, ne_eq, decide_eq_true_eq, decide_eq_false_iff_not, bne_iff_ne, bne_eq_false_iff_eq] at hg) <;> (try (first | simp only [eq_false hg, if_true, if_false] | simp only [eq_true hg, if_true, if_false]))) | (with_reducible first | refine qd ?_ | refine qc ?_ | refine qi ?_ | refine qh ?_) | refine acall (c2 _ (by simp)) ?_ | refine qv (c2 _ (by simp)) ?_ | refine qw (c2 _ (by simp)) ?_ | refine qf ?_ | refine qj ?_ | refine qk ?_ | refine qn ?_) <;> (try simp (disch := first | omega | simp) [ql, -qu, -qx, hlt, hD, t0, t1])) | ((with_reducible first | refine sideG ?_ ?_ | refine qr ?_ ?_ | refine sideS ?_ ?_ | refine qs ?_ ?_ | refine qt ?_ ?_ | refine sideA ?_ ?_ | refine qp ?_ ?_ | refine qq ?_ ?_); first | omega | assumption | (simp; done)) | (refine qg fun K hK => ?_) | (refine qa ?_) | (refine qb true (by kernel_rfl) (by kernel_rfl) ?_) | (refine qb false (by kernel_rfl) (by kernel_rfl) ?_) | (refine hK _ ?_; clear hK K) | (clear hK K; refine hK _ ?_; clear hK K) | (clear hK K; clear hK K; refine hK _ ?_; clear hK K) | refine qe ?_)
        exact ⟨k + 1, D.set ins[k].to.toNat true, ⟨by omega, by rw [List.length_set]; exact hD, hVk⟩, by omega, by rw [List.map_set], by omega⟩
      · rw [if_neg hv] at hVk
        repeat' (first | ((first | ((with_reducible refine qo (fun hg => ?_) (fun hg => ?_)) <;> (try simp only [hg]) <;> (try simp only [beq_iff_eq, beq_eq_false_iff_ne, ne_eq, decide_eq_true_eq, decide_eq_false_iff_not, bne_iff_ne, bne_eq_false_iff_eq] at hg) <;> (try (first | simp only [eq_false hg, if_true, if_false] | simp only [eq_true hg, if_true, if_false]))) | (with_reducible first | refine qd ?_ | refine qc ?_ | refine qi ?_ | refine qh ?_) | refine acall (c2 _ (by simp)) ?_ | refine qv (c2 _ (by simp)) ?_ | refine qw (c2 _ (by simp)) ?_ | refine qf ?_ | refine qj ?_ | refine qk ?_ | refine qn ?_) <;> (try simp (disch := first | omega | simp) [ql, -qu, -qx, hlt, hD, hv])) | ((with_reducible first | refine sideG ?_ ?_ | refine qr ?_ ?_ | refine sideS ?_ ?_ | refine qs ?_ ?_ | refine qt ?_ ?_ | refine sideA ?_ ?_ | refine qp ?_ ?_ | refine qq ?_ ?_); first | omega | assumption | (simp; done)) | (refine qg fun K hK => ?_) | (refine qa ?_) | (refine qb true (by kernel_rfl) (by kernel_rfl) ?_) | (refine qb false (by kernel_rfl) (by kernel_rfl) ?_) | (refine hK _ ?_; clear hK K) | (clear hK K; refine hK _ ?_; clear hK K) | (clear hK K; clear hK K; refine hK _ ?_; clear hK K) | refine qe ?_)
        all_goals
          first
          | exact absurd (by assumption) hv
          | (rw [hR, hVk]; dsimp only; rw [if_pos hv]; exact ⟨rfl, rfl⟩)
    · have hVe : V = ((-1, 0), D) := by rw [hVk, List.drop_eq_nil_of_le (by omega)]; rfl
      rw [hVe] at hR
      dsimp only at hR
      rw [if_neg (by simp)] at hR
      have hD' : types.length = D.length := hD.symm
      by_cases ho : out < 0 ∨ (types.length : Int) ≤ out
      · rw [if_pos ho] at hR
        repeat' (first | ((first | ((with_reducible refine qo (fun hg => ?_) (fun hg => ?_)) <;> (try simp only [hg]) <;> (try simp only [beq_iff_eq, beq_eq_false_iff_ne, ne_eq, decide_eq_true_eq, decide_eq_false_iff_not, bne_iff_ne, bne_eq_false_iff_eq] at hg) <;> (try (first | simp only [eq_false hg, if_true, if_false] | simp only [eq_true hg, if_true, if_false]))) | (with_reducible first | refine qd ?_ | refine qc ?_ | refine qi ?_ | refine qh ?_) | refine qf ?_ | refine qj ?_ | refine qk ?_ | refine qn ?_) <;> (try simp (disch := first | omega | simp) [ql, -qu, -qx, hlt, hD'])) | ((with_reducible first | refine sideG ?_ ?_ | refine qr ?_ ?_ | refine sideS ?_ ?_ | refine qs ?_ ?_ | refine qt ?_ ?_ | refine sideA ?_ ?_ | refine qp ?_ ?_ | refine qq ?_ ?_); first | omega | assumption | (simp; done)) | (refine qg fun K hK => ?_) | (refine qa ?_) | (refine qb true (by kernel_rfl) (by kernel_rfl) ?_) | (refine hK _ ?_; clear hK K) | (clear hK K; refine hK _ ?_; clear hK K) | (clear hK K; clear hK K; refine hK _ ?_; clear hK K) | refine qe ?_)
        all_goals
          first
          | (rw [hR]; exact ⟨rfl, rfl⟩)
          | (exfalso; omega)
      · rw [if_neg ho] at hR
        have o0 : ¬ out < 0 := by omega
        have o0' : 0 ≤ out := by omega
        have o1 : ¬ (types.length : Int) ≤ out := by omega
        have o2 : out < types.length := by omega
        have o3 : out < D.length := by omega
        have hgd : D.getD out.toNat false = D[out.toNat]'(by omega) := by rw [List.getD_eq_getElem?_getD, List.getElem?_eq_getElem (by omega)]; rfl
        rw [hgd] at hR
        generalize hB : D[out.toNat]'(by omega) = B at hR
        cases B
        · repeat' (first | ((first | ((with_reducible refine qo (fun hg => ?_) (fun hg => ?_)) <;> (try simp only [hg]) <;> (try simp only [beq_iff_eq, beq_eq_false_iff_ne, ne_eq, decide_eq_true_eq, decide_eq_false_iff_not, bne_iff_ne, bne_eq_false_iff_eq] at hg) <;> (try (first | simp only [eq_false hg, if_true, if_false] | simp only [eq_true hg, if_true, if_false]))) | (with_reducible first | refine qd ?_ | refine qc ?_ | refine qi ?_ | refine qh ?_) | refine qf ?_ | refine qj ?_ | refine qk ?_ | refine qn ?_) <;> (try simp (disch := first | omega | simp) [ql, -qu, -qx, hlt, hD, o0, o0', o1, o2, o3, hB])) | ((with_reducible first | refine sideG ?_ ?_ | refine qr ?_ ?_ | refine sideS ?_ ?_ | refine qs ?_ ?_ | refine qt ?_ ?_ | refine sideA ?_ ?_ | refine qp ?_ ?_ | refine qq ?_ ?_); first | omega | assumption | (simp; done)) | (refine qg fun K hK => ?_) | (refine qa ?_) | (refine qb true (by kernel_rfl) (by kernel_rfl) ?_) | (refine qb false (by kernel_rfl) (by kernel_rfl) ?_) | (refine hK _ ?_; clear hK K) | (clear hK K; refine hK _ ?_; clear hK K) | (clear hK K; clear hK K; refine hK _ ?_; clear hK K) | refine qe ?_)
          rw [hR]; simp
        · repeat' (first | ((first | ((with_reducible refine qo (fun hg => ?_) (fun hg => ?_)) <;> (try simp only [hg]) <;> (try simp only [beq_iff_eq, beq_eq_false_iff_ne, ne_eq, decide_eq_true_eq, decide_eq_false_iff_not, bne_iff_ne, bne_eq_false_iff_eq] at hg) <;> (try (first | simp only [eq_false hg, if_true, if_false] | simp only [eq_true hg, if_true, if_false]))) | (with_reducible first | refine qd ?_ | refine qc ?_ | refine qi ?_ | refine qh ?_) | refine qf ?_ | refine qj ?_ | refine qk ?_ | refine qn ?_) <;> (try simp (disch := first | omega | simp) [ql, -qu, -qx, hlt, hD, o0, o0', o1, o2, o3, hB])) | ((with_reducible first | refine sideG ?_ ?_ | refine qr ?_ ?_ | refine sideS ?_ ?_ | refine qs ?_ ?_ | refine qt ?_ ?_ | refine sideA ?_ ?_ | refine qp ?_ ?_ | refine qq ?_ ?_); first | omega | assumption | (simp; done)) | (refine qg fun K hK => ?_) | (refine qa ?_) | (refine qb true (by kernel_rfl) (by kernel_rfl) ?_) | (refine qb false (by kernel_rfl) (by kernel_rfl) ?_) | (refine hK _ ?_; clear hK K) | (clear hK K; refine hK _ ?_; clear hK K) | (clear hK K; clear hK K; refine hK _ ?_; clear hK K) | refine qe ?_)
          rw [hR]; simp
  · rw [hk] at c1 hR
    rw [if_pos rfl] at hR
    refine qm Tryd.func11 Tryd.ntmps11 rfl rfl (by decide) rfl (by intro n; simp) fun σ n0 hcl hft => ?_
    repeat' (first | ((first | ((with_reducible refine qo (fun hg => ?_) (fun hg => ?_)) <;> (try simp only [hg]) <;> (try simp only [beq_iff_eq, beq_eq_false_iff_ne, ne_eq, decide_eq_true_eq, decide_eq_false_iff_not, bne_iff_ne, bne_eq_false_iff_eq] at hg) <;> (try (first | simp only [eq_false hg, if_true, if_false] | simp only [eq_true hg, if_true, if_false]))) | (with_reducible first | refine qd ?_ | refine qc ?_ | refine qi ?_ | refine qh ?_) | refine acall (c1) ?_ | refine qv (c1) ?_ | refine qf ?_ | refine qj ?_ | refine qk ?_ | refine qn ?_) <;> (try simp (disch := first | omega | simp) [ql, -qu, -qx, h1a, h1b])) | ((with_reducible first | refine sideG ?_ ?_ | refine qr ?_ ?_ | refine sideS ?_ ?_ | refine qs ?_ ?_ | refine qt ?_ ?_ | refine sideA ?_ ?_ | refine qp ?_ ?_ | refine qq ?_ ?_); first | omega | assumption | (simp; done)) | (refine qg fun K hK => ?_) | (refine qa ?_) | (refine qb true (by kernel_rfl) (by kernel_rfl) ?_) | (refine hK _ ?_; clear hK K) | (clear hK K; refine hK _ ?_; clear hK K) | (clear hK K; clear hK K; refine hK _ ?_; clear hK K) | refine qe ?_)
    all_goals (rw [hR]; first | (simp; done) | omega)
end Go.Proofs.YtnkakofcejkhiaaDoor

/- Regions that draw their order, and write own blocks alone: reads see the caller's blocks, and the own ones that stay. -/
namespace Go.Proofs.YtnkakofcejkhiaaDoor
open Go.RowKit Go.Lib
theorem wop_callB {P : Program} {s : AS} {f : FuncId} {d : Tmp} {caps : List AV} {args : List Operand} {tys : Array TypeId} {x : AV} {τ : Nat → AB} (hd : s.t d = .bm f caps) (hf : enters P f = true) (hn : ∀ y ∈ args, ∀ l, s.eval y ≠ .tup l) (h : AC P f (caps ++ (args.map s.eval).map AV.pub) s.st fun y τ' => y = x ∧ τ' = τ) :
    WOp P s.eval s.st (.call { callee := .value (.tmp d), args := args.toArray, argTypes := tys }) x τ := by
  intro X a oper ho hS _ hσ hev Q
  have hfn := hev (.tmp d) (by simp [Op.operands, Call.operands])
  change RR X (s.t d) _ at hfn
  rw [hd] at hfn
  change RC X (.bm f caps) [a.eval (.tmp d)] at hfn
  rw [RC] at hfn
  obtain ⟨vs, hv, hcaps⟩ := hfn
  have he : a.eval (.tmp d) = .func (.func f) vs.toArray #[] := by simpa using hv
  have hrun : (execOp a.eval oper).run P X.w = .ok (.enter f (vs ++ args.map a.eval).toArray) X.w := by
    simp [execOp, ho, resolve, he, Deferred.ofValue, invoke, qcb hf]
  have hargs := rrl_ev (a := a) args (fun y hy => hev y (by simp [Op.operands, Call.operands, hy])) hn
  unfold Oper.wp
  rw [hrun]
  refine (h X _ s.nx hS hσ s.fin (hcaps.rrl.append hargs.pub)).mono ?_
  rintro e w' ⟨Y, v, y, rfl, rfl, ⟨rfl, hσ'⟩, hS', hF, hR⟩
  exact ⟨v, Y, rfl, rfl, hS', hF, hR, hσ'⟩
theorem wop_of_fop {P : Program} {s : AS} {o : Op} {x : AV} {nb : Option AB} (h : FOp P s.eval s.st o x (nb.map (s.nx, ·))) : WOp P s.eval s.st o x (s.ext nb).st := by
  intro X a oper ho hS _ hσ hev Q
  refine Oper.wp_mono ?_ (h X a oper ho hS (fun r hr => .inl (by rw [hσ])) hev (fun r ab hr => ?_) Q)
  · rintro a' w' ⟨v, Y, e1, e2, e3, e4, e5, e6⟩
    refine ⟨v, Y, e1, e2, e3, e4, e5, ?_⟩
    rw [e6]
    cases nb with
    | none => exact hσ
    | some ab => rw [(ext_st s ab).1, hσ]; rfl
  · cases nb with
    | none => cases hr
    | some ab => cases hr; rw [hσ]; exact s.fin _ (Nat.le_refl _)
def aevW2 (P : Program) (s : AS) (o : Op) (K : AV → AS → Prop) : Prop :=
  match o with
  | .call { callee := .value (.tmp d), args := ⟨args⟩, argTypes := tys } => match s.t d with
    | .bm f bound => nts (args.map s.eval) = true ∧ enters P f = true ∧ ACall P f (bound ++ (args.map s.eval).map AV.pub) s K
    | _ => aevW P s (.call { callee := .value (.tmp d), args := ⟨args⟩, argTypes := tys }) K
  | .fieldAddr t p f => aevF P s (.fieldAddr t p f) (fun x nb => K x (s.ext nb))
  | .indexAddr t p f => aevF P s (.indexAddr t p f) (fun x nb => K x (s.ext nb))
  | .load t p => aevF P s (.load t p) (fun x nb => K x (s.ext nb))
  | .nilCheck p => aevF P s (.nilCheck p) (fun x nb => K x (s.ext nb))
  | .move p => aevF P s (.move p) (fun x nb => K x (s.ext nb))
  | o => aevW P s o K
theorem aevW2_sound {P : Program} {s : AS} {o : Op} {K : AV → AS → Prop} (h : aevW2 P s o K) : ∃ x s1, WOp P s.eval s.st o x s1.st ∧ (s1.t = s.t ∧ s1.n = s.n ∧ s1.n0 = s.n0) ∧ K x s1 := by
  have hf : ∀ o, aevF P s o (fun x nb => K x (s.ext nb)) → ∃ x s1, WOp P s.eval s.st o x s1.st ∧ (s1.t = s.t ∧ s1.n = s.n ∧ s1.n0 = s.n0) ∧ K x s1 := fun o h => by
    obtain ⟨x, nb, h1, h2⟩ := qcl h
    exact ⟨x, s.ext nb, wop_of_fop h1, by cases nb <;> exact ⟨rfl, rfl, rfl⟩, h2⟩
  unfold aevW2 at h
  split at h
  · split at h
    · obtain ⟨h1, h2, x, s1, h3, h4, h5⟩ := h
      exact ⟨x, s1, wop_callB ‹_› h2 (qck h1) h3, h4, h5⟩
    · exact aevW_sound h
  · exact hf _ h
  · exact hf _ h
  · exact hf _ h
  · exact hf _ h
  · exact hf _ h
  · exact aevW_sound h
def AS.seen (m : List AB) (s : AS) : AS := { s with L := m }
def anyE (P : Program) (ops : Array Oper) (m : List AB) (K : AS → Prop) : List Oper → List RK → AS → Prop
  | [], _, s => K s
  | o :: l, ks, s => match awant ops o s.t with
    | some b => qbi b (match ks.headD .R with
      | .R => aevF P (s.seen m) o.op (fun x nb => nb = none ∧ dstOk o.dst s.n ∧ anyE P ops m K l ks.tail (s.put o.dst x))
      | .M => aevM P s o.op (fun x nb => dstOk o.dst s.n ∧ anyE P ops m K l ks.tail ((s.ext nb).put o.dst x))
      | .W => aevW2 P s o.op (fun x s1 => dstOk o.dst s.n ∧ qci m s1.L ∧ s1.σ = s.σ ∧ anyE P ops m K l ks.tail (s1.put o.dst x))
      | _ => False) (dstOk o.dst s.n ∧ anyE P ops m K l ks.tail (s.put o.dst (.v undef)))
    | none => False
theorem kept_e {m : List AB} {s : AS} {σ0 : Nat → AB} {n0 : Nat} (hσ : s.σ = σ0) (hn : s.n0 = n0) (h : qci m s.L) : ∀ r, loc σ0 n0 m r ≠ .unborn → s.st r = loc σ0 n0 m r := fun r hr => by
  by_cases hlt : r < n0
  · show loc s.σ s.n0 s.L r = _
    unfold loc
    rw [hn, if_pos hlt, if_pos hlt, hσ]
  · have e : loc σ0 n0 m r = loc (fun _ => .unborn) n0 m r := by unfold loc; rw [if_neg hlt, if_neg hlt]
    rw [e] at hr ⊢
    exact kept_of hn h r hr
theorem ext_keeps {m : List AB} {s : AS} {σ0 : Nat → AB} {n0 : Nat} (hke : ∀ r, loc σ0 n0 m r ≠ .unborn → s.st r = loc σ0 n0 m r) (nb : Option AB) : ∀ r, loc σ0 n0 m r ≠ .unborn → (s.ext nb).st r = loc σ0 n0 m r := fun r hr => by
  cases nb with
  | none => exact hke r hr
  | some ab =>
    have h0 := hke r hr
    have hlt : r < s.nx := Nat.lt_of_not_le fun hle => hr (h0.symm.trans (s.fin r hle))
    rw [(ext_st s ab).1]; unfold upd; rw [if_neg (by omega)]; exact h0
section
variable {P : Program}
theorem anyE_steps {ops : Array Oper} {m : List AB} {σ0 : Nat → AB} {n0 : Nat} {K : AS → Prop} : ∀ (l : List Oper) (ks : List RK) (s : AS), s.n0 = n0 → s.σ = σ0 → (∀ r, loc σ0 n0 m r ≠ .unborn → s.st r = loc σ0 n0 m r) → anyE P ops m K l ks s →
    ∃ st s1 xs bs nbs, AnyRaw P ops l ks st s1 xs bs nbs (loc σ0 n0 m) n0 ∧ st 0 = s ∧ K (st l.length)
  | [], ks, s, hn0, hs0, hke, h => by
    refine ⟨fun _ => s, fun _ => s, fun _ => .any, fun _ => true, fun _ => none, ⟨fun r hr j _ => hke r hr, fun _ _ hi => absurd hi (Nat.not_lt_zero _), ?_, ?_, ?_, ?_, ?_, ?_, ?_, ?_, ?_⟩, rfl, h⟩ <;> (intro i o ho; simp at ho)
  | o :: l, ks, s, hn0, hs0, hke, h => by
    have key : ∀ (x : AV) (b : Bool) (nb : Option AB) (s1 : AS), awant ops o s.t = some b → dstOk o.dst s.n → (s1.t = s.t ∧ s1.n = s.n ∧ s1.n0 = s.n0) → s1.σ = s.σ → (b = true → ks.headD .R ≠ .N ∧ ks.headD .R ≠ .A) → (b = false → x = .v undef ∧ s1 = s ∧ nb = none) →
        (b = true → ks.headD .R = .R → FOp2 P s.eval (loc σ0 n0 m) o.op x none ∧ s1 = s ∧ nb = none) → (b = true → ks.headD .R = .M → FOp2 P s.eval s.st o.op x (nb.map (s.nx, ·)) ∧ s1 = s.ext nb) →
        (b = true → ks.headD .R = .W → WOp P s.eval s.st o.op x s1.st ∧ nb = none) → (∀ r, loc σ0 n0 m r ≠ .unborn → s1.st r = loc σ0 n0 m r) → anyE P ops m K l ks.tail (s1.put o.dst x) →
        ∃ st s1 xs bs nbs, AnyRaw P ops (o :: l) ks st s1 xs bs nbs (loc σ0 n0 m) n0 ∧ st 0 = s ∧ K (st (o :: l).length) := by
      intro x b nb s1 hw hd hsame hss hNA hskip hR hM hW hke1 hrest
      have hput : (s1.put o.dst x).σ = s1.σ := by cases o.dst <;> rfl
      obtain ⟨st, s1', xs, bs, nbs, hs, h0, hK⟩ := anyE_steps (n0 := n0) (σ0 := σ0) l ks.tail _ (by rw [(put_st s1 o.dst x).2.2.2, hsame.2.2]; exact hn0) (by rw [hput, hss]; exact hs0) (fun r hr => by rw [(put_st s1 o.dst x).1]; exact hke1 r hr) hrest
      have hks : ∀ i, ks.getD (i + 1) .R = ks.tail.getD i .R := fun i => by cases ks <;> simp
      have hk0 : ks.getD 0 .R = ks.headD .R := by cases ks <;> simp
      refine ⟨fun i => match i with | 0 => s | i + 1 => st i, fun i => match i with | 0 => s1 | i + 1 => s1' i, fun i => match i with | 0 => x | i + 1 => xs i, fun i => match i with | 0 => b | i + 1 => bs i, fun i => match i with | 0 => nb | i + 1 => nbs i, ⟨fun r hr j hj => (match j with | 0 => hke r hr | j + 1 => hs.kept r hr j (by simpa using hj)), fun hq => absurd hq (by show ¬ n0 < s.n0; omega), ?_, ?_, ?_, ?_, ?_, ?_, ?_, ?_, ?_⟩, rfl, hK⟩
      all_goals (intro i o' ho; cases i)
      · simp at ho; subst ho; exact hw
      · exact hs.want _ o' (by simpa using ho)
      · simp at ho; subst ho; exact hd
      · exact hs.dst _ o' (by simpa using ho)
      · simp at ho; subst ho; exact h0
      · exact hs.next _ o' (by simpa using ho)
      · simp at ho; subst ho; exact hsame
      · exact hs.same _ o' (by simpa using ho)
      · simp at ho; subst ho; exact hskip
      · exact hs.skip _ o' (by simpa using ho)
      · simp at ho; subst ho; rw [hk0]; exact hR
      · rw [hks]; exact hs.opR _ o' (by simpa using ho)
      · simp at ho; subst ho; rw [hk0]; exact fun hb hk => absurd hk (hNA hb).1
      · rw [hks]; exact hs.opN _ o' (by simpa using ho)
      · simp at ho; subst ho; rw [hk0]; exact hM
      · rw [hks]; exact hs.opM _ o' (by simpa using ho)
      · simp at ho; subst ho; rw [hk0]
        intro hb hk
        refine hW hb ?_
        cases hk2 : ks.headD .R with
        | W => rfl
        | A => exact absurd hk2 (hNA hb).2
        | R => rw [hk2] at hk; cases hk
        | M => rw [hk2] at hk; cases hk
        | N => rw [hk2] at hk; cases hk
      · rw [hks]; exact hs.opW _ o' (by simpa using ho)
    rw [anyE] at h
    split at h
    · rename_i bb hw
      cases bb with
      | true =>
        replace h := h.1 rfl
        split at h
        · rename_i hk
          obtain ⟨x, nb, h1, rfl, h2, h3⟩ := qcl h
          have e : (s.seen m).st = loc σ0 n0 m := by show loc s.σ s.n0 m = _; rw [hs0, hn0]
          rw [e] at h1
          exact key x true none s hw h2 ⟨rfl, rfl, rfl⟩ rfl (fun _ => ⟨by rw [hk]; simp, by rw [hk]; simp⟩) (fun e => by cases e) (fun _ _ => ⟨h1.two, rfl, rfl⟩) (fun _ e => by rw [hk] at e; cases e) (fun _ e => by rw [hk] at e; cases e) hke h3
        · rename_i hk
          obtain ⟨x, nb, h1, h2, h3⟩ := aevM_sound h
          exact key x true nb (s.ext nb) hw h2 (by cases nb <;> exact ⟨rfl, rfl, rfl⟩) (by cases nb <;> rfl) (fun _ => ⟨by rw [hk]; simp, by rw [hk]; simp⟩) (fun e => by cases e) (fun _ e => by rw [hk] at e; cases e) (fun _ _ => ⟨h1, rfl⟩) (fun _ e => by rw [hk] at e; cases e) (ext_keeps hke nb) h3
        · rename_i hk
          obtain ⟨x, s1, h1, h2, h3, h5, h6, h4⟩ := aevW2_sound h
          exact key x true none s1 hw h3 h2 h6 (fun _ => ⟨by rw [hk]; simp, by rw [hk]; simp⟩) (fun e => by cases e) (fun _ e => by rw [hk] at e; cases e) (fun _ e => by rw [hk] at e; cases e) (fun _ _ => ⟨h1, rfl⟩) (kept_e (h6.trans hs0) (h2.2.2.trans hn0) h5) h4
        · exact h.elim
      | false =>
        replace h := h.2 rfl
        exact key (.v undef) false none s hw h.1 ⟨rfl, rfl, rfl⟩ rfl (fun e => by cases e) (fun _ => ⟨rfl, rfl, rfl⟩) (fun e => by cases e) (fun e => by cases e) (fun e => by cases e) hke h.2
    · exact h.elim
theorem awp_anyE {s : AS} {id : Nat} {l : List Oper} {Q : Exit → AS → Prop} (m : List AB) (ks : List RK) (hm : P.follows .mixedOrders = true) (hB : anyB l ks = true) (h0 : qci m s.L) (h : anyE P l.toArray m (Q .normal) l ks s) : awp P (.region id l.toArray true) Q s := by
  obtain ⟨st, s1, xs, bs, nbs, hs, rfl, hK⟩ := anyE_steps l ks s rfl rfl (kept_e rfl rfl h0) h
  exact awp_any hm (anyB_ok hB) (raw_steps hB hs) hK
end
theorem anyE_step {P : Program} {ops : Array Oper} {m : List AB} {K : AS → Prop} {o : Oper} {l : List Oper} {ks : List RK} {s : AS} (h : match awant ops o s.t with
    | some b => qbi b (match ks.headD .R with
      | .R => aevF P (s.seen m) o.op (fun x nb => nb = none ∧ dstOk o.dst s.n ∧ anyE P ops m K l ks.tail (s.put o.dst x))
      | .M => aevM P s o.op (fun x nb => dstOk o.dst s.n ∧ anyE P ops m K l ks.tail ((s.ext nb).put o.dst x))
      | .W => aevW2 P s o.op (fun x s1 => dstOk o.dst s.n ∧ qci m s1.L ∧ s1.σ = s.σ ∧ anyE P ops m K l ks.tail (s1.put o.dst x))
      | _ => False) (dstOk o.dst s.n ∧ anyE P ops m K l ks.tail (s.put o.dst (.v undef)))
    | none => False) : anyE P ops m K (o :: l) ks s := h
theorem anyE_end {P : Program} {ops : Array Oper} {m : List AB} {K : AS → Prop} {ks : List RK} {s : AS} (h : K s) : anyE P ops m K [] ks s := h
attribute [simp] aevW2
@[simp] theorem seen_mk (m : List AB) (n : Nat) (t : Nat → AV) (σ : Nat → AB) (n0 : Nat) (L : List AB) : (AS.mk n t σ n0 L).seen m = ⟨n, t, σ, n0, m⟩ := rfl
end Go.Proofs.YtnkakofcejkhiaaDoor

/- Walks of layer 27: the machine, and Run. -/
namespace Go.Proofs.YtnkakofcejkhiaaDoor
open Go.RowKit Go.Lib
structure Mach (σ : Nat → AB) (m v : Nat) (L : List Delta) (regs : List AV) : Prop where
  hm : σ m = .cells [.sl (L.map Delta.av), .own v regs.length] 115
  hv : σ v = .vec regs 33 1
theorem Mach.upto {σ τ : Nat → AB} {m v : Nat} {L : List Delta} {regs : List AV} (h : Mach σ m v L regs) (hu : Upto σ τ) : Mach τ m v L regs := ⟨hu.at h.hm (by simp), hu.at h.hv (by simp)⟩
theorem Upto.trans {σ τ υ : Nat → AB} (h : Upto σ τ) (h2 : Upto τ υ) : Upto σ υ := fun r hr => by
  rw [h2 r (by rw [h r hr]; exact hr), h r hr]
theorem fin_un {σ : Nat → AB} {n0 r : Nat} (hfin : Fin σ n0) (h : σ r ≠ .unborn) : r < n0 := Nat.lt_of_not_le fun hn => h (hfin r hn)
def Caps (σ : Nat → AB) (caps : List AV) : Prop := ∀ n0, Fin σ n0 → AV.cls n0 caps
set_option maxHeartbeats 4000000 in
theorem column_g {σ : Nat → AB} {m v f : Nat} {L : List Delta} {regs : List AV} (hM : Mach σ m v L regs) (hf : enters Tryd.prog f = true) (caps : List AV) (hcap : Caps σ caps) (hL : L.length ≤ 1000000) (G : Delta → Val)
    (h : ∀ τ, Upto σ τ → ∀ i (h : i < L.length), qbj Tryd.prog f (.int i :: caps) τ (G L[i]).av) : qbj Tryd.prog 111 [.ptr m 0, .fn f caps] σ (.sl (L.map fun d => (G d).av)) := by
  have hsz : 32 * L.length ≤ 281474976710656 := by omega
  refine qy Tryd.func111 Tryd.ntmps111 rfl rfl (by decide) rfl (by intro n; simp) fun n0 hfin hcl hft => ?_
  have hl1 := qbz hfin hM.hm (by simp)
  have hmn := qco hfin hM.hm (by simp)
  have hvn := qco hfin hM.hv (by simp)
  have hcc := hcap n0 hfin
  repeat' (first | ((first | ((with_reducible refine qo (fun hg => ?_) (fun hg => ?_)) <;> (try simp only [hg]) <;> (try simp only [beq_iff_eq, beq_eq_false_iff_ne, ne_eq, decide_eq_true_eq, decide_eq_false_iff_not, bne_iff_ne, bne_eq_false_iff_eq] at hg) <;> (try (first | simp only [eq_false hg, if_true, if_false] | simp only [eq_true hg, if_true, if_false]))) | (with_reducible first | refine qd ?_ | refine qc ?_ | refine qi ?_ | refine qh ?_) | refine qf ?_ | refine qj ?_ | refine qk ?_ | refine qn ?_) <;> (try simp (disch := first | omega | simp) [ql, -qu, -qx, hl1, hsz, hmn, hvn, hcc])) | ((with_reducible first | refine sideG ?_ ?_ | refine qr ?_ ?_ | refine sideS ?_ ?_ | refine qs ?_ ?_ | refine qt ?_ ?_ | refine sideA ?_ ?_ | refine qp ?_ ?_ | refine qq ?_ ?_); first | omega | assumption | (simp; done)) | (refine qg fun K hK => ?_) | (refine qa ?_) | (refine qb true (by kernel_rfl) (by kernel_rfl) ?_) | (refine qb false (by kernel_rfl) (by kernel_rfl) ?_) | (refine hK _ ?_; clear hK K) | (clear hK K; refine hK _ ?_; clear hK K) | (clear hK K; clear hK K; refine hK _ ?_; clear hK K) | refine qe ?_)
  refine qbb hcl (fun k : Nat => [(1, .fn f caps), (5, .own n0 L.length), (17, .int L.length), (18, .int k)]) (fun k => [.vec (fillV (fun d => (G d).av) zeroV.av L k) 39 3])
    (fun k => k ≤ L.length) (fun k => L.length - k) 0 (by simp) (by simp [fillV_zero, zeroV, Val.av, -Val.av_fold]; exact AV.cls_mono (by omega) _ hcc) fun k hk => ?_
  by_cases hlt : k < L.length
  · have c1 := h _ (upto_loc hfin [.vec (fillV (fun d => (G d).av) zeroV.av L k) 39 3]) k hlt
    have hfl : (fillV (fun d => (G d).av) zeroV.av L k).length = L.length := fillV_len (by omega)
    have hge : (fillV (fun d => (G d).av) zeroV.av L k)[k]'(by rw [hfl]; exact hlt) = .agg [.int 0, .int 0, .str ByteArray.empty] := by
      have := fillV_get (f := fun d => (G d).av) (z := zeroV.av) hlt
      rw [List.getElem?_eq_getElem (by rw [hfl]; exact hlt)] at this
      injection this with this
    have hst := fillV_set (f := fun d => (G d).av) (z := zeroV.av) hlt
    have hcc1 : AV.cls (n0 + 1) caps := AV.cls_mono (by omega) _ hcc
    repeat' (first | ((first | ((with_reducible refine qo (fun hg => ?_) (fun hg => ?_)) <;> (try simp only [hg]) <;> (try simp only [beq_iff_eq, beq_eq_false_iff_ne, ne_eq, decide_eq_true_eq, decide_eq_false_iff_not, bne_iff_ne, bne_eq_false_iff_eq] at hg) <;> (try (first | simp only [eq_false hg, if_true, if_false] | simp only [eq_true hg, if_true, if_false]))) | (with_reducible first | refine qd ?_ | refine qc ?_ | refine qi ?_ | refine qh ?_) | refine acall (c1) ?_ | refine qv (c1) ?_ | refine qw (c1) ?_ | refine qf ?_ | refine qj ?_ | refine qk ?_ | refine qn ?_) <;> (try simp (disch := first | omega | simp) [ql, -qu, -qx, hlt, hcc, hcc1, hf, hfl, hge])) | ((with_reducible first | refine sideG ?_ ?_ | refine qr ?_ ?_ | refine sideS ?_ ?_ | refine qs ?_ ?_ | refine qt ?_ ?_ | refine sideA ?_ ?_ | refine qp ?_ ?_ | refine qq ?_ ?_); first | omega | assumption | (simp; done)) | (refine qg fun K hK => ?_) | (refine qa ?_) | (refine qb true (by kernel_rfl) (by kernel_rfl) ?_) | (refine qb false (by kernel_rfl) (by kernel_rfl) ?_) | (refine hK _ ?_; clear hK K) | (clear hK K; refine hK _ ?_; clear hK K) | (clear hK K; clear hK K; refine hK _ ?_; clear hK K) | refine qe ?_)
    exact ⟨k + 1, by omega, by omega, hst, fillV_cls (fun x => (G x).av_cl _) (Val.av_cl _ _), by omega⟩
  · obtain rfl : k = L.length := by omega
    rw [fillV_all]
    refine awp_freezeR 5 0 (k := L.length) (by simp) (by rfl) (by simp) ?_
    repeat' (first | ((first | ((with_reducible refine qo (fun hg => ?_) (fun hg => ?_)) <;> (try simp only [hg]) <;> (try simp only [beq_iff_eq, beq_eq_false_iff_ne, ne_eq, decide_eq_true_eq, decide_eq_false_iff_not, bne_iff_ne, bne_eq_false_iff_eq] at hg) <;> (try (first | simp only [eq_false hg, if_true, if_false] | simp only [eq_true hg, if_true, if_false]))) | (with_reducible first | refine qd ?_ | refine qc ?_ | refine qi ?_ | refine qh ?_) | refine qf ?_ | refine qj ?_ | refine qk ?_ | refine qn ?_) <;> (try simp (disch := first | omega | simp) [ql, -qu, -qx, hlt])) | ((with_reducible first | refine sideG ?_ ?_ | refine qr ?_ ?_ | refine sideS ?_ ?_ | refine qs ?_ ?_ | refine qt ?_ ?_ | refine sideA ?_ ?_ | refine qp ?_ ?_ | refine qq ?_ ?_); first | omega | assumption | (simp; done)) | (refine qg fun K hK => ?_) | (refine qa ?_) | (refine qb true (by kernel_rfl) (by kernel_rfl) ?_) | (refine qb false (by kernel_rfl) (by kernel_rfl) ?_) | (refine hK _ ?_; clear hK K) | (clear hK K; refine hK _ ?_; clear hK K) | (clear hK K; clear hK K; refine hK _ ?_; clear hK K) | refine qe ?_)
theorem caps_of {σ : Nat → AB} {l : List Nat} (h : ∀ r ∈ l, σ r ≠ .unborn) : Caps σ (l.map fun r => AV.ptr r 0) := fun n0 hfin => AV.cls_iff.2 fun x hx => by
  obtain ⟨r, hr, rfl⟩ := List.mem_map.1 hx
  have := fin_un hfin (h r hr)
  simpa using this
section
variable {σ : Nat → AB} {m v : Nat} {L : List Delta} {regs : List AV} {x : Ins}
set_option maxHeartbeats 4000000 in
theorem source_g (hM : Mach σ m v L regs) (hL : L.length ≤ 1000000) (hop : x.op = 0 ∨ x.op = 1 ∨ x.op = 2 ∨ x.op = 3 ∨ x.op = 5) (hc : x.op = 3 → ∀ d ∈ L, 0 ≤ x.n ∧ x.n < d.row.length) :
    qbj Tryd.prog 66 [.ptr m 0, x.av] σ (.sl (L.map fun d => (opI d.time d.row x []).av)) := by
  refine qy Tryd.func66 Tryd.ntmps66 rfl rfl (by decide) rfl (by intro n; simp) fun n0 hfin hcl hft => ?_
  have hmn := qco hfin hM.hm (by simp)
  have hvn := qco hfin hM.hv (by simp)
  have hu := upto_loc hfin [.cells [.ptr m 0] 112, .cells [.int x.op, .int x.to, .int x.a, .int x.b, .int x.c, .int x.n, .str x.s] 68]
  have hM2 := hM.upto hu
  have c1 := column_g hM2 (f := 112) (by kernel_rfl) _ (caps_of (l := [n0 + 1, n0]) (by simp)) hL (fun d => opI d.time d.row x []) fun τ ht i hi =>
    source1_g (ht.at (r := n0 + 1) (by simp) (by simp)) (ht.at (r := n0) (by simp) (by simp)) (hM2.upto ht).hm hi hop fun h3 => hc h3 _ (List.getElem_mem _)
  repeat' (first | ((first | ((with_reducible refine qo (fun hg => ?_) (fun hg => ?_)) <;> (try simp only [hg]) <;> (try simp only [beq_iff_eq, beq_eq_false_iff_ne, ne_eq, decide_eq_true_eq, decide_eq_false_iff_not, bne_iff_ne, bne_eq_false_iff_eq] at hg) <;> (try (first | simp only [eq_false hg, if_true, if_false] | simp only [eq_true hg, if_true, if_false]))) | (with_reducible first | refine qd ?_ | refine qc ?_ | refine qi ?_ | refine qh ?_) | refine acall (c1) ?_ | refine qv (c1) ?_ | refine qw (c1) ?_ | refine qf ?_ | refine qj ?_ | refine qk ?_ | refine qn ?_) <;> (try simp (disch := first | omega | simp) [ql, -qu, -qx, hmn, hvn])) | ((with_reducible first | refine sideG ?_ ?_ | refine qr ?_ ?_ | refine sideS ?_ ?_ | refine qs ?_ ?_ | refine qt ?_ ?_ | refine sideA ?_ ?_ | refine qp ?_ ?_ | refine qq ?_ ?_); first | omega | assumption | (simp; done)) | (refine qg fun K hK => ?_) | (refine qa ?_) | (refine qb true (by kernel_rfl) (by kernel_rfl) ?_) | (refine qb false (by kernel_rfl) (by kernel_rfl) ?_) | (refine hK _ ?_; clear hK K) | (clear hK K; refine hK _ ?_; clear hK K) | (clear hK K; clear hK K; refine hK _ ?_; clear hK K) | refine qe ?_)
set_option maxHeartbeats 4000000 in
theorem one_g (hM : Mach σ m v L regs) (hL : L.length ≤ 1000000) (hop : x.op = 6 ∨ x.op = 7 ∨ x.op = 20) {gA : Delta → Val} (zA : 0 ≤ x.a) (hA : regs[x.a.toNat]? = some (.sl ((L.map gA).map Val.av))) :
    qbj Tryd.prog 67 [.ptr m 0, x.av] σ (.sl (L.map fun d => (opI d.time d.row x [gA d]).av)) := by
  obtain ⟨A, eA⟩ : ∃ A, A = L.map gA := ⟨_, rfl⟩
  rw [← eA] at hA
  have lA : A.length = L.length := by rw [eA, List.length_map]
  have iA : ∀ i (h : i < L.length), A[i]'(by omega) = gA L[i] := fun i h => by subst eA; rw [List.getElem_map]
  have qA : x.a < regs.length := by have := (List.getElem?_eq_some_iff.1 hA).1; omega
  have rA : regs[x.a.toNat]'(by omega) = .sl (A.map Val.av) := (List.getElem?_eq_some_iff.1 hA).2
  refine qy Tryd.func67 Tryd.ntmps67 rfl rfl (by decide) rfl (by intro n; simp) fun n0 hfin hcl hft => ?_
  have hmn := qco hfin hM.hm (by simp)
  have hvn := qco hfin hM.hv (by simp)
  have hl1 := qbz hfin hM.hm (by simp)
  have hl2 := qbz hfin hM.hv (by simp)
  have hu := upto_loc hfin [.cells [.int x.op, .int x.to, .int x.a, .int x.b, .int x.c, .int x.n, .str x.s] 68, .cells [.sl (A.map Val.av)] 33]
  have hM2 := hM.upto hu
  have c1 := column_g hM2 (f := 113) (by kernel_rfl) _ (caps_of (l := [n0, n0 + 1]) (by simp)) hL (fun d => opI d.time d.row x [gA d]) fun τ ht i hi => by
    have := one1_g (A := A) (ht.at (r := n0) (by simp) (by simp)) (ht.at (r := n0 + 1) (by simp) (by simp)) (i := i) (by omega) hop L[i].time L[i].row
    rw [iA i hi] at this
    exact this
  repeat' (first | ((first | ((with_reducible refine qo (fun hg => ?_) (fun hg => ?_)) <;> (try simp only [hg]) <;> (try simp only [beq_iff_eq, beq_eq_false_iff_ne, ne_eq, decide_eq_true_eq, decide_eq_false_iff_not, bne_iff_ne, bne_eq_false_iff_eq] at hg) <;> (try (first | simp only [eq_false hg, if_true, if_false] | simp only [eq_true hg, if_true, if_false]))) | (with_reducible first | refine qd ?_ | refine qc ?_ | refine qi ?_ | refine qh ?_) | refine acall (c1) ?_ | refine qv (c1) ?_ | refine qw (c1) ?_ | refine qf ?_ | refine qj ?_ | refine qk ?_ | refine qn ?_) <;> (try simp (disch := first | omega | simp) [ql, -qu, -qx, hl1, hl2, hmn, hvn, zA, qA, rA])) | ((with_reducible first | refine sideG ?_ ?_ | refine qr ?_ ?_ | refine sideS ?_ ?_ | refine qs ?_ ?_ | refine qt ?_ ?_ | refine sideA ?_ ?_ | refine qp ?_ ?_ | refine qq ?_ ?_); first | omega | assumption | (simp; done)) | (refine qg fun K hK => ?_) | (refine qa ?_) | (refine qb true (by kernel_rfl) (by kernel_rfl) ?_) | (refine qb false (by kernel_rfl) (by kernel_rfl) ?_) | (refine hK _ ?_; clear hK K) | (clear hK K; refine hK _ ?_; clear hK K) | (clear hK K; clear hK K; refine hK _ ?_; clear hK K) | refine qe ?_)
set_option maxHeartbeats 4000000 in
theorem two_g (hM : Mach σ m v L regs) (hL : L.length ≤ 1000000) (hop : 8 ≤ x.op ∧ x.op ≤ 19) {gA : Delta → Val} (zA : 0 ≤ x.a) (hA : regs[x.a.toNat]? = some (.sl ((L.map gA).map Val.av))) {gB : Delta → Val} (zB : 0 ≤ x.b) (hB : regs[x.b.toNat]? = some (.sl ((L.map gB).map Val.av))) (hs : ∀ d ∈ L, (gA d).s.size + (gB d).s.size ≤ 1000) :
    qbj Tryd.prog 68 [.ptr m 0, x.av] σ (.sl (L.map fun d => (opI d.time d.row x [gA d, gB d]).av)) := by
  obtain ⟨A, eA⟩ : ∃ A, A = L.map gA := ⟨_, rfl⟩
  rw [← eA] at hA
  have lA : A.length = L.length := by rw [eA, List.length_map]
  have iA : ∀ i (h : i < L.length), A[i]'(by omega) = gA L[i] := fun i h => by subst eA; rw [List.getElem_map]
  have qA : x.a < regs.length := by have := (List.getElem?_eq_some_iff.1 hA).1; omega
  have rA : regs[x.a.toNat]'(by omega) = .sl (A.map Val.av) := (List.getElem?_eq_some_iff.1 hA).2
  obtain ⟨B, eB⟩ : ∃ B, B = L.map gB := ⟨_, rfl⟩
  rw [← eB] at hB
  have lB : B.length = L.length := by rw [eB, List.length_map]
  have iB : ∀ i (h : i < L.length), B[i]'(by omega) = gB L[i] := fun i h => by subst eB; rw [List.getElem_map]
  have qB : x.b < regs.length := by have := (List.getElem?_eq_some_iff.1 hB).1; omega
  have rB : regs[x.b.toNat]'(by omega) = .sl (B.map Val.av) := (List.getElem?_eq_some_iff.1 hB).2
  refine qy Tryd.func68 Tryd.ntmps68 rfl rfl (by decide) rfl (by intro n; simp) fun n0 hfin hcl hft => ?_
  have hmn := qco hfin hM.hm (by simp)
  have hvn := qco hfin hM.hv (by simp)
  have hl1 := qbz hfin hM.hm (by simp)
  have hl2 := qbz hfin hM.hv (by simp)
  have hu := upto_loc hfin [.cells [.int x.op, .int x.to, .int x.a, .int x.b, .int x.c, .int x.n, .str x.s] 68, .cells [.sl (A.map Val.av)] 33, .cells [.sl (B.map Val.av)] 33]
  have hM2 := hM.upto hu
  have c1 := column_g hM2 (f := 114) (by kernel_rfl) _ (caps_of (l := [n0, n0 + 1, n0 + 2]) (by simp)) hL (fun d => opI d.time d.row x [gA d, gB d]) fun τ ht i hi => by
    have := two1_g (A := A) (B := B) (ht.at (r := n0) (by simp) (by simp)) (ht.at (r := n0 + 1) (by simp) (by simp)) (ht.at (r := n0 + 2) (by simp) (by simp)) (i := i) (by omega) (by omega) hop (by rw [iA i hi, iB i hi]; exact hs _ (List.getElem_mem _)) L[i].time L[i].row
    rw [iA i hi, iB i hi] at this
    exact this
  repeat' (first | ((first | ((with_reducible refine qo (fun hg => ?_) (fun hg => ?_)) <;> (try simp only [hg]) <;> (try simp only [beq_iff_eq, beq_eq_false_iff_ne, ne_eq, decide_eq_true_eq, decide_eq_false_iff_not, bne_iff_ne, bne_eq_false_iff_eq] at hg) <;> (try (first | simp only [eq_false hg, if_true, if_false] | simp only [eq_true hg, if_true, if_false]))) | (with_reducible first | refine qd ?_ | refine qc ?_ | refine qi ?_ | refine qh ?_ | refine anyE_step ?_ | refine anyE_end ?_) | refine acall (c1) ?_ | refine qv (c1) ?_ | refine qw (c1) ?_ | refine qf ?_ | refine qj ?_ | refine qk ?_ | refine qn ?_) <;> (try simp (disch := first | omega | simp) [ql, -qu, -qx, hl1, hl2, hmn, hvn, zA, qA, rA, zB, qB, rB])) | (with_reducible refine awp_anyE (id := 1) [.cells [.int x.op, .int x.to, .int x.a, .int x.b, .int x.c, .int x.n, .str x.s] 68] [.R, .R, .R, .R, .R, .R, .R, .R, .R, .R, .R, .R, .R, .R, .R, .R, .M, .M, .W, .W] (by kernel_rfl) (by kernel_rfl) (by simp) ?_) | ((with_reducible first | refine sideG ?_ ?_ | refine qr ?_ ?_ | refine sideS ?_ ?_ | refine qs ?_ ?_ | refine qt ?_ ?_ | refine sideA ?_ ?_ | refine qp ?_ ?_ | refine qq ?_ ?_); first | omega | assumption | (simp; done)) | (refine qg fun K hK => ?_) | (refine qa ?_) | (refine qb true (by kernel_rfl) (by kernel_rfl) ?_) | (refine qb false (by kernel_rfl) (by kernel_rfl) ?_) | (refine hK _ ?_; clear hK K) | (clear hK K; refine hK _ ?_; clear hK K) | (clear hK K; clear hK K; refine hK _ ?_; clear hK K) | refine qe ?_)
set_option maxHeartbeats 4000000 in
theorem three_g (hM : Mach σ m v L regs) (hL : L.length ≤ 1000000) (hop : x.op = 21) {gA : Delta → Val} (zA : 0 ≤ x.a) (hA : regs[x.a.toNat]? = some (.sl ((L.map gA).map Val.av))) {gB : Delta → Val} (zB : 0 ≤ x.b) (hB : regs[x.b.toNat]? = some (.sl ((L.map gB).map Val.av))) {gC : Delta → Val} (zC : 0 ≤ x.c) (hC : regs[x.c.toNat]? = some (.sl ((L.map gC).map Val.av))) :
    qbj Tryd.prog 69 [.ptr m 0, x.av] σ (.sl (L.map fun d => (opI d.time d.row x [gA d, gB d, gC d]).av)) := by
  obtain ⟨A, eA⟩ : ∃ A, A = L.map gA := ⟨_, rfl⟩
  rw [← eA] at hA
  have lA : A.length = L.length := by rw [eA, List.length_map]
  have iA : ∀ i (h : i < L.length), A[i]'(by omega) = gA L[i] := fun i h => by subst eA; rw [List.getElem_map]
  have qA : x.a < regs.length := by have := (List.getElem?_eq_some_iff.1 hA).1; omega
  have rA : regs[x.a.toNat]'(by omega) = .sl (A.map Val.av) := (List.getElem?_eq_some_iff.1 hA).2
  obtain ⟨B, eB⟩ : ∃ B, B = L.map gB := ⟨_, rfl⟩
  rw [← eB] at hB
  have lB : B.length = L.length := by rw [eB, List.length_map]
  have iB : ∀ i (h : i < L.length), B[i]'(by omega) = gB L[i] := fun i h => by subst eB; rw [List.getElem_map]
  have qB : x.b < regs.length := by have := (List.getElem?_eq_some_iff.1 hB).1; omega
  have rB : regs[x.b.toNat]'(by omega) = .sl (B.map Val.av) := (List.getElem?_eq_some_iff.1 hB).2
  obtain ⟨C, eC⟩ : ∃ C, C = L.map gC := ⟨_, rfl⟩
  rw [← eC] at hC
  have lC : C.length = L.length := by rw [eC, List.length_map]
  have iC : ∀ i (h : i < L.length), C[i]'(by omega) = gC L[i] := fun i h => by subst eC; rw [List.getElem_map]
  have qC : x.c < regs.length := by have := (List.getElem?_eq_some_iff.1 hC).1; omega
  have rC : regs[x.c.toNat]'(by omega) = .sl (C.map Val.av) := (List.getElem?_eq_some_iff.1 hC).2
  refine qy Tryd.func69 Tryd.ntmps69 rfl rfl (by decide) rfl (by intro n; simp) fun n0 hfin hcl hft => ?_
  have hmn := qco hfin hM.hm (by simp)
  have hvn := qco hfin hM.hv (by simp)
  have hl1 := qbz hfin hM.hm (by simp)
  have hl2 := qbz hfin hM.hv (by simp)
  have hu := upto_loc hfin [.cells [.int x.op, .int x.to, .int x.a, .int x.b, .int x.c, .int x.n, .str x.s] 68, .cells [.sl (A.map Val.av)] 33, .cells [.sl (B.map Val.av)] 33, .cells [.sl (C.map Val.av)] 33]
  have hM2 := hM.upto hu
  have c1 := column_g hM2 (f := 117) (by kernel_rfl) _ (caps_of (l := [n0 + 1, n0 + 2, n0 + 3]) (by simp)) hL (fun d => opI d.time d.row x [gA d, gB d, gC d]) fun τ ht i hi => by
    have := three1_g (A := A) (B := B) (C := C) (ht.at (r := n0 + 1) (by simp) (by simp)) (ht.at (r := n0 + 2) (by simp) (by simp)) (ht.at (r := n0 + 3) (by simp) (by simp)) (i := i) (by omega) (by omega) (by omega)
    rw [iA i hi, iB i hi, iC i hi] at this
    unfold opI
    rw [if_pos hop]
    exact this
  repeat' (first | ((first | ((with_reducible refine qo (fun hg => ?_) (fun hg => ?_)) <;> (try simp only [hg]) <;> (try simp only [beq_iff_eq, beq_eq_false_iff_ne, ne_eq, decide_eq_true_eq, decide_eq_false_iff_not, bne_iff_ne, bne_eq_false_iff_eq] at hg) <;> (try (first | simp only [eq_false hg, if_true, if_false] | simp only [eq_true hg, if_true, if_false]))) | (with_reducible first | refine qd ?_ | refine qc ?_ | refine qi ?_ | refine qh ?_ | refine anyE_step ?_ | refine anyE_end ?_) | refine acall (c1) ?_ | refine qv (c1) ?_ | refine qw (c1) ?_ | refine qf ?_ | refine qj ?_ | refine qk ?_ | refine qn ?_) <;> (try simp (disch := first | omega | simp) [ql, -qu, -qx, hl1, hl2, hmn, hvn, zA, qA, rA, zB, qB, rB, zC, qC, rC])) | (with_reducible refine awp_anyE (id := 1) [.cells [.int x.op, .int x.to, .int x.a, .int x.b, .int x.c, .int x.n, .str x.s] 68] [.R, .R, .R, .R, .R, .R, .R, .R, .R, .R, .R, .R, .R, .R, .R, .R, .R, .R, .R, .R, .R, .R, .R, .R, .M, .M, .M, .W, .W, .W] (by kernel_rfl) (by kernel_rfl) (by simp) ?_) | ((with_reducible first | refine sideG ?_ ?_ | refine qr ?_ ?_ | refine sideS ?_ ?_ | refine qs ?_ ?_ | refine qt ?_ ?_ | refine sideA ?_ ?_ | refine qp ?_ ?_ | refine qq ?_ ?_); first | omega | assumption | (simp; done)) | (refine qg fun K hK => ?_) | (refine qa ?_) | (refine qb true (by kernel_rfl) (by kernel_rfl) ?_) | (refine qb false (by kernel_rfl) (by kernel_rfl) ?_) | (refine hK _ ?_; clear hK K) | (clear hK K; refine hK _ ?_; clear hK K) | (clear hK K; clear hK K; refine hK _ ?_; clear hK K) | refine qe ?_)
end
end Go.Proofs.YtnkakofcejkhiaaDoor

/- A slice beside nil: what is not empty is not nil; what is empty may be. -/
namespace Go.Proofs.YtnkakofcejkhiaaDoor
open Go.RowKit Go.Lib
theorem eop_nil {P : Program} {s : AS} {op : BinOp} {t u : TypeId} {x y : Operand} {l : List AV} {K : AV → AS → Prop} (hop : op = .eql ∨ op = .neq) (ht : (einfo P t).isSome = true) (hx : (s.eval x).list = some l) (hy : s.eval y = .v (.slice none 0 0)) (hK : ∀ b : Bool, (b = true → l = []) → K (.v (.bool (if op = .eql then b else !b))) s) :
    EOp P s (.binOp op t x y u) K := by
  intro X0 a w X oper ho hc Q
  have hw := hc.w
  subst hw
  have h1 := hc.eval x
  have h2 := hc.eval y
  rw [hy, RR.v] at h2
  obtain ⟨e, he⟩ : ∃ e, P.underlying t = some (.slice e) := by
    unfold einfo at ht
    split at ht
    · exact ⟨_, ‹_›⟩
    · cases ht
  have key : ∃ A n cap, a.eval x = .slice A n cap ∧ (0 < l.length → A.isNone = false) := by
    cases hev : s.eval x <;> rw [hev] at hx <;> try (cases hx; done)
    · cases hx
      rw [hev] at h1
      have h3 : RC X (.sl l) [a.eval x] := h1
      rw [RC] at h3
      obtain ⟨A, cap, b, off, e1, -, -, h4, -⟩ := h3
      simp at e1
      exact ⟨A, _, cap, e1, fun h => by rw [h4 h]; rfl⟩
    · rename_i r _
      cases hx
      rw [hev] at h1
      have h3 : RC X (.gs r l) [a.eval x] := h1
      rw [RC] at h3
      obtain ⟨A, cap, b, off, e1, -, -, h4, -⟩ := h3
      simp at e1
      exact ⟨A, _, cap, e1, fun h => by rw [h4 h]; rfl⟩
  obtain ⟨A, n, cap, hA, hn⟩ := key
  have hrun : (execOp a.eval oper).run P X.w = .ok (.value (.bool (if op = .eql then A.isNone else !A.isNone))) X.w := by
    have hq : ∀ w, (Op.equal t (.slice A n cap) (.slice none 0 0)).run P w = .ok A.isNone w := fun w => by
      unfold Op.equal
      rw [show Op.maxDepth = 9999 + 1 from rfl, Op.equalIn]
      cases A <;> simp [underlying, he]
    rcases hop with rfl | rfl
    · simp [execOp, ho, hA, h2, eqGuard, binOp, hq]
    · simp [execOp, ho, hA, h2, eqGuard, binOp, hq]
  refine qbv hrun ⟨_, _, s, X, rfl, hK A.isNone fun h => ?_, hc, RR.v.2 rfl⟩
  cases l with
  | nil => rfl
  | cons z zs => rw [hn (by simp)] at h; cases h
def aevN (P : Program) (s : AS) (o : Op) (K : AV → AS → Prop) : Prop :=
  match o with
  | .binOp op t x y u => match (s.eval x).list, s.eval y with
    | some l, .v (.slice none 0 0) => (op = .eql ∨ op = .neq) ∧ (einfo P t).isSome = true ∧ ∀ b : Bool, (b = true → l = []) → K (.v (.bool (if op = .eql then b else !b))) s
    | _, _ => aev P s (.binOp op t x y u) K
  | o => aev P s o K
theorem aevN_sound {P : Program} {s : AS} {o : Op} {K : AV → AS → Prop} (h : aevN P s o K) : EOp P s o K := by
  unfold aevN at h
  split at h
  · split at h
    · exact eop_nil h.1 h.2.1 ‹_› ‹_› h.2.2
    · exact qcm h
  · exact qcm h
def aseqN (P : Program) (ops : Array Oper) (K : AS → Prop) : List Oper → AS → Prop
  | [], s => K s
  | o :: l, s => match awant ops o s.t with
    | some b => qbi b (aevN P s o.op (fun x s1 => dstOk o.dst s1.n ∧ aseqN P ops K l (s1.put o.dst x))) (dstOk o.dst s.n ∧ aseqN P ops K l (s.put o.dst (.v undef)))
    | none => False
theorem aseqN_sound {P : Program} {ops : Array Oper} {K : AS → Prop} : ∀ {l : List Oper} {s : AS}, aseqN P ops K l s → aseq P ops K l s
  | [], _, h => h
  | o :: l, s, h => by
    rw [aseqN] at h
    rw [aseq]
    split at h
    · rename_i b hb
      cases b with
      | true => exact ⟨true, hb, (aevN_sound (h.1 rfl)).mono fun x s1 ⟨h1, h2⟩ => ⟨h1, aseqN_sound h2⟩⟩
      | false => exact ⟨false, hb, (h.2 rfl).1, aseqN_sound (h.2 rfl).2⟩
    · exact h.elim
theorem awp_regionN {P : Program} {s : AS} {id : Nat} {l : List Oper} {Q : Exit → AS → Prop} (h : aseqN P l.toArray (Q .normal) l s) : awp P (.region id l.toArray false) Q s := awp_region (aseqN_sound h)
theorem aseqN_step {P : Program} {ops : Array Oper} {K : AS → Prop} {o : Oper} {l : List Oper} {s : AS} (h : match awant ops o s.t with
    | some b => qbi b (aevN P s o.op (fun x s1 => dstOk o.dst s1.n ∧ aseqN P ops K l (s1.put o.dst x))) (dstOk o.dst s.n ∧ aseqN P ops K l (s.put o.dst (.v undef)))
    | none => False) : aseqN P ops K (o :: l) s := h
theorem aseqN_end {P : Program} {ops : Array Oper} {K : AS → Prop} {s : AS} (h : K s) : aseqN P ops K [] s := h
theorem nil_split {P : Program} {ops : Array Oper} {K : AS → Prop} {l : List Oper} {s s' : AS} {C : Prop} (h1 : aseqN P ops K l s) (h2 : C → aseqN P ops K l s') : aseqN P ops K l s ∧ (C → aseqN P ops K l s') := ⟨h1, h2⟩
attribute [simp] aevN
end Go.Proofs.YtnkakofcejkhiaaDoor
