/- Walks of layer 27: run, Run. -/
import Derived.Test.YtnkakofcejkhiaaDoorGa5
import Derived.Test.YtnkakofcejkhiaaDoorGa14
import Derived.Test.YtnkakofcejkhiaaDoorGa15
import Derived.Test.YtnkakofcejkhiaaDoorGa18
set_option linter.unusedSimpArgs false
set_option linter.unusedVariables false
namespace Go.Proofs.YtnkakofcejkhiaaDoor
open Go.RowKit Go.Lib
def kindF (n : Nat) : Nat := if n = 0 then 66 else if n = 1 then 67 else if n = 2 then 68 else 69
theorem ar_ops {x : Ins} (h : qbw x = true) : (opsP x).length = arO x.op := by
  rw [opsP_len, if_pos (form_op h)]
theorem ops1 {x : Ins} (h : qbw x = true) (ha : arO x.op = 1) : opsP x = [x.a] := by unfold opsP; rw [if_pos (form_op h), ha]; rfl
theorem ops2 {x : Ins} (h : qbw x = true) (ha : arO x.op = 2) : opsP x = [x.a, x.b] := by unfold opsP; rw [if_pos (form_op h), ha]; rfl
theorem ops3 {x : Ins} (h : qbw x = true) (ha : arO x.op = 3) : opsP x = [x.a, x.b, x.c] := by unfold opsP; rw [if_pos (form_op h), ha]; rfl
theorem ops0 {x : Ins} (h : qbw x = true) (ha : arO x.op = 0) : opsP x = [] := by unfold opsP; rw [if_pos (form_op h), ha]; rfl
theorem fit_len {cols : List Int} {R : List Val} (h : qca cols R) : cols.length ≤ R.length := by
  obtain ⟨R0, R1, rfl, rfl, -⟩ := h
  simp
theorem kind_g {σ : Nat → AB} {m v : Nat} {L : List Delta} {regs : List AV} {x : Ins} {cols types : List Int} {done : List Bool} (hM : Mach σ m v L regs) (hL : L.length ≤ 1000000) (hx : InsOk cols types done x) (Rg : Delta → List Val)
    (hregs : ∀ r ∈ opsP x, regs[r.toNat]? = some (.sl ((L.map fun d => (Rg d).getD r.toNat zeroV).map Val.av))) (hs : ∀ d ∈ L, RegsOk types done (Rg d)) (hrow : ∀ d ∈ L, qca cols d.row) :
    qbj Tryd.prog (kindF (arO x.op)) [.ptr m 0, x.av] σ (.sl (L.map fun d => (opI d.time d.row x (argsI (Rg d) x)).av)) := by
  have hop := hx.op
  have har : arO x.op = 0 ∨ arO x.op = 1 ∨ arO x.op = 2 ∨ arO x.op = 3 := by have := arO_le x.op; omega
  rcases har with h | h | h | h
  · have ho := ops0 hx.form h
    have hops : x.op = 0 ∨ x.op = 1 ∨ x.op = 2 ∨ x.op = 3 ∨ x.op = 5 := by unfold arO at h; split at h; omega; split at h; omega; split at h <;> omega
    rw [h]
    have hA : ∀ d, argsI (Rg d) x = [] := fun d => by unfold argsI; rw [ho]; rfl
    simp only [hA]
    exact source_g hM hL hops fun h3 d hd => by
      have := hx.col h3
      have := fit_len (hrow d hd)
      omega
  · have ho := ops1 hx.form h
    have hops : x.op = 6 ∨ x.op = 7 ∨ x.op = 20 := by unfold arO at h; split at h; omega; split at h; omega; split at h <;> omega
    rw [h]
    have hA : ∀ d, argsI (Rg d) x = [(Rg d).getD x.a.toNat zeroV] := fun d => by unfold argsI; rw [ho]; rfl
    simp only [hA]
    exact one_g hM hL hops (hx.args x.a (by rw [ho]; simp)).1 (hregs x.a (by rw [ho]; simp))
  · have ho := ops2 hx.form h
    have hops : 8 ≤ x.op ∧ x.op ≤ 19 := by unfold arO at h; split at h; omega; split at h; omega; split at h <;> omega
    rw [h]
    have hA : ∀ d, argsI (Rg d) x = [(Rg d).getD x.a.toNat zeroV, (Rg d).getD x.b.toNat zeroV] := fun d => by unfold argsI; rw [ho]; rfl
    simp only [hA]
    refine two_g hM hL hops (hx.args x.a (by rw [ho]; simp)).1 (hregs x.a (by rw [ho]; simp)) (hx.args x.b (by rw [ho]; simp)).1 (hregs x.b (by rw [ho]; simp)) fun d hd => ?_
    have h1 := ((hs d hd).2.2 x.a.toNat (hx.args x.a (by rw [ho]; simp)).2.2).2.2
    have h2 := ((hs d hd).2.2 x.b.toNat (hx.args x.b (by rw [ho]; simp)).2.2).2.2
    omega
  · have ho := ops3 hx.form h
    have hops : x.op = 21 := by unfold arO at h; split at h; omega; split at h; omega; split at h <;> omega
    rw [h]
    have hA : ∀ d, argsI (Rg d) x = [(Rg d).getD x.a.toNat zeroV, (Rg d).getD x.b.toNat zeroV, (Rg d).getD x.c.toNat zeroV] := fun d => by unfold argsI; rw [ho]; rfl
    simp only [hA]
    exact three_g hM hL hops (hx.args x.a (by rw [ho]; simp)).1 (hregs x.a (by rw [ho]; simp)) (hx.args x.b (by rw [ho]; simp)).1 (hregs x.b (by rw [ho]; simp)) (hx.args x.c (by rw [ho]; simp)).1 (hregs x.c (by rw [ho]; simp))
def ColV (a : AV) : Prop := a = .v (.slice none 0 0) ∨ ∃ V : List Val, a = .sl (V.map Val.av)
theorem colV_cl {regs : List AV} (h : ∀ a ∈ regs, ColV a) (n : Nat) : AV.cls n regs := AV.cls_iff.2 fun a ha => by
  rcases h a ha with rfl | ⟨V, rfl⟩ <;> simp
theorem clone_g (l : List Val) (hl : l.length ≤ 1000000) : Gives Tryd.prog 43 [.sl (l.map Val.av)] (.sl (l.map Val.av)) := by
  have hsz : l.length * 32 ≤ 140737488355328 := by omega
  refine qm Tryd.func43 Tryd.ntmps43 rfl rfl (by decide) rfl (by intro n; simp) fun σ n0 hcl hft => ?_
  repeat' (first | ((first | ((with_reducible refine qo (fun hg => ?_) (fun hg => ?_)) <;> (try simp only [hg]) <;> (try simp only [beq_iff_eq, beq_eq_false_iff_ne, ne_eq, decide_eq_true_eq, decide_eq_false_iff_not, bne_iff_ne, bne_eq_false_iff_eq] at hg) <;> (try (first | simp only [eq_false hg, if_true, if_false] | simp only [eq_true hg, if_true, if_false]))) | (with_reducible first | refine qd ?_ | refine qc ?_ | refine qi ?_ | refine qh ?_ | refine aseqN_step ?_ | refine aseqN_end ?_) | refine qf ?_ | refine qj ?_ | refine qk ?_ | refine qn ?_) <;> (try simp (disch := first | omega | simp) [ql, -qu, -qx, hsz])) | (with_reducible refine awp_regionN (id := 1) ?_) | ((with_reducible first | refine sideG ?_ ?_ | refine qr ?_ ?_ | refine sideS ?_ ?_ | refine qs ?_ ?_ | refine qt ?_ ?_ | refine sideA ?_ ?_ | refine qp ?_ ?_ | refine qq ?_ ?_); first | omega | assumption | (simp; done)) | (with_reducible refine nil_split ?_ (fun hnil => ?_); try simp only [hnil]) | (refine qg fun K hK => ?_) | (refine qa ?_) | (refine qb true (by kernel_rfl) (by kernel_rfl) ?_) | (refine qb false (by kernel_rfl) (by kernel_rfl) ?_) | (refine hK _ ?_; clear hK K) | (clear hK K; refine hK _ ?_; clear hK K) | (clear hK K; clear hK K; refine hK _ ?_; clear hK K) | refine qe ?_)
  all_goals simp_all
set_option maxHeartbeats 4000000 in
theorem run_g {c : Cod} {cols : List Int} (h : CodOk c cols) (L : List Delta) (hL : L.length ≤ 1000000) (hrow : ∀ d ∈ L, qca cols d.row) : Gives Tryd.prog 39 [c.av, .sl (L.map Delta.av)] (.sl ((runD c L).map Val.av)) := by
  have c9 := clone_g (runD c L) (by unfold runD; rw [List.length_map]; exact hL)
  obtain ⟨ins, types, out⟩ := c
  have hsz : 24 * types.length ≤ 281474976710656 := by have := h.nt; simp only at this; omega
  have hni := h.ni
  simp only at hni
  refine qm Tryd.func39 Tryd.ntmps39 rfl rfl (by decide) rfl (by intro n; simp) fun σ n0 hcl hft => ?_
  have hbm : ∀ n : Nat, n ≤ 3 → [AV.bm 66 [.ptr (n0 + 2) 0]].length = 1 := fun _ _ => rfl
  repeat' (first | ((first | ((with_reducible refine qo (fun hg => ?_) (fun hg => ?_)) <;> (try simp only [hg]) <;> (try simp only [beq_iff_eq, beq_eq_false_iff_ne, ne_eq, decide_eq_true_eq, decide_eq_false_iff_not, bne_iff_ne, bne_eq_false_iff_eq] at hg) <;> (try (first | simp only [eq_false hg, if_true, if_false] | simp only [eq_true hg, if_true, if_false]))) | (with_reducible first | refine qd ?_ | refine qc ?_ | refine qi ?_ | refine qh ?_) | refine qf ?_ | refine qj ?_ | refine qk ?_ | refine qn ?_) <;> (try simp (disch := first | omega | simp) [ql, -qu, -qx, hsz])) | ((with_reducible first | refine sideG ?_ ?_ | refine qr ?_ ?_ | refine sideS ?_ ?_ | refine qs ?_ ?_ | refine qt ?_ ?_ | refine sideA ?_ ?_ | refine qp ?_ ?_ | refine qq ?_ ?_); first | omega | assumption | (simp; done)) | (refine qg fun K hK => ?_) | (refine qa ?_) | (refine qb true (by kernel_rfl) (by kernel_rfl) ?_) | (refine qb false (by kernel_rfl) (by kernel_rfl) ?_) | (refine hK _ ?_; clear hK K) | (clear hK K; refine hK _ ?_; clear hK K) | (clear hK K; clear hK K; refine hK _ ?_; clear hK K) | refine qe ?_)
  refine qbb hcl (fun b : Nat × List AV => [(2, .ptr n0 0), (5, .ptr (n0 + 2) 0), (6, .sl [.bm 66 [.ptr (n0 + 2) 0], .bm 67 [.ptr (n0 + 2) 0], .bm 68 [.ptr (n0 + 2) 0], .bm 69 [.ptr (n0 + 2) 0]]), (26, .sl (ins.map Ins.av)), (27, .int ins.length), (28, .int b.1)])
    (fun b => [.cells [.sl (ins.map Ins.av), .sl (types.map AV.int), .int out] 25, .vec b.2 33 1, .cells [.sl (L.map Delta.av), .own (n0 + 1) types.length] 115])
    (fun b => b.1 ≤ ins.length ∧ b.2.length = types.length ∧ (∀ a ∈ b.2, ColV a) ∧ ∀ r : Nat, (doneL (ins.take b.1) (List.replicate types.length false)).getD r false = true → b.2[r]? = some (.sl ((colD L (ins.take b.1) types.length r).map Val.av)))
    (fun b => ins.length - b.1) (0, List.replicate types.length (.v (.slice none 0 0))) ⟨by omega, by simp, fun a ha => .inl (List.mem_replicate.1 ha).2, fun r hr => (no_done hr).elim⟩ (by simp) fun ⟨k, G⟩ ⟨hk1, hG, hCol, hR⟩ => ?_
  simp only at hk1 hG hCol hR
  have hcl1 : ∀ n, AV.cls n G := colV_cl hCol
  by_cases hlt : k < ins.length
  · have hx := AllOk.at ins k _ hlt h.all
    have hM : Mach (loc σ n0 [.cells [.sl (ins.map Ins.av), .sl (types.map AV.int), .int out] 25, .vec G 33 1, .cells [.sl (L.map Delta.av), .own (n0 + 1) types.length] 115, .cells [.int ins[k].op, .int ins[k].to, .int ins[k].a, .int ins[k].b, .int ins[k].c, .int ins[k].n, .str ins[k].s] 68]) (n0 + 2) (n0 + 1) L G := ⟨by simp [hG], by simp⟩
    have c1 := kind_g hM hL hx (fun d => regsI d.time d.row (ins.take k) (List.replicate types.length zeroV)) (fun r hr => hR r.toNat (hx.args r hr).2.2)
      (fun d hd => AllOk.regs (hrow d hd) d.time (ins.take k) (AllOk.take ins k _ h.all) (regsOk_start types)) hrow
    have c2 := ops_g ins[k]
    have hol := ar_ops hx.form
    have t0 := hx.to0
    have t1 : ins[k].to < types.length := hx.to1
    have har : arO ins[k].op = 0 ∨ arO ins[k].op = 1 ∨ arO ins[k].op = 2 ∨ arO ins[k].op = 3 := by have := arO_le ins[k].op; omega
    have hti : tinfo Tryd.prog 116 = some (false, 1) := by kernel_rfl
    have hrd : ∀ (τ : Nat → AB) (f : Nat) (l : List AV), rdAt τ false 1 (.ep (.bm f l) 0) = some (.bm f l) := fun _ _ _ => rfl
    have fin : ∃ a b, (a ≤ ins.length ∧ b.length = types.length ∧ (∀ x ∈ b, ColV x) ∧ ∀ r : Nat, (doneL (ins.take a) (List.replicate types.length false)).getD r false = true → b[r]? = some (.sl ((colD L (ins.take a) types.length r).map Val.av))) ∧ ins.length - a < ins.length - k ∧
        G.set ins[k].to.toNat (.sl (L.map fun d => (opI d.time d.row ins[k] (argsI (regsI d.time d.row (ins.take k) (List.replicate types.length zeroV)) ins[k])).av)) = b ∧ (k : Int) + 1 = a := by
      have htk : ins.take (k + 1) = ins.take k ++ [ins[k]] := List.take_succ_eq_append_getElem hlt
      have hRl : ∀ d : Delta, (regsI d.time d.row (ins.take k) (List.replicate types.length zeroV)).length = types.length := fun d => by
        have : ∀ (l : List Ins) (R : List Val), (regsI d.time d.row l R).length = R.length := fun l => by
          induction l with
          | nil => intro R; rfl
          | cons x l ih => intro R; show (regsI d.time d.row l (stepI d.time d.row R x)).length = _; rw [ih]; unfold stepI; rw [List.length_set]
        rw [this]; simp
      refine ⟨k + 1, _, ⟨by omega, by rw [List.length_set]; exact hG, fun a ha => ?_, fun r hr => ?_⟩, by omega, rfl, by omega⟩
      · rcases List.mem_or_eq_of_mem_set ha with ha | rfl
        · exact hCol a ha
        · exact .inr ⟨L.map fun d => opI d.time d.row ins[k] (argsI (regsI d.time d.row (ins.take k) (List.replicate types.length zeroV)) ins[k]), by rw [List.map_map]; rfl⟩
      · rw [htk, doneL_snoc, qcr] at hr
        have hcol : ∀ r, colD L (ins.take (k + 1)) types.length r = L.map fun d => if ins[k].to.toNat = r then opI d.time d.row ins[k] (argsI (regsI d.time d.row (ins.take k) (List.replicate types.length zeroV)) ins[k]) else (regsI d.time d.row (ins.take k) (List.replicate types.length zeroV)).getD r zeroV := fun r => by
          unfold colD
          refine List.map_congr_left fun d _ => ?_
          rw [htk, regsI_snoc, stepI, qcr]
          by_cases he : ins[k].to.toNat = r
          · rw [if_pos ⟨he, by rw [hRl]; omega⟩, if_pos he]
          · rw [if_neg (fun h => he h.1), if_neg he]
        rw [hcol r]
        by_cases he : ins[k].to.toNat = r
        · subst he
          rw [List.getElem?_set_self (by omega)]
          simp only [if_true]
          rw [List.map_map]; rfl
        · rw [if_neg (fun h => he h.1)] at hr
          rw [List.getElem?_set_ne he, hR r hr]
          simp only [he, if_false]
          rfl
    rcases har with ha | ha | ha | ha <;> rcases hCol _ (List.getElem_mem (show ins[k].to.toNat < G.length by omega)) with hgv | ⟨V, hgv⟩
    all_goals
      rw [ha] at hol c1
      repeat' (first | ((first | ((with_reducible refine qo (fun hg => ?_) (fun hg => ?_)) <;> (try simp only [hg]) <;> (try simp only [beq_iff_eq, beq_eq_false_iff_ne, ne_eq, decide_eq_true_eq, decide_eq_false_iff_not, bne_iff_ne, bne_eq_false_iff_eq] at hg) <;> (try (first | simp only [eq_false hg, if_true, if_false] | simp only [eq_true hg, if_true, if_false]))) | (with_reducible first | refine qd ?_ | refine qc ?_ | refine qi ?_ | refine qh ?_ | refine anyE_step ?_ | refine anyE_end ?_) | refine acall (c2) ?_ | refine qv (c2) ?_ | refine qw (c2) ?_ | refine acall (c1) ?_ | refine qv (c1) ?_ | refine qw (c1) ?_ | refine qf ?_ | refine qj ?_ | refine qk ?_ | refine qn ?_) <;> (try simp (disch := first | omega | simp) [ql, -qu, -qx, hlt, hG, hol, t0, t1, hcl1, hti, hrd, hgv])) | (with_reducible refine awp_anyE (id := 6) [.cells [.sl (ins.map Ins.av), .sl (types.map AV.int), .int out] 25, .unborn, .cells [.sl (L.map Delta.av), .own (n0 + 1) types.length] 115, .cells [.int ins[k].op, .int ins[k].to, .int ins[k].a, .int ins[k].b, .int ins[k].c, .int ins[k].n, .str ins[k].s] 68] [.R, .R, .R, .R, .R, .R, .R, .R, .M, .R, .R, .R, .R, .W, .W, .W] (by kernel_rfl) (by kernel_rfl) (by simp) ?_) | ((with_reducible first | refine sideG ?_ ?_ | refine qr ?_ ?_ | refine sideS ?_ ?_ | refine qs ?_ ?_ | refine qt ?_ ?_ | refine sideA ?_ ?_ | refine qp ?_ ?_ | refine qq ?_ ?_); first | omega | assumption | (simp; done)) | (refine qg fun K hK => ?_) | (refine qa ?_) | (refine qb true (by kernel_rfl) (by kernel_rfl) ?_) | (refine qb false (by kernel_rfl) (by kernel_rfl) ?_) | (refine hK _ ?_; clear hK K) | (clear hK K; refine hK _ ?_; clear hK K) | (clear hK K; clear hK K; refine hK _ ?_; clear hK K) | refine qe ?_)
      obtain ⟨a, b, ⟨f1, f2, f3, f4⟩, f5, f6, f7⟩ := fin
      exact ⟨a, b, ⟨f1, f2, f3, fun r hr => f4 r (by rw [List.getD_eq_getElem?_getD]; exact hr)⟩, f5, f6, colV_cl f3 _, f7⟩
  · obtain rfl : k = ins.length := by omega
    rw [List.take_length] at hR
    have ho : G[out.toNat]? = some (.sl ((runD ⟨ins, types, out⟩ L).map Val.av)) := hR out.toNat h.out2
    have o0 : 0 ≤ out := h.out0
    have o1 : out < types.length := h.out1
    have ho2 : G[out.toNat]'(by omega) = .sl ((runD ⟨ins, types, out⟩ L).map Val.av) := (List.getElem?_eq_some_iff.1 ho).2
    repeat' (first | ((first | ((with_reducible refine qo (fun hg => ?_) (fun hg => ?_)) <;> (try simp only [hg]) <;> (try simp only [beq_iff_eq, beq_eq_false_iff_ne, ne_eq, decide_eq_true_eq, decide_eq_false_iff_not, bne_iff_ne, bne_eq_false_iff_eq] at hg) <;> (try (first | simp only [eq_false hg, if_true, if_false] | simp only [eq_true hg, if_true, if_false]))) | (with_reducible first | refine qd ?_ | refine qc ?_ | refine qi ?_ | refine qh ?_) | refine acall (c9) ?_ | refine qv (c9) ?_ | refine qw (c9) ?_ | refine qf ?_ | refine qj ?_ | refine qk ?_ | refine qn ?_) <;> (try simp (disch := first | omega | simp) [ql, -qu, -qx, hlt, hG, hcl1, o0, o1, ho2])) | ((with_reducible first | refine sideG ?_ ?_ | refine qr ?_ ?_ | refine sideS ?_ ?_ | refine qs ?_ ?_ | refine qt ?_ ?_ | refine sideA ?_ ?_ | refine qp ?_ ?_ | refine qq ?_ ?_); first | omega | assumption | (simp; done)) | (refine qg fun K hK => ?_) | (refine qa ?_) | (refine qb true (by kernel_rfl) (by kernel_rfl) ?_) | (refine qb false (by kernel_rfl) (by kernel_rfl) ?_) | (refine hK _ ?_; clear hK K) | (clear hK K; refine hK _ ?_; clear hK K) | (clear hK K; clear hK K; refine hK _ ?_; clear hK K) | refine qe ?_)
end Go.Proofs.YtnkakofcejkhiaaDoor

/- Walks of layer 27: which batches fit. -/
namespace Go.Proofs.YtnkakofcejkhiaaDoor
open Go.RowKit Go.Lib
theorem fitRow_at {cols : List Int} {r : List Val} (hl : r.length = cols.length) (hr : rowOk r = true) {k : Nat} (hk : k < cols.length) (h : r[k].k ≠ cols[k]) : qbq cols r = false := by
  unfold qbq
  have : r.map Val.k ≠ cols := fun e => h (by
    have h2 : (r.map Val.k)[k]'(by simp; omega) = cols[k] := by simp [e]
    rw [List.getElem_map] at h2
    exact h2)
  simp [this]
theorem fitRow_all {cols : List Int} {r : List Val} (hl : r.length = cols.length) (hr : rowOk r = true) (h : ∀ k (hk : k < cols.length), r[k].k = cols[k]) : qbq cols r = true := by
  unfold qbq
  have : r.map Val.k = cols := by
    apply List.ext_getElem (by simp [hl])
    intro i h1 h2
    rw [List.getElem_map]
    exact h i h2
  simp [this, hl, hr]
theorem fitRow_len {cols : List Int} {r : List Val} (h : r.length ≠ cols.length) : qbq cols r = false := by unfold qbq; simp [h]
theorem fitRow_row {cols : List Int} {r : List Val} (h : rowOk r = false) : qbq cols r = false := by unfold qbq; simp [h]
set_option maxHeartbeats 4000000 in
theorem fits_g (cols : List Int) (L : List Delta) (hc : cols.length ≤ 1000000) (hL : L.length ≤ 1000000) (hr : ∀ d ∈ L, d.row.length ≤ 1000000) : Gives Tryd.prog 38 [.sl (cols.map AV.int), .sl (L.map Delta.av)] (.bool (fitsD cols L)) := by
  obtain ⟨R, hR⟩ : ∃ R, R = fitsD cols L := ⟨_, rfl⟩
  rw [← hR]
  unfold fitsD at hR
  refine qm Tryd.func38 Tryd.ntmps38 rfl rfl (by decide) rfl (by intro n; simp) fun σ n0 hcl hft => ?_
  repeat' (first | ((first | ((with_reducible refine qo (fun hg => ?_) (fun hg => ?_)) <;> (try simp only [hg]) <;> (try simp only [beq_iff_eq, beq_eq_false_iff_ne, ne_eq, decide_eq_true_eq, decide_eq_false_iff_not, bne_iff_ne, bne_eq_false_iff_eq] at hg) <;> (try (first | simp only [eq_false hg, if_true, if_false] | simp only [eq_true hg, if_true, if_false]))) | (with_reducible first | refine qd ?_ | refine qc ?_ | refine qi ?_ | refine qh ?_) | refine qf ?_ | refine qj ?_ | refine qk ?_ | refine qn ?_) <;> (try simp (disch := first | omega | simp) [ql, -qu, -qx])) | ((with_reducible first | refine sideG ?_ ?_ | refine qr ?_ ?_ | refine sideS ?_ ?_ | refine qs ?_ ?_ | refine qt ?_ ?_ | refine sideA ?_ ?_ | refine qp ?_ ?_ | refine qq ?_ ?_); first | omega | assumption | (simp; done)) | (refine qg fun K hK => ?_) | (refine qa ?_) | (refine qb true (by kernel_rfl) (by kernel_rfl) ?_) | (refine hK _ ?_; clear hK K) | (clear hK K; refine hK _ ?_; clear hK K) | (clear hK K; clear hK K; refine hK _ ?_; clear hK K) | refine qe ?_)
  refine qbb hcl (fun k : Nat => [(0, .sl (cols.map AV.int)), (9, .sl (L.map Delta.av)), (10, .int L.length), (11, .int k)]) (fun _ => [])
    (fun k => k ≤ L.length ∧ ∀ j (h : j < L.length), j < k → qbq cols L[j].row = true) (fun k => L.length - k) 0 (by simp) (by simp) fun k ⟨hk, he⟩ => ?_
  by_cases hlt : k < L.length
  · have hbad : qbq cols L[k].row = false → R = false := fun h => by
      rw [hR, all_hit hlt h]
    have hnext : qbq cols L[k].row = true → ∃ b', (b' ≤ L.length ∧ ∀ j (h : j < L.length), j < b' → qbq cols L[j].row = true) ∧ L.length - b' < L.length - k ∧ (k : Int) + 1 = b' := fun h =>
      ⟨k + 1, ⟨by omega, qbs (C := fun d : Delta => qbq cols d.row = true) he fun _ => h⟩, by omega, by omega⟩
    have c1 := row_g L[k].row (hr _ (List.getElem_mem _))
    by_cases hl : L[k].row.length = cols.length
    · cases hro : rowOk L[k].row
      · rw [hro] at c1
        have hb := hbad (fitRow_row hro)
        repeat' (first | ((first | ((with_reducible refine qo (fun hg => ?_) (fun hg => ?_)) <;> (try simp only [hg]) <;> (try simp only [beq_iff_eq, beq_eq_false_iff_ne, ne_eq, decide_eq_true_eq, decide_eq_false_iff_not, bne_iff_ne, bne_eq_false_iff_eq] at hg) <;> (try (first | simp only [eq_false hg, if_true, if_false] | simp only [eq_true hg, if_true, if_false]))) | (with_reducible first | refine qd ?_ | refine qc ?_ | refine qi ?_ | refine qh ?_) | refine acall (c1) ?_ | refine qv (c1) ?_ | refine qf ?_ | refine qj ?_ | refine qk ?_ | refine qn ?_) <;> (try simp (disch := first | omega | simp) [ql, -qu, -qx, hlt, hl])) | ((with_reducible first | refine sideG ?_ ?_ | refine qr ?_ ?_ | refine sideS ?_ ?_ | refine qs ?_ ?_ | refine qt ?_ ?_ | refine sideA ?_ ?_ | refine qp ?_ ?_ | refine qq ?_ ?_); first | omega | assumption | (simp; done)) | (refine qg fun K hK => ?_) | (refine qa ?_) | (refine qb true (by kernel_rfl) (by kernel_rfl) ?_) | (refine hK _ ?_; clear hK K) | (clear hK K; refine hK _ ?_; clear hK K) | (clear hK K; clear hK K; refine hK _ ?_; clear hK K) | refine qe ?_)
        exact hb
      · rw [hro] at c1
        repeat' (first | ((first | ((with_reducible refine qo (fun hg => ?_) (fun hg => ?_)) <;> (try simp only [hg]) <;> (try simp only [beq_iff_eq, beq_eq_false_iff_ne, ne_eq, decide_eq_true_eq, decide_eq_false_iff_not, bne_iff_ne, bne_eq_false_iff_eq] at hg) <;> (try (first | simp only [eq_false hg, if_true, if_false] | simp only [eq_true hg, if_true, if_false]))) | (with_reducible first | refine qd ?_ | refine qc ?_ | refine qi ?_ | refine qh ?_) | refine acall (c1) ?_ | refine qv (c1) ?_ | refine qf ?_ | refine qj ?_ | refine qk ?_ | refine qn ?_) <;> (try simp (disch := first | omega | simp) [ql, -qu, -qx, hlt, hl])) | ((with_reducible first | refine sideG ?_ ?_ | refine qr ?_ ?_ | refine sideS ?_ ?_ | refine qs ?_ ?_ | refine qt ?_ ?_ | refine sideA ?_ ?_ | refine qp ?_ ?_ | refine qq ?_ ?_); first | omega | assumption | (simp; done)) | (refine qg fun K hK => ?_) | (refine qa ?_) | (refine qb true (by kernel_rfl) (by kernel_rfl) ?_) | (refine hK _ ?_; clear hK K) | (clear hK K; refine hK _ ?_; clear hK K) | (clear hK K; clear hK K; refine hK _ ?_; clear hK K) | refine qe ?_)
        refine qbb hcl (fun i : Nat => [(0, .sl (cols.map AV.int)), (6, .ptr n0 0), (9, .sl (L.map Delta.av)), (10, .int L.length), (11, .int k), (27, .sl (cols.map AV.int)), (28, .int cols.length), (29, .int i)]) (fun _ => [.cells [.int L[k].time, .sl (L[k].row.map Val.av), .int L[k].n] 37])
          (fun i => i ≤ cols.length ∧ ∀ j (h : j < cols.length), j < i → L[k].row[j].k = cols[j]) (fun i => cols.length - i) 0 (by simp) (by simp) fun i ⟨hi, hei⟩ => ?_
        by_cases hlt2 : i < cols.length
        · have hi2 : i < L[k].row.length := by omega
          by_cases hkk : L[k].row[i].k = cols[i]
          · repeat' (first | ((first | ((with_reducible refine qo (fun hg => ?_) (fun hg => ?_)) <;> (try simp only [hg]) <;> (try simp only [beq_iff_eq, beq_eq_false_iff_ne, ne_eq, decide_eq_true_eq, decide_eq_false_iff_not, bne_iff_ne, bne_eq_false_iff_eq] at hg) <;> (try (first | simp only [eq_false hg, if_true, if_false] | simp only [eq_true hg, if_true, if_false]))) | (with_reducible first | refine qd ?_ | refine qc ?_ | refine qi ?_ | refine qh ?_) | refine qf ?_ | refine qj ?_ | refine qk ?_ | refine qn ?_) <;> (try simp (disch := first | omega | simp) [ql, -qu, -qx, hlt2, hi2, hkk])) | ((with_reducible first | refine sideG ?_ ?_ | refine qr ?_ ?_ | refine sideS ?_ ?_ | refine qs ?_ ?_ | refine qt ?_ ?_ | refine sideA ?_ ?_ | refine qp ?_ ?_ | refine qq ?_ ?_); first | omega | assumption | (simp; done)) | (refine qg fun K hK => ?_) | (refine qa ?_) | (refine qb true (by kernel_rfl) (by kernel_rfl) ?_) | (refine qb false (by kernel_rfl) (by kernel_rfl) ?_) | (refine hK _ ?_; clear hK K) | (clear hK K; refine hK _ ?_; clear hK K) | (clear hK K; clear hK K; refine hK _ ?_; clear hK K) | refine qe ?_)
            exact ⟨i + 1, ⟨by omega, fun j hj hji => by
              by_cases hji2 : j = i
              · subst hji2; exact hkk
              · exact hei j hj (by omega)⟩, by omega, by omega⟩
          · have hb := hbad (fitRow_at hl hro hlt2 hkk)
            repeat' (first | ((first | ((with_reducible refine qo (fun hg => ?_) (fun hg => ?_)) <;> (try simp only [hg]) <;> (try simp only [beq_iff_eq, beq_eq_false_iff_ne, ne_eq, decide_eq_true_eq, decide_eq_false_iff_not, bne_iff_ne, bne_eq_false_iff_eq] at hg) <;> (try (first | simp only [eq_false hg, if_true, if_false] | simp only [eq_true hg, if_true, if_false]))) | (with_reducible first | refine qd ?_ | refine qc ?_ | refine qi ?_ | refine qh ?_) | refine qf ?_ | refine qj ?_ | refine qk ?_ | refine qn ?_) <;> (try simp (disch := first | omega | simp) [ql, -qu, -qx, hlt2, hi2, hkk])) | ((with_reducible first | refine sideG ?_ ?_ | refine qr ?_ ?_ | refine sideS ?_ ?_ | refine qs ?_ ?_ | refine qt ?_ ?_ | refine sideA ?_ ?_ | refine qp ?_ ?_ | refine qq ?_ ?_); first | omega | assumption | (simp; done)) | (refine qg fun K hK => ?_) | (refine qa ?_) | (refine qb true (by kernel_rfl) (by kernel_rfl) ?_) | (refine hK _ ?_; clear hK K) | (clear hK K; refine hK _ ?_; clear hK K) | (clear hK K; clear hK K; refine hK _ ?_; clear hK K) | refine qe ?_)
            all_goals first | exact hb | exact absurd (by assumption) hkk
        · have hn := hnext (fitRow_all hl hro fun j hj => hei j hj (by omega))
          repeat' (first | ((first | ((with_reducible refine qo (fun hg => ?_) (fun hg => ?_)) <;> (try simp only [hg]) <;> (try simp only [beq_iff_eq, beq_eq_false_iff_ne, ne_eq, decide_eq_true_eq, decide_eq_false_iff_not, bne_iff_ne, bne_eq_false_iff_eq] at hg) <;> (try (first | simp only [eq_false hg, if_true, if_false] | simp only [eq_true hg, if_true, if_false]))) | (with_reducible first | refine qd ?_ | refine qc ?_ | refine qi ?_ | refine qh ?_) | refine qf ?_ | refine qj ?_ | refine qk ?_ | refine qn ?_) <;> (try simp (disch := first | omega | simp) [ql, -qu, -qx, hlt2])) | ((with_reducible first | refine sideG ?_ ?_ | refine qr ?_ ?_ | refine sideS ?_ ?_ | refine qs ?_ ?_ | refine qt ?_ ?_ | refine sideA ?_ ?_ | refine qp ?_ ?_ | refine qq ?_ ?_); first | omega | assumption | (simp; done)) | (refine qg fun K hK => ?_) | (refine qa ?_) | (refine qb true (by kernel_rfl) (by kernel_rfl) ?_) | (refine hK _ ?_; clear hK K) | (clear hK K; refine hK _ ?_; clear hK K) | (clear hK K; clear hK K; refine hK _ ?_; clear hK K) | refine qe ?_)
          exact hn
    · have hb := hbad (fitRow_len hl)
      repeat' (first | ((first | ((with_reducible refine qo (fun hg => ?_) (fun hg => ?_)) <;> (try simp only [hg]) <;> (try simp only [beq_iff_eq, beq_eq_false_iff_ne, ne_eq, decide_eq_true_eq, decide_eq_false_iff_not, bne_iff_ne, bne_eq_false_iff_eq] at hg) <;> (try (first | simp only [eq_false hg, if_true, if_false] | simp only [eq_true hg, if_true, if_false]))) | (with_reducible first | refine qd ?_ | refine qc ?_ | refine qi ?_ | refine qh ?_) | refine qf ?_ | refine qj ?_ | refine qk ?_ | refine qn ?_) <;> (try simp (disch := first | omega | simp) [ql, -qu, -qx, hlt, hl])) | ((with_reducible first | refine sideG ?_ ?_ | refine qr ?_ ?_ | refine sideS ?_ ?_ | refine qs ?_ ?_ | refine qt ?_ ?_ | refine sideA ?_ ?_ | refine qp ?_ ?_ | refine qq ?_ ?_); first | omega | assumption | (simp; done)) | (refine qg fun K hK => ?_) | (refine qa ?_) | (refine qb true (by kernel_rfl) (by kernel_rfl) ?_) | (refine hK _ ?_; clear hK K) | (clear hK K; refine hK _ ?_; clear hK K) | (clear hK K; clear hK K; refine hK _ ?_; clear hK K) | refine qe ?_)
      all_goals first | exact hb | (exfalso; omega)
  · repeat' (first | ((first | ((with_reducible refine qo (fun hg => ?_) (fun hg => ?_)) <;> (try simp only [hg]) <;> (try simp only [beq_iff_eq, beq_eq_false_iff_ne, ne_eq, decide_eq_true_eq, decide_eq_false_iff_not, bne_iff_ne, bne_eq_false_iff_eq] at hg) <;> (try (first | simp only [eq_false hg, if_true, if_false] | simp only [eq_true hg, if_true, if_false]))) | (with_reducible first | refine qd ?_ | refine qc ?_ | refine qi ?_ | refine qh ?_) | refine qf ?_ | refine qj ?_ | refine qk ?_ | refine qn ?_) <;> (try simp (disch := first | omega | simp) [ql, -qu, -qx, hlt])) | ((with_reducible first | refine sideG ?_ ?_ | refine qr ?_ ?_ | refine sideS ?_ ?_ | refine qs ?_ ?_ | refine qt ?_ ?_ | refine sideA ?_ ?_ | refine qp ?_ ?_ | refine qq ?_ ?_); first | omega | assumption | (simp; done)) | (refine qg fun K hK => ?_) | (refine qa ?_) | (refine qb true (by kernel_rfl) (by kernel_rfl) ?_) | (refine qb false (by kernel_rfl) (by kernel_rfl) ?_) | (refine hK _ ?_; clear hK K) | (clear hK K; refine hK _ ?_; clear hK K) | (clear hK K; clear hK K; refine hK _ ?_; clear hK K) | refine qe ?_)
    rw [hR, all_end (qda (C := fun d : Delta => qbq cols d.row = true) he hlt)]
end Go.Proofs.YtnkakofcejkhiaaDoor

/- Walks of layer 27: Run and Work. -/
namespace Go.Proofs.YtnkakofcejkhiaaDoor
open Go.RowKit Go.Lib
set_option maxHeartbeats 4000000 in
theorem Run_g (c : Cod) (cols : List Int) (L : List Delta) (hc : cols.length ≤ 1000000) (hL : L.length ≤ 1000000) (hr : ∀ d ∈ L, d.row.length ≤ 1000000) :
    Gives Tryd.prog 12 [c.av, .sl (cols.map AV.int), .sl (L.map Delta.av)] (.tup [.sl ((runP c cols L).1.map Val.av), .int (runP c cols L).2]) := by
  have c1 := verify_g c cols hc
  have c2 := fits_g cols L hc hL hr
  obtain ⟨R, hR⟩ : ∃ R, R = runP c cols L := ⟨_, rfl⟩
  rw [← hR]
  unfold runP at hR
  by_cases hv : (verP c cols).2 = 0
  · rw [if_neg (by omega)] at hR
    rw [hv] at c1
    cases hf : fitsD cols L
    · rw [hf] at c2 hR
      rw [if_pos rfl] at hR
      refine qm Tryd.func12 Tryd.ntmps12 rfl rfl (by decide) rfl (by intro n; simp) fun σ n0 hcl hft => ?_
      repeat' (first | ((first | ((with_reducible refine qo (fun hg => ?_) (fun hg => ?_)) <;> (try simp only [hg]) <;> (try simp only [beq_iff_eq, beq_eq_false_iff_ne, ne_eq, decide_eq_true_eq, decide_eq_false_iff_not, bne_iff_ne, bne_eq_false_iff_eq] at hg) <;> (try (first | simp only [eq_false hg, if_true, if_false] | simp only [eq_true hg, if_true, if_false]))) | (with_reducible first | refine qd ?_ | refine qc ?_ | refine qi ?_ | refine qh ?_) | refine acall (c1) ?_ | refine qv (c1) ?_ | refine acall (c2) ?_ | refine qv (c2) ?_ | refine qf ?_ | refine qj ?_ | refine qk ?_ | refine qn ?_) <;> (try simp (disch := first | omega | simp) [ql, -qu, -qx])) | ((with_reducible first | refine sideG ?_ ?_ | refine qr ?_ ?_ | refine sideS ?_ ?_ | refine qs ?_ ?_ | refine qt ?_ ?_ | refine sideA ?_ ?_ | refine qp ?_ ?_ | refine qq ?_ ?_); first | omega | assumption | (simp; done)) | (refine qg fun K hK => ?_) | (refine qa ?_) | (refine qb true (by kernel_rfl) (by kernel_rfl) ?_) | (refine hK _ ?_; clear hK K) | (clear hK K; refine hK _ ?_; clear hK K) | (clear hK K; clear hK K; refine hK _ ?_; clear hK K) | refine qe ?_)
      all_goals (rw [hR]; simp)
    · rw [hf] at c2 hR
      rw [if_neg (by simp)] at hR
      have c3 := run_g (verP_ok.1 hv) L hL fun d hd => fitsD_mem hf hd
      rw [hR]
      refine qm Tryd.func12 Tryd.ntmps12 rfl rfl (by decide) rfl (by intro n; simp) fun σ n0 hcl hft => ?_
      repeat' (first | ((first | ((with_reducible refine qo (fun hg => ?_) (fun hg => ?_)) <;> (try simp only [hg]) <;> (try simp only [beq_iff_eq, beq_eq_false_iff_ne, ne_eq, decide_eq_true_eq, decide_eq_false_iff_not, bne_iff_ne, bne_eq_false_iff_eq] at hg) <;> (try (first | simp only [eq_false hg, if_true, if_false] | simp only [eq_true hg, if_true, if_false]))) | (with_reducible first | refine qd ?_ | refine qc ?_ | refine qi ?_ | refine qh ?_) | refine acall (c1) ?_ | refine qv (c1) ?_ | refine acall (c2) ?_ | refine qv (c2) ?_ | refine acall (c3) ?_ | refine qv (c3) ?_ | refine qf ?_ | refine qj ?_ | refine qk ?_ | refine qn ?_) <;> (try simp (disch := first | omega | simp) [ql, -qu, -qx])) | ((with_reducible first | refine sideG ?_ ?_ | refine qr ?_ ?_ | refine sideS ?_ ?_ | refine qs ?_ ?_ | refine qt ?_ ?_ | refine sideA ?_ ?_ | refine qp ?_ ?_ | refine qq ?_ ?_); first | omega | assumption | (simp; done)) | (refine qg fun K hK => ?_) | (refine qa ?_) | (refine qb true (by kernel_rfl) (by kernel_rfl) ?_) | (refine hK _ ?_; clear hK K) | (clear hK K; refine hK _ ?_; clear hK K) | (clear hK K; clear hK K; refine hK _ ?_; clear hK K) | refine qe ?_)
  · rw [if_pos hv] at hR
    rw [hR]
    refine qm Tryd.func12 Tryd.ntmps12 rfl rfl (by decide) rfl (by intro n; simp) fun σ n0 hcl hft => ?_
    repeat' (first | ((first | ((with_reducible refine qo (fun hg => ?_) (fun hg => ?_)) <;> (try simp only [hg]) <;> (try simp only [beq_iff_eq, beq_eq_false_iff_ne, ne_eq, decide_eq_true_eq, decide_eq_false_iff_not, bne_iff_ne, bne_eq_false_iff_eq] at hg) <;> (try (first | simp only [eq_false hg, if_true, if_false] | simp only [eq_true hg, if_true, if_false]))) | (with_reducible first | refine qd ?_ | refine qc ?_ | refine qi ?_ | refine qh ?_) | refine acall (c1) ?_ | refine qv (c1) ?_ | refine qf ?_ | refine qj ?_ | refine qk ?_ | refine qn ?_) <;> (try simp (disch := first | omega | simp) [ql, -qu, -qx, hv])) | ((with_reducible first | refine sideG ?_ ?_ | refine qr ?_ ?_ | refine sideS ?_ ?_ | refine qs ?_ ?_ | refine qt ?_ ?_ | refine sideA ?_ ?_ | refine qp ?_ ?_ | refine qq ?_ ?_); first | omega | assumption | (simp; done)) | (refine qg fun K hK => ?_) | (refine qa ?_) | (refine qb true (by kernel_rfl) (by kernel_rfl) ?_) | (refine hK _ ?_; clear hK K) | (clear hK K; refine hK _ ?_; clear hK K) | (clear hK K; clear hK K; refine hK _ ?_; clear hK K) | refine qe ?_)
    all_goals exact absurd (by assumption) hv
set_option maxHeartbeats 4000000 in
theorem work_g (c : Cod) (rows : Int) (hr : rows ≤ 9223372036854775807) (hn : c.ins.length ≤ 1000000) : Gives Tryd.prog 20 [c.av, .int rows] (.int (workP c rows)) := by
  obtain ⟨R, hR⟩ : ∃ R, R = workP c rows := ⟨_, rfl⟩
  rw [← hR]
  unfold workP at hR
  by_cases h1 : rows ≤ 0 ∨ c.ins.length = 0
  · rw [if_pos h1] at hR
    subst hR
    refine qm Tryd.func20 Tryd.ntmps20 rfl rfl (by decide) rfl (by intro n; simp) fun σ n0 hcl hft => ?_
    repeat' (first | ((first | ((with_reducible refine qo (fun hg => ?_) (fun hg => ?_)) <;> (try simp only [hg]) <;> (try simp only [beq_iff_eq, beq_eq_false_iff_ne, ne_eq, decide_eq_true_eq, decide_eq_false_iff_not, bne_iff_ne, bne_eq_false_iff_eq] at hg) <;> (try (first | simp only [eq_false hg, if_true, if_false] | simp only [eq_true hg, if_true, if_false]))) | (with_reducible first | refine qd ?_ | refine qc ?_ | refine qi ?_ | refine qh ?_) | refine qf ?_ | refine qj ?_ | refine qk ?_ | refine qn ?_) <;> (try simp (disch := first | omega | simp) [ql, -qu, -qx])) | ((with_reducible first | refine sideG ?_ ?_ | refine qr ?_ ?_ | refine sideS ?_ ?_ | refine qs ?_ ?_ | refine qt ?_ ?_ | refine sideA ?_ ?_ | refine qp ?_ ?_ | refine qq ?_ ?_); first | omega | assumption | (simp; done)) | (refine qg fun K hK => ?_) | (refine qa ?_) | (refine qb true (by kernel_rfl) (by kernel_rfl) ?_) | (refine hK _ ?_; clear hK K) | (clear hK K; refine hK _ ?_; clear hK K) | (clear hK K; clear hK K; refine hK _ ?_; clear hK K) | refine qe ?_)
    all_goals first | rfl | omega
  · rw [if_neg h1] at hR
    have h2 : ¬ rows ≤ 0 := by omega
    have h3 : ¬ c.ins.length = 0 := by omega
    have h4 : ¬ (c.ins.length : Int) = 0 := by omega
    have hd : (1099511627776 : Int).tdiv (c.ins.length : Int) = 1099511627776 / (c.ins.length : Int) := Int.tdiv_eq_ediv_of_nonneg (by omega)
    have hq0 : 0 ≤ 1099511627776 / (c.ins.length : Int) := Int.ediv_nonneg (by omega) (by omega)
    have hq1 : 1099511627776 / (c.ins.length : Int) ≤ 1099511627776 := Int.ediv_le_self _ (by omega)
    have hq2 : (c.ins.length : Int) * (1099511627776 / (c.ins.length : Int)) ≤ 1099511627776 := Int.mul_ediv_self_le (by omega)
    generalize hq : 1099511627776 / (c.ins.length : Int) = q at *
    by_cases h5 : q < rows
    · rw [if_pos h5] at hR
      subst hR
      refine qm Tryd.func20 Tryd.ntmps20 rfl rfl (by decide) rfl (by intro n; simp) fun σ n0 hcl hft => ?_
      repeat' (first | ((first | ((with_reducible refine qo (fun hg => ?_) (fun hg => ?_)) <;> (try simp only [hg]) <;> (try simp only [beq_iff_eq, beq_eq_false_iff_ne, ne_eq, decide_eq_true_eq, decide_eq_false_iff_not, bne_iff_ne, bne_eq_false_iff_eq] at hg) <;> (try (first | simp only [eq_false hg, if_true, if_false] | simp only [eq_true hg, if_true, if_false]))) | (with_reducible first | refine qd ?_ | refine qc ?_ | refine qi ?_ | refine qh ?_) | refine qf ?_ | refine qj ?_ | refine qk ?_ | refine qn ?_) <;> (try simp (disch := first | omega | simp) [ql, -qu, -qx, h2, h3, h4, hd, h5])) | ((with_reducible first | refine sideG ?_ ?_ | refine qr ?_ ?_ | refine sideS ?_ ?_ | refine qs ?_ ?_ | refine qt ?_ ?_ | refine sideA ?_ ?_ | refine qp ?_ ?_ | refine qq ?_ ?_); first | omega | assumption | (simp; done)) | (refine qg fun K hK => ?_) | (refine qa ?_) | (refine qb true (by kernel_rfl) (by kernel_rfl) ?_) | (refine hK _ ?_; clear hK K) | (clear hK K; refine hK _ ?_; clear hK K) | (clear hK K; clear hK K; refine hK _ ?_; clear hK K) | refine qe ?_)
      all_goals (exfalso; omega)
    · rw [if_neg h5] at hR
      have hm0 : 0 ≤ (c.ins.length : Int) * rows := Int.mul_nonneg (by omega) (by omega)
      have hm : (c.ins.length : Int) * rows ≤ 1099511627776 := Int.le_trans (Int.mul_le_mul_of_nonneg_left (by omega) (by omega)) hq2
      subst hR
      refine qm Tryd.func20 Tryd.ntmps20 rfl rfl (by decide) rfl (by intro n; simp) fun σ n0 hcl hft => ?_
      repeat' (first | ((first | ((with_reducible refine qo (fun hg => ?_) (fun hg => ?_)) <;> (try simp only [hg]) <;> (try simp only [beq_iff_eq, beq_eq_false_iff_ne, ne_eq, decide_eq_true_eq, decide_eq_false_iff_not, bne_iff_ne, bne_eq_false_iff_eq] at hg) <;> (try (first | simp only [eq_false hg, if_true, if_false] | simp only [eq_true hg, if_true, if_false]))) | (with_reducible first | refine qd ?_ | refine qc ?_ | refine qi ?_ | refine qh ?_) | refine qf ?_ | refine qj ?_ | refine qk ?_ | refine qn ?_) <;> (try simp (disch := first | omega | simp) [ql, -qu, -qx, h2, h3, h4, hd, h5])) | ((with_reducible first | refine sideG ?_ ?_ | refine qr ?_ ?_ | refine sideS ?_ ?_ | refine qs ?_ ?_ | refine qt ?_ ?_ | refine sideA ?_ ?_ | refine qp ?_ ?_ | refine qq ?_ ?_); first | omega | assumption | (simp; done)) | (refine qg fun K hK => ?_) | (refine qa ?_) | (refine qb true (by kernel_rfl) (by kernel_rfl) ?_) | (refine hK _ ?_; clear hK K) | (clear hK K; refine hK _ ?_; clear hK K) | (clear hK K; clear hK K; refine hK _ ?_; clear hK K) | refine qe ?_)
      all_goals (exfalso; omega)
end Go.Proofs.YtnkakofcejkhiaaDoor

/- Walk of layer 27: Select. -/
namespace Go.Proofs.YtnkakofcejkhiaaDoor
open Go.RowKit Go.Lib
def selP (c : Cod) (cols : List Int) (l : List Delta) : List Delta × Int :=
  if (verP c cols).2 ≠ 0 then ([], (verP c cols).2) else if c.types.getD c.out.toNat 0 ≠ 2 then ([], 13) else if fitsD cols l = false then ([], 16)
  else (l.filter fun d => decide ((valC c d.time d.row).n = 1), 0)
theorem filter_snoc {α : Type} (p : α → Bool) (l : List α) {k : Nat} (h : k < l.length) : (l.take (k + 1)).filter p = if p l[k] then (l.take k).filter p ++ [l[k]] else (l.take k).filter p := by
  rw [List.take_succ_eq_append_getElem h, List.filter_append]
  cases hp : p l[k] <;> simp [hp]
theorem filter_le {α : Type} (p : α → Bool) (l : List α) (k : Nat) : ((l.take k).filter p).length ≤ k := by
  have := List.length_filter_le p (l.take k)
  rw [List.length_take] at this; omega
set_option maxHeartbeats 4000000 in
theorem Select_g (c : Cod) (cols : List Int) (L : List Delta) (hc : cols.length ≤ 1000000) (hL : L.length ≤ 1000000) (hr : ∀ d ∈ L, d.row.length ≤ 1000000) :
    Gives Tryd.prog 15 [c.av, .sl (cols.map AV.int), .sl (L.map Delta.av)] (.tup [.sl ((selP c cols L).1.map Delta.av), .int (selP c cols L).2]) := by
  have c1 := verify_g c cols hc
  have c2 := Run_g c cols L hc hL hr
  obtain ⟨R, hR⟩ : ∃ R, R = selP c cols L := ⟨_, rfl⟩
  rw [← hR]
  unfold selP at hR
  unfold runP at c2
  obtain ⟨ins, types, out⟩ := c
  by_cases hv : (verP ⟨ins, types, out⟩ cols).2 = 0
  · rw [if_neg (by omega)] at hR c2
    have hok := verP_ok.1 hv
    rw [hv] at c1
    have o0 : 0 ≤ out := hok.out0
    have o1 : out < types.length := hok.out1
    have hty : types.getD out.toNat 0 = types[out.toNat]'(by omega) := by rw [List.getD_eq_getElem?_getD, List.getElem?_eq_getElem (by omega)]; rfl
    simp only at hR
    rw [hty] at hR
    by_cases ht : types[out.toNat]'(by omega) = 2
    · rw [if_neg (by omega)] at hR
      cases hf : fitsD cols L
      · rw [hf] at c2 hR
        rw [if_pos rfl] at c2 hR
        refine qm Tryd.func15 Tryd.ntmps15 rfl rfl (by decide) rfl (by intro n; simp) fun σ n0 hcl hft => ?_
        repeat' (first | ((first | ((with_reducible refine qo (fun hg => ?_) (fun hg => ?_)) <;> (try simp only [hg]) <;> (try simp only [beq_iff_eq, beq_eq_false_iff_ne, ne_eq, decide_eq_true_eq, decide_eq_false_iff_not, bne_iff_ne, bne_eq_false_iff_eq] at hg) <;> (try (first | simp only [eq_false hg, if_true, if_false] | simp only [eq_true hg, if_true, if_false]))) | (with_reducible first | refine qd ?_ | refine qc ?_ | refine qi ?_ | refine qh ?_) | refine acall (c1) ?_ | refine qv (c1) ?_ | refine acall (c2) ?_ | refine qv (c2) ?_ | refine qf ?_ | refine qj ?_ | refine qk ?_ | refine qn ?_) <;> (try simp (disch := first | omega | simp) [ql, -qu, -qx, o0, o1, ht])) | ((with_reducible first | refine sideG ?_ ?_ | refine qr ?_ ?_ | refine sideS ?_ ?_ | refine qs ?_ ?_ | refine qt ?_ ?_ | refine sideA ?_ ?_ | refine qp ?_ ?_ | refine qq ?_ ?_); first | omega | assumption | (simp; done)) | (refine qg fun K hK => ?_) | (refine qa ?_) | (refine qb true (by kernel_rfl) (by kernel_rfl) ?_) | (refine hK _ ?_; clear hK K) | (clear hK K; refine hK _ ?_; clear hK K) | (clear hK K; clear hK K; refine hK _ ?_; clear hK K) | refine qe ?_)
        all_goals (rw [hR]; simp)
      · rw [hf] at c2 hR
        rw [if_neg (by simp)] at c2 hR
        have hVl : (runD ⟨ins, types, out⟩ L).length = L.length := by unfold runD; simp
        refine qm Tryd.func15 Tryd.ntmps15 rfl rfl (by decide) rfl (by intro n; simp) fun σ n0 hcl hft => ?_
        repeat' (first | ((first | ((with_reducible refine qo (fun hg => ?_) (fun hg => ?_)) <;> (try simp only [hg]) <;> (try simp only [beq_iff_eq, beq_eq_false_iff_ne, ne_eq, decide_eq_true_eq, decide_eq_false_iff_not, bne_iff_ne, bne_eq_false_iff_eq] at hg) <;> (try (first | simp only [eq_false hg, if_true, if_false] | simp only [eq_true hg, if_true, if_false]))) | (with_reducible first | refine qd ?_ | refine qc ?_ | refine qi ?_ | refine qh ?_) | refine acall (c1) ?_ | refine qv (c1) ?_ | refine acall (c2) ?_ | refine qv (c2) ?_ | refine qf ?_ | refine qj ?_ | refine qk ?_ | refine qn ?_) <;> (try simp (disch := first | omega | simp) [ql, -qu, -qx, o0, o1, ht])) | ((with_reducible first | refine sideG ?_ ?_ | refine qr ?_ ?_ | refine sideS ?_ ?_ | refine qs ?_ ?_ | refine qt ?_ ?_ | refine sideA ?_ ?_ | refine qp ?_ ?_ | refine qq ?_ ?_); first | omega | assumption | (simp; done)) | (refine qg fun K hK => ?_) | (refine qa ?_) | (refine qb true (by kernel_rfl) (by kernel_rfl) ?_) | (refine hK _ ?_; clear hK K) | (clear hK K; refine hK _ ?_; clear hK K) | (clear hK K; clear hK K; refine hK _ ?_; clear hK K) | refine qe ?_)
        refine awp_adoptR 12 37 3 (by simp) ?_
        refine qbb hcl (fun k : Nat => [(10, .sl ((runD ⟨ins, types, out⟩ L).map Val.av)), (12, .gs (n0 + 1) (((L.take k).filter fun d => decide ((valC ⟨ins, types, out⟩ d.time d.row).n = 1)).map Delta.av)), (41, .sl (L.map Delta.av)), (42, .int L.length), (43, .int k)])
          (fun k => [.cells [.sl (ins.map Ins.av), .sl (types.map AV.int), .int out] 25, .tail ((L.take k).filter fun d => decide ((valC ⟨ins, types, out⟩ d.time d.row).n = 1)).length 37 3])
          (fun k => k ≤ L.length) (fun k => L.length - k) 0 (by omega) (by simp) fun k hk => ?_
        by_cases hlt : k < L.length
        · have hfl := filter_le (fun d : Delta => decide ((valC ⟨ins, types, out⟩ d.time d.row).n = 1)) L k
          have hfs := filter_snoc (fun d : Delta => decide ((valC ⟨ins, types, out⟩ d.time d.row).n = 1)) L hlt
          have hvg : (runD ⟨ins, types, out⟩ L)[k]'(by omega) = valC ⟨ins, types, out⟩ L[k].time L[k].row := by unfold runD; simp
          have hk2 : k < (runD ⟨ins, types, out⟩ L).length := by omega
          have c3 := clone_g L[k].row (hr _ (List.getElem_mem _))
          by_cases hp : (valC ⟨ins, types, out⟩ L[k].time L[k].row).n = 1
          · rw [if_pos (by simpa using hp)] at hfs
            repeat' (first | ((first | ((with_reducible refine qo (fun hg => ?_) (fun hg => ?_)) <;> (try simp only [hg]) <;> (try simp only [beq_iff_eq, beq_eq_false_iff_ne, ne_eq, decide_eq_true_eq, decide_eq_false_iff_not, bne_iff_ne, bne_eq_false_iff_eq] at hg) <;> (try (first | simp only [eq_false hg, if_true, if_false] | simp only [eq_true hg, if_true, if_false]))) | (with_reducible first | refine qd ?_ | refine qc ?_ | refine qi ?_ | refine qh ?_) | refine acall (c3) ?_ | refine qv (c3) ?_ | refine qf ?_ | refine qj ?_ | refine qk ?_ | refine qn ?_) <;> (try simp (disch := first | omega | simp) [ql, -qu, -qx, hlt, hVl, hk2, hvg, hp])) | ((with_reducible first | refine sideG ?_ ?_ | refine qr ?_ ?_ | refine sideS ?_ ?_ | refine qs ?_ ?_ | refine qt ?_ ?_ | refine sideA ?_ ?_ | refine qp ?_ ?_ | refine qq ?_ ?_); first | omega | assumption | (simp; done)) | (refine qg fun K hK => ?_) | (refine qa ?_) | (refine qb true (by kernel_rfl) (by kernel_rfl) ?_) | (refine hK _ ?_; clear hK K) | (clear hK K; refine hK _ ?_; clear hK K) | (clear hK K; clear hK K; refine hK _ ?_; clear hK K) | refine qe ?_)
            all_goals first | exact absurd hp (by assumption) | (refine ⟨k + 1, by omega, by omega, ?_⟩; rw [hfs]; simp)
          · rw [if_neg (by simpa using hp)] at hfs
            repeat' (first | ((first | ((with_reducible refine qo (fun hg => ?_) (fun hg => ?_)) <;> (try simp only [hg]) <;> (try simp only [beq_iff_eq, beq_eq_false_iff_ne, ne_eq, decide_eq_true_eq, decide_eq_false_iff_not, bne_iff_ne, bne_eq_false_iff_eq] at hg) <;> (try (first | simp only [eq_false hg, if_true, if_false] | simp only [eq_true hg, if_true, if_false]))) | (with_reducible first | refine qd ?_ | refine qc ?_ | refine qi ?_ | refine qh ?_) | refine acall (c3) ?_ | refine qv (c3) ?_ | refine qf ?_ | refine qj ?_ | refine qk ?_ | refine qn ?_) <;> (try simp (disch := first | omega | simp) [ql, -qu, -qx, hlt, hVl, hk2, hvg, hp])) | ((with_reducible first | refine sideG ?_ ?_ | refine qr ?_ ?_ | refine sideS ?_ ?_ | refine qs ?_ ?_ | refine qt ?_ ?_ | refine sideA ?_ ?_ | refine qp ?_ ?_ | refine qq ?_ ?_); first | omega | assumption | (simp; done)) | (refine qg fun K hK => ?_) | (refine qa ?_) | (refine qb true (by kernel_rfl) (by kernel_rfl) ?_) | (refine hK _ ?_; clear hK K) | (clear hK K; refine hK _ ?_; clear hK K) | (clear hK K; clear hK K; refine hK _ ?_; clear hK K) | refine qe ?_)
            all_goals first | exact absurd (by assumption) hp | (refine ⟨k + 1, by omega, by omega, ?_⟩; rw [hfs]; simp)
        · obtain rfl : k = L.length := by omega
          rw [List.take_length]
          repeat' (first | ((first | ((with_reducible refine qo (fun hg => ?_) (fun hg => ?_)) <;> (try simp only [hg]) <;> (try simp only [beq_iff_eq, beq_eq_false_iff_ne, ne_eq, decide_eq_true_eq, decide_eq_false_iff_not, bne_iff_ne, bne_eq_false_iff_eq] at hg) <;> (try (first | simp only [eq_false hg, if_true, if_false] | simp only [eq_true hg, if_true, if_false]))) | (with_reducible first | refine qd ?_ | refine qc ?_ | refine qi ?_ | refine qh ?_) | refine qf ?_ | refine qj ?_ | refine qk ?_ | refine qn ?_) <;> (try simp (disch := first | omega | simp) [ql, -qu, -qx, hlt])) | ((with_reducible first | refine sideG ?_ ?_ | refine qr ?_ ?_ | refine sideS ?_ ?_ | refine qs ?_ ?_ | refine qt ?_ ?_ | refine sideA ?_ ?_ | refine qp ?_ ?_ | refine qq ?_ ?_); first | omega | assumption | (simp; done)) | (refine qg fun K hK => ?_) | (refine qa ?_) | (refine qb true (by kernel_rfl) (by kernel_rfl) ?_) | (refine hK _ ?_; clear hK K) | (clear hK K; refine hK _ ?_; clear hK K) | (clear hK K; clear hK K; refine hK _ ?_; clear hK K) | refine qe ?_)
          all_goals (rw [hR]; simp)
    · rw [if_pos ht] at hR
      refine qm Tryd.func15 Tryd.ntmps15 rfl rfl (by decide) rfl (by intro n; simp) fun σ n0 hcl hft => ?_
      repeat' (first | ((first | ((with_reducible refine qo (fun hg => ?_) (fun hg => ?_)) <;> (try simp only [hg]) <;> (try simp only [beq_iff_eq, beq_eq_false_iff_ne, ne_eq, decide_eq_true_eq, decide_eq_false_iff_not, bne_iff_ne, bne_eq_false_iff_eq] at hg) <;> (try (first | simp only [eq_false hg, if_true, if_false] | simp only [eq_true hg, if_true, if_false]))) | (with_reducible first | refine qd ?_ | refine qc ?_ | refine qi ?_ | refine qh ?_) | refine acall (c1) ?_ | refine qv (c1) ?_ | refine qf ?_ | refine qj ?_ | refine qk ?_ | refine qn ?_) <;> (try simp (disch := first | omega | simp) [ql, -qu, -qx, o0, o1, ht])) | ((with_reducible first | refine sideG ?_ ?_ | refine qr ?_ ?_ | refine sideS ?_ ?_ | refine qs ?_ ?_ | refine qt ?_ ?_ | refine sideA ?_ ?_ | refine qp ?_ ?_ | refine qq ?_ ?_); first | omega | assumption | (simp; done)) | (refine qg fun K hK => ?_) | (refine qa ?_) | (refine qb true (by kernel_rfl) (by kernel_rfl) ?_) | (refine hK _ ?_; clear hK K) | (clear hK K; refine hK _ ?_; clear hK K) | (clear hK K; clear hK K; refine hK _ ?_; clear hK K) | refine qe ?_)
      all_goals first | exact absurd (by assumption) ht | (rw [hR]; simp)
  · rw [if_pos hv] at hR
    refine qm Tryd.func15 Tryd.ntmps15 rfl rfl (by decide) rfl (by intro n; simp) fun σ n0 hcl hft => ?_
    repeat' (first | ((first | ((with_reducible refine qo (fun hg => ?_) (fun hg => ?_)) <;> (try simp only [hg]) <;> (try simp only [beq_iff_eq, beq_eq_false_iff_ne, ne_eq, decide_eq_true_eq, decide_eq_false_iff_not, bne_iff_ne, bne_eq_false_iff_eq] at hg) <;> (try (first | simp only [eq_false hg, if_true, if_false] | simp only [eq_true hg, if_true, if_false]))) | (with_reducible first | refine qd ?_ | refine qc ?_ | refine qi ?_ | refine qh ?_) | refine acall (c1) ?_ | refine qv (c1) ?_ | refine qf ?_ | refine qj ?_ | refine qk ?_ | refine qn ?_) <;> (try simp (disch := first | omega | simp) [ql, -qu, -qx, hv])) | ((with_reducible first | refine sideG ?_ ?_ | refine qr ?_ ?_ | refine sideS ?_ ?_ | refine qs ?_ ?_ | refine qt ?_ ?_ | refine sideA ?_ ?_ | refine qp ?_ ?_ | refine qq ?_ ?_); first | omega | assumption | (simp; done)) | (refine qg fun K hK => ?_) | (refine qa ?_) | (refine qb true (by kernel_rfl) (by kernel_rfl) ?_) | (refine hK _ ?_; clear hK K) | (clear hK K; refine hK _ ?_; clear hK K) | (clear hK K; clear hK K; refine hK _ ?_; clear hK K) | refine qe ?_)
    all_goals first | exact absurd (by assumption) hv | (rw [hR]; simp)
end Go.Proofs.YtnkakofcejkhiaaDoor

/- A list that is handed to a function as a slice is no longer than an int tells. -/
namespace Go.Proofs.YtnkakofcejkhiaaDoor
open Go.RowKit Go.Lib
theorem gives_len {P : Program} {f : FuncId} {l : List AV} {tl : List AV} {x : AV} (h : l.length ≤ 9223372036854775807 → Gives P f (.sl l :: tl) x) : Gives P f (.sl l :: tl) x := by
  intro σ X vals nx hS hσ hF hR
  have hl : l.length ≤ 9223372036854775807 := by
    obtain ⟨v, vs', -, h1, -⟩ := hR
    change RC X (.sl l) [v] at h1
    rw [RC] at h1
    obtain ⟨A, cap, b, off, -, h2, h3, -⟩ := h1
    omega
  exact h hl σ X vals nx hS hσ hF hR
end Go.Proofs.YtnkakofcejkhiaaDoor
