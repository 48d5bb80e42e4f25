/- Walks of layer 27: run, Run. -/
import Derived.Test.YtkedbjjfmejbhaaGreatDoorGe3
import Derived.Test.YtkedbjjfmejbhaaGreatDoorGe5
import Derived.Test.YtkedbjjfmejbhaaGreatDoorGe14
import Derived.Test.YtkedbjjfmejbhaaGreatDoorGe15
import Derived.Test.YtkedbjjfmejbhaaGreatDoorGe16
import Derived.Test.YtkedbjjfmejbhaaGreatDoorGe18
import Derived.Test.YtkedbjjfmejbhaaGreatDoorGe19
import Derived.Test.YtkedbjjfmejbhaaGreatDoorGe21
import Derived.Test.YtkedbjjfmejbhaaGreatDoorGe24
import Derived.Test.YtkedbjjfmejbhaaGreatDoorGe25
import Derived.Test.YtkedbjjfmejbhaaGreatDoorGe28
set_option linter.unusedSimpArgs false
set_option linter.unusedVariables false
namespace Go.Proofs.YtkedbjjfmejbhaaGreatDoor
open Go.RowKit Go.Lib
def kindF (n : Nat) : Nat := if n = 0 then 95 else if n = 1 then 96 else if n = 2 then 97 else 98
theorem qqn1 {x : Ins} (h : qbp x = true) : (opsP x).length = arO x.op := by
 rw [qhc, if_pos (qgc h)]
theorem ops1 {x : Ins} (h : qbp x = true) (ha : arO x.op = 1) : opsP x = [x.a] := by unfold opsP; rw [if_pos (qgc h), ha]; rfl
theorem ops2 {x : Ins} (h : qbp x = true) (ha : arO x.op = 2) : opsP x = [x.a, x.b] := by unfold opsP; rw [if_pos (qgc h), ha]; rfl
theorem ops3 {x : Ins} (h : qbp x = true) (ha : arO x.op = 3) : opsP x = [x.a, x.b, x.c] := by unfold opsP; rw [if_pos (qgc h), ha]; rfl
theorem ops0 {x : Ins} (h : qbp x = true) (ha : arO x.op = 0) : opsP x = [] := by unfold opsP; rw [if_pos (qgc h), ha]; rfl
theorem qms1 {cols : List Int} {R : List Val} (h : qbu cols R) : cols.length <= R.length := by
 obtain ⟨R0, R1, rfl, rfl, -⟩ := h
 simp
theorem qri1 {σ : Nat -> AB} {m v : Nat} {L : List Delta} {regs : List AV} {x : Ins} {cols types : List Int} {done : List Bool} (hM : Mach σ m v L regs) (hL : L.length <= 1000000) (hx : InsOk cols types done x) (Rg : Delta -> List Val)
  (hregs : ∀ r ∈ opsP x, regs[r.toNat]? = some (.sl ((L.map fun d => (Rg d).getD r.toNat zeroV).map Val.av))) (hs : ∀ d ∈ L, qfr types done (Rg d)) (hrow : ∀ d ∈ L, qbu cols d.row) :
  qbc Tryz.prog (kindF (arO x.op)) [.ptr m 0, x.av] σ (.sl (L.map fun d => (opI d.time d.row x (argsI (Rg d) x)).av)) := by
 have hop := hx.op
 have har : arO x.op = 0 \/ arO x.op = 1 \/ arO x.op = 2 \/ arO x.op = 3 := by have := qfx x.op; omega
 rcases har with h | h | h | h
 .have ho := ops0 hx.form h
  have hops : x.op = 0 \/ x.op = 1 \/ x.op = 2 \/ x.op = 3 \/ x.op = 5 := by unfold arO at h; split at h; omega; split at h; omega; split at h <;> omega
  rw [h]
  have hA : ∀ d, argsI (Rg d) x = [] := fun d => by unfold argsI; rw [ho]; rfl
  simp only [hA]
  exact qkl1 hM hL hops fun h3 d hd => by
   have := hx.col h3
   have := qms1 (hrow d hd)
   omega
 .have ho := ops1 hx.form h
  have hops : x.op = 6 \/ x.op = 7 \/ x.op = 20 := by unfold arO at h; split at h; omega; split at h; omega; split at h <;> omega
  rw [h]
  have hA : ∀ d, argsI (Rg d) x = [(Rg d).getD x.a.toNat zeroV] := fun d => by unfold argsI; rw [ho]; rfl
  simp only [hA]
  exact one_g hM hL hops (hx.args x.a (by rw [ho]; simp)).1 (hregs x.a (by rw [ho]; simp))
 .have ho := ops2 hx.form h
  have hops : 8 <= x.op /\ x.op <= 19 := by unfold arO at h; split at h; omega; split at h; omega; split at h <;> omega
  rw [h]
  have hA : ∀ d, argsI (Rg d) x = [(Rg d).getD x.a.toNat zeroV, (Rg d).getD x.b.toNat zeroV] := fun d => by unfold argsI; rw [ho]; rfl
  simp only [hA]
  refine two_g hM hL hops (hx.args x.a (by rw [ho]; simp)).1 (hregs x.a (by rw [ho]; simp)) (hx.args x.b (by rw [ho]; simp)).1 (hregs x.b (by rw [ho]; simp)) fun d hd => ?_
  have h1 := ((hs d hd).2.2 x.a.toNat (hx.args x.a (by rw [ho]; simp)).2.2).2.2
  have h2 := ((hs d hd).2.2 x.b.toNat (hx.args x.b (by rw [ho]; simp)).2.2).2.2
  omega
 .have ho := ops3 hx.form h
  have hops : x.op = 21 := by unfold arO at h; split at h; omega; split at h; omega; split at h <;> omega
  rw [h]
  have hA : ∀ d, argsI (Rg d) x = [(Rg d).getD x.a.toNat zeroV, (Rg d).getD x.b.toNat zeroV, (Rg d).getD x.c.toNat zeroV] := fun d => by unfold argsI; rw [ho]; rfl
  simp only [hA]
  exact qph1 hM hL hops (hx.args x.a (by rw [ho]; simp)).1 (hregs x.a (by rw [ho]; simp)) (hx.args x.b (by rw [ho]; simp)).1 (hregs x.b (by rw [ho]; simp)) (hx.args x.c (by rw [ho]; simp)).1 (hregs x.c (by rw [ho]; simp))
def ColV (a : AV) : Prop := a = .v (.slice none 0 0) \/ ∃ V : List Val, a = .sl (V.map Val.av)
theorem qck1 {regs : List AV} (h : ∀ a ∈ regs, ColV a) (n : Nat) : AV.cls n regs := AV.cls_iff.2 fun a ha => by
 rcases h a ha with rfl | ⟨V, rfl⟩ <;> simp
theorem qch1 (l : List Val) (hl : l.length <= 1000000) : Gives Tryz.prog 50 [.sl (l.map Val.av)] (.sl (l.map Val.av)) := by
 have hsz : l.length * 32 <= 140737488355328 := by omega
 refine qg Tryz.func50 Tryz.ntmps50 fun σ n0 hcl hft => ?_
 repeat' (first | ((first | ((with_reducible refine qj (fun hg => ?_) (fun hg => ?_)) <;> (try simp only [hg]) <;> (try simp only [gS] at hg) <;> (try (first | simp only [eq_false hg, gI] | simp only [eq_true hg, gI]))) | refine Stp.m ?_ | (with_reducible refine qgj ?_ (fun hnil => ?_); try simp only [hnil])) <;> (try simp (disch := first | omega | simp) [qc, -qe, -qi, hsz])) | with_reducible refine qef (id := 1) ?_ | refine sideA ?_ | refine qb fun K hK => ?_ | refine qa ?_ | refine qf ?_ | refine qd ?_ | (refine hK _ ?_; clear hK K) | clear hK K)
 all_goals simp_all
set_option maxHeartbeats 4000000 in
theorem run_g {c : Cod} {cols : List Int} (h : CodOk c cols) (L : List Delta) (hL : L.length <= 1000000) (hrow : ∀ d ∈ L, qbu cols d.row) : Gives Tryz.prog 52 [c.av, .sl (L.map Delta.av)] (.sl ((runD c L).map Val.av)) := by
 have c9 := qch1 (runD c L) (by unfold runD; rw [List.length_map]; exact hL)
 obtain ⟨ins, types, out⟩ := c
 have hsz : 24 * types.length <= 281474976710656 := by have := h.nt; simp only at this; omega
 have hni := h.ni
 simp only at hni
 refine qg Tryz.func52 Tryz.ntmps52 fun σ n0 hcl hft => ?_
 have hbm : ∀ n : Nat, n <= 3 -> [AV.bm 95 [.ptr (n0 + 2) 0]].length = 1 := fun _ _ => rfl
 repeat' (first | ((first | ((with_reducible refine qj (fun hg => ?_) (fun hg => ?_)) <;> (try simp only [hg]) <;> (try simp only [gS] at hg) <;> (try (first | simp only [eq_false hg, gI] | simp only [eq_true hg, gI]))) | refine Stp.m ?_) <;> (try simp (disch := first | omega | simp) [qc, -qe, -qi, hsz])) | refine sideA ?_ | refine qb fun K hK => ?_ | refine qa ?_ | refine qf ?_ | refine qd ?_ | (refine hK _ ?_; clear hK K) | clear hK K)
 refine qk hcl (fun b : Nat × List AV => [(2, .ptr n0 0), (5, .ptr (n0 + 2) 0), (6, .sl [.bm 95 [.ptr (n0 + 2) 0], .bm 96 [.ptr (n0 + 2) 0], .bm 97 [.ptr (n0 + 2) 0], .bm 98 [.ptr (n0 + 2) 0]]), (26, .sl (ins.map Ins.av)), (27, .int ins.length), (28, .int b.1)])
  (fun b => [.cells [.sl (ins.map Ins.av), .sl (types.map AV.int), .int out] 39, .vec b.2 53 1, .cells [.sl (L.map Delta.av), .own (n0 + 1) types.length] 159])
  (fun b => b.1 <= ins.length /\ b.2.length = types.length /\ (∀ a ∈ b.2, ColV a) /\ ∀ r : Nat, (doneL (ins.take b.1) (List.replicate types.length false)).getD r false = true -> b.2[r]? = some (.sl ((colD L (ins.take b.1) types.length r).map Val.av)))
  (fun b => ins.length - b.1) (0, List.replicate types.length (.v (.slice none 0 0))) ⟨by omega, by simp, fun a ha => .inl (List.mem_replicate.1 ha).2, fun r hr => (qme hr).elim⟩ (by simp) fun ⟨k, G⟩ ⟨hk1, hG, hCol, hR⟩ => ?_
 simp only at hk1 hG hCol hR
 have hcl1 : ∀ n, AV.cls n G := qck1 hCol
 by_cases hlt : k < ins.length
 .have hx := AllOk.at ins k _ hlt h.all
  have hM : Mach (loc σ n0 [.cells [.sl (ins.map Ins.av), .sl (types.map AV.int), .int out] 39, .vec G 53 1, .cells [.sl (L.map Delta.av), .own (n0 + 1) types.length] 159, .cells [.int ins[k].op, .int ins[k].tgt, .int ins[k].a, .int ins[k].b, .int ins[k].c, .int ins[k].n, .str ins[k].s] 58]) (n0 + 2) (n0 + 1) L G := ⟨by simp [hG], by simp⟩
  have c1 := qri1 hM hL hx (fun d => regsI d.time d.row (ins.take k) (List.replicate types.length zeroV)) (fun r hr => hR r.toNat (hx.args r hr).2.2)
   (fun d hd => AllOk.regs (hrow d hd) d.time (ins.take k) (AllOk.take ins k _ h.all) (qkg types)) hrow
  have c2 := ops_g ins[k]
  have hol := qqn1 hx.form
  have t0 := hx.to0
  have t1 : ins[k].tgt < types.length := hx.to1
  have har : arO ins[k].op = 0 \/ arO ins[k].op = 1 \/ arO ins[k].op = 2 \/ arO ins[k].op = 3 := by have := qfx ins[k].op; omega
  have hti : tinfo Tryz.prog 160 = some (false, 1) := by kernel_rfl
  have hrd : ∀ (τ : Nat -> AB) (f : Nat) (l : List AV), rdAt τ false 1 (.ep (.bm f l) 0) = some (.bm f l) := fun _ _ _ => rfl
  have fin : ∃ a b, (a <= ins.length /\ b.length = types.length /\ (∀ x ∈ b, ColV x) /\ ∀ r : Nat, (doneL (ins.take a) (List.replicate types.length false)).getD r false = true -> b[r]? = some (.sl ((colD L (ins.take a) types.length r).map Val.av))) /\ ins.length - a < ins.length - k /\
    G.set ins[k].tgt.toNat (.sl (L.map fun d => (opI d.time d.row ins[k] (argsI (regsI d.time d.row (ins.take k) (List.replicate types.length zeroV)) ins[k])).av)) = b /\ (k : Int) + 1 = a := by
   have htk : ins.take (k + 1) = ins.take k ++ [ins[k]] := List.take_succ_eq_append_getElem hlt
   have hRl : ∀ d : Delta, (regsI d.time d.row (ins.take k) (List.replicate types.length zeroV)).length = types.length := fun d => by
    have : ∀ (l : List Ins) (R : List Val), (regsI d.time d.row l R).length = R.length := fun l => by
     induction l with
     | nil => intro R; rfl
     | cons x l ih => intro R; show (regsI d.time d.row l (stepI d.time d.row R x)).length = _; rw [ih]; unfold stepI; rw [List.length_set]
    rw [this]; simp
   refine ⟨k + 1, _, ⟨by omega, by rw [List.length_set]; exact hG, fun a ha => ?_, fun r hr => ?_⟩, by omega, rfl, by omega⟩
   .rcases List.mem_or_eq_of_mem_set ha with ha | rfl
    .exact hCol a ha
    .exact .inr ⟨L.map fun d => opI d.time d.row ins[k] (argsI (regsI d.time d.row (ins.take k) (List.replicate types.length zeroV)) ins[k]), by rw [List.map_map]; rfl⟩
   .rw [htk, qjh, qq] at hr
    have hcol : ∀ r, colD L (ins.take (k + 1)) types.length r = L.map fun d => if ins[k].tgt.toNat = r then opI d.time d.row ins[k] (argsI (regsI d.time d.row (ins.take k) (List.replicate types.length zeroV)) ins[k]) else (regsI d.time d.row (ins.take k) (List.replicate types.length zeroV)).getD r zeroV := fun r => by
     unfold colD
     refine List.map_congr_left fun d _ => ?_
     rw [htk, qaz1, stepI, qq]
     by_cases he : ins[k].tgt.toNat = r
     .rw [if_pos ⟨he, by rw [hRl]; omega⟩, if_pos he]
     .rw [if_neg (fun h => he h.1), if_neg he]
    rw [hcol r]
    by_cases he : ins[k].tgt.toNat = r
    .subst he
     rw [List.getElem?_set_self (by omega)]
     simp only [if_true]
     rw [List.map_map]; rfl
    .rw [if_neg (fun h => he h.1)] at hr
     rw [List.getElem?_set_ne he, hR r hr]
     simp only [he, if_false]
     rfl
  rcases har with ha | ha | ha | ha <;> rcases hCol _ (List.getElem_mem (show ins[k].tgt.toNat < G.length by omega)) with hgv | ⟨V, hgv⟩
  all_goals
   rw [ha] at hol c1
   repeat' (first | ((first | ((with_reducible refine qj (fun hg => ?_) (fun hg => ?_)) <;> (try simp only [hg]) <;> (try simp only [gS] at hg) <;> (try (first | simp only [eq_false hg, gI] | simp only [eq_true hg, gI]))) | refine Stp.m ?_ | refine qh ?_ | refine agH ?_ | refine qbk (c2) ?_ | refine qbk (c1) ?_) <;> (try simp (disch := first | omega | simp) [qc, -qe, -qi, hlt, hG, hol, t0, t1, hcl1, hti, hrd, hgv])) | with_reducible refine qpm (id := 6) [.cells [.sl (ins.map Ins.av), .sl (types.map AV.int), .int out] 39, .unborn, .cells [.sl (L.map Delta.av), .own (n0 + 1) types.length] 159, .cells [.int ins[k].op, .int ins[k].tgt, .int ins[k].a, .int ins[k].b, .int ins[k].c, .int ins[k].n, .str ins[k].s] 58] [.R, .R, .R, .R, .R, .R, .R, .R, .M, .R, .R, .R, .R, .W, .W, .W] (by kernel_rfl) (by kernel_rfl) (by simp) ?_ | refine sideA ?_ | refine qb fun K hK => ?_ | refine qa ?_ | refine qf ?_ | refine qd ?_ | (refine hK _ ?_; clear hK K) | clear hK K)
   obtain ⟨a, b, ⟨f1, f2, f3, f4⟩, f5, f6, f7⟩ := fin
   exact ⟨a, b, ⟨f1, f2, f3, fun r hr => f4 r (by rw [List.getD_eq_getElem?_getD]; exact hr)⟩, f5, f6, qck1 f3 _, f7⟩
 .obtain rfl : k = ins.length := by omega
  rw [List.take_length] at hR
  have ho : G[out.toNat]? = some (.sl ((runD ⟨ins, types, out⟩ L).map Val.av)) := hR out.toNat h.out2
  have o0 : 0 <= out := h.out0
  have o1 : out < types.length := h.out1
  have ho2 : G[out.toNat]'(by omega) = .sl ((runD ⟨ins, types, out⟩ L).map Val.av) := (List.getElem?_eq_some_iff.1 ho).2
  repeat' (first | ((first | ((with_reducible refine qj (fun hg => ?_) (fun hg => ?_)) <;> (try simp only [hg]) <;> (try simp only [gS] at hg) <;> (try (first | simp only [eq_false hg, gI] | simp only [eq_true hg, gI]))) | refine Stp.m ?_ | refine qh ?_ | refine agH ?_ | refine qbk (c9) ?_) <;> (try simp (disch := first | omega | simp) [qc, -qe, -qi, hlt, hG, hcl1, o0, o1, ho2])) | refine sideA ?_ | refine qb fun K hK => ?_ | refine qa ?_ | refine qf ?_ | refine qd ?_ | (refine hK _ ?_; clear hK K) | clear hK K)
set_option maxHeartbeats 4000000 in
theorem Run_g (c : Cod) (cols : List Int) (L : List Delta) (hc : cols.length <= 1000000) (hL : L.length <= 1000000) (hr : ∀ d ∈ L, d.row.length <= 1000000) :
  Gives Tryz.prog 15 [c.av, .sl (cols.map AV.int), .sl (L.map Delta.av)] (.tup [.sl ((runP c cols L).1.map Val.av), .int (runP c cols L).2]) := by
 have c1 := qrg c cols hc
 have c2 := qlf1 cols L hc hL hr
 obtain ⟨R, hR⟩ : ∃ R, R = runP c cols L := ⟨_, rfl⟩
 rw [<- hR]
 unfold runP at hR
 by_cases hv : (verP c cols).2 = 0
 .rw [if_neg (by omega)] at hR
  rw [hv] at c1
  cases hf : fitsD cols L
  .rw [hf] at c2 hR
   rw [if_pos rfl] at hR
   refine qg Tryz.func15 Tryz.ntmps15 fun σ n0 hcl hft => ?_
   repeat' (first | ((first | ((with_reducible refine qj (fun hg => ?_) (fun hg => ?_)) <;> (try simp only [hg]) <;> (try simp only [gS] at hg) <;> (try (first | simp only [eq_false hg, gI] | simp only [eq_true hg, gI]))) | refine Stp.m ?_ | refine qh ?_ | refine agH ?_) <;> (try simp (disch := first | omega | simp) [qc, -qe, -qi])) | refine sideA ?_ | refine qb fun K hK => ?_ | refine qa ?_ | refine qf ?_ | refine qd ?_ | (refine hK _ ?_; clear hK K) | clear hK K)
   all_goals (rw [hR]; simp)
  .rw [hf] at c2 hR
   rw [if_neg (by simp)] at hR
   have c3 := run_g (qrf.1 hv) L hL fun d hd => qlt hf hd
   rw [hR]
   refine qg Tryz.func15 Tryz.ntmps15 fun σ n0 hcl hft => ?_
   repeat' (first | ((first | ((with_reducible refine qj (fun hg => ?_) (fun hg => ?_)) <;> (try simp only [hg]) <;> (try simp only [gS] at hg) <;> (try (first | simp only [eq_false hg, gI] | simp only [eq_true hg, gI]))) | refine Stp.m ?_ | refine qh ?_ | refine agH ?_) <;> (try simp (disch := first | omega | simp) [qc, -qe, -qi])) | refine sideA ?_ | refine qb fun K hK => ?_ | refine qa ?_ | refine qf ?_ | refine qd ?_ | (refine hK _ ?_; clear hK K) | clear hK K)
 .rw [if_pos hv] at hR
  rw [hR]
  refine qg Tryz.func15 Tryz.ntmps15 fun σ n0 hcl hft => ?_
  repeat' (first | ((first | ((with_reducible refine qj (fun hg => ?_) (fun hg => ?_)) <;> (try simp only [hg]) <;> (try simp only [gS] at hg) <;> (try (first | simp only [eq_false hg, gI] | simp only [eq_true hg, gI]))) | refine Stp.m ?_ | refine qh ?_ | refine agH ?_) <;> (try simp (disch := first | omega | simp) [qc, -qe, -qi, hv])) | refine sideA ?_ | refine qb fun K hK => ?_ | refine qa ?_ | refine qf ?_ | refine qd ?_ | (refine hK _ ?_; clear hK K) | clear hK K)
  all_goals exact absurd (by assumption) hv
set_option maxHeartbeats 4000000 in
theorem qsw1 (c : Cod) (rows : Int) (hr : rows <= 9223372036854775807) (hn : c.ins.length <= 1000000) : Gives Tryz.prog 18 [c.av, .int rows] (.int (workP c rows)) := by
 obtain ⟨R, hR⟩ : ∃ R, R = workP c rows := ⟨_, rfl⟩
 rw [<- hR]
 unfold workP at hR
 by_cases h1 : rows <= 0 \/ c.ins.length = 0
 .rw [if_pos h1] at hR
  subst hR
  refine qg Tryz.func18 Tryz.ntmps18 fun σ n0 hcl hft => ?_
  repeat' (first | ((first | ((with_reducible refine qj (fun hg => ?_) (fun hg => ?_)) <;> (try simp only [hg]) <;> (try simp only [gS] at hg) <;> (try (first | simp only [eq_false hg, gI] | simp only [eq_true hg, gI]))) | refine Stp.m ?_) <;> (try simp (disch := first | omega | simp) [qc, -qe, -qi])) | refine sideA ?_ | refine qb fun K hK => ?_ | refine qa ?_ | refine qf ?_ | refine qd ?_ | (refine hK _ ?_; clear hK K) | clear hK K)
  all_goals first | rfl | omega
 .rw [if_neg h1] at hR
  have h2 : ¬ rows <= 0 := by omega
  have h3 : ¬ c.ins.length = 0 := by omega
  have h4 : ¬ (c.ins.length : Int) = 0 := by omega
  have hd : (1099511627776 : Int).tdiv (c.ins.length : Int) = 1099511627776 / (c.ins.length : Int) := Int.tdiv_eq_ediv_of_nonneg (by omega)
  have hq0 : 0 <= 1099511627776 / (c.ins.length : Int) := Int.ediv_nonneg (by omega) (by omega)
  have hq1 : 1099511627776 / (c.ins.length : Int) <= 1099511627776 := Int.ediv_le_self _ (by omega)
  have hq2 : (c.ins.length : Int) * (1099511627776 / (c.ins.length : Int)) <= 1099511627776 := Int.mul_ediv_self_le (by omega)
  generalize hq : 1099511627776 / (c.ins.length : Int) = q at *
  by_cases h5 : q < rows
  .rw [if_pos h5] at hR
   subst hR
   refine qg Tryz.func18 Tryz.ntmps18 fun σ n0 hcl hft => ?_
   repeat' (first | ((first | ((with_reducible refine qj (fun hg => ?_) (fun hg => ?_)) <;> (try simp only [hg]) <;> (try simp only [gS] at hg) <;> (try (first | simp only [eq_false hg, gI] | simp only [eq_true hg, gI]))) | refine Stp.m ?_) <;> (try simp (disch := first | omega | simp) [qc, -qe, -qi, h2, h3, h4, hd, h5])) | refine sideA ?_ | refine qb fun K hK => ?_ | refine qa ?_ | refine qf ?_ | refine qd ?_ | (refine hK _ ?_; clear hK K) | clear hK K)
   all_goals (exfalso; omega)
  .rw [if_neg h5] at hR
   have hm0 : 0 <= (c.ins.length : Int) * rows := Int.mul_nonneg (by omega) (by omega)
   have hm : (c.ins.length : Int) * rows <= 1099511627776 := Int.le_trans (Int.mul_le_mul_of_nonneg_left (by omega) (by omega)) hq2
   subst hR
   refine qg Tryz.func18 Tryz.ntmps18 fun σ n0 hcl hft => ?_
   repeat' (first | ((first | ((with_reducible refine qj (fun hg => ?_) (fun hg => ?_)) <;> (try simp only [hg]) <;> (try simp only [gS] at hg) <;> (try (first | simp only [eq_false hg, gI] | simp only [eq_true hg, gI]))) | refine Stp.m ?_) <;> (try simp (disch := first | omega | simp) [qc, -qe, -qi, h2, h3, h4, hd, h5])) | refine sideA ?_ | refine qb fun K hK => ?_ | refine qa ?_ | refine qf ?_ | refine qd ?_ | (refine hK _ ?_; clear hK K) | clear hK K)
   all_goals (exfalso; omega)
def selP (c : Cod) (cols : List Int) (l : List Delta) : List Delta × Int :=
 if (verP c cols).2 ≠ 0 then ([], (verP c cols).2) else if c.types.getD c.out.toNat 0 ≠ 2 then ([], 13) else if fitsD cols l = false then ([], 16)
 else (l.filter fun d => decide ((valC c d.time d.row).n = 1), 0)
theorem qvq {α : Type} (p : α -> Bool) (l : List α) {k : Nat} (h : k < l.length) : (l.take (k + 1)).filter p = if p l[k] then (l.take k).filter p ++ [l[k]] else (l.take k).filter p := by
 rw [List.take_succ_eq_append_getElem h, List.filter_append]
 cases hp : p l[k] <;> simp [hp]
theorem qde1 {α : Type} (p : α -> Bool) (l : List α) (k : Nat) : ((l.take k).filter p).length <= k := by
 have := List.length_filter_le p (l.take k)
 rw [List.length_take] at this; omega
set_option maxHeartbeats 4000000 in
theorem qww (c : Cod) (cols : List Int) (L : List Delta) (hc : cols.length <= 1000000) (hL : L.length <= 1000000) (hr : ∀ d ∈ L, d.row.length <= 1000000) :
  Gives Tryz.prog 11 [c.av, .sl (cols.map AV.int), .sl (L.map Delta.av)] (.tup [.sl ((selP c cols L).1.map Delta.av), .int (selP c cols L).2]) := by
 have c1 := qrg c cols hc
 have c2 := Run_g c cols L hc hL hr
 obtain ⟨R, hR⟩ : ∃ R, R = selP c cols L := ⟨_, rfl⟩
 rw [<- hR]
 unfold selP at hR
 unfold runP at c2
 obtain ⟨ins, types, out⟩ := c
 by_cases hv : (verP ⟨ins, types, out⟩ cols).2 = 0
 .rw [if_neg (by omega)] at hR c2
  have hok := qrf.1 hv
  rw [hv] at c1
  have o0 : 0 <= out := hok.out0
  have o1 : out < types.length := hok.out1
  have hty : types.getD out.toNat 0 = types[out.toNat]'(by omega) := by rw [List.getD_eq_getElem?_getD, List.getElem?_eq_getElem (by omega)]; rfl
  simp only at hR
  rw [hty] at hR
  by_cases ht : types[out.toNat]'(by omega) = 2
  .rw [if_neg (by omega)] at hR
   cases hf : fitsD cols L
   .rw [hf] at c2 hR
    rw [if_pos rfl] at c2 hR
    refine qg Tryz.func11 Tryz.ntmps11 fun σ n0 hcl hft => ?_
    repeat' (first | ((first | ((with_reducible refine qj (fun hg => ?_) (fun hg => ?_)) <;> (try simp only [hg]) <;> (try simp only [gS] at hg) <;> (try (first | simp only [eq_false hg, gI] | simp only [eq_true hg, gI]))) | refine Stp.m ?_ | refine qh ?_ | refine agH ?_) <;> (try simp (disch := first | omega | simp) [qc, -qe, -qi, o0, o1, ht])) | refine sideA ?_ | refine qb fun K hK => ?_ | refine qa ?_ | refine qf ?_ | refine qd ?_ | (refine hK _ ?_; clear hK K) | clear hK K)
    all_goals (rw [hR]; simp)
   .rw [hf] at c2 hR
    rw [if_neg (by simp)] at c2 hR
    have hVl : (runD ⟨ins, types, out⟩ L).length = L.length := by unfold runD; simp
    refine qg Tryz.func11 Tryz.ntmps11 fun σ n0 hcl hft => ?_
    repeat' (first | ((first | ((with_reducible refine qj (fun hg => ?_) (fun hg => ?_)) <;> (try simp only [hg]) <;> (try simp only [gS] at hg) <;> (try (first | simp only [eq_false hg, gI] | simp only [eq_true hg, gI]))) | refine Stp.m ?_ | refine qh ?_ | refine agH ?_) <;> (try simp (disch := first | omega | simp) [qc, -qe, -qi, o0, o1, ht])) | refine sideA ?_ | refine qb fun K hK => ?_ | refine qa ?_ | refine qf ?_ | refine qd ?_ | (refine hK _ ?_; clear hK K) | clear hK K)
    refine qbn 12 55 3 (by simp) ?_
    refine qk hcl (fun k : Nat => [(10, .sl ((runD ⟨ins, types, out⟩ L).map Val.av)), (12, .gs (n0 + 1) (((L.take k).filter fun d => decide ((valC ⟨ins, types, out⟩ d.time d.row).n = 1)).map Delta.av)), (41, .sl (L.map Delta.av)), (42, .int L.length), (43, .int k)])
     (fun k => [.cells [.sl (ins.map Ins.av), .sl (types.map AV.int), .int out] 39, .tail ((L.take k).filter fun d => decide ((valC ⟨ins, types, out⟩ d.time d.row).n = 1)).length 55 3])
     (fun k => k <= L.length) (fun k => L.length - k) 0 (by omega) (by simp) fun k hk => ?_
    by_cases hlt : k < L.length
    .have hfl := qde1 (fun d : Delta => decide ((valC ⟨ins, types, out⟩ d.time d.row).n = 1)) L k
     have hfs := qvq (fun d : Delta => decide ((valC ⟨ins, types, out⟩ d.time d.row).n = 1)) L hlt
     have hvg : (runD ⟨ins, types, out⟩ L)[k]'(by omega) = valC ⟨ins, types, out⟩ L[k].time L[k].row := by unfold runD; simp
     have hk2 : k < (runD ⟨ins, types, out⟩ L).length := by omega
     have c3 := qch1 L[k].row (hr _ (List.getElem_mem _))
     by_cases hp : (valC ⟨ins, types, out⟩ L[k].time L[k].row).n = 1
     .rw [if_pos (by simpa using hp)] at hfs
      repeat' (first | ((first | ((with_reducible refine qj (fun hg => ?_) (fun hg => ?_)) <;> (try simp only [hg]) <;> (try simp only [gS] at hg) <;> (try (first | simp only [eq_false hg, gI] | simp only [eq_true hg, gI]))) | refine Stp.m ?_ | refine qh ?_ | refine agH ?_) <;> (try simp (disch := first | omega | simp) [qc, -qe, -qi, hlt, hVl, hk2, hvg, hp])) | refine sideA ?_ | refine qb fun K hK => ?_ | refine qa ?_ | refine qf ?_ | refine qd ?_ | (refine hK _ ?_; clear hK K) | clear hK K)
      all_goals first | exact absurd hp (by assumption) | (refine ⟨k + 1, by omega, by omega, ?_⟩; rw [hfs]; simp)
     .rw [if_neg (by simpa using hp)] at hfs
      repeat' (first | ((first | ((with_reducible refine qj (fun hg => ?_) (fun hg => ?_)) <;> (try simp only [hg]) <;> (try simp only [gS] at hg) <;> (try (first | simp only [eq_false hg, gI] | simp only [eq_true hg, gI]))) | refine Stp.m ?_ | refine qh ?_ | refine agH ?_) <;> (try simp (disch := first | omega | simp) [qc, -qe, -qi, hlt, hVl, hk2, hvg, hp])) | refine sideA ?_ | refine qb fun K hK => ?_ | refine qa ?_ | refine qf ?_ | refine qd ?_ | (refine hK _ ?_; clear hK K) | clear hK K)
      all_goals first | exact absurd (by assumption) hp | (refine ⟨k + 1, by omega, by omega, ?_⟩; rw [hfs]; simp)
    .obtain rfl : k = L.length := by omega
     rw [List.take_length]
     repeat' (first | ((first | ((with_reducible refine qj (fun hg => ?_) (fun hg => ?_)) <;> (try simp only [hg]) <;> (try simp only [gS] at hg) <;> (try (first | simp only [eq_false hg, gI] | simp only [eq_true hg, gI]))) | refine Stp.m ?_) <;> (try simp (disch := first | omega | simp) [qc, -qe, -qi, hlt])) | refine sideA ?_ | refine qb fun K hK => ?_ | refine qa ?_ | refine qf ?_ | refine qd ?_ | (refine hK _ ?_; clear hK K) | clear hK K)
     all_goals (rw [hR]; simp)
  .rw [if_pos ht] at hR
   refine qg Tryz.func11 Tryz.ntmps11 fun σ n0 hcl hft => ?_
   repeat' (first | ((first | ((with_reducible refine qj (fun hg => ?_) (fun hg => ?_)) <;> (try simp only [hg]) <;> (try simp only [gS] at hg) <;> (try (first | simp only [eq_false hg, gI] | simp only [eq_true hg, gI]))) | refine Stp.m ?_ | refine qh ?_ | refine agH ?_) <;> (try simp (disch := first | omega | simp) [qc, -qe, -qi, o0, o1, ht])) | refine sideA ?_ | refine qb fun K hK => ?_ | refine qa ?_ | refine qf ?_ | refine qd ?_ | (refine hK _ ?_; clear hK K) | clear hK K)
   all_goals first | exact absurd (by assumption) ht | (rw [hR]; simp)
 .rw [if_pos hv] at hR
  refine qg Tryz.func11 Tryz.ntmps11 fun σ n0 hcl hft => ?_
  repeat' (first | ((first | ((with_reducible refine qj (fun hg => ?_) (fun hg => ?_)) <;> (try simp only [hg]) <;> (try simp only [gS] at hg) <;> (try (first | simp only [eq_false hg, gI] | simp only [eq_true hg, gI]))) | refine Stp.m ?_ | refine qh ?_ | refine agH ?_) <;> (try simp (disch := first | omega | simp) [qc, -qe, -qi, hv])) | refine sideA ?_ | refine qb fun K hK => ?_ | refine qa ?_ | refine qf ?_ | refine qd ?_ | (refine hK _ ?_; clear hK K) | clear hK K)
  all_goals first | exact absurd (by assumption) hv | (rw [hR]; simp)
theorem qgx1 (a b : Int) : Gives Tryz.prog 14 [.int a, .int b] (Delta.av ⟨1, [⟨0, a, ByteArray.empty⟩, ⟨0, b, ByteArray.empty⟩], 1⟩) := by
 refine qg Tryz.func14 Tryz.ntmps14 fun σ n0 hcl hft => ?_
 repeat' (first | ((first | ((with_reducible refine qj (fun hg => ?_) (fun hg => ?_)) <;> (try simp only [hg]) <;> (try simp only [gS] at hg) <;> (try (first | simp only [eq_false hg, gI] | simp only [eq_true hg, gI]))) | refine Stp.m ?_) <;> (try simp (disch := first | omega | simp) [qc, -qe, -qi])) | refine sideA ?_ | refine qb fun K hK => ?_ | refine qa ?_ | refine qf ?_ | refine qd ?_ | (refine hK _ ?_; clear hK K) | clear hK K)
 all_goals rfl
structure Light (c : Cod) (cols : List Int) (l : List Delta) : Prop where
 ni : c.ins.length <= 100
 nt : c.types.length <= 100
 nc : cols.length <= 20
 nl : l.length <= 30
 row : ∀ d ∈ l, d.row.length <= 15
 ss : ∀ x ∈ c.ins, x.s.size <= 300
set_option maxHeartbeats 4000000 in
theorem qfq1 (L : List Delta) (hL : L.length <= 1000000) (hr : ∀ d ∈ L, d.row.length <= 1000000) : Gives Tryz.prog 17 [.sl (L.map Delta.av), .sl (L.map Delta.av)] (.bool true) := by
 refine qg Tryz.func17 Tryz.ntmps17 fun σ n0 hcl hft => ?_
 repeat' (first | ((first | ((with_reducible refine qj (fun hg => ?_) (fun hg => ?_)) <;> (try simp only [hg]) <;> (try simp only [gS] at hg) <;> (try (first | simp only [eq_false hg, gI] | simp only [eq_true hg, gI]))) | refine Stp.m ?_) <;> (try simp (disch := first | omega | simp) [qc, -qe, -qi])) | refine sideA ?_ | refine qb fun K hK => ?_ | refine qa ?_ | refine qf ?_ | refine qd ?_ | (refine hK _ ?_; clear hK K) | clear hK K)
 refine qk hcl (fun k : Nat => [(0, .sl (L.map Delta.av)), (1, .sl (L.map Delta.av)), (5, .int k)]) (fun _ => [])
  (fun k => k <= L.length) (fun k => L.length - k) 0 (by simp) (by simp) fun k hk => ?_
 by_cases hlt : k < L.length
 .have c1 := qty L[k].row (hr _ (List.getElem_mem _))
  repeat' (first | ((first | ((with_reducible refine qj (fun hg => ?_) (fun hg => ?_)) <;> (try simp only [hg]) <;> (try simp only [gS] at hg) <;> (try (first | simp only [eq_false hg, gI] | simp only [eq_true hg, gI]))) | refine Stp.m ?_ | refine qh ?_ | refine agH ?_) <;> (try simp (disch := first | omega | simp) [qc, -qe, -qi, hlt])) | refine sideA ?_ | refine qb fun K hK => ?_ | refine qa ?_ | refine qf ?_ | refine qd ?_ | (refine hK _ ?_; clear hK K) | clear hK K)
  exact ⟨k + 1, by omega, by omega, by simp⟩
 .repeat' (first | ((first | ((with_reducible refine qj (fun hg => ?_) (fun hg => ?_)) <;> (try simp only [hg]) <;> (try simp only [gS] at hg) <;> (try (first | simp only [eq_false hg, gI] | simp only [eq_true hg, gI]))) | refine Stp.m ?_) <;> (try simp (disch := first | omega | simp) [qc, -qe, -qi, hlt])) | refine sideA ?_ | refine qb fun K hK => ?_ | refine qa ?_ | refine qf ?_ | refine qd ?_ | (refine hK _ ?_; clear hK K) | clear hK K)
def sumC : Cod := ⟨[⟨3, 0, 0, 0, 0, 0, ByteArray.empty⟩, ⟨3, 1, 0, 0, 0, 1, ByteArray.empty⟩, ⟨8, 2, 0, 1, 0, 0, ByteArray.empty⟩], [0, 0, 0], 2⟩
def lessC : Cod := ⟨[⟨3, 0, 0, 0, 0, 0, ByteArray.empty⟩, ⟨3, 1, 0, 0, 0, 1, ByteArray.empty⟩, ⟨15, 2, 0, 1, 0, 0, ByteArray.empty⟩], [0, 0, 2], 2⟩
def twoL : List Delta := [⟨1, [⟨0, 1, ByteArray.empty⟩, ⟨0, 2, ByteArray.empty⟩], 1⟩, ⟨1, [⟨0, 5, ByteArray.empty⟩, ⟨0, 4, ByteArray.empty⟩], 1⟩]
theorem qpe1 : runP sumC [0, 0] twoL = ([⟨0, 3, ByteArray.empty⟩, ⟨0, 9, ByteArray.empty⟩], 0) := by kernel_rfl
theorem qjk1 : selP lessC [0, 0] twoL = ([⟨1, [⟨0, 1, ByteArray.empty⟩, ⟨0, 2, ByteArray.empty⟩], 1⟩], 0) := by kernel_rfl
theorem qko1 : workP sumC 5 = 15 := by kernel_rfl
set_option maxHeartbeats 4000000 in
theorem qgc1 : Gives Tryz.prog 4 [] (.bool true) := by
 have c1 := Run_g sumC [0, 0] twoL (by decide) (by decide) (by decide)
 have c2 := qww lessC [0, 0] twoL (by decide) (by decide) (by decide)
 have c3 := qsw1 sumC 5 (by decide) (by decide)
 have c4 := qgx1 1 2
 have c5 := qgx1 5 4
 have c6 := qty [⟨0, 3, ByteArray.empty⟩, ⟨0, 9, ByteArray.empty⟩] (by decide)
 have c7 := qfq1 [⟨1, [⟨0, 1, ByteArray.empty⟩, ⟨0, 2, ByteArray.empty⟩], 1⟩] (by decide) (by decide)
 rw [qpe1] at c1
 rw [qjk1] at c2
 rw [qko1] at c3
 simp only [sumC, lessC, twoL, Cod.av, Ins.av, Delta.av, Val.av, List.map_cons, List.map_nil] at c1 c2 c3 c4 c5 c6 c7
 refine qg Tryz.func4 Tryz.ntmps4 fun σ n0 hcl hft => ?_
 repeat' (first | ((first | ((with_reducible refine qj (fun hg => ?_) (fun hg => ?_)) <;> (try simp only [hg]) <;> (try simp only [gS] at hg) <;> (try (first | simp only [eq_false hg, gI] | simp only [eq_true hg, gI]))) | refine Stp.m ?_ | refine qh ?_ | refine agH ?_) <;> (try simp (disch := first | omega | simp) [qc, -qe, -qi])) | refine sideA ?_ | refine qb fun K hK => ?_ | refine qa ?_ | refine qf ?_ | refine qd ?_ | (refine hK _ ?_; clear hK K) | clear hK K)

abbrev opR (time : Int) (R : List Val) (op n : Int) (s : ByteArray) (vs : List Val) : Val := opV (fun _ _ => zeroV) time R [] op n s vs



def qkb (cols : List Int) : List Cod -> Int
 | [] => 0
 | c :: l => if (verP c cols).2 ≠ 0 then (verP c cols).2 else qkb cols l
def projD (cs : List Cod) (L : List Delta) : List Delta := L.map fun d => ⟨d.time, cs.map fun c => valC c d.time d.row, d.n⟩
def projP (cs : List Cod) (cols : List Int) (L : List Delta) : List Delta × Int :=
 if cs.length = 0 \/ 12 < cs.length then ([], 1) else if qkb cols cs ≠ 0 then ([], qkb cols cs) else if fitsD cols L = false then ([], 16) else (projD cs L, 0)
theorem qsq (cols : List Int) : ∀ (l : List Cod) (k : Nat) (h : k < l.length), (∀ j (hj : j < l.length), j < k -> (verP l[j] cols).2 = 0) -> (verP l[k] cols).2 ≠ 0 -> qkb cols l = (verP l[k] cols).2
 | c :: l, 0, _, _, h2 => by
  have h3 : (verP c cols).2 ≠ 0 := h2
  rw [qkb, if_pos h3]; rfl
 | c :: l, k + 1, h, h1, h2 => by
  rw [qkb, if_neg (by have := h1 0 (by simp) (by omega); simp at this; omega)]
  exact qsq cols l k (by simpa using h) (fun j hj hjk => h1 (j + 1) (by simpa using hj) (by omega)) h2
theorem qji (cols : List Int) : ∀ (l : List Cod), (∀ j (hj : j < l.length), (verP l[j] cols).2 = 0) -> qkb cols l = 0
 | [], _ => rfl
 | c :: l, h => by
  rw [qkb, if_neg (by have := h 0 (by simp); simp at this; omega)]
  exact qji cols l fun j hj => h (j + 1) (by simpa using hj)
theorem qzs {P : Program} {c : Code} {Q Q' : Exit -> AS -> Prop} {s : AS} (s1 : AS) (hst : s1.st = s.st) (hn : s1.n = s.n) (ht : s1.t = s.t) (h0 : s.n0 <= s1.n0) (hQ : ∀ e s', Q' e s' -> ∃ s2, Q e s2 /\ s2.st = s'.st /\ s2.n = s'.n /\ s2.t = s'.t /\ s2.n0 = s.n0)
  (h : awp P c Q' s1) : awp P c Q s := by
 intro X0 a w ⟨X, hc⟩
 refine CwpA.mono (h X0 a w ⟨X, hc.w, by rw [hc.σ, hst], hc.sr, hc.fr, by rw [hn]; exact hc.size, fun d => by rw [ht]; exact hc.regs d, hc.defers, fun r hr => hc.fin r (by omega)⟩) ?_
 rintro e a' w' ⟨s', hq, ⟨X', hc'⟩, hd⟩
 obtain ⟨s2, h1, h2, h3, h4, h5⟩ := hQ e s' hq
 exact ⟨s2, h1, ⟨X', hc'.w, by rw [hc'.σ, h2], hc'.sr, hc'.fr, by rw [h3]; exact hc'.size, fun d => by rw [h4]; exact hc'.regs d, hc'.defers, by rw [h5]; exact hc.fin⟩, hd⟩
def AS.un (s : AS) (σ : Nat -> AB) (n0 m : Nat) : AS := ⟨s.n, s.t, σ, n0, (List.range m).map (fun i => s.st (n0 + i)) ++ s.L⟩
theorem AS.un_st {s : AS} {σ : Nat -> AB} {n0 m : Nat} (h : s.n0 = n0 + m) (hσ : ∀ r, r < n0 -> s.σ r = σ r) : (s.un σ n0 m).st = s.st := by
 funext r
 show loc σ n0 ((List.range m).map (fun i => s.st (n0 + i)) ++ s.L) r = s.st r
 unfold loc
 by_cases h1 : r < n0
 .rw [if_pos h1]
  unfold AS.st loc
  rw [if_pos (by omega), hσ r h1]
 .rw [if_neg h1, List.getD_eq_getElem?_getD]
  by_cases h2 : r < n0 + m
  .rw [List.getElem?_append_left (by simp; omega), List.getElem?_map, List.getElem?_range (by omega)]
   show s.st (n0 + (r - n0)) = _
   rw [show n0 + (r - n0) = r by omega]
  .rw [List.getElem?_append_right (by simp; omega), List.length_map, List.length_range, <- List.getD_eq_getElem?_getD]
   unfold AS.st loc
   rw [if_neg (by omega)]
   congr 1
   omega
theorem qmg1 {P : Program} {c : Code} {Q : Exit -> AS -> Prop} {n n0 : Nat} {t : Nat -> AV} {σ : Nat -> AB} {L : List AB} (σ' : Nat -> AB) (m : Nat) (hm : L.length = m) (hσ' : ∀ r, σ' r = loc σ n0 L r)
  (h : awp P c (fun e s' => s'.n0 = n0 + m /\ (∀ r, r < n0 -> s'.σ r = σ r) /\ Q e (s'.un σ n0 m)) ⟨n, t, σ', n0 + m, []⟩) : awp P c Q ⟨n, t, σ, n0, L⟩ := by
 subst hm
 refine qzs ⟨n, t, σ', n0 + L.length, []⟩ ?_ rfl rfl (Nat.le_add_right _ _) ?_ h
 .funext r
  show loc σ' (n0 + L.length) [] r = loc σ n0 L r
  unfold loc
  split
  .rw [hσ']; rfl
  .rw [if_neg (by omega), List.getD_eq_getElem?_getD, List.getD_eq_getElem?_getD, List.getElem?_eq_none (l := L) (by omega)]; rfl
 .rintro e s' ⟨h1, h2, h3⟩
  exact ⟨_, h3, AS.un_st h1 h2, rfl, rfl, rfl⟩
def qcj (c q : Nat) : List (List AV) -> List AV
 | [] => []
 | cs :: l => .agg (cs.set c (.gs q [])) :: qcj c (q + 1) l
theorem qed (c : Nat) : ∀ (l : List (List AV)) (q : Nat), (qcj c q l).length = l.length
 | [], _ => rfl
 | cs :: l, q => by rw [qcj, List.length_cons, qed c l, List.length_cons]
theorem qjx (c : Nat) (cs : List AV) : ∀ (l : List (List AV)) (q : Nat), qcj c q (l ++ [cs]) = qcj c q l ++ [.agg (cs.set c (.gs (q + l.length) []))]
 | [], _ => rfl
 | x :: l, q => by
  rw [List.cons_append, qcj, qjx c cs l, qcj, List.cons_append, List.length_cons, show q + 1 + l.length = q + (l.length + 1) by omega]
theorem qkz (c : Nat) : ∀ (l : List (List AV)) (q i : Nat), (qcj c q l)[i]? = l[i]?.map fun cs => AV.agg (cs.set c (.gs (q + i) []))
 | [], _, _ => rfl
 | x :: l, q, 0 => rfl
 | x :: l, q, i + 1 => by
  rw [qcj, List.getElem?_cons_succ, qkz c l, List.getElem?_cons_succ, show q + 1 + i = q + (i + 1) by omega]
theorem qvd {P : Program} {code : Code} {Q : Exit -> AS -> Prop} {n n0 : Nat} {t : Nat -> AV} {σ : Nat -> AB} {L : List AB} (i c : Nat) (e : TypeId) (sz : Nat) {l : List (List AV)} {et : TypeId} {s2 : Nat} (hL : L[i]? = some (.vec (l.map AV.agg) et s2)) (hc0 : ∀ cs ∈ l, cs[c]? = some (.v (.slice none 0 0)))
  (h : awp P code Q ⟨n, t, σ, n0, L.set i (.vec (qcj c (n0 + L.length) l) et s2) ++ List.replicate l.length (.tail 0 e sz)⟩) : awp P code Q ⟨n, t, σ, n0, L⟩ := by
 have hi := (List.getElem?_eq_some_iff.1 hL).1
 have key : ∀ (b a : List (List AV)), l = a ++ b -> awp P code Q ⟨n, t, σ, n0, L.set i (.vec (qcj c (n0 + L.length) a ++ b.map AV.agg) et s2) ++ List.replicate a.length (.tail 0 e sz)⟩ := fun b => by
  induction b with
  | nil =>
   intro a ha
   rw [List.append_nil] at ha
   subst ha
   rw [List.map_nil, List.append_nil]; exact h
  | cons cs b ih =>
   intro a ha
   have h2 := ih (a ++ [cs]) (by rw [ha]; simp)
   refine qzr i a.length c e sz (l := qcj c (n0 + L.length) a ++ (cs :: b).map AV.agg) (cs := cs) (et := et) (s2 := s2) ?_ ?_ (hc0 cs (by rw [ha]; simp)) ?_
   .rw [List.getElem?_append_left (by simpa using hi), List.getElem?_set_self hi]
   .rw [List.getElem?_append_right (by rw [qed]; omega), qed, Nat.sub_self]; rfl
   .have e1 : (qcj c (n0 + L.length) a ++ (cs :: b).map AV.agg).set a.length (.agg (cs.set c (.gs (n0 + (L.set i (.vec (qcj c (n0 + L.length) a ++ (cs :: b).map AV.agg) et s2) ++ List.replicate a.length (AB.tail 0 e sz)).length) []))) = qcj c (n0 + L.length) (a ++ [cs]) ++ b.map AV.agg := by
     rw [List.set_append_right _ _ (by rw [qed]; omega), qed, Nat.sub_self, List.map_cons, List.set_cons_zero, qjx, List.append_assoc, List.length_append, List.length_set, List.length_replicate, Nat.add_assoc]
     rfl
    rw [e1, List.set_append_left _ _ (by simpa using hi), List.set_set, List.append_assoc, <- List.replicate_succ']
    rw [List.length_append, List.length_singleton] at h2
    exact h2
 have h0 := key l [] rfl
 have e0 : L.set i (.vec (l.map AV.agg) et s2) = L := by
  apply List.ext_getElem? ; intro k
  by_cases hk : k = i
  .subst hk; rw [List.getElem?_set_self hi, hL]
  .rw [List.getElem?_set_ne (Ne.symm hk)]
 rw [qcj, List.nil_append, e0, List.length_nil, List.replicate_zero, List.append_nil] at h0
 exact h0
theorem RCs.pubs {X : St} : ∀ {l : List AV} {xs : List Value}, RCs X l xs -> RCs X (l.map AV.pub) xs
 | [], _, h => h
 | d :: l, _, h => by
  obtain ⟨c1, c2, rfl, h1, h2⟩ := h
  exact ⟨c1, c2, rfl, h1.pub, RCs.pubs h2⟩
theorem qfg1 (x : AV) : x.pub.width = x.width := by
 have hp : ∀ l : List AV, (AV.pubs l).length = l.length := fun l => by
  induction l with
  | nil => rw [AV.pubs]
  | cons y l ih => rw [AV.pubs, List.length_cons, List.length_cons, ih]
 cases x with
 | agg l => rw [AV.pub]; exact hp l
 | v y => rw [AV.pub]; unfold pubV; split <;> rfl
 | tup l => rw [AV.pub]; rfl
 | gs r l => rw [AV.pub]; rfl
 | _ => rw [AV.pub]
theorem qid1 {P : Program} {code : Code} {Q : Exit -> AS -> Prop} {n n0 : Nat} {t : Nat -> AV} {σ : Nat -> AB} {L : List AB} (i : Nat) {l : List AV} {et : TypeId} {s2 : Nat} (hL : L[i]? = some (.vec l et s2))
  (h : awp P code Q ⟨n, t, σ, n0, L.set i (.vec (l.map AV.pub) et s2)⟩) : awp P code Q ⟨n, t, σ, n0, L⟩ := by
 intro X0 a w ⟨X, hc⟩
 have hi := (List.getElem?_eq_some_iff.1 hL).1
 have hst : (AS.mk n t σ n0 L).st (n0 + i) = .vec l et s2 := by
  show loc σ n0 L (n0 + i) = _
  unfold loc
  rw [if_neg (by omega), Nat.add_sub_cancel_left, List.getD_eq_getElem?_getD, hL]; rfl
 obtain ⟨X2, hc2⟩ := qsd (l' := l.map AV.pub) hc hst (by rw [List.length_map]) (fun hw x hx => by
  obtain ⟨y, hy, rfl⟩ := List.mem_map.1 hx
  rw [qfg1]; exact hw y hy) fun xs hr => RCs.pubs hr
 refine h X0 a w ⟨X2, ?_⟩
 have : (AS.mk n t σ n0 L).set (n0 + i) (.vec (l.map AV.pub) et s2) = ⟨n, t, σ, n0, L.set i (.vec (l.map AV.pub) et s2)⟩ := by
  unfold AS.set; dsimp only; rw [if_neg (by omega), Nat.add_sub_cancel_left]
 rw [this] at hc2; exact hc2
end Go.Proofs.YtkedbjjfmejbhaaGreatDoor
