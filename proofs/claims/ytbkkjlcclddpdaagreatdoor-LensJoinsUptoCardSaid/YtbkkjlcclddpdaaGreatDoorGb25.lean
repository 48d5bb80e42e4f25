/- Walk of lens.forward. -/
import Derived.Test.YtbkkjlcclddpdaaGreatDoorGb12
import Derived.Test.YtbkkjlcclddpdaaGreatDoorGb23
import Derived.Test.YtbkkjlcclddpdaaGreatDoorGb24
set_option linter.unusedSimpArgs false
set_option linter.unusedVariables false
namespace Go.Proofs.YtbkkjlcclddpdaaGreatDoor
open Go.RowKit Go.Lib
theorem qbj {L : List Val} {i : Nat} (h : i < L.length) : valAt L i = L[i] := by unfold valAt; rw [List.getD_eq_getElem?_getD, List.getElem?_eq_getElem h]; rfl
theorem qbv (L : List Val) (i : Nat) (c : Val) : (L.map Val.av).set i c.av = (L.set i c).map Val.av := List.map_set.symm
theorem qdg (L : List Val) : AV.wid (L.map Val.av) 3 := Val.avs_wid L
theorem qck (L : List Val) (h0 : 1 ≤ L.length) (hc : L.length ≤ 100) : GivesV Tryz.prog 58 [.sl (L.map Val.av)] L.length (.vec (L.map Val.av) 27 3) :=
  cloV (L.map Val.av) L.length (by simp) (by omega) (by omega) (Val.avs_wid L) (Val.avs_elms L) (fun m => Val.avs_cl L m)
set_option maxRecDepth 4000 in
set_option maxHeartbeats 4000000 in
theorem fwd_op0 (x : Lens) (cols : List Col) (row : List Val) (hx : qcc x) (hc : cols.length ≤ 100) (hr0 : 1 ≤ row.length) (hr : row.length ≤ 100) (ho : x.op = 0) (R : List Val) (hR : fwdP x cols row = R) : Gives Tryz.prog 59 [x.av, .sl (cols.map Col.av), .sl (row.map Val.av)] (.sl (R.map Val.av)) := by
  have c2 := qz cols x.a (by omega)
  have c3 := qck row hr0 hr
  have c5 := qz cols x.b (by omega)
  have hln : (row.map Val.av).length = row.length := by simp
  have d0 : (x.op == 0) = true := by rw [ho]; rfl
  have d1 : (x.op == 1) = false := beq_eq_false_iff_ne.2 (by omega)
  have d2 : (x.op == 2) = false := beq_eq_false_iff_ne.2 (by omega)
  have d3 : (x.op == 3) = false := beq_eq_false_iff_ne.2 (by omega)
  have d4 : (x.op == 4) = false := beq_eq_false_iff_ne.2 (by omega)
  have d5 : (x.op == 5) = false := beq_eq_false_iff_ne.2 (by omega)
  have d6 : (x.op == 6) = false := beq_eq_false_iff_ne.2 (by omega)
  unfold fwdP at hR
  dsimp only at hR
  rw [if_pos ho] at hR
  refine qm Tryz.func59 Tryz.ntmps59 rfl rfl (by decide) rfl (by intro n; simp) fun σ n0 hcl hft => ?_
  repeat' (first | ((first | ((with_reducible refine qp (fun hg => ?_) (fun hg => ?_)) <;> (try simp only [hg]) <;> (try simp only [gS] at hg) <;> (try (first | simp only [eq_false hg, gI] | simp only [eq_true hg, gI]))) | (with_reducible first | refine qbe ?_ | refine qc ?_ | refine qb ?_ | refine qj ?_ | refine qi ?_) | refine acall (c2) ?_ | refine qn (c2) ?_ | refine qbk c3 ?_ | refine awp_regionW (id := 4) 4 (by rfl) ?_ | refine qe ?_ | refine qk ?_ | refine qh ?_ | refine qo ?_) <;> (try simp (disch := first | omega | simp) [qg, -qq, -qu, d0, d1, d2, d3, d4, d5, d6, List.take_succ_cons, List.drop_succ_cons])) | ((with_reducible refine sideT ?_ ?_); first | omega | assumption | (simp; done)) | (refine qf fun K hK => ?_) | (refine qa ?_) | refine ql ?_ | ((first | refine hK _ ?_ | (clear hK K; refine hK _ ?_) | (clear hK K; clear hK K; refine hK _ ?_)); clear hK K) | refine qd ?_)
  refine ⟨qx 6 1 (k := row.length + 1) (by simp) (by rfl) (by simp) ?_⟩
  repeat' (first | ((first | ((with_reducible refine qp (fun hg => ?_) (fun hg => ?_)) <;> (try simp only [hg]) <;> (try simp only [gS] at hg) <;> (try (first | simp only [eq_false hg, gI] | simp only [eq_true hg, gI]))) | (with_reducible first | refine qc ?_ | refine qb ?_ | refine qj ?_ | refine qi ?_) | refine qe ?_ | refine qk ?_ | refine qh ?_ | refine qo ?_) <;> (try simp (disch := first | omega | simp) [qg, -qq, -qu])) | ((with_reducible refine sideT ?_ ?_); first | omega | assumption | (simp; done)) | (refine qf fun K hK => ?_) | (refine qa ?_) | refine ql ?_ | ((first | refine hK _ ?_ | (clear hK K; refine hK _ ?_) | (clear hK K; clear hK K; refine hK _ ?_)); clear hK K) | refine qd ?_)
  rw [← hR, List.map_append]; rfl
set_option maxRecDepth 4000 in
set_option maxHeartbeats 4000000 in
theorem fwd_op1 (x : Lens) (cols : List Col) (row : List Val) (hx : qcc x) (hc : cols.length ≤ 100) (hr0 : 1 ≤ row.length) (hr : row.length ≤ 100) (ho : x.op = 1) (i : Nat) (hi1 : findP cols x.a.toList = i) (hi2 : i < row.length) (R : List Val) (hR : fwdP x cols row = R) : Gives Tryz.prog 59 [x.av, .sl (cols.map Col.av), .sl (row.map Val.av)] (.sl (R.map Val.av)) := by
  have c2 := qz cols x.a (by omega)
  have c3 := qck row hr0 hr
  have c5 := qz cols x.b (by omega)
  have hln : (row.map Val.av).length = row.length := by simp
  rw [hi1] at c2
  have h1 : ((i : Int)).toNat = i := by omega
  have h2 : ((i : Int) + 1).toNat = i + 1 := by omega
  have hvi := qbj hi2
  have e1 : (findP cols x.a.toList).toNat = i := by omega
  have d0 : (x.op == 0) = false := beq_eq_false_iff_ne.2 (by omega)
  have d1 : (x.op == 1) = true := by rw [ho]; rfl
  have d2 : (x.op == 2) = false := beq_eq_false_iff_ne.2 (by omega)
  have d3 : (x.op == 3) = false := beq_eq_false_iff_ne.2 (by omega)
  have d4 : (x.op == 4) = false := beq_eq_false_iff_ne.2 (by omega)
  have d5 : (x.op == 5) = false := beq_eq_false_iff_ne.2 (by omega)
  have d6 : (x.op == 6) = false := beq_eq_false_iff_ne.2 (by omega)
  unfold fwdP at hR
  simp only [e1] at hR
  rw [if_neg (by omega), if_pos ho] at hR
  have c7 : ∀ (σ : Nat → AB) (r : Nat), σ r = .vec (row.map Val.av) 27 3 → _ := fun σ r hσ => del_acV (row.map Val.av) i row.length hi2 hln (qdn row) (qdg row) (by omega) (fun m => by rw [← qcu]; exact Val.avs_cl _ m) (σ := σ) (r := r) hσ
  refine qm Tryz.func59 Tryz.ntmps59 rfl rfl (by decide) rfl (by intro n; simp) fun σ n0 hcl hft => ?_
  repeat' (first | ((first | ((with_reducible refine qp (fun hg => ?_) (fun hg => ?_)) <;> (try simp only [hg]) <;> (try simp only [gS] at hg) <;> (try (first | simp only [eq_false hg, gI] | simp only [eq_true hg, gI]))) | (with_reducible first | refine qc ?_ | refine qb ?_ | refine qj ?_ | refine qi ?_) | refine acall (c2) ?_ | refine qn (c2) ?_ | refine qbk c3 ?_ | refine qfr (n0 + 1) _ (c7 _ _ (by simp)) (by simp) ?_ | refine qe ?_ | refine qk ?_ | refine qh ?_ | refine qo ?_) <;> (try simp (disch := first | omega | simp) [qg, -qq, -qu, d0, d1, d2, d3, d4, d5, d6, h1, h2])) | ((with_reducible refine sideT ?_ ?_); first | omega | assumption | (simp; done)) | (refine qf fun K hK => ?_) | (refine qa ?_) | refine ql ?_ | ((first | refine hK _ ?_ | (clear hK K; refine hK _ ?_) | (clear hK K; clear hK K; refine hK _ ?_)); clear hK K) | refine qd ?_)
  rw [← hR]; exact (qcu _ _ _).symm
set_option maxRecDepth 4000 in
set_option maxHeartbeats 4000000 in
theorem fwd_op2 (x : Lens) (cols : List Col) (row : List Val) (hx : qcc x) (hc : cols.length ≤ 100) (hr0 : 1 ≤ row.length) (hr : row.length ≤ 100) (ho : x.op = 2) : Gives Tryz.prog 59 [x.av, .sl (cols.map Col.av), .sl (row.map Val.av)] (.sl (row.map Val.av)) := by
  have c2 := qz cols x.a (by omega)
  have c3 := qck row hr0 hr
  have c5 := qz cols x.b (by omega)
  have hln : (row.map Val.av).length = row.length := by simp
  have d0 : (x.op == 0) = false := beq_eq_false_iff_ne.2 (by omega)
  have d1 : (x.op == 1) = false := beq_eq_false_iff_ne.2 (by omega)
  have d2 : (x.op == 2) = true := by rw [ho]; rfl
  have d3 : (x.op == 3) = false := beq_eq_false_iff_ne.2 (by omega)
  have d4 : (x.op == 4) = false := beq_eq_false_iff_ne.2 (by omega)
  have d5 : (x.op == 5) = false := beq_eq_false_iff_ne.2 (by omega)
  have d6 : (x.op == 6) = false := beq_eq_false_iff_ne.2 (by omega)
  refine qm Tryz.func59 Tryz.ntmps59 rfl rfl (by decide) rfl (by intro n; simp) fun σ n0 hcl hft => ?_
  repeat' (first | ((first | ((with_reducible refine qp (fun hg => ?_) (fun hg => ?_)) <;> (try simp only [hg]) <;> (try simp only [gS] at hg) <;> (try (first | simp only [eq_false hg, gI] | simp only [eq_true hg, gI]))) | (with_reducible first | refine qbe ?_ | refine qc ?_ | refine qb ?_ | refine qj ?_ | refine qi ?_) | refine acall (c2) ?_ | refine qn (c2) ?_ | refine qbk c3 ?_ | refine qe ?_ | refine qk ?_ | refine qh ?_ | refine qo ?_) <;> (try simp (disch := first | omega | simp) [qg, -qq, -qu, d0, d1, d2, d3, d4, d5, d6])) | ((with_reducible refine sideT ?_ ?_); first | omega | assumption | (simp; done)) | (refine qf fun K hK => ?_) | (refine qa ?_) | refine ql ?_ | ((first | refine hK _ ?_ | (clear hK K; refine hK _ ?_) | (clear hK K; clear hK K; refine hK _ ?_)); clear hK K) | refine qd ?_)
  refine ⟨qx 6 1 (k := row.length) (by simp) (by rfl) (by simp) ?_⟩
  repeat' (first | ((first | ((with_reducible refine qp (fun hg => ?_) (fun hg => ?_)) <;> (try simp only [hg]) <;> (try simp only [gS] at hg) <;> (try (first | simp only [eq_false hg, gI] | simp only [eq_true hg, gI]))) | (with_reducible first | refine qc ?_ | refine qb ?_ | refine qj ?_ | refine qi ?_) | refine qe ?_ | refine qk ?_ | refine qh ?_ | refine qo ?_) <;> (try simp (disch := first | omega | simp) [qg, -qq, -qu])) | ((with_reducible refine sideT ?_ ?_); first | omega | assumption | (simp; done)) | (refine qf fun K hK => ?_) | (refine qa ?_) | refine ql ?_ | ((first | refine hK _ ?_ | (clear hK K; refine hK _ ?_) | (clear hK K; clear hK K; refine hK _ ?_)); clear hK K) | refine qd ?_)
set_option maxRecDepth 4000 in
set_option maxHeartbeats 4000000 in
theorem fwd_op3 (x : Lens) (cols : List Col) (row : List Val) (hx : qcc x) (hc : cols.length ≤ 100) (hr0 : 1 ≤ row.length) (hr : row.length ≤ 100) (ho : x.op = 3) (i : Nat) (hi1 : findP cols x.a.toList = i) (hi2 : i < row.length) (hs : row[i].s.size < 4294967281) (R : List Val) (hR : fwdP x cols row = R) : Gives Tryz.prog 59 [x.av, .sl (cols.map Col.av), .sl (row.map Val.av)] (.sl (R.map Val.av)) := by
  have c2 := qz cols x.a (by omega)
  have c3 := qck row hr0 hr
  have c5 := qz cols x.b (by omega)
  have hln : (row.map Val.av).length = row.length := by simp
  rw [hi1] at c2
  have h1 : ((i : Int)).toNat = i := by omega
  have h2 : ((i : Int) + 1).toNat = i + 1 := by omega
  have hvi := qbj hi2
  have e1 : (findP cols x.a.toList).toNat = i := by omega
  have d0 : (x.op == 0) = false := beq_eq_false_iff_ne.2 (by omega)
  have d1 : (x.op == 1) = false := beq_eq_false_iff_ne.2 (by omega)
  have d2 : (x.op == 2) = false := beq_eq_false_iff_ne.2 (by omega)
  have d3 : (x.op == 3) = true := by rw [ho]; rfl
  have d4 : (x.op == 4) = false := beq_eq_false_iff_ne.2 (by omega)
  have d5 : (x.op == 5) = false := beq_eq_false_iff_ne.2 (by omega)
  have d6 : (x.op == 6) = false := beq_eq_false_iff_ne.2 (by omega)
  unfold fwdP at hR
  simp only [e1] at hR
  rw [if_neg (by omega), if_neg (by omega), if_pos ho] at hR
  rw [hvi] at hR
  have c6 := lsplit_g row[i].s x.sep hs
  generalize hA : (qby row[i].s.data.toList x.sep.data.toList).1 = A at *
  generalize hB : (qby row[i].s.data.toList x.sep.data.toList).2 = B at *
  have c7 : ∀ (σ : Nat → AB) (r : Nat), σ r = .vec (row.map Val.av) 27 3 → _ := fun σ r hσ => rep_acV (row.map Val.av) ([A, B].map Val.av) i (i + 1) row.length 2 (by omega) (by omega) (by decide) hln (by rfl) (qdn row) (qdg row) (qdn _) (qdg _) (by omega) (by omega) (fun m => by rw [← List.map_take, ← List.map_drop, ← List.map_append, ← List.map_append]; exact Val.avs_cl _ m) (σ := σ) (r := r) hσ
  refine qm Tryz.func59 Tryz.ntmps59 rfl rfl (by decide) rfl (by intro n; simp) fun σ n0 hcl hft => ?_
  repeat' (first | ((first | ((with_reducible refine qp (fun hg => ?_) (fun hg => ?_)) <;> (try simp only [hg]) <;> (try simp only [gS] at hg) <;> (try (first | simp only [eq_false hg, gI] | simp only [eq_true hg, gI]))) | (with_reducible first | refine qc ?_ | refine qb ?_ | refine qj ?_ | refine qi ?_ | refine qbn ?_ | refine qbw ?_) | refine acall (c2) ?_ | refine qn (c2) ?_ | refine acall (c6) ?_ | refine qn (c6) ?_ | refine qbk c3 ?_ | refine qfr (n0 + 1) _ (c7 _ _ (by simp)) (by simp) ?_ | refine qe ?_ | refine qk ?_ | refine qh ?_ | refine qo ?_) <;> (try simp (disch := first | omega | simp) [qg, -qq, -qu, d0, d1, d2, d3, d4, d5, d6, h1, h2, hi2])) | (with_reducible refine qbx (id := 8) [.cells [.int x.op, .str x.a, .str x.b, .str x.c, .str x.sep, .int x.n, .int x.value.k, .int x.value.n, .str x.value.s] 29, .vec (row.map Val.av) 27 3] [.R, .R, .R, .R, .R, .R, .R, .M, .R, .R, .R, .M, .M, .W, .W] (by kernel_rfl) (by kernel_rfl) (by simp) ?_) | ((with_reducible refine sideT ?_ ?_); first | omega | assumption | (simp; done)) | (refine qf fun K hK => ?_) | (refine qa ?_) | refine ql ?_ | ((first | refine hK _ ?_ | (clear hK K; refine hK _ ?_) | (clear hK K; clear hK K; refine hK _ ?_)); clear hK K) | refine qd ?_)
  rw [← hR]; simp
set_option maxRecDepth 4000 in
set_option maxHeartbeats 4000000 in
theorem fwd_op4 (x : Lens) (cols : List Col) (row : List Val) (hx : qcc x) (hc : cols.length ≤ 100) (hr0 : 1 ≤ row.length) (hr : row.length ≤ 100) (ho : x.op = 4) (i : Nat) (hi1 : findP cols x.a.toList = i) (hi2 : i < row.length) (k : Nat) (hk1 : findP cols x.b.toList = k) (hk2 : k < row.length) (hs : row[i].s.size + x.sep.size + row[k].s.size ≤ 1000000) (R : List Val) (hR : fwdP x cols row = R) : Gives Tryz.prog 59 [x.av, .sl (cols.map Col.av), .sl (row.map Val.av)] (.sl (R.map Val.av)) := by
  have c2 := qz cols x.a (by omega)
  have c3 := qck row hr0 hr
  have c5 := qz cols x.b (by omega)
  have hln : (row.map Val.av).length = row.length := by simp
  rw [hi1] at c2
  have h1 : ((i : Int)).toNat = i := by omega
  have h2 : ((i : Int) + 1).toNat = i + 1 := by omega
  have hvi := qbj hi2
  have e1 : (findP cols x.a.toList).toNat = i := by omega
  rw [hk1] at c5
  have e2 : (findP cols x.b.toList).toNat = k := by omega
  have h3 : ((k : Int)).toNat = k := by omega
  have hvk := qbj hk2
  have d0 : (x.op == 0) = false := beq_eq_false_iff_ne.2 (by omega)
  have d1 : (x.op == 1) = false := beq_eq_false_iff_ne.2 (by omega)
  have d2 : (x.op == 2) = false := beq_eq_false_iff_ne.2 (by omega)
  have d3 : (x.op == 3) = false := beq_eq_false_iff_ne.2 (by omega)
  have d4 : (x.op == 4) = true := by rw [ho]; rfl
  have d5 : (x.op == 5) = false := beq_eq_false_iff_ne.2 (by omega)
  have d6 : (x.op == 6) = false := beq_eq_false_iff_ne.2 (by omega)
  unfold fwdP at hR
  simp only [e1, e2] at hR
  rw [if_neg (by omega), if_neg (by omega), if_neg (by omega), if_pos ho] at hR
  rw [hvi, hvk] at hR
  have c6 := lcut_g (row[i].s ++ x.sep ++ row[k].s) (by rw [ByteArray.size_append, ByteArray.size_append]; omega)
  have hd : (row[i].s ++ x.sep ++ row[k].s).data.toList = row[i].s.data.toList ++ x.sep.data.toList ++ row[k].s.data.toList := by simp
  rw [hd] at c6
  generalize hA : cutV (row[i].s.data.toList ++ x.sep.data.toList ++ row[k].s.data.toList) = A at *
  have c7 : ∀ (σ : Nat → AB) (r : Nat), σ r = .vec ((row.map Val.av).set i A.av) 27 3 → _ := fun σ r hσ => del_acV ((row.map Val.av).set i A.av) k row.length hk2 (by simp) (by rw [qbv]; exact qdn _) (by rw [qbv]; exact qdg _) (by omega) (fun m => by rw [qbv, ← qcu]; exact Val.avs_cl _ m) (σ := σ) (r := r) hσ
  refine qm Tryz.func59 Tryz.ntmps59 rfl rfl (by decide) rfl (by intro n; simp) fun σ n0 hcl hft => ?_
  repeat' (first | ((first | ((with_reducible refine qp (fun hg => ?_) (fun hg => ?_)) <;> (try simp only [hg]) <;> (try simp only [gS] at hg) <;> (try (first | simp only [eq_false hg, gI] | simp only [eq_true hg, gI]))) | (with_reducible first | refine qc ?_ | refine qb ?_ | refine qj ?_ | refine qi ?_ | refine anyF_step ?_ | refine anyF_end ?_) | refine acall (c2) ?_ | refine qn (c2) ?_ | refine acall (c5) ?_ | refine qn (c5) ?_ | refine acall (c6) ?_ | refine qn (c6) ?_ | refine qbk c3 ?_ | refine qfr (n0 + 1) _ (c7 _ _ (by simp)) (by simp) ?_ | refine qe ?_ | refine qk ?_ | refine qh ?_ | refine qo ?_) <;> (try simp (disch := first | omega | simp) [qg, -qq, -qu, d0, d1, d2, d3, d4, d5, d6, h1, h2, h3, hi2, hk2])) | (with_reducible refine awp_anyF (id := 12) [.cells [.int x.op, .str x.a, .str x.b, .str x.c, .str x.sep, .int x.n, .int x.value.k, .int x.value.n, .str x.value.s] 29, .unborn] 1 [.R, .R, .R, .R, .R, .R, .R, .R, .R, .R, .R, .R, .R, .R, .R, .R, .M, .N, .W] (by kernel_rfl) (by kernel_rfl) (by simp) ?_) | ((with_reducible refine sideT ?_ ?_); first | omega | assumption | (simp; done)) | (refine qf fun K hK => ?_) | (refine qa ?_) | refine ql ?_ | ((first | refine hK _ ?_ | (clear hK K; refine hK _ ?_) | (clear hK K; clear hK K; refine hK _ ?_)); clear hK K) | refine qd ?_)
  rw [← hR, qbv, ← qcu]
set_option maxRecDepth 4000 in
set_option maxHeartbeats 4000000 in
theorem fwd_op5 (x : Lens) (cols : List Col) (row : List Val) (hx : qcc x) (hc : cols.length ≤ 100) (hr0 : 1 ≤ row.length) (hr : row.length ≤ 100) (ho : x.op = 5) (i : Nat) (hi1 : findP cols x.a.toList = i) (hi2 : i < row.length) (hn : i64 row[i].n) (hs : row[i].s.size ≤ 1000000) (R : List Val) (hR : fwdP x cols row = R) : Gives Tryz.prog 59 [x.av, .sl (cols.map Col.av), .sl (row.map Val.av)] (.sl (R.map Val.av)) := by
  have c2 := qz cols x.a (by omega)
  have c3 := qck row hr0 hr
  have c5 := qz cols x.b (by omega)
  have hln : (row.map Val.av).length = row.length := by simp
  rw [hi1] at c2
  have h1 : ((i : Int)).toNat = i := by omega
  have h2 : ((i : Int) + 1).toNat = i + 1 := by omega
  have hvi := qbj hi2
  have e1 : (findP cols x.a.toList).toNat = i := by omega
  have d0 : (x.op == 0) = false := beq_eq_false_iff_ne.2 (by omega)
  have d1 : (x.op == 1) = false := beq_eq_false_iff_ne.2 (by omega)
  have d2 : (x.op == 2) = false := beq_eq_false_iff_ne.2 (by omega)
  have d3 : (x.op == 3) = false := beq_eq_false_iff_ne.2 (by omega)
  have d4 : (x.op == 4) = false := beq_eq_false_iff_ne.2 (by omega)
  have d5 : (x.op == 5) = true := by rw [ho]; rfl
  have d6 : (x.op == 6) = false := beq_eq_false_iff_ne.2 (by omega)
  unfold fwdP at hR
  simp only [e1] at hR
  rw [if_neg (by omega), if_neg (by omega), if_neg (by omega), if_neg (by omega), if_pos ho] at hR
  rw [hvi] at hR
  have c6 := conv_g row[i] x.n x.value hn hs
  generalize hA : convP row[i] x.n x.value = A at *
  refine qm Tryz.func59 Tryz.ntmps59 rfl rfl (by decide) rfl (by intro n; simp) fun σ n0 hcl hft => ?_
  repeat' (first | ((first | (with_reducible first | refine qbe ?_ | refine qc ?_ | refine qb ?_ | refine qj ?_ | refine qi ?_ | refine anyF_step ?_ | refine anyF_end ?_) | ((with_reducible refine qp (fun hg => ?_) (fun hg => ?_)) <;> (try simp only [hg]) <;> (try simp only [gS] at hg) <;> (try (first | simp only [eq_false hg, gI] | simp only [eq_true hg, gI]))) | refine acall (c2) ?_ | refine qn (c2) ?_ | refine acall (c6) ?_ | refine qn (c6) ?_ | refine qbk c3 ?_ | refine qe ?_ | refine qk ?_ | refine qh ?_ | refine qo ?_) <;> (try simp (disch := first | omega | simp) [qg, -qq, -qu, d0, d1, d2, d3, d4, d5, d6, h1, h2, hi2])) | (with_reducible refine awp_anyF (id := 15) [.cells [.int x.op, .str x.a, .str x.b, .str x.c, .str x.sep, .int x.n, .int x.value.k, .int x.value.n, .str x.value.s] 29, .unborn] 1 [.R, .R, .R, .R, .R, .R, .R, .R, .R, .R, .M, .N, .W] (by kernel_rfl) (by kernel_rfl) (by simp) ?_) | ((with_reducible refine sideT ?_ ?_); first | omega | assumption | (simp; done)) | (refine qf fun K hK => ?_) | (refine qa ?_) | refine ql ?_ | ((first | refine hK _ ?_ | (clear hK K; refine hK _ ?_) | (clear hK K; clear hK K; refine hK _ ?_)); clear hK K) | refine qd ?_)
  refine ⟨qx 6 1 (k := row.length) (by simp) (by rfl) (by simp) ?_⟩
  repeat' (first | ((first | ((with_reducible refine qp (fun hg => ?_) (fun hg => ?_)) <;> (try simp only [hg]) <;> (try simp only [gS] at hg) <;> (try (first | simp only [eq_false hg, gI] | simp only [eq_true hg, gI]))) | (with_reducible first | refine qc ?_ | refine qb ?_ | refine qj ?_ | refine qi ?_) | refine qe ?_ | refine qk ?_ | refine qh ?_ | refine qo ?_) <;> (try simp (disch := first | omega | simp) [qg, -qq, -qu])) | ((with_reducible refine sideT ?_ ?_); first | omega | assumption | (simp; done)) | (refine qf fun K hK => ?_) | (refine qa ?_) | refine ql ?_ | ((first | refine hK _ ?_ | (clear hK K; refine hK _ ?_) | (clear hK K; clear hK K; refine hK _ ?_)); clear hK K) | refine qd ?_)
  rw [← hR, qbv]
set_option maxRecDepth 4000 in
set_option maxHeartbeats 4000000 in
theorem fwd_op6 (x : Lens) (cols : List Col) (row : List Val) (hx : qcc x) (hc : cols.length ≤ 100) (hr0 : 1 ≤ row.length) (hr : row.length ≤ 100) (ho : x.op = 6) (i : Nat) (hi1 : findP cols x.a.toList = i) (hi2 : i < row.length) (R : List Val) (hR : fwdP x cols row = R) : Gives Tryz.prog 59 [x.av, .sl (cols.map Col.av), .sl (row.map Val.av)] (.sl (R.map Val.av)) := by
  have c2 := qz cols x.a (by omega)
  have c3 := qck row hr0 hr
  have c5 := qz cols x.b (by omega)
  have hln : (row.map Val.av).length = row.length := by simp
  rw [hi1] at c2
  have h1 : ((i : Int)).toNat = i := by omega
  have h2 : ((i : Int) + 1).toNat = i + 1 := by omega
  have hvi := qbj hi2
  have e1 : (findP cols x.a.toList).toNat = i := by omega
  have d0 : (x.op == 0) = false := beq_eq_false_iff_ne.2 (by omega)
  have d1 : (x.op == 1) = false := beq_eq_false_iff_ne.2 (by omega)
  have d2 : (x.op == 2) = false := beq_eq_false_iff_ne.2 (by omega)
  have d3 : (x.op == 3) = false := beq_eq_false_iff_ne.2 (by omega)
  have d4 : (x.op == 4) = false := beq_eq_false_iff_ne.2 (by omega)
  have d5 : (x.op == 5) = false := beq_eq_false_iff_ne.2 (by omega)
  have d6 : (x.op == 6) = true := by rw [ho]; rfl
  unfold fwdP at hR
  simp only [e1] at hR
  rw [if_neg (by omega), if_neg (by omega), if_neg (by omega), if_neg (by omega), if_neg (by omega), if_pos ho] at hR
  rw [hvi] at hR
  have c6 := qdi (IntKind.i64.wrap (row[i].n * x.n))
  refine qm Tryz.func59 Tryz.ntmps59 rfl rfl (by decide) rfl (by intro n; simp) fun σ n0 hcl hft => ?_
  repeat' (first | ((first | (with_reducible first | refine qbe ?_ | refine qc ?_ | refine qb ?_ | refine qj ?_ | refine qi ?_ | refine anyF_step ?_ | refine anyF_end ?_) | ((with_reducible refine qp (fun hg => ?_) (fun hg => ?_)) <;> (try simp only [hg]) <;> (try simp only [gS] at hg) <;> (try (first | simp only [eq_false hg, gI] | simp only [eq_true hg, gI]))) | refine acall (c2) ?_ | refine qn (c2) ?_ | refine acall (c6) ?_ | refine qn (c6) ?_ | refine qbk c3 ?_ | refine qe ?_ | refine qk ?_ | refine qh ?_ | refine qo ?_) <;> (try simp (disch := first | omega | simp) [qg, -qq, -qu, d0, d1, d2, d3, d4, d5, d6, h1, h2, hi2])) | (with_reducible refine awp_anyF (id := 17) [.cells [.int x.op, .str x.a, .str x.b, .str x.c, .str x.sep, .int x.n, .int x.value.k, .int x.value.n, .str x.value.s] 29, .unborn] 1 [.R, .R, .R, .R, .R, .R, .R, .R, .R, .R, .M, .N, .W] (by kernel_rfl) (by kernel_rfl) (by simp) ?_) | ((with_reducible refine sideT ?_ ?_); first | omega | assumption | (simp; done)) | (refine qf fun K hK => ?_) | (refine qa ?_) | refine ql ?_ | ((first | refine hK _ ?_ | (clear hK K; refine hK _ ?_) | (clear hK K; clear hK K; refine hK _ ?_)); clear hK K) | refine qd ?_)
  refine ⟨qx 6 1 (k := row.length) (by simp) (by rfl) (by simp) ?_⟩
  repeat' (first | ((first | ((with_reducible refine qp (fun hg => ?_) (fun hg => ?_)) <;> (try simp only [hg]) <;> (try simp only [gS] at hg) <;> (try (first | simp only [eq_false hg, gI] | simp only [eq_true hg, gI]))) | (with_reducible first | refine qc ?_ | refine qb ?_ | refine qj ?_ | refine qi ?_) | refine qe ?_ | refine qk ?_ | refine qh ?_ | refine qo ?_) <;> (try simp (disch := first | omega | simp) [qg, -qq, -qu])) | ((with_reducible refine sideT ?_ ?_); first | omega | assumption | (simp; done)) | (refine qf fun K hK => ?_) | (refine qa ?_) | refine ql ?_ | ((first | refine hK _ ?_ | (clear hK K; refine hK _ ?_) | (clear hK K; clear hK K; refine hK _ ?_)); clear hK K) | refine qd ?_)
  rw [← hR]; exact qbv row i ⟨0, IntKind.i64.wrap (row[i].n * x.n), ⟨#[]⟩⟩
end Go.Proofs.YtbkkjlcclddpdaaGreatDoor

/- Walk of lens.backward. -/
namespace Go.Proofs.YtbkkjlcclddpdaaGreatDoor
open Go.RowKit Go.Lib
set_option maxRecDepth 4000 in
set_option maxHeartbeats 4000000 in
theorem bck_op0 (x : Lens) (cols : List Col) (row : List Val) (hx : qcc x) (hc : cols.length ≤ 100) (hr0 : 1 ≤ row.length) (hr : row.length ≤ 100) (ho : x.op = 0) (R : List Val) (hR : bckP x cols row = R) : Gives Tryz.prog 65 [x.av, .sl (cols.map Col.av), .sl (row.map Val.av)] (.sl (R.map Val.av)) := by
  have c2 := qz cols x.a (by omega)
  have c3 := qck row hr0 hr
  have c5 := qz cols x.b (by omega)
  have hln : (row.map Val.av).length = row.length := by simp
  have d0 : (x.op == 0) = true := by rw [ho]; rfl
  have d1 : (x.op == 1) = false := beq_eq_false_iff_ne.2 (by omega)
  have d2 : (x.op == 2) = false := beq_eq_false_iff_ne.2 (by omega)
  have d3 : (x.op == 3) = false := beq_eq_false_iff_ne.2 (by omega)
  have d4 : (x.op == 4) = false := beq_eq_false_iff_ne.2 (by omega)
  have d5 : (x.op == 5) = false := beq_eq_false_iff_ne.2 (by omega)
  have d6 : (x.op == 6) = false := beq_eq_false_iff_ne.2 (by omega)
  unfold bckP at hR
  dsimp only at hR
  rw [if_pos ho] at hR
  have h1 : ((row.length : Int) - 1).toNat = row.length - 1 := by omega
  have h4 : (1 : Int) ≤ row.length := by omega
  have h5 : 1 ≤ row.length := hr0
  refine qm Tryz.func65 Tryz.ntmps65 rfl rfl (by decide) rfl (by intro n; simp) fun σ n0 hcl hft => ?_
  repeat' (first | ((first | ((with_reducible refine qp (fun hg => ?_) (fun hg => ?_)) <;> (try simp only [hg]) <;> (try simp only [gS] at hg) <;> (try (first | simp only [eq_false hg, gI] | simp only [eq_true hg, gI]))) | (with_reducible first | refine qc ?_ | refine qb ?_ | refine qj ?_ | refine qi ?_) | refine acall (c2) ?_ | refine qn (c2) ?_ | refine qbk c3 ?_ | refine qe ?_ | refine qk ?_ | refine qh ?_ | refine qo ?_) <;> (try simp (disch := first | omega | simp) [qg, -qq, -qu, d0, d1, d2, d3, d4, d5, d6])) | (with_reducible refine qbi (id := 4) ?_) | ((with_reducible refine sideT ?_ ?_); first | omega | assumption | (simp; done)) | (refine qf fun K hK => ?_) | (refine qa ?_) | refine ql ?_ | ((first | refine hK _ ?_ | (clear hK K; refine hK _ ?_) | (clear hK K; clear hK K; refine hK _ ?_)); clear hK K) | refine qd ?_)
  refine ⟨qx 8 1 (k := row.length) (by simp) (by rfl) (by simp) ?_⟩
  repeat' (first | ((first | ((with_reducible refine qp (fun hg => ?_) (fun hg => ?_)) <;> (try simp only [hg]) <;> (try simp only [gS] at hg) <;> (try (first | simp only [eq_false hg, gI] | simp only [eq_true hg, gI]))) | (with_reducible first | refine qc ?_ | refine qb ?_ | refine qj ?_ | refine qi ?_) | refine qe ?_ | refine qk ?_ | refine qh ?_ | refine qo ?_) <;> (try simp (disch := first | omega | simp) [qg, -qq, -qu, h1, h4, h5, qdg, List.map_take])) | ((with_reducible refine sideT ?_ ?_); first | omega | assumption | (simp; done)) | (refine qf fun K hK => ?_) | (refine qa ?_) | refine ql ?_ | ((first | refine hK _ ?_ | (clear hK K; refine hK _ ?_) | (clear hK K; clear hK K; refine hK _ ?_)); clear hK K) | refine qd ?_)
  rw [← hR]; simp [List.dropLast_eq_take, List.map_take]
set_option maxRecDepth 4000 in
set_option maxHeartbeats 4000000 in
theorem bck_op1 (x : Lens) (cols : List Col) (row : List Val) (hx : qcc x) (hc : cols.length ≤ 100) (hr0 : 1 ≤ row.length) (hr : row.length ≤ 100) (ho : x.op = 1) (i : Nat) (hi1 : findP cols x.a.toList = i) (hi2 : i ≤ row.length) (R : List Val) (hR : bckP x cols row = R) : Gives Tryz.prog 65 [x.av, .sl (cols.map Col.av), .sl (row.map Val.av)] (.sl (R.map Val.av)) := by
  have c2 := qz cols x.a (by omega)
  have c3 := qck row hr0 hr
  have c5 := qz cols x.b (by omega)
  have hln : (row.map Val.av).length = row.length := by simp
  rw [hi1] at c2
  have h1 : ((i : Int)).toNat = i := by omega
  have e1 : (findP cols x.a.toList).toNat = i := by omega
  have d0 : (x.op == 0) = false := beq_eq_false_iff_ne.2 (by omega)
  have d1 : (x.op == 1) = true := by rw [ho]; rfl
  have d2 : (x.op == 2) = false := beq_eq_false_iff_ne.2 (by omega)
  have d3 : (x.op == 3) = false := beq_eq_false_iff_ne.2 (by omega)
  have d4 : (x.op == 4) = false := beq_eq_false_iff_ne.2 (by omega)
  have d5 : (x.op == 5) = false := beq_eq_false_iff_ne.2 (by omega)
  have d6 : (x.op == 6) = false := beq_eq_false_iff_ne.2 (by omega)
  unfold bckP at hR
  simp only [e1] at hR
  rw [if_neg (by omega), if_pos ho] at hR
  have c7 : ∀ (σ : Nat → AB) (r : Nat), σ r = .vec (row.map Val.av) 27 3 → _ := fun σ r hσ => ins_acV (row.map Val.av) ([x.value].map Val.av) i row.length 1 (by omega) (by omega) (by decide) (by simp) (by rfl) (qdn _) (qdg _) (qdn _) (qdg _) (by omega) (by omega) (fun m => by rw [← List.map_take, ← List.map_drop, ← List.map_append, ← List.map_append]; exact Val.avs_cl _ m) (σ := σ) (r := r) hσ
  refine qm Tryz.func65 Tryz.ntmps65 rfl rfl (by decide) rfl (by intro n; simp) fun σ n0 hcl hft => ?_
  repeat' (first | ((first | ((with_reducible refine qp (fun hg => ?_) (fun hg => ?_)) <;> (try simp only [hg]) <;> (try simp only [gS] at hg) <;> (try (first | simp only [eq_false hg, gI] | simp only [eq_true hg, gI]))) | (with_reducible first | refine qc ?_ | refine qb ?_ | refine qj ?_ | refine qi ?_) | refine acall (c2) ?_ | refine qn (c2) ?_ | refine qbk c3 ?_ | refine qfr (n0 + 1) _ (c7 _ _ (by simp)) (by simp) ?_ | refine qe ?_ | refine qk ?_ | refine qh ?_ | refine qo ?_) <;> (try simp (disch := first | omega | simp) [qg, -qq, -qu, d0, d1, d2, d3, d4, d5, d6, h1])) | ((with_reducible refine sideT ?_ ?_); first | omega | assumption | (simp; done)) | (refine qf fun K hK => ?_) | (refine qa ?_) | refine ql ?_ | ((first | refine hK _ ?_ | (clear hK K; refine hK _ ?_) | (clear hK K; clear hK K; refine hK _ ?_)); clear hK K) | refine qd ?_)
  rw [← hR]; simp
set_option maxRecDepth 4000 in
set_option maxHeartbeats 4000000 in
theorem bck_op2 (x : Lens) (cols : List Col) (row : List Val) (hx : qcc x) (hc : cols.length ≤ 100) (hr0 : 1 ≤ row.length) (hr : row.length ≤ 100) (ho : x.op = 2) : Gives Tryz.prog 65 [x.av, .sl (cols.map Col.av), .sl (row.map Val.av)] (.sl (row.map Val.av)) := by
  have c2 := qz cols x.a (by omega)
  have c3 := qck row hr0 hr
  have c5 := qz cols x.b (by omega)
  have hln : (row.map Val.av).length = row.length := by simp
  have d0 : (x.op == 0) = false := beq_eq_false_iff_ne.2 (by omega)
  have d1 : (x.op == 1) = false := beq_eq_false_iff_ne.2 (by omega)
  have d2 : (x.op == 2) = true := by rw [ho]; rfl
  have d3 : (x.op == 3) = false := beq_eq_false_iff_ne.2 (by omega)
  have d4 : (x.op == 4) = false := beq_eq_false_iff_ne.2 (by omega)
  have d5 : (x.op == 5) = false := beq_eq_false_iff_ne.2 (by omega)
  have d6 : (x.op == 6) = false := beq_eq_false_iff_ne.2 (by omega)
  refine qm Tryz.func65 Tryz.ntmps65 rfl rfl (by decide) rfl (by intro n; simp) fun σ n0 hcl hft => ?_
  repeat' (first | ((first | ((with_reducible refine qp (fun hg => ?_) (fun hg => ?_)) <;> (try simp only [hg]) <;> (try simp only [gS] at hg) <;> (try (first | simp only [eq_false hg, gI] | simp only [eq_true hg, gI]))) | (with_reducible first | refine qbe ?_ | refine qc ?_ | refine qb ?_ | refine qj ?_ | refine qi ?_) | refine acall (c2) ?_ | refine qn (c2) ?_ | refine qbk c3 ?_ | refine qe ?_ | refine qk ?_ | refine qh ?_ | refine qo ?_) <;> (try simp (disch := first | omega | simp) [qg, -qq, -qu, d0, d1, d2, d3, d4, d5, d6])) | ((with_reducible refine sideT ?_ ?_); first | omega | assumption | (simp; done)) | (refine qf fun K hK => ?_) | (refine qa ?_) | refine ql ?_ | ((first | refine hK _ ?_ | (clear hK K; refine hK _ ?_) | (clear hK K; clear hK K; refine hK _ ?_)); clear hK K) | refine qd ?_)
  refine ⟨qx 6 1 (k := row.length) (by simp) (by rfl) (by simp) ?_⟩
  repeat' (first | ((first | ((with_reducible refine qp (fun hg => ?_) (fun hg => ?_)) <;> (try simp only [hg]) <;> (try simp only [gS] at hg) <;> (try (first | simp only [eq_false hg, gI] | simp only [eq_true hg, gI]))) | (with_reducible first | refine qc ?_ | refine qb ?_ | refine qj ?_ | refine qi ?_) | refine qe ?_ | refine qk ?_ | refine qh ?_ | refine qo ?_) <;> (try simp (disch := first | omega | simp) [qg, -qq, -qu])) | ((with_reducible refine sideT ?_ ?_); first | omega | assumption | (simp; done)) | (refine qf fun K hK => ?_) | (refine qa ?_) | refine ql ?_ | ((first | refine hK _ ?_ | (clear hK K; refine hK _ ?_) | (clear hK K; clear hK K; refine hK _ ?_)); clear hK K) | refine qd ?_)
set_option maxRecDepth 4000 in
set_option maxHeartbeats 4000000 in
theorem bck_op3 (x : Lens) (cols : List Col) (row : List Val) (hx : qcc x) (hc : cols.length ≤ 100) (hr0 : 1 ≤ row.length) (hr : row.length ≤ 100) (ho : x.op = 3) (i : Nat) (hi1 : findP cols x.a.toList = i) (hi2 : i < row.length) (hi3 : i + 1 < row.length) (hs : row[i].s.size + x.sep.size + row[i + 1].s.size ≤ 1000000) (R : List Val) (hR : bckP x cols row = R) : Gives Tryz.prog 65 [x.av, .sl (cols.map Col.av), .sl (row.map Val.av)] (.sl (R.map Val.av)) := by
  have c2 := qz cols x.a (by omega)
  have c3 := qck row hr0 hr
  have c5 := qz cols x.b (by omega)
  have hln : (row.map Val.av).length = row.length := by simp
  rw [hi1] at c2
  have h1 : ((i : Int)).toNat = i := by omega
  have h2 : ((i : Int) + 1).toNat = i + 1 := by omega
  have hvi := qbj hi2
  have e1 : (findP cols x.a.toList).toNat = i := by omega
  have hvj := qbj hi3
  have h3 : ((i : Int) + 2).toNat = i + 2 := by omega
  have d0 : (x.op == 0) = false := beq_eq_false_iff_ne.2 (by omega)
  have d1 : (x.op == 1) = false := beq_eq_false_iff_ne.2 (by omega)
  have d2 : (x.op == 2) = false := beq_eq_false_iff_ne.2 (by omega)
  have d3 : (x.op == 3) = true := by rw [ho]; rfl
  have d4 : (x.op == 4) = false := beq_eq_false_iff_ne.2 (by omega)
  have d5 : (x.op == 5) = false := beq_eq_false_iff_ne.2 (by omega)
  have d6 : (x.op == 6) = false := beq_eq_false_iff_ne.2 (by omega)
  unfold bckP at hR
  simp only [e1] at hR
  rw [if_neg (by omega), if_neg (by omega), if_pos ho] at hR
  rw [hvi, hvj] at hR
  by_cases he : row[i + 1].s.toList = []
  · rw [if_pos he, List.append_nil] at hR
    have he2 : row[i + 1].s.toList.isEmpty = true := by rw [he]; rfl
    have c6 := lcut_g row[i].s (by omega)
    generalize hA : cutV row[i].s.data.toList = A at *
    have c7 : ∀ (σ : Nat → AB) (r : Nat), σ r = .vec (row.map Val.av) 27 3 → _ := fun σ r hσ => rep_acV (row.map Val.av) ([A].map Val.av) i (i + 2) row.length 1 (by omega) (by omega) (by decide) hln (by rfl) (qdn row) (qdg row) (qdn _) (qdg _) (by omega) (by omega) (fun m => by rw [← List.map_take, ← List.map_drop, ← List.map_append, ← List.map_append]; exact Val.avs_cl _ m) (σ := σ) (r := r) hσ
    refine qm Tryz.func65 Tryz.ntmps65 rfl rfl (by decide) rfl (by intro n; simp) fun σ n0 hcl hft => ?_
    repeat' (first | ((first | ((with_reducible refine qp (fun hg => ?_) (fun hg => ?_)) <;> (try simp only [hg]) <;> (try simp only [gS] at hg) <;> (try (first | simp only [eq_false hg, gI] | simp only [eq_true hg, gI]))) | (with_reducible first | refine qc ?_ | refine qb ?_ | refine qj ?_ | refine qi ?_) | refine acall (c2) ?_ | refine qn (c2) ?_ | refine acall (c6) ?_ | refine qn (c6) ?_ | refine qbk c3 ?_ | refine qfr (n0 + 1) _ (c7 _ _ (by simp)) (by simp) ?_ | refine qe ?_ | refine qk ?_ | refine qh ?_ | refine qo ?_) <;> (try simp (disch := first | omega | simp) [qg, -qq, -qu, d0, d1, d2, d3, d4, d5, d6, h1, h2, h3, hi2, hi3, he2])) | ((with_reducible refine sideT ?_ ?_); first | omega | assumption | (simp; done)) | (refine qf fun K hK => ?_) | (refine qa ?_) | refine ql ?_ | ((first | refine hK _ ?_ | (clear hK K; refine hK _ ?_) | (clear hK K; clear hK K; refine hK _ ?_)); clear hK K) | refine qd ?_)
    rw [← hR]; simp
  · rw [if_neg he] at hR
    have he2 : row[i + 1].s.toList.isEmpty = false := List.isEmpty_eq_false_iff.2 he
    have c6 := lcut_g (row[i].s ++ (x.sep ++ row[i + 1].s)) (by rw [ByteArray.size_append, ByteArray.size_append]; omega)
    have hd : (row[i].s ++ (x.sep ++ row[i + 1].s)).data.toList = row[i].s.data.toList ++ (x.sep.data.toList ++ row[i + 1].s.data.toList) := by simp
    rw [hd] at c6
    generalize hA : cutV (row[i].s.data.toList ++ (x.sep.data.toList ++ row[i + 1].s.data.toList)) = A at *
    have c7 : ∀ (σ : Nat → AB) (r : Nat), σ r = .vec (row.map Val.av) 27 3 → _ := fun σ r hσ => rep_acV (row.map Val.av) ([A].map Val.av) i (i + 2) row.length 1 (by omega) (by omega) (by decide) hln (by rfl) (qdn row) (qdg row) (qdn _) (qdg _) (by omega) (by omega) (fun m => by rw [← List.map_take, ← List.map_drop, ← List.map_append, ← List.map_append]; exact Val.avs_cl _ m) (σ := σ) (r := r) hσ
    refine qm Tryz.func65 Tryz.ntmps65 rfl rfl (by decide) rfl (by intro n; simp) fun σ n0 hcl hft => ?_
    repeat' (first | ((first | ((with_reducible refine qp (fun hg => ?_) (fun hg => ?_)) <;> (try simp only [hg]) <;> (try simp only [gS] at hg) <;> (try (first | simp only [eq_false hg, gI] | simp only [eq_true hg, gI]))) | (with_reducible first | refine qc ?_ | refine qb ?_ | refine qj ?_ | refine qi ?_) | refine acall (c2) ?_ | refine qn (c2) ?_ | refine acall (c6) ?_ | refine qn (c6) ?_ | refine qbk c3 ?_ | refine qfr (n0 + 1) _ (c7 _ _ (by simp)) (by simp) ?_ | refine qe ?_ | refine qk ?_ | refine qh ?_ | refine qo ?_) <;> (try simp (disch := first | omega | simp) [qg, -qq, -qu, d0, d1, d2, d3, d4, d5, d6, h1, h2, h3, hi2, hi3, he2])) | ((with_reducible refine sideT ?_ ?_); first | omega | assumption | (simp; done)) | (refine qf fun K hK => ?_) | (refine qa ?_) | refine ql ?_ | ((first | refine hK _ ?_ | (clear hK K; refine hK _ ?_) | (clear hK K; clear hK K; refine hK _ ?_)); clear hK K) | refine qd ?_)
    rw [← hR]; simp
set_option maxRecDepth 4000 in
set_option maxHeartbeats 4000000 in
theorem bck_op4 (x : Lens) (cols : List Col) (row : List Val) (hx : qcc x) (hc : cols.length ≤ 100) (hr0 : 1 ≤ row.length) (hr : row.length ≤ 100) (ho : x.op = 4) (i k a : Nat) (hi1 : findP cols x.a.toList = i) (hk1 : findP cols x.b.toList = k) (hk2 : k ≤ row.length) (ha : a = if k < i then i - 1 else i) (hai : a < row.length) (hs : row[a].s.size < 4294967281) (R : List Val) (hR : bckP x cols row = R) : Gives Tryz.prog 65 [x.av, .sl (cols.map Col.av), .sl (row.map Val.av)] (.sl (R.map Val.av)) := by
  have c2 := qz cols x.a (by omega)
  have c3 := qck row hr0 hr
  have c5 := qz cols x.b (by omega)
  have hln : (row.map Val.av).length = row.length := by simp
  rw [hi1] at c2
  rw [hk1] at c5
  have e1 : (findP cols x.a.toList).toNat = i := by omega
  have e2 : (findP cols x.b.toList).toNat = k := by omega
  have h3 : ((k : Int)).toNat = k := by omega
  have h1 : ((a : Int)).toNat = a := by omega
  have hva := qbj hai
  have d0 : (x.op == 0) = false := beq_eq_false_iff_ne.2 (by omega)
  have d1 : (x.op == 1) = false := beq_eq_false_iff_ne.2 (by omega)
  have d2 : (x.op == 2) = false := beq_eq_false_iff_ne.2 (by omega)
  have d3 : (x.op == 3) = false := beq_eq_false_iff_ne.2 (by omega)
  have d4 : (x.op == 4) = true := by rw [ho]; rfl
  have d5 : (x.op == 5) = false := beq_eq_false_iff_ne.2 (by omega)
  have d6 : (x.op == 6) = false := beq_eq_false_iff_ne.2 (by omega)
  unfold bckP at hR
  simp only [e1, e2] at hR
  rw [if_neg (by omega), if_neg (by omega), if_neg (by omega), if_pos ho] at hR
  rw [← ha, hva] at hR
  have c6 := lsplit_g row[a].s x.sep hs
  generalize hA : (qby row[a].s.data.toList x.sep.data.toList).1 = A at *
  generalize hB : (qby row[a].s.data.toList x.sep.data.toList).2 = B at *
  have c7 : ∀ (σ : Nat → AB) (r : Nat), σ r = .vec ((row.map Val.av).set a A.av) 27 3 → _ := fun σ r hσ => ins_acV ((row.map Val.av).set a A.av) ([B].map Val.av) k row.length 1 (by omega) (by omega) (by decide) (by simp) (by rfl) (by rw [qbv]; exact qdn _) (by rw [qbv]; exact qdg _) (qdn _) (qdg _) (by omega) (by omega) (fun m => by rw [qbv, ← List.map_take, ← List.map_drop, ← List.map_append, ← List.map_append]; exact Val.avs_cl _ m) (σ := σ) (r := r) hσ
  by_cases hki : k < i
  · rw [if_pos hki] at ha
    have hki' : (k : Int) < i := by omega
    have hai' : (i : Int) - 1 = a := by omega
    refine qm Tryz.func65 Tryz.ntmps65 rfl rfl (by decide) rfl (by intro n; simp) fun σ n0 hcl hft => ?_
    repeat' (first | ((first | ((with_reducible refine qp (fun hg => ?_) (fun hg => ?_)) <;> (try simp only [hg]) <;> (try simp only [gS] at hg) <;> (try (first | simp only [eq_false hg, gI] | simp only [eq_true hg, gI]))) | (with_reducible first | refine qc ?_ | refine qb ?_ | refine qj ?_ | refine qi ?_ | refine qbn ?_ | refine qbw ?_) | refine acall (c2) ?_ | refine qn (c2) ?_ | refine acall (c5) ?_ | refine qn (c5) ?_ | refine acall (c6) ?_ | refine qn (c6) ?_ | refine qbk c3 ?_ | refine qfr (n0 + 1) _ (c7 _ _ (by simp)) (by simp) ?_ | refine qe ?_ | refine qk ?_ | refine qh ?_ | refine qo ?_) <;> (try simp (disch := first | omega | simp) [qg, -qq, -qu, d0, d1, d2, d3, d4, d5, d6, h1, h3, hai, hki', hai'])) | (with_reducible refine qbx (id := 17) [.cells [.int x.op, .str x.a, .str x.b, .str x.c, .str x.sep, .int x.n, .int x.value.k, .int x.value.n, .str x.value.s] 29, .vec (row.map Val.av) 27 3] [.R, .R, .R, .R, .R, .R, .R, .M, .R, .R, .R, .M, .M, .W, .W] (by kernel_rfl) (by kernel_rfl) (by simp) ?_) | ((with_reducible refine sideT ?_ ?_); first | omega | assumption | (simp; done)) | (refine qf fun K hK => ?_) | (refine qa ?_) | refine ql ?_ | ((first | refine hK _ ?_ | (clear hK K; refine hK _ ?_) | (clear hK K; clear hK K; refine hK _ ?_)); clear hK K) | refine qd ?_)
    rw [← hR, qbv]; simp
  · rw [if_neg hki] at ha
    subst ha
    have hki' : ¬ (k : Int) < a := by omega
    refine qm Tryz.func65 Tryz.ntmps65 rfl rfl (by decide) rfl (by intro n; simp) fun σ n0 hcl hft => ?_
    repeat' (first | ((first | ((with_reducible refine qp (fun hg => ?_) (fun hg => ?_)) <;> (try simp only [hg]) <;> (try simp only [gS] at hg) <;> (try (first | simp only [eq_false hg, gI] | simp only [eq_true hg, gI]))) | (with_reducible first | refine qc ?_ | refine qb ?_ | refine qj ?_ | refine qi ?_ | refine qbn ?_ | refine qbw ?_) | refine acall (c2) ?_ | refine qn (c2) ?_ | refine acall (c5) ?_ | refine qn (c5) ?_ | refine acall (c6) ?_ | refine qn (c6) ?_ | refine qbk c3 ?_ | refine qfr (n0 + 1) _ (c7 _ _ (by simp)) (by simp) ?_ | refine qe ?_ | refine qk ?_ | refine qh ?_ | refine qo ?_) <;> (try simp (disch := first | omega | simp) [qg, -qq, -qu, d0, d1, d2, d3, d4, d5, d6, h1, h3, hai, hki'])) | (with_reducible refine qbx (id := 17) [.cells [.int x.op, .str x.a, .str x.b, .str x.c, .str x.sep, .int x.n, .int x.value.k, .int x.value.n, .str x.value.s] 29, .vec (row.map Val.av) 27 3] [.R, .R, .R, .R, .R, .R, .R, .M, .R, .R, .R, .M, .M, .W, .W] (by kernel_rfl) (by kernel_rfl) (by simp) ?_) | ((with_reducible refine sideT ?_ ?_); first | omega | assumption | (simp; done)) | (refine qf fun K hK => ?_) | (refine qa ?_) | refine ql ?_ | ((first | refine hK _ ?_ | (clear hK K; refine hK _ ?_) | (clear hK K; clear hK K; refine hK _ ?_)); clear hK K) | refine qd ?_)
    rw [← hR, qbv]; simp
set_option maxRecDepth 4000 in
set_option maxHeartbeats 4000000 in
theorem bck_op5 (x : Lens) (cols : List Col) (row : List Val) (hx : qcc x) (hc : cols.length ≤ 100) (hr0 : 1 ≤ row.length) (hr : row.length ≤ 100) (ho : x.op = 5) (i : Nat) (hi1 : findP cols x.a.toList = i) (hi2 : i < row.length) (hic : i < cols.length) (hn : i64 row[i].n) (hs : row[i].s.size ≤ 1000000) (R : List Val) (hR : bckP x cols row = R) : Gives Tryz.prog 65 [x.av, .sl (cols.map Col.av), .sl (row.map Val.av)] (.sl (R.map Val.av)) := by
  have c2 := qz cols x.a (by omega)
  have c3 := qck row hr0 hr
  have c5 := qz cols x.b (by omega)
  have hln : (row.map Val.av).length = row.length := by simp
  rw [hi1] at c2
  have h1 : ((i : Int)).toNat = i := by omega
  have h2 : ((i : Int) + 1).toNat = i + 1 := by omega
  have hvi := qbj hi2
  have e1 : (findP cols x.a.toList).toNat = i := by omega
  have hci := qda hic
  have d0 : (x.op == 0) = false := beq_eq_false_iff_ne.2 (by omega)
  have d1 : (x.op == 1) = false := beq_eq_false_iff_ne.2 (by omega)
  have d2 : (x.op == 2) = false := beq_eq_false_iff_ne.2 (by omega)
  have d3 : (x.op == 3) = false := beq_eq_false_iff_ne.2 (by omega)
  have d4 : (x.op == 4) = false := beq_eq_false_iff_ne.2 (by omega)
  have d5 : (x.op == 5) = true := by rw [ho]; rfl
  have d6 : (x.op == 6) = false := beq_eq_false_iff_ne.2 (by omega)
  unfold bckP at hR
  simp only [e1] at hR
  rw [if_neg (by omega), if_neg (by omega), if_neg (by omega), if_neg (by omega), if_pos ho] at hR
  rw [hvi, hci] at hR
  have c8 := vzero_g cols[i].type
  have c6 := conv_g row[i] cols[i].type ⟨cols[i].type, 0, ⟨#[]⟩⟩ hn hs
  generalize hA : convP row[i] cols[i].type ⟨cols[i].type, 0, ⟨#[]⟩⟩ = A at *
  refine qm Tryz.func65 Tryz.ntmps65 rfl rfl (by decide) rfl (by intro n; simp) fun σ n0 hcl hft => ?_
  repeat' (first | ((first | (with_reducible first | refine qbe ?_ | refine qc ?_ | refine qb ?_ | refine qj ?_ | refine qi ?_ | refine anyF_step ?_ | refine anyF_end ?_) | ((with_reducible refine qp (fun hg => ?_) (fun hg => ?_)) <;> (try simp only [hg]) <;> (try simp only [gS] at hg) <;> (try (first | simp only [eq_false hg, gI] | simp only [eq_true hg, gI]))) | refine acall (c2) ?_ | refine qn (c2) ?_ | refine acall (c8) ?_ | refine qn (c8) ?_ | refine acall (c6) ?_ | refine qn (c6) ?_ | refine qbk c3 ?_ | refine qe ?_ | refine qk ?_ | refine qh ?_ | refine qo ?_) <;> (try simp (disch := first | omega | simp) [qg, -qq, -qu, d0, d1, d2, d3, d4, d5, d6, h1, h2, hi2, hic])) | (with_reducible refine awp_anyF (id := 21) [.cells [.int x.op, .str x.a, .str x.b, .str x.c, .str x.sep, .int x.n, .int x.value.k, .int x.value.n, .str x.value.s] 29, .unborn] 1 [.R, .R, .R, .R, .R, .R, .R, .R, .R, .R, .R, .R, .R, .R, .R, .R, .M, .M, .N, .W] (by kernel_rfl) (by kernel_rfl) (by simp) ?_) | ((with_reducible refine sideT ?_ ?_); first | omega | assumption | (simp; done)) | (refine qf fun K hK => ?_) | (refine qa ?_) | refine ql ?_ | ((first | refine hK _ ?_ | (clear hK K; refine hK _ ?_) | (clear hK K; clear hK K; refine hK _ ?_)); clear hK K) | refine qd ?_)
  refine ⟨qx 6 1 (k := row.length) (by simp) (by rfl) (by simp) ?_⟩
  repeat' (first | ((first | ((with_reducible refine qp (fun hg => ?_) (fun hg => ?_)) <;> (try simp only [hg]) <;> (try simp only [gS] at hg) <;> (try (first | simp only [eq_false hg, gI] | simp only [eq_true hg, gI]))) | (with_reducible first | refine qc ?_ | refine qb ?_ | refine qj ?_ | refine qi ?_) | refine qe ?_ | refine qk ?_ | refine qh ?_ | refine qo ?_) <;> (try simp (disch := first | omega | simp) [qg, -qq, -qu])) | ((with_reducible refine sideT ?_ ?_); first | omega | assumption | (simp; done)) | (refine qf fun K hK => ?_) | (refine qa ?_) | refine ql ?_ | ((first | refine hK _ ?_ | (clear hK K; refine hK _ ?_) | (clear hK K; clear hK K; refine hK _ ?_)); clear hK K) | refine qd ?_)
  rw [← hR, qbv]
set_option maxRecDepth 4000 in
set_option maxHeartbeats 4000000 in
theorem bck_op6 (x : Lens) (cols : List Col) (row : List Val) (hx : qcc x) (hc : cols.length ≤ 100) (hr0 : 1 ≤ row.length) (hr : row.length ≤ 100) (ho : x.op = 6) (i : Nat) (hi1 : findP cols x.a.toList = i) (hi2 : i < row.length) (hn0 : x.n ≠ 0) (R : List Val) (hR : bckP x cols row = R) : Gives Tryz.prog 65 [x.av, .sl (cols.map Col.av), .sl (row.map Val.av)] (.sl (R.map Val.av)) := by
  have c2 := qz cols x.a (by omega)
  have c3 := qck row hr0 hr
  have c5 := qz cols x.b (by omega)
  have hln : (row.map Val.av).length = row.length := by simp
  rw [hi1] at c2
  have h1 : ((i : Int)).toNat = i := by omega
  have h2 : ((i : Int) + 1).toNat = i + 1 := by omega
  have hvi := qbj hi2
  have e1 : (findP cols x.a.toList).toNat = i := by omega
  have d0 : (x.op == 0) = false := beq_eq_false_iff_ne.2 (by omega)
  have d1 : (x.op == 1) = false := beq_eq_false_iff_ne.2 (by omega)
  have d2 : (x.op == 2) = false := beq_eq_false_iff_ne.2 (by omega)
  have d3 : (x.op == 3) = false := beq_eq_false_iff_ne.2 (by omega)
  have d4 : (x.op == 4) = false := beq_eq_false_iff_ne.2 (by omega)
  have d5 : (x.op == 5) = false := beq_eq_false_iff_ne.2 (by omega)
  have d6 : (x.op == 6) = true := by rw [ho]; rfl
  unfold bckP at hR
  simp only [e1] at hR
  rw [if_neg (by omega), if_neg (by omega), if_neg (by omega), if_neg (by omega), if_neg (by omega), if_pos ho] at hR
  rw [hvi] at hR
  have c6 := qdi (IntKind.i64.wrap (row[i].n.tdiv x.n))
  refine qm Tryz.func65 Tryz.ntmps65 rfl rfl (by decide) rfl (by intro n; simp) fun σ n0 hcl hft => ?_
  repeat' (first | ((first | (with_reducible first | refine qbe ?_ | refine qc ?_ | refine qb ?_ | refine qj ?_ | refine qi ?_ | refine anyF_step ?_ | refine anyF_end ?_) | ((with_reducible refine qp (fun hg => ?_) (fun hg => ?_)) <;> (try simp only [hg]) <;> (try simp only [gS] at hg) <;> (try (first | simp only [eq_false hg, gI] | simp only [eq_true hg, gI]))) | refine acall (c2) ?_ | refine qn (c2) ?_ | refine acall (c6) ?_ | refine qn (c6) ?_ | refine qbk c3 ?_ | refine qe ?_ | refine qk ?_ | refine qh ?_ | refine qo ?_) <;> (try simp (disch := first | omega | simp) [qg, -qq, -qu, d0, d1, d2, d3, d4, d5, d6, h1, h2, hi2, hn0])) | (with_reducible refine awp_anyF (id := 23) [.cells [.int x.op, .str x.a, .str x.b, .str x.c, .str x.sep, .int x.n, .int x.value.k, .int x.value.n, .str x.value.s] 29, .unborn] 1 [.R, .R, .R, .R, .R, .R, .R, .R, .R, .R, .M, .N, .W] (by kernel_rfl) (by kernel_rfl) (by simp) ?_) | ((with_reducible refine sideT ?_ ?_); first | omega | assumption | (simp; done)) | (refine qf fun K hK => ?_) | (refine qa ?_) | refine ql ?_ | ((first | refine hK _ ?_ | (clear hK K; refine hK _ ?_) | (clear hK K; clear hK K; refine hK _ ?_)); clear hK K) | refine qd ?_)
  refine ⟨qx 6 1 (k := row.length) (by simp) (by rfl) (by simp) ?_⟩
  repeat' (first | ((first | ((with_reducible refine qp (fun hg => ?_) (fun hg => ?_)) <;> (try simp only [hg]) <;> (try simp only [gS] at hg) <;> (try (first | simp only [eq_false hg, gI] | simp only [eq_true hg, gI]))) | (with_reducible first | refine qc ?_ | refine qb ?_ | refine qj ?_ | refine qi ?_) | refine qe ?_ | refine qk ?_ | refine qh ?_ | refine qo ?_) <;> (try simp (disch := first | omega | simp) [qg, -qq, -qu])) | ((with_reducible refine sideT ?_ ?_); first | omega | assumption | (simp; done)) | (refine qf fun K hK => ?_) | (refine qa ?_) | refine ql ?_ | ((first | refine hK _ ?_ | (clear hK K; refine hK _ ?_) | (clear hK K; clear hK K; refine hK _ ?_)); clear hK K) | refine qd ?_)
  rw [← hR]; exact qbv row i ⟨0, IntKind.i64.wrap (row[i].n.tdiv x.n), ⟨#[]⟩⟩
end Go.Proofs.YtbkkjlcclddpdaaGreatDoor
