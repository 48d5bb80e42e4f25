/- Walk of lens.forward. -/
import Derived.Test.YtbkkjlcclddpdaaGreatDoorGd12
import Derived.Test.YtbkkjlcclddpdaaGreatDoorGd19
import Derived.Test.YtbkkjlcclddpdaaGreatDoorGd28
import Derived.Test.YtbkkjlcclddpdaaGreatDoorGd29
set_option linter.unusedSimpArgs false
set_option linter.unusedVariables false
namespace Go.Proofs.YtbkkjlcclddpdaaGreatDoor
open Go.RowKit Go.Lib
theorem qbi {L : List Val} {i : Nat} (h : i < L.length) : valAt L i = L[i] := by unfold valAt; rw [List.getD_eq_getElem?_getD, List.getElem?_eq_getElem h]; rfl
theorem qv (L : List Val) (i : Nat) (c : Val) : (L.map Val.av).set i c.av = (L.set i c).map Val.av := List.map_set.symm
theorem qdb (L : List Val) : AV.wid (L.map Val.av) 3 := Val.avs_wid L
theorem qcg (L : List Val) (h0 : 1 ≤ L.length) (hc : L.length ≤ 100) : GivesV Tryz.prog 58 [.sl (L.map Val.av)] L.length (.vec (L.map Val.av) 27 3) :=
  cloV (L.map Val.av) L.length (by simp) (by omega) (by omega) (Val.avs_wid L) (Val.avs_elms L) (fun m => Val.avs_cl L m)
set_option maxRecDepth 4000 in
set_option maxHeartbeats 4000000 in
theorem fwd_op0 (x : Lens) (cols : List Col) (row : List Val) (hx : qbq x) (hc : cols.length ≤ 100) (hr0 : 1 ≤ row.length) (hr : row.length ≤ 100) (ho : x.op = 0) (R : List Val) (hR : fwdP x cols row = R) : Gives Tryz.prog 59 [x.av, .sl (cols.map Col.av), .sl (row.map Val.av)] (.sl (R.map Val.av)) := by
  have c2 := qx cols x.a (by omega)
  have c3 := qcg row hr0 hr
  have c5 := qx cols x.b (by omega)
  have hln : (row.map Val.av).length = row.length := by simp
  have d0 : (x.op == 0) = true := by rw [ho]; rfl
  have d1 : (x.op == 1) = false := beq_eq_false_iff_ne.2 (by omega)
  have d2 : (x.op == 2) = false := beq_eq_false_iff_ne.2 (by omega)
  have d3 : (x.op == 3) = false := beq_eq_false_iff_ne.2 (by omega)
  have d4 : (x.op == 4) = false := beq_eq_false_iff_ne.2 (by omega)
  have d5 : (x.op == 5) = false := beq_eq_false_iff_ne.2 (by omega)
  have d6 : (x.op == 6) = false := beq_eq_false_iff_ne.2 (by omega)
  unfold fwdP at hR
  dsimp only at hR
  rw [if_pos ho] at hR
  refine qh Tryz.func59 Tryz.ntmps59 fun σ n0 hcl hft => ?_
  repeat' (first | ((first | with_reducible refine qs ?_ | ((with_reducible refine qf (fun hg => ?_) (fun hg => ?_)) <;> (try simp only [hg]) <;> (try simp only [gS] at hg) <;> (try (first | simp only [eq_false hg, gI] | simp only [eq_true hg, gI]))) | refine Stp.m ?_ | refine qw c3 ?_ | refine awp_regionW (id := 4) 4 (by rfl) ?_ | refine qi ?_ | refine agH ?_) <;> (try simp (disch := first | omega | simp) [qd, -qg, -ql, d0, d1, d2, d3, d4, d5, d6, List.take_succ_cons, List.drop_succ_cons])) | refine sideA ?_ | refine qc fun K hK => ?_ | refine qa ?_ | refine qe ?_ | refine qb ?_ | (refine hK _ ?_; clear hK K) | clear hK K)
  refine ⟨qq 6 1 (k := row.length + 1) (by simp) (by rfl) (by simp) ?_⟩
  repeat' (first | ((first | ((with_reducible refine qf (fun hg => ?_) (fun hg => ?_)) <;> (try simp only [hg]) <;> (try simp only [gS] at hg) <;> (try (first | simp only [eq_false hg, gI] | simp only [eq_true hg, gI]))) | refine Stp.m ?_) <;> (try simp (disch := first | omega | simp) [qd, -qg, -ql])) | refine sideA ?_ | refine qc fun K hK => ?_ | refine qa ?_ | refine qe ?_ | refine qb ?_ | (refine hK _ ?_; clear hK K) | clear hK K)
  rw [← hR, List.map_append]; rfl
set_option maxRecDepth 4000 in
set_option maxHeartbeats 4000000 in
theorem fwd_op1 (x : Lens) (cols : List Col) (row : List Val) (hx : qbq x) (hc : cols.length ≤ 100) (hr0 : 1 ≤ row.length) (hr : row.length ≤ 100) (ho : x.op = 1) (i : Nat) (hi1 : findP cols x.a.toList = i) (hi2 : i < row.length) (R : List Val) (hR : fwdP x cols row = R) : Gives Tryz.prog 59 [x.av, .sl (cols.map Col.av), .sl (row.map Val.av)] (.sl (R.map Val.av)) := by
  have c2 := qx cols x.a (by omega)
  have c3 := qcg row hr0 hr
  have c5 := qx cols x.b (by omega)
  have hln : (row.map Val.av).length = row.length := by simp
  rw [hi1] at c2
  have h1 : ((i : Int)).toNat = i := by omega
  have h2 : ((i : Int) + 1).toNat = i + 1 := by omega
  have hvi := qbi hi2
  have e1 : (findP cols x.a.toList).toNat = i := by omega
  have d0 : (x.op == 0) = false := beq_eq_false_iff_ne.2 (by omega)
  have d1 : (x.op == 1) = true := by rw [ho]; rfl
  have d2 : (x.op == 2) = false := beq_eq_false_iff_ne.2 (by omega)
  have d3 : (x.op == 3) = false := beq_eq_false_iff_ne.2 (by omega)
  have d4 : (x.op == 4) = false := beq_eq_false_iff_ne.2 (by omega)
  have d5 : (x.op == 5) = false := beq_eq_false_iff_ne.2 (by omega)
  have d6 : (x.op == 6) = false := beq_eq_false_iff_ne.2 (by omega)
  unfold fwdP at hR
  simp only [e1] at hR
  rw [if_neg (by omega), if_pos ho] at hR
  have c7 : ∀ (σ : Nat → AB) (r : Nat), σ r = .vec (row.map Val.av) 27 3 → _ := fun σ r hσ => del_acV (row.map Val.av) i row.length hi2 hln (qdh row) (qdb row) (by omega) (fun m => by rw [← qbr]; exact Val.avs_cl _ m) (σ := σ) (r := r) hσ
  refine qh Tryz.func59 Tryz.ntmps59 fun σ n0 hcl hft => ?_
  repeat' (first | ((first | ((with_reducible refine qf (fun hg => ?_) (fun hg => ?_)) <;> (try simp only [hg]) <;> (try simp only [gS] at hg) <;> (try (first | simp only [eq_false hg, gI] | simp only [eq_true hg, gI]))) | refine Stp.m ?_ | refine qw c3 ?_ | refine qfp (n0 + 1) _ (c7 _ _ (by simp)) (by simp) ?_ | refine qi ?_ | refine agH ?_) <;> (try simp (disch := first | omega | simp) [qd, -qg, -ql, d0, d1, d2, d3, d4, d5, d6, h1, h2])) | refine sideA ?_ | refine qc fun K hK => ?_ | refine qa ?_ | refine qe ?_ | refine qb ?_ | (refine hK _ ?_; clear hK K) | clear hK K)
  rw [← hR]; exact (qbr _ _ _).symm
set_option maxRecDepth 4000 in
set_option maxHeartbeats 4000000 in
theorem fwd_op2 (x : Lens) (cols : List Col) (row : List Val) (hx : qbq x) (hc : cols.length ≤ 100) (hr0 : 1 ≤ row.length) (hr : row.length ≤ 100) (ho : x.op = 2) : Gives Tryz.prog 59 [x.av, .sl (cols.map Col.av), .sl (row.map Val.av)] (.sl (row.map Val.av)) := by
  have c2 := qx cols x.a (by omega)
  have c3 := qcg row hr0 hr
  have c5 := qx cols x.b (by omega)
  have hln : (row.map Val.av).length = row.length := by simp
  have d0 : (x.op == 0) = false := beq_eq_false_iff_ne.2 (by omega)
  have d1 : (x.op == 1) = false := beq_eq_false_iff_ne.2 (by omega)
  have d2 : (x.op == 2) = true := by rw [ho]; rfl
  have d3 : (x.op == 3) = false := beq_eq_false_iff_ne.2 (by omega)
  have d4 : (x.op == 4) = false := beq_eq_false_iff_ne.2 (by omega)
  have d5 : (x.op == 5) = false := beq_eq_false_iff_ne.2 (by omega)
  have d6 : (x.op == 6) = false := beq_eq_false_iff_ne.2 (by omega)
  refine qh Tryz.func59 Tryz.ntmps59 fun σ n0 hcl hft => ?_
  repeat' (first | ((first | with_reducible refine qs ?_ | ((with_reducible refine qf (fun hg => ?_) (fun hg => ?_)) <;> (try simp only [hg]) <;> (try simp only [gS] at hg) <;> (try (first | simp only [eq_false hg, gI] | simp only [eq_true hg, gI]))) | refine Stp.m ?_ | refine qw c3 ?_ | refine qi ?_ | refine agH ?_) <;> (try simp (disch := first | omega | simp) [qd, -qg, -ql, d0, d1, d2, d3, d4, d5, d6])) | refine sideA ?_ | refine qc fun K hK => ?_ | refine qa ?_ | refine qe ?_ | refine qb ?_ | (refine hK _ ?_; clear hK K) | clear hK K)
  refine ⟨qq 6 1 (k := row.length) (by simp) (by rfl) (by simp) ?_⟩
  repeat' (first | ((first | ((with_reducible refine qf (fun hg => ?_) (fun hg => ?_)) <;> (try simp only [hg]) <;> (try simp only [gS] at hg) <;> (try (first | simp only [eq_false hg, gI] | simp only [eq_true hg, gI]))) | refine Stp.m ?_) <;> (try simp (disch := first | omega | simp) [qd, -qg, -ql])) | refine sideA ?_ | refine qc fun K hK => ?_ | refine qa ?_ | refine qe ?_ | refine qb ?_ | (refine hK _ ?_; clear hK K) | clear hK K)
set_option maxRecDepth 4000 in
set_option maxHeartbeats 4000000 in
theorem fwd_op3 (x : Lens) (cols : List Col) (row : List Val) (hx : qbq x) (hc : cols.length ≤ 100) (hr0 : 1 ≤ row.length) (hr : row.length ≤ 100) (ho : x.op = 3) (i : Nat) (hi1 : findP cols x.a.toList = i) (hi2 : i < row.length) (hs : row[i].s.size < 4294967281) (R : List Val) (hR : fwdP x cols row = R) : Gives Tryz.prog 59 [x.av, .sl (cols.map Col.av), .sl (row.map Val.av)] (.sl (R.map Val.av)) := by
  have c2 := qx cols x.a (by omega)
  have c3 := qcg row hr0 hr
  have c5 := qx cols x.b (by omega)
  have hln : (row.map Val.av).length = row.length := by simp
  rw [hi1] at c2
  have h1 : ((i : Int)).toNat = i := by omega
  have h2 : ((i : Int) + 1).toNat = i + 1 := by omega
  have hvi := qbi hi2
  have e1 : (findP cols x.a.toList).toNat = i := by omega
  have d0 : (x.op == 0) = false := beq_eq_false_iff_ne.2 (by omega)
  have d1 : (x.op == 1) = false := beq_eq_false_iff_ne.2 (by omega)
  have d2 : (x.op == 2) = false := beq_eq_false_iff_ne.2 (by omega)
  have d3 : (x.op == 3) = true := by rw [ho]; rfl
  have d4 : (x.op == 4) = false := beq_eq_false_iff_ne.2 (by omega)
  have d5 : (x.op == 5) = false := beq_eq_false_iff_ne.2 (by omega)
  have d6 : (x.op == 6) = false := beq_eq_false_iff_ne.2 (by omega)
  unfold fwdP at hR
  simp only [e1] at hR
  rw [if_neg (by omega), if_neg (by omega), if_pos ho] at hR
  rw [hvi] at hR
  have c6 := lsplit_g row[i].s x.sep hs
  generalize hA : (qdf row[i].s.data.toList x.sep.data.toList).1 = A at *
  generalize hB : (qdf row[i].s.data.toList x.sep.data.toList).2 = B at *
  have c7 : ∀ (σ : Nat → AB) (r : Nat), σ r = .vec (row.map Val.av) 27 3 → _ := fun σ r hσ => rep_acV (row.map Val.av) ([A, B].map Val.av) i (i + 1) row.length 2 (by omega) (by omega) (by decide) hln (by rfl) (qdh row) (qdb row) (qdh _) (qdb _) (by omega) (by omega) (fun m => by rw [← List.map_take, ← List.map_drop, ← List.map_append, ← List.map_append]; exact Val.avs_cl _ m) (σ := σ) (r := r) hσ
  refine qh Tryz.func59 Tryz.ntmps59 fun σ n0 hcl hft => ?_
  repeat' (first | ((first | ((with_reducible refine qf (fun hg => ?_) (fun hg => ?_)) <;> (try simp only [hg]) <;> (try simp only [gS] at hg) <;> (try (first | simp only [eq_false hg, gI] | simp only [eq_true hg, gI]))) | refine Stp.m ?_ | refine qw c3 ?_ | refine qfp (n0 + 1) _ (c7 _ _ (by simp)) (by simp) ?_ | refine qi ?_ | refine agH ?_) <;> (try simp (disch := first | omega | simp) [qd, -qg, -ql, d0, d1, d2, d3, d4, d5, d6, h1, h2, hi2])) | with_reducible refine qbt (id := 8) [.cells [.int x.op, .str x.a, .str x.b, .str x.c, .str x.sep, .int x.n, .int x.value.k, .int x.value.n, .str x.value.s] 29, .vec (row.map Val.av) 27 3] [.R, .R, .R, .R, .R, .R, .R, .M, .R, .R, .R, .M, .M, .W, .W] (by kernel_rfl) (by kernel_rfl) (by simp) ?_ | refine sideA ?_ | refine qc fun K hK => ?_ | refine qa ?_ | refine qe ?_ | refine qb ?_ | (refine hK _ ?_; clear hK K) | clear hK K)
  rw [← hR]; simp
set_option maxRecDepth 4000 in
set_option maxHeartbeats 4000000 in
theorem fwd_op4 (x : Lens) (cols : List Col) (row : List Val) (hx : qbq x) (hc : cols.length ≤ 100) (hr0 : 1 ≤ row.length) (hr : row.length ≤ 100) (ho : x.op = 4) (i : Nat) (hi1 : findP cols x.a.toList = i) (hi2 : i < row.length) (k : Nat) (hk1 : findP cols x.b.toList = k) (hk2 : k < row.length) (hs : row[i].s.size + x.sep.size + row[k].s.size ≤ 1000000) (R : List Val) (hR : fwdP x cols row = R) : Gives Tryz.prog 59 [x.av, .sl (cols.map Col.av), .sl (row.map Val.av)] (.sl (R.map Val.av)) := by
  have c2 := qx cols x.a (by omega)
  have c3 := qcg row hr0 hr
  have c5 := qx cols x.b (by omega)
  have hln : (row.map Val.av).length = row.length := by simp
  rw [hi1] at c2
  have h1 : ((i : Int)).toNat = i := by omega
  have h2 : ((i : Int) + 1).toNat = i + 1 := by omega
  have hvi := qbi hi2
  have e1 : (findP cols x.a.toList).toNat = i := by omega
  rw [hk1] at c5
  have e2 : (findP cols x.b.toList).toNat = k := by omega
  have h3 : ((k : Int)).toNat = k := by omega
  have hvk := qbi hk2
  have d0 : (x.op == 0) = false := beq_eq_false_iff_ne.2 (by omega)
  have d1 : (x.op == 1) = false := beq_eq_false_iff_ne.2 (by omega)
  have d2 : (x.op == 2) = false := beq_eq_false_iff_ne.2 (by omega)
  have d3 : (x.op == 3) = false := beq_eq_false_iff_ne.2 (by omega)
  have d4 : (x.op == 4) = true := by rw [ho]; rfl
  have d5 : (x.op == 5) = false := beq_eq_false_iff_ne.2 (by omega)
  have d6 : (x.op == 6) = false := beq_eq_false_iff_ne.2 (by omega)
  unfold fwdP at hR
  simp only [e1, e2] at hR
  rw [if_neg (by omega), if_neg (by omega), if_neg (by omega), if_pos ho] at hR
  rw [hvi, hvk] at hR
  have c6 := lcut_g (row[i].s ++ x.sep ++ row[k].s) (by rw [ByteArray.size_append, ByteArray.size_append]; omega)
  have hd : (row[i].s ++ x.sep ++ row[k].s).data.toList = row[i].s.data.toList ++ x.sep.data.toList ++ row[k].s.data.toList := by simp
  rw [hd] at c6
  generalize hA : cutV (row[i].s.data.toList ++ x.sep.data.toList ++ row[k].s.data.toList) = A at *
  have c7 : ∀ (σ : Nat → AB) (r : Nat), σ r = .vec ((row.map Val.av).set i A.av) 27 3 → _ := fun σ r hσ => del_acV ((row.map Val.av).set i A.av) k row.length hk2 (by simp) (by rw [qv]; exact qdh _) (by rw [qv]; exact qdb _) (by omega) (fun m => by rw [qv, ← qbr]; exact Val.avs_cl _ m) (σ := σ) (r := r) hσ
  refine qh Tryz.func59 Tryz.ntmps59 fun σ n0 hcl hft => ?_
  repeat' (first | ((first | ((with_reducible refine qf (fun hg => ?_) (fun hg => ?_)) <;> (try simp only [hg]) <;> (try simp only [gS] at hg) <;> (try (first | simp only [eq_false hg, gI] | simp only [eq_true hg, gI]))) | refine Stp.m ?_ | refine qw c3 ?_ | refine qfp (n0 + 1) _ (c7 _ _ (by simp)) (by simp) ?_ | refine qi ?_ | refine agH ?_) <;> (try simp (disch := first | omega | simp) [qd, -qg, -ql, d0, d1, d2, d3, d4, d5, d6, h1, h2, h3, hi2, hk2])) | with_reducible refine awp_anyF (id := 12) [.cells [.int x.op, .str x.a, .str x.b, .str x.c, .str x.sep, .int x.n, .int x.value.k, .int x.value.n, .str x.value.s] 29, .unborn] 1 [.R, .R, .R, .R, .R, .R, .R, .R, .R, .R, .R, .R, .R, .R, .R, .R, .M, .N, .W] (by kernel_rfl) (by kernel_rfl) (by simp) ?_ | refine sideA ?_ | refine qc fun K hK => ?_ | refine qa ?_ | refine qe ?_ | refine qb ?_ | (refine hK _ ?_; clear hK K) | clear hK K)
  rw [← hR, qv, ← qbr]
set_option maxRecDepth 4000 in
set_option maxHeartbeats 4000000 in
theorem fwd_op5 (x : Lens) (cols : List Col) (row : List Val) (hx : qbq x) (hc : cols.length ≤ 100) (hr0 : 1 ≤ row.length) (hr : row.length ≤ 100) (ho : x.op = 5) (i : Nat) (hi1 : findP cols x.a.toList = i) (hi2 : i < row.length) (hn : i64 row[i].n) (hs : row[i].s.size ≤ 1000000) (R : List Val) (hR : fwdP x cols row = R) : Gives Tryz.prog 59 [x.av, .sl (cols.map Col.av), .sl (row.map Val.av)] (.sl (R.map Val.av)) := by
  have c2 := qx cols x.a (by omega)
  have c3 := qcg row hr0 hr
  have c5 := qx cols x.b (by omega)
  have hln : (row.map Val.av).length = row.length := by simp
  rw [hi1] at c2
  have h1 : ((i : Int)).toNat = i := by omega
  have h2 : ((i : Int) + 1).toNat = i + 1 := by omega
  have hvi := qbi hi2
  have e1 : (findP cols x.a.toList).toNat = i := by omega
  have d0 : (x.op == 0) = false := beq_eq_false_iff_ne.2 (by omega)
  have d1 : (x.op == 1) = false := beq_eq_false_iff_ne.2 (by omega)
  have d2 : (x.op == 2) = false := beq_eq_false_iff_ne.2 (by omega)
  have d3 : (x.op == 3) = false := beq_eq_false_iff_ne.2 (by omega)
  have d4 : (x.op == 4) = false := beq_eq_false_iff_ne.2 (by omega)
  have d5 : (x.op == 5) = true := by rw [ho]; rfl
  have d6 : (x.op == 6) = false := beq_eq_false_iff_ne.2 (by omega)
  unfold fwdP at hR
  simp only [e1] at hR
  rw [if_neg (by omega), if_neg (by omega), if_neg (by omega), if_neg (by omega), if_pos ho] at hR
  rw [hvi] at hR
  have c6 := conv_g row[i] x.n x.value hn hs
  generalize hA : convP row[i] x.n x.value = A at *
  refine qh Tryz.func59 Tryz.ntmps59 fun σ n0 hcl hft => ?_
  repeat' (first | ((first | with_reducible refine qs ?_ | ((with_reducible refine qf (fun hg => ?_) (fun hg => ?_)) <;> (try simp only [hg]) <;> (try simp only [gS] at hg) <;> (try (first | simp only [eq_false hg, gI] | simp only [eq_true hg, gI]))) | refine Stp.m ?_ | refine qw c3 ?_ | refine qi ?_ | refine agH ?_) <;> (try simp (disch := first | omega | simp) [qd, -qg, -ql, d0, d1, d2, d3, d4, d5, d6, h1, h2, hi2])) | with_reducible refine awp_anyF (id := 15) [.cells [.int x.op, .str x.a, .str x.b, .str x.c, .str x.sep, .int x.n, .int x.value.k, .int x.value.n, .str x.value.s] 29, .unborn] 1 [.R, .R, .R, .R, .R, .R, .R, .R, .R, .R, .M, .N, .W] (by kernel_rfl) (by kernel_rfl) (by simp) ?_ | refine sideA ?_ | refine qc fun K hK => ?_ | refine qa ?_ | refine qe ?_ | refine qb ?_ | (refine hK _ ?_; clear hK K) | clear hK K)
  refine ⟨qq 6 1 (k := row.length) (by simp) (by rfl) (by simp) ?_⟩
  repeat' (first | ((first | ((with_reducible refine qf (fun hg => ?_) (fun hg => ?_)) <;> (try simp only [hg]) <;> (try simp only [gS] at hg) <;> (try (first | simp only [eq_false hg, gI] | simp only [eq_true hg, gI]))) | refine Stp.m ?_) <;> (try simp (disch := first | omega | simp) [qd, -qg, -ql])) | refine sideA ?_ | refine qc fun K hK => ?_ | refine qa ?_ | refine qe ?_ | refine qb ?_ | (refine hK _ ?_; clear hK K) | clear hK K)
  rw [← hR, qv]
set_option maxRecDepth 4000 in
set_option maxHeartbeats 4000000 in
theorem fwd_op6 (x : Lens) (cols : List Col) (row : List Val) (hx : qbq x) (hc : cols.length ≤ 100) (hr0 : 1 ≤ row.length) (hr : row.length ≤ 100) (ho : x.op = 6) (i : Nat) (hi1 : findP cols x.a.toList = i) (hi2 : i < row.length) (R : List Val) (hR : fwdP x cols row = R) : Gives Tryz.prog 59 [x.av, .sl (cols.map Col.av), .sl (row.map Val.av)] (.sl (R.map Val.av)) := by
  have c2 := qx cols x.a (by omega)
  have c3 := qcg row hr0 hr
  have c5 := qx cols x.b (by omega)
  have hln : (row.map Val.av).length = row.length := by simp
  rw [hi1] at c2
  have h1 : ((i : Int)).toNat = i := by omega
  have h2 : ((i : Int) + 1).toNat = i + 1 := by omega
  have hvi := qbi hi2
  have e1 : (findP cols x.a.toList).toNat = i := by omega
  have d0 : (x.op == 0) = false := beq_eq_false_iff_ne.2 (by omega)
  have d1 : (x.op == 1) = false := beq_eq_false_iff_ne.2 (by omega)
  have d2 : (x.op == 2) = false := beq_eq_false_iff_ne.2 (by omega)
  have d3 : (x.op == 3) = false := beq_eq_false_iff_ne.2 (by omega)
  have d4 : (x.op == 4) = false := beq_eq_false_iff_ne.2 (by omega)
  have d5 : (x.op == 5) = false := beq_eq_false_iff_ne.2 (by omega)
  have d6 : (x.op == 6) = true := by rw [ho]; rfl
  unfold fwdP at hR
  simp only [e1] at hR
  rw [if_neg (by omega), if_neg (by omega), if_neg (by omega), if_neg (by omega), if_neg (by omega), if_pos ho] at hR
  rw [hvi] at hR
  have c6 := qdd (IntKind.i64.wrap (row[i].n * x.n))
  refine qh Tryz.func59 Tryz.ntmps59 fun σ n0 hcl hft => ?_
  repeat' (first | ((first | with_reducible refine qs ?_ | ((with_reducible refine qf (fun hg => ?_) (fun hg => ?_)) <;> (try simp only [hg]) <;> (try simp only [gS] at hg) <;> (try (first | simp only [eq_false hg, gI] | simp only [eq_true hg, gI]))) | refine Stp.m ?_ | refine qw c3 ?_ | refine qi ?_ | refine agH ?_) <;> (try simp (disch := first | omega | simp) [qd, -qg, -ql, d0, d1, d2, d3, d4, d5, d6, h1, h2, hi2])) | with_reducible refine awp_anyF (id := 17) [.cells [.int x.op, .str x.a, .str x.b, .str x.c, .str x.sep, .int x.n, .int x.value.k, .int x.value.n, .str x.value.s] 29, .unborn] 1 [.R, .R, .R, .R, .R, .R, .R, .R, .R, .R, .M, .N, .W] (by kernel_rfl) (by kernel_rfl) (by simp) ?_ | refine sideA ?_ | refine qc fun K hK => ?_ | refine qa ?_ | refine qe ?_ | refine qb ?_ | (refine hK _ ?_; clear hK K) | clear hK K)
  refine ⟨qq 6 1 (k := row.length) (by simp) (by rfl) (by simp) ?_⟩
  repeat' (first | ((first | ((with_reducible refine qf (fun hg => ?_) (fun hg => ?_)) <;> (try simp only [hg]) <;> (try simp only [gS] at hg) <;> (try (first | simp only [eq_false hg, gI] | simp only [eq_true hg, gI]))) | refine Stp.m ?_) <;> (try simp (disch := first | omega | simp) [qd, -qg, -ql])) | refine sideA ?_ | refine qc fun K hK => ?_ | refine qa ?_ | refine qe ?_ | refine qb ?_ | (refine hK _ ?_; clear hK K) | clear hK K)
  rw [← hR]; exact qv row i ⟨0, IntKind.i64.wrap (row[i].n * x.n), ⟨#[]⟩⟩
end Go.Proofs.YtbkkjlcclddpdaaGreatDoor

/- Walk of lens.backward. -/
namespace Go.Proofs.YtbkkjlcclddpdaaGreatDoor
open Go.RowKit Go.Lib
set_option maxRecDepth 4000 in
set_option maxHeartbeats 4000000 in
theorem bck_op0 (x : Lens) (cols : List Col) (row : List Val) (hx : qbq x) (hc : cols.length ≤ 100) (hr0 : 1 ≤ row.length) (hr : row.length ≤ 100) (ho : x.op = 0) (R : List Val) (hR : bckP x cols row = R) : Gives Tryz.prog 65 [x.av, .sl (cols.map Col.av), .sl (row.map Val.av)] (.sl (R.map Val.av)) := by
  have c2 := qx cols x.a (by omega)
  have c3 := qcg row hr0 hr
  have c5 := qx cols x.b (by omega)
  have hln : (row.map Val.av).length = row.length := by simp
  have d0 : (x.op == 0) = true := by rw [ho]; rfl
  have d1 : (x.op == 1) = false := beq_eq_false_iff_ne.2 (by omega)
  have d2 : (x.op == 2) = false := beq_eq_false_iff_ne.2 (by omega)
  have d3 : (x.op == 3) = false := beq_eq_false_iff_ne.2 (by omega)
  have d4 : (x.op == 4) = false := beq_eq_false_iff_ne.2 (by omega)
  have d5 : (x.op == 5) = false := beq_eq_false_iff_ne.2 (by omega)
  have d6 : (x.op == 6) = false := beq_eq_false_iff_ne.2 (by omega)
  unfold bckP at hR
  dsimp only at hR
  rw [if_pos ho] at hR
  have h1 : ((row.length : Int) - 1).toNat = row.length - 1 := by omega
  have h4 : (1 : Int) ≤ row.length := by omega
  have h5 : 1 ≤ row.length := hr0
  refine qh Tryz.func65 Tryz.ntmps65 fun σ n0 hcl hft => ?_
  repeat' (first | ((first | ((with_reducible refine qf (fun hg => ?_) (fun hg => ?_)) <;> (try simp only [hg]) <;> (try simp only [gS] at hg) <;> (try (first | simp only [eq_false hg, gI] | simp only [eq_true hg, gI]))) | refine Stp.m ?_ | refine qw c3 ?_ | refine qi ?_ | refine agH ?_) <;> (try simp (disch := first | omega | simp) [qd, -qg, -ql, d0, d1, d2, d3, d4, d5, d6])) | with_reducible refine qbg (id := 4) ?_ | refine sideA ?_ | refine qc fun K hK => ?_ | refine qa ?_ | refine qe ?_ | refine qb ?_ | (refine hK _ ?_; clear hK K) | clear hK K)
  refine ⟨qq 8 1 (k := row.length) (by simp) (by rfl) (by simp) ?_⟩
  repeat' (first | ((first | ((with_reducible refine qf (fun hg => ?_) (fun hg => ?_)) <;> (try simp only [hg]) <;> (try simp only [gS] at hg) <;> (try (first | simp only [eq_false hg, gI] | simp only [eq_true hg, gI]))) | refine Stp.m ?_) <;> (try simp (disch := first | omega | simp) [qd, -qg, -ql, h1, h4, h5, qdb, List.map_take])) | refine sideA ?_ | refine qc fun K hK => ?_ | refine qa ?_ | refine qe ?_ | refine qb ?_ | (refine hK _ ?_; clear hK K) | clear hK K)
  rw [← hR]; simp [List.dropLast_eq_take, List.map_take]
set_option maxRecDepth 4000 in
set_option maxHeartbeats 4000000 in
theorem bck_op1 (x : Lens) (cols : List Col) (row : List Val) (hx : qbq x) (hc : cols.length ≤ 100) (hr0 : 1 ≤ row.length) (hr : row.length ≤ 100) (ho : x.op = 1) (i : Nat) (hi1 : findP cols x.a.toList = i) (hi2 : i ≤ row.length) (R : List Val) (hR : bckP x cols row = R) : Gives Tryz.prog 65 [x.av, .sl (cols.map Col.av), .sl (row.map Val.av)] (.sl (R.map Val.av)) := by
  have c2 := qx cols x.a (by omega)
  have c3 := qcg row hr0 hr
  have c5 := qx cols x.b (by omega)
  have hln : (row.map Val.av).length = row.length := by simp
  rw [hi1] at c2
  have h1 : ((i : Int)).toNat = i := by omega
  have e1 : (findP cols x.a.toList).toNat = i := by omega
  have d0 : (x.op == 0) = false := beq_eq_false_iff_ne.2 (by omega)
  have d1 : (x.op == 1) = true := by rw [ho]; rfl
  have d2 : (x.op == 2) = false := beq_eq_false_iff_ne.2 (by omega)
  have d3 : (x.op == 3) = false := beq_eq_false_iff_ne.2 (by omega)
  have d4 : (x.op == 4) = false := beq_eq_false_iff_ne.2 (by omega)
  have d5 : (x.op == 5) = false := beq_eq_false_iff_ne.2 (by omega)
  have d6 : (x.op == 6) = false := beq_eq_false_iff_ne.2 (by omega)
  unfold bckP at hR
  simp only [e1] at hR
  rw [if_neg (by omega), if_pos ho] at hR
  have c7 : ∀ (σ : Nat → AB) (r : Nat), σ r = .vec (row.map Val.av) 27 3 → _ := fun σ r hσ => ins_acV (row.map Val.av) ([x.value].map Val.av) i row.length 1 (by omega) (by omega) (by decide) (by simp) (by rfl) (qdh _) (qdb _) (qdh _) (qdb _) (by omega) (by omega) (fun m => by rw [← List.map_take, ← List.map_drop, ← List.map_append, ← List.map_append]; exact Val.avs_cl _ m) (σ := σ) (r := r) hσ
  refine qh Tryz.func65 Tryz.ntmps65 fun σ n0 hcl hft => ?_
  repeat' (first | ((first | ((with_reducible refine qf (fun hg => ?_) (fun hg => ?_)) <;> (try simp only [hg]) <;> (try simp only [gS] at hg) <;> (try (first | simp only [eq_false hg, gI] | simp only [eq_true hg, gI]))) | refine Stp.m ?_ | refine qw c3 ?_ | refine qfp (n0 + 1) _ (c7 _ _ (by simp)) (by simp) ?_ | refine qi ?_ | refine agH ?_) <;> (try simp (disch := first | omega | simp) [qd, -qg, -ql, d0, d1, d2, d3, d4, d5, d6, h1])) | refine sideA ?_ | refine qc fun K hK => ?_ | refine qa ?_ | refine qe ?_ | refine qb ?_ | (refine hK _ ?_; clear hK K) | clear hK K)
  rw [← hR]; simp
set_option maxRecDepth 4000 in
set_option maxHeartbeats 4000000 in
theorem bck_op2 (x : Lens) (cols : List Col) (row : List Val) (hx : qbq x) (hc : cols.length ≤ 100) (hr0 : 1 ≤ row.length) (hr : row.length ≤ 100) (ho : x.op = 2) : Gives Tryz.prog 65 [x.av, .sl (cols.map Col.av), .sl (row.map Val.av)] (.sl (row.map Val.av)) := by
  have c2 := qx cols x.a (by omega)
  have c3 := qcg row hr0 hr
  have c5 := qx cols x.b (by omega)
  have hln : (row.map Val.av).length = row.length := by simp
  have d0 : (x.op == 0) = false := beq_eq_false_iff_ne.2 (by omega)
  have d1 : (x.op == 1) = false := beq_eq_false_iff_ne.2 (by omega)
  have d2 : (x.op == 2) = true := by rw [ho]; rfl
  have d3 : (x.op == 3) = false := beq_eq_false_iff_ne.2 (by omega)
  have d4 : (x.op == 4) = false := beq_eq_false_iff_ne.2 (by omega)
  have d5 : (x.op == 5) = false := beq_eq_false_iff_ne.2 (by omega)
  have d6 : (x.op == 6) = false := beq_eq_false_iff_ne.2 (by omega)
  refine qh Tryz.func65 Tryz.ntmps65 fun σ n0 hcl hft => ?_
  repeat' (first | ((first | with_reducible refine qs ?_ | ((with_reducible refine qf (fun hg => ?_) (fun hg => ?_)) <;> (try simp only [hg]) <;> (try simp only [gS] at hg) <;> (try (first | simp only [eq_false hg, gI] | simp only [eq_true hg, gI]))) | refine Stp.m ?_ | refine qw c3 ?_ | refine qi ?_ | refine agH ?_) <;> (try simp (disch := first | omega | simp) [qd, -qg, -ql, d0, d1, d2, d3, d4, d5, d6])) | refine sideA ?_ | refine qc fun K hK => ?_ | refine qa ?_ | refine qe ?_ | refine qb ?_ | (refine hK _ ?_; clear hK K) | clear hK K)
  refine ⟨qq 6 1 (k := row.length) (by simp) (by rfl) (by simp) ?_⟩
  repeat' (first | ((first | ((with_reducible refine qf (fun hg => ?_) (fun hg => ?_)) <;> (try simp only [hg]) <;> (try simp only [gS] at hg) <;> (try (first | simp only [eq_false hg, gI] | simp only [eq_true hg, gI]))) | refine Stp.m ?_) <;> (try simp (disch := first | omega | simp) [qd, -qg, -ql])) | refine sideA ?_ | refine qc fun K hK => ?_ | refine qa ?_ | refine qe ?_ | refine qb ?_ | (refine hK _ ?_; clear hK K) | clear hK K)
set_option maxRecDepth 4000 in
set_option maxHeartbeats 4000000 in
theorem bck_op3 (x : Lens) (cols : List Col) (row : List Val) (hx : qbq x) (hc : cols.length ≤ 100) (hr0 : 1 ≤ row.length) (hr : row.length ≤ 100) (ho : x.op = 3) (i : Nat) (hi1 : findP cols x.a.toList = i) (hi2 : i < row.length) (hi3 : i + 1 < row.length) (hs : row[i].s.size + x.sep.size + row[i + 1].s.size ≤ 1000000) (R : List Val) (hR : bckP x cols row = R) : Gives Tryz.prog 65 [x.av, .sl (cols.map Col.av), .sl (row.map Val.av)] (.sl (R.map Val.av)) := by
  have c2 := qx cols x.a (by omega)
  have c3 := qcg row hr0 hr
  have c5 := qx cols x.b (by omega)
  have hln : (row.map Val.av).length = row.length := by simp
  rw [hi1] at c2
  have h1 : ((i : Int)).toNat = i := by omega
  have h2 : ((i : Int) + 1).toNat = i + 1 := by omega
  have hvi := qbi hi2
  have e1 : (findP cols x.a.toList).toNat = i := by omega
  have hvj := qbi hi3
  have h3 : ((i : Int) + 2).toNat = i + 2 := by omega
  have d0 : (x.op == 0) = false := beq_eq_false_iff_ne.2 (by omega)
  have d1 : (x.op == 1) = false := beq_eq_false_iff_ne.2 (by omega)
  have d2 : (x.op == 2) = false := beq_eq_false_iff_ne.2 (by omega)
  have d3 : (x.op == 3) = true := by rw [ho]; rfl
  have d4 : (x.op == 4) = false := beq_eq_false_iff_ne.2 (by omega)
  have d5 : (x.op == 5) = false := beq_eq_false_iff_ne.2 (by omega)
  have d6 : (x.op == 6) = false := beq_eq_false_iff_ne.2 (by omega)
  unfold bckP at hR
  simp only [e1] at hR
  rw [if_neg (by omega), if_neg (by omega), if_pos ho] at hR
  rw [hvi, hvj] at hR
  by_cases he : row[i + 1].s.toList = []
  · rw [if_pos he, List.append_nil] at hR
    have he2 : row[i + 1].s.toList.isEmpty = true := by rw [he]; rfl
    have c6 := lcut_g row[i].s (by omega)
    generalize hA : cutV row[i].s.data.toList = A at *
    have c7 : ∀ (σ : Nat → AB) (r : Nat), σ r = .vec (row.map Val.av) 27 3 → _ := fun σ r hσ => rep_acV (row.map Val.av) ([A].map Val.av) i (i + 2) row.length 1 (by omega) (by omega) (by decide) hln (by rfl) (qdh row) (qdb row) (qdh _) (qdb _) (by omega) (by omega) (fun m => by rw [← List.map_take, ← List.map_drop, ← List.map_append, ← List.map_append]; exact Val.avs_cl _ m) (σ := σ) (r := r) hσ
    refine qh Tryz.func65 Tryz.ntmps65 fun σ n0 hcl hft => ?_
    repeat' (first | ((first | ((with_reducible refine qf (fun hg => ?_) (fun hg => ?_)) <;> (try simp only [hg]) <;> (try simp only [gS] at hg) <;> (try (first | simp only [eq_false hg, gI] | simp only [eq_true hg, gI]))) | refine Stp.m ?_ | refine qw c3 ?_ | refine qfp (n0 + 1) _ (c7 _ _ (by simp)) (by simp) ?_ | refine qi ?_ | refine agH ?_) <;> (try simp (disch := first | omega | simp) [qd, -qg, -ql, d0, d1, d2, d3, d4, d5, d6, h1, h2, h3, hi2, hi3, he2])) | refine sideA ?_ | refine qc fun K hK => ?_ | refine qa ?_ | refine qe ?_ | refine qb ?_ | (refine hK _ ?_; clear hK K) | clear hK K)
    rw [← hR]; simp
  · rw [if_neg he] at hR
    have he2 : row[i + 1].s.toList.isEmpty = false := List.isEmpty_eq_false_iff.2 he
    have c6 := lcut_g (row[i].s ++ (x.sep ++ row[i + 1].s)) (by rw [ByteArray.size_append, ByteArray.size_append]; omega)
    have hd : (row[i].s ++ (x.sep ++ row[i + 1].s)).data.toList = row[i].s.data.toList ++ (x.sep.data.toList ++ row[i + 1].s.data.toList) := by simp
    rw [hd] at c6
    generalize hA : cutV (row[i].s.data.toList ++ (x.sep.data.toList ++ row[i + 1].s.data.toList)) = A at *
    have c7 : ∀ (σ : Nat → AB) (r : Nat), σ r = .vec (row.map Val.av) 27 3 → _ := fun σ r hσ => rep_acV (row.map Val.av) ([A].map Val.av) i (i + 2) row.length 1 (by omega) (by omega) (by decide) hln (by rfl) (qdh row) (qdb row) (qdh _) (qdb _) (by omega) (by omega) (fun m => by rw [← List.map_take, ← List.map_drop, ← List.map_append, ← List.map_append]; exact Val.avs_cl _ m) (σ := σ) (r := r) hσ
    refine qh Tryz.func65 Tryz.ntmps65 fun σ n0 hcl hft => ?_
    repeat' (first | ((first | ((with_reducible refine qf (fun hg => ?_) (fun hg => ?_)) <;> (try simp only [hg]) <;> (try simp only [gS] at hg) <;> (try (first | simp only [eq_false hg, gI] | simp only [eq_true hg, gI]))) | refine Stp.m ?_ | refine qw c3 ?_ | refine qfp (n0 + 1) _ (c7 _ _ (by simp)) (by simp) ?_ | refine qi ?_ | refine agH ?_) <;> (try simp (disch := first | omega | simp) [qd, -qg, -ql, d0, d1, d2, d3, d4, d5, d6, h1, h2, h3, hi2, hi3, he2])) | refine sideA ?_ | refine qc fun K hK => ?_ | refine qa ?_ | refine qe ?_ | refine qb ?_ | (refine hK _ ?_; clear hK K) | clear hK K)
    rw [← hR]; simp
set_option maxRecDepth 4000 in
set_option maxHeartbeats 4000000 in
theorem bck_op4 (x : Lens) (cols : List Col) (row : List Val) (hx : qbq x) (hc : cols.length ≤ 100) (hr0 : 1 ≤ row.length) (hr : row.length ≤ 100) (ho : x.op = 4) (i k a : Nat) (hi1 : findP cols x.a.toList = i) (hk1 : findP cols x.b.toList = k) (hk2 : k ≤ row.length) (ha : a = if k < i then i - 1 else i) (hai : a < row.length) (hs : row[a].s.size < 4294967281) (R : List Val) (hR : bckP x cols row = R) : Gives Tryz.prog 65 [x.av, .sl (cols.map Col.av), .sl (row.map Val.av)] (.sl (R.map Val.av)) := by
  have c2 := qx cols x.a (by omega)
  have c3 := qcg row hr0 hr
  have c5 := qx cols x.b (by omega)
  have hln : (row.map Val.av).length = row.length := by simp
  rw [hi1] at c2
  rw [hk1] at c5
  have e1 : (findP cols x.a.toList).toNat = i := by omega
  have e2 : (findP cols x.b.toList).toNat = k := by omega
  have h3 : ((k : Int)).toNat = k := by omega
  have h1 : ((a : Int)).toNat = a := by omega
  have hva := qbi hai
  have d0 : (x.op == 0) = false := beq_eq_false_iff_ne.2 (by omega)
  have d1 : (x.op == 1) = false := beq_eq_false_iff_ne.2 (by omega)
  have d2 : (x.op == 2) = false := beq_eq_false_iff_ne.2 (by omega)
  have d3 : (x.op == 3) = false := beq_eq_false_iff_ne.2 (by omega)
  have d4 : (x.op == 4) = true := by rw [ho]; rfl
  have d5 : (x.op == 5) = false := beq_eq_false_iff_ne.2 (by omega)
  have d6 : (x.op == 6) = false := beq_eq_false_iff_ne.2 (by omega)
  unfold bckP at hR
  simp only [e1, e2] at hR
  rw [if_neg (by omega), if_neg (by omega), if_neg (by omega), if_pos ho] at hR
  rw [← ha, hva] at hR
  have c6 := lsplit_g row[a].s x.sep hs
  generalize hA : (qdf row[a].s.data.toList x.sep.data.toList).1 = A at *
  generalize hB : (qdf row[a].s.data.toList x.sep.data.toList).2 = B at *
  have c7 : ∀ (σ : Nat → AB) (r : Nat), σ r = .vec ((row.map Val.av).set a A.av) 27 3 → _ := fun σ r hσ => ins_acV ((row.map Val.av).set a A.av) ([B].map Val.av) k row.length 1 (by omega) (by omega) (by decide) (by simp) (by rfl) (by rw [qv]; exact qdh _) (by rw [qv]; exact qdb _) (qdh _) (qdb _) (by omega) (by omega) (fun m => by rw [qv, ← List.map_take, ← List.map_drop, ← List.map_append, ← List.map_append]; exact Val.avs_cl _ m) (σ := σ) (r := r) hσ
  by_cases hki : k < i
  · rw [if_pos hki] at ha
    have hki' : (k : Int) < i := by omega
    have hai' : (i : Int) - 1 = a := by omega
    refine qh Tryz.func65 Tryz.ntmps65 fun σ n0 hcl hft => ?_
    repeat' (first | ((first | ((with_reducible refine qf (fun hg => ?_) (fun hg => ?_)) <;> (try simp only [hg]) <;> (try simp only [gS] at hg) <;> (try (first | simp only [eq_false hg, gI] | simp only [eq_true hg, gI]))) | refine Stp.m ?_ | refine qw c3 ?_ | refine qfp (n0 + 1) _ (c7 _ _ (by simp)) (by simp) ?_ | refine qi ?_ | refine agH ?_) <;> (try simp (disch := first | omega | simp) [qd, -qg, -ql, d0, d1, d2, d3, d4, d5, d6, h1, h3, hai, hki', hai'])) | with_reducible refine qbt (id := 17) [.cells [.int x.op, .str x.a, .str x.b, .str x.c, .str x.sep, .int x.n, .int x.value.k, .int x.value.n, .str x.value.s] 29, .vec (row.map Val.av) 27 3] [.R, .R, .R, .R, .R, .R, .R, .M, .R, .R, .R, .M, .M, .W, .W] (by kernel_rfl) (by kernel_rfl) (by simp) ?_ | refine sideA ?_ | refine qc fun K hK => ?_ | refine qa ?_ | refine qe ?_ | refine qb ?_ | (refine hK _ ?_; clear hK K) | clear hK K)
    rw [← hR, qv]; simp
  · rw [if_neg hki] at ha
    subst ha
    have hki' : ¬ (k : Int) < a := by omega
    refine qh Tryz.func65 Tryz.ntmps65 fun σ n0 hcl hft => ?_
    repeat' (first | ((first | ((with_reducible refine qf (fun hg => ?_) (fun hg => ?_)) <;> (try simp only [hg]) <;> (try simp only [gS] at hg) <;> (try (first | simp only [eq_false hg, gI] | simp only [eq_true hg, gI]))) | refine Stp.m ?_ | refine qw c3 ?_ | refine qfp (n0 + 1) _ (c7 _ _ (by simp)) (by simp) ?_ | refine qi ?_ | refine agH ?_) <;> (try simp (disch := first | omega | simp) [qd, -qg, -ql, d0, d1, d2, d3, d4, d5, d6, h1, h3, hai, hki'])) | with_reducible refine qbt (id := 17) [.cells [.int x.op, .str x.a, .str x.b, .str x.c, .str x.sep, .int x.n, .int x.value.k, .int x.value.n, .str x.value.s] 29, .vec (row.map Val.av) 27 3] [.R, .R, .R, .R, .R, .R, .R, .M, .R, .R, .R, .M, .M, .W, .W] (by kernel_rfl) (by kernel_rfl) (by simp) ?_ | refine sideA ?_ | refine qc fun K hK => ?_ | refine qa ?_ | refine qe ?_ | refine qb ?_ | (refine hK _ ?_; clear hK K) | clear hK K)
    rw [← hR, qv]; simp
set_option maxRecDepth 4000 in
set_option maxHeartbeats 4000000 in
theorem bck_op5 (x : Lens) (cols : List Col) (row : List Val) (hx : qbq x) (hc : cols.length ≤ 100) (hr0 : 1 ≤ row.length) (hr : row.length ≤ 100) (ho : x.op = 5) (i : Nat) (hi1 : findP cols x.a.toList = i) (hi2 : i < row.length) (hic : i < cols.length) (hn : i64 row[i].n) (hs : row[i].s.size ≤ 1000000) (R : List Val) (hR : bckP x cols row = R) : Gives Tryz.prog 65 [x.av, .sl (cols.map Col.av), .sl (row.map Val.av)] (.sl (R.map Val.av)) := by
  have c2 := qx cols x.a (by omega)
  have c3 := qcg row hr0 hr
  have c5 := qx cols x.b (by omega)
  have hln : (row.map Val.av).length = row.length := by simp
  rw [hi1] at c2
  have h1 : ((i : Int)).toNat = i := by omega
  have h2 : ((i : Int) + 1).toNat = i + 1 := by omega
  have hvi := qbi hi2
  have e1 : (findP cols x.a.toList).toNat = i := by omega
  have hci := qbu hic
  have d0 : (x.op == 0) = false := beq_eq_false_iff_ne.2 (by omega)
  have d1 : (x.op == 1) = false := beq_eq_false_iff_ne.2 (by omega)
  have d2 : (x.op == 2) = false := beq_eq_false_iff_ne.2 (by omega)
  have d3 : (x.op == 3) = false := beq_eq_false_iff_ne.2 (by omega)
  have d4 : (x.op == 4) = false := beq_eq_false_iff_ne.2 (by omega)
  have d5 : (x.op == 5) = true := by rw [ho]; rfl
  have d6 : (x.op == 6) = false := beq_eq_false_iff_ne.2 (by omega)
  unfold bckP at hR
  simp only [e1] at hR
  rw [if_neg (by omega), if_neg (by omega), if_neg (by omega), if_neg (by omega), if_pos ho] at hR
  rw [hvi, hci] at hR
  have c8 := vzero_g cols[i].type
  have c6 := conv_g row[i] cols[i].type ⟨cols[i].type, 0, ⟨#[]⟩⟩ hn hs
  generalize hA : convP row[i] cols[i].type ⟨cols[i].type, 0, ⟨#[]⟩⟩ = A at *
  refine qh Tryz.func65 Tryz.ntmps65 fun σ n0 hcl hft => ?_
  repeat' (first | ((first | with_reducible refine qs ?_ | ((with_reducible refine qf (fun hg => ?_) (fun hg => ?_)) <;> (try simp only [hg]) <;> (try simp only [gS] at hg) <;> (try (first | simp only [eq_false hg, gI] | simp only [eq_true hg, gI]))) | refine Stp.m ?_ | refine qw c3 ?_ | refine qi ?_ | refine agH ?_) <;> (try simp (disch := first | omega | simp) [qd, -qg, -ql, d0, d1, d2, d3, d4, d5, d6, h1, h2, hi2, hic])) | with_reducible refine awp_anyF (id := 21) [.cells [.int x.op, .str x.a, .str x.b, .str x.c, .str x.sep, .int x.n, .int x.value.k, .int x.value.n, .str x.value.s] 29, .unborn] 1 [.R, .R, .R, .R, .R, .R, .R, .R, .R, .R, .R, .R, .R, .R, .R, .R, .M, .M, .N, .W] (by kernel_rfl) (by kernel_rfl) (by simp) ?_ | refine sideA ?_ | refine qc fun K hK => ?_ | refine qa ?_ | refine qe ?_ | refine qb ?_ | (refine hK _ ?_; clear hK K) | clear hK K)
  refine ⟨qq 6 1 (k := row.length) (by simp) (by rfl) (by simp) ?_⟩
  repeat' (first | ((first | ((with_reducible refine qf (fun hg => ?_) (fun hg => ?_)) <;> (try simp only [hg]) <;> (try simp only [gS] at hg) <;> (try (first | simp only [eq_false hg, gI] | simp only [eq_true hg, gI]))) | refine Stp.m ?_) <;> (try simp (disch := first | omega | simp) [qd, -qg, -ql])) | refine sideA ?_ | refine qc fun K hK => ?_ | refine qa ?_ | refine qe ?_ | refine qb ?_ | (refine hK _ ?_; clear hK K) | clear hK K)
  rw [← hR, qv]
set_option maxRecDepth 4000 in
set_option maxHeartbeats 4000000 in
theorem bck_op6 (x : Lens) (cols : List Col) (row : List Val) (hx : qbq x) (hc : cols.length ≤ 100) (hr0 : 1 ≤ row.length) (hr : row.length ≤ 100) (ho : x.op = 6) (i : Nat) (hi1 : findP cols x.a.toList = i) (hi2 : i < row.length) (hn0 : x.n ≠ 0) (R : List Val) (hR : bckP x cols row = R) : Gives Tryz.prog 65 [x.av, .sl (cols.map Col.av), .sl (row.map Val.av)] (.sl (R.map Val.av)) := by
  have c2 := qx cols x.a (by omega)
  have c3 := qcg row hr0 hr
  have c5 := qx cols x.b (by omega)
  have hln : (row.map Val.av).length = row.length := by simp
  rw [hi1] at c2
  have h1 : ((i : Int)).toNat = i := by omega
  have h2 : ((i : Int) + 1).toNat = i + 1 := by omega
  have hvi := qbi hi2
  have e1 : (findP cols x.a.toList).toNat = i := by omega
  have d0 : (x.op == 0) = false := beq_eq_false_iff_ne.2 (by omega)
  have d1 : (x.op == 1) = false := beq_eq_false_iff_ne.2 (by omega)
  have d2 : (x.op == 2) = false := beq_eq_false_iff_ne.2 (by omega)
  have d3 : (x.op == 3) = false := beq_eq_false_iff_ne.2 (by omega)
  have d4 : (x.op == 4) = false := beq_eq_false_iff_ne.2 (by omega)
  have d5 : (x.op == 5) = false := beq_eq_false_iff_ne.2 (by omega)
  have d6 : (x.op == 6) = true := by rw [ho]; rfl
  unfold bckP at hR
  simp only [e1] at hR
  rw [if_neg (by omega), if_neg (by omega), if_neg (by omega), if_neg (by omega), if_neg (by omega), if_pos ho] at hR
  rw [hvi] at hR
  have c6 := qdd (IntKind.i64.wrap (row[i].n.tdiv x.n))
  refine qh Tryz.func65 Tryz.ntmps65 fun σ n0 hcl hft => ?_
  repeat' (first | ((first | with_reducible refine qs ?_ | ((with_reducible refine qf (fun hg => ?_) (fun hg => ?_)) <;> (try simp only [hg]) <;> (try simp only [gS] at hg) <;> (try (first | simp only [eq_false hg, gI] | simp only [eq_true hg, gI]))) | refine Stp.m ?_ | refine qw c3 ?_ | refine qi ?_ | refine agH ?_) <;> (try simp (disch := first | omega | simp) [qd, -qg, -ql, d0, d1, d2, d3, d4, d5, d6, h1, h2, hi2, hn0])) | with_reducible refine awp_anyF (id := 23) [.cells [.int x.op, .str x.a, .str x.b, .str x.c, .str x.sep, .int x.n, .int x.value.k, .int x.value.n, .str x.value.s] 29, .unborn] 1 [.R, .R, .R, .R, .R, .R, .R, .R, .R, .R, .M, .N, .W] (by kernel_rfl) (by kernel_rfl) (by simp) ?_ | refine sideA ?_ | refine qc fun K hK => ?_ | refine qa ?_ | refine qe ?_ | refine qb ?_ | (refine hK _ ?_; clear hK K) | clear hK K)
  refine ⟨qq 6 1 (k := row.length) (by simp) (by rfl) (by simp) ?_⟩
  repeat' (first | ((first | ((with_reducible refine qf (fun hg => ?_) (fun hg => ?_)) <;> (try simp only [hg]) <;> (try simp only [gS] at hg) <;> (try (first | simp only [eq_false hg, gI] | simp only [eq_true hg, gI]))) | refine Stp.m ?_) <;> (try simp (disch := first | omega | simp) [qd, -qg, -ql])) | refine sideA ?_ | refine qc fun K hK => ?_ | refine qa ?_ | refine qe ?_ | refine qb ?_ | (refine hK _ ?_; clear hK K) | clear hK K)
  rw [← hR]; exact qv row i ⟨0, IntKind.i64.wrap (row[i].n.tdiv x.n), ⟨#[]⟩⟩
end Go.Proofs.YtbkkjlcclddpdaaGreatDoor

/- lens.forward and lens.backward, any step that can be done. -/
namespace Go.Proofs.YtbkkjlcclddpdaaGreatDoor
open Go.RowKit Go.Lib
structure qew (v : Val) : Prop where
  n : i64 v.n
  s : v.s.size ≤ 300000
def qbv (r : List Val) : Prop := ∀ v ∈ r, qew v
theorem i64_0 : i64 0 := ⟨by decide, by decide⟩
theorem wrap_i64' (n : Int) : i64 (IntKind.i64.wrap n) := by
  unfold i64; have := IntKind.wrap_i64 n; rw [this]; constructor <;> (try simp only [wrap64]) <;> (try split) <;> omega
theorem smallV_int {n : Int} (h : i64 n) : qew ⟨0, n, ⟨#[]⟩⟩ := ⟨h, by show 0 ≤ 300000; omega⟩
theorem qdn (s : List UInt8) : qew (cutV s) := ⟨i64_0, by show (qk (s.take 200)).size ≤ _; rw [qm, List.length_take]; omega⟩
theorem smallV_bit (b : Bool) : qew (bitV b) := ⟨by cases b <;> exact ⟨by decide, by decide⟩, by show 0 ≤ 300000; omega⟩
theorem smallV_conv {v o : Val} {t : Int} (hv : qew v) (ho : qew o) : qew (convP v t o) := by
  unfold convP
  repeat' split
  all_goals first | exact qdn _ | exact smallV_bit _ | exact smallV_int hv.n | exact ho | skip
  rename_i n hn
  exact smallV_int (intP_iff.1 hn).1
theorem qbd {r : List Val} (h : qbv r) {i : Nat} (hi : i < r.length) : qew r[i] := h _ (List.getElem_mem hi)
theorem qef {r : List Val} (h : qbv r) {v : Val} (hv : qew v) (i : Nat) : qbv (r.set i v) := fun u hu => by
  rcases List.mem_or_eq_of_mem_set hu with h1 | rfl
  · exact h u h1
  · exact hv
theorem smallR_erase {r : List Val} (h : qbv r) (i : Nat) : qbv (r.eraseIdx i) := fun u hu => h u (List.mem_of_mem_eraseIdx hu)
theorem qez {r : List Val} (h : qbv r) (i : Nat) : qbv (r.take i) := fun u hu => h u (List.mem_of_mem_take hu)
theorem qgq {r : List Val} (h : qbv r) (i : Nat) : qbv (r.drop i) := fun u hu => h u (List.mem_of_mem_drop hu)
theorem qcs {r q : List Val} (h : qbv r) (h2 : qbv q) : qbv (r ++ q) := fun u hu => (List.mem_append.1 hu).elim (h u) (h2 u)
theorem qev {v : Val} (h : qew v) : qbv [v] := fun u hu => by rw [List.mem_singleton] at hu; subst hu; exact h
theorem smallR_two {v u : Val} (h : qew v) (h2 : qew u) : qbv [v, u] := qcs (qev h) (qev h2)
structure qdv (x : Lens) : Prop where
  l : qbq x
  v : qew x.value
theorem fwd_g {x : Lens} {L : List Col} {row : List Val} (hx : qdv x) (h0 : 1 ≤ L.length) (h1 : L.length ≤ 12) (h : qeh x L) (hlen : row.length = L.length) (hr : qbv row) :
    Gives Tryz.prog 59 [x.av, .sl (L.map Col.av), .sl (row.map Val.av)] (.sl ((fwdP x L row).map Val.av)) := by
  cases h
  case add ho ha hn hl hR hu hv => exact fwd_op0 x L row hx.l (by omega) (by omega) (by omega) ho _ rfl
  case drop i hi ho h hk hl hR hv => exact fwd_op1 x L row hx.l (by omega) (by omega) (by omega) ho i h.find (by omega) _ rfl
  case rename i hi ho h hb hb2 hR =>
    have e : fwdP x L row = row := by unfold fwdP; simp only [ho]; rfl
    rw [e]
    exact fwd_op2 x L row hx.l (by omega) (by omega) (by omega) ho
  case split i hi ho h hk hb hc hs hbc hb2 hc2 hl hR => exact fwd_op3 x L row hx.l (by omega) (by omega) (by omega) ho i h.find (by omega) (by have := (qbd hr (i := i) (by omega)).s; omega) _ rfl
  case join i k hi hk ho h hkf hkn hik ti tk hc hs hc2 hR => exact fwd_op4 x L row hx.l (by omega) (by omega) (by omega) ho i h.find (by omega) k hkf (by omega) (by have := (qbd hr (i := i) (by omega)).s; have := (qbd hr (i := k) (by omega)).s; omega) _ rfl
  case retype i hi ho h hn0 hn3 hv hk ht hR => exact fwd_op5 x L row hx.l (by omega) (by omega) (by omega) ho i h.find (by omega) (qbd hr _).n (by have := (qbd hr (i := i) (by omega)).s; omega) _ rfl
  case scale i hi ho h ht hn hu hR => exact fwd_op6 x L row hx.l (by omega) (by omega) (by omega) ho i h.find (by omega) _ rfl
theorem bck_g {x : Lens} {L : List Col} {row : List Val} (hx : qdv x) (h0 : 1 ≤ L.length) (h1 : L.length ≤ 12) (h : qeh x L) (hlen : row.length = (oneP x L).1.length) (hr : qbv row) :
    Gives Tryz.prog 65 [x.av, .sl (L.map Col.av), .sl (row.map Val.av)] (.sl ((bckP x L row).map Val.av)) := by
  obtain ⟨g0, g1, g3, g4, g2⟩ := step_len h
  cases h
  case add ho ha hn hl hR hu hv => have := g0 ho; exact bck_op0 x L row hx.l (by omega) (by omega) (by omega) ho _ rfl
  case drop i hi ho h hk hl hR hv => have := g1 ho; exact bck_op1 x L row hx.l (by omega) (by omega) (by omega) ho i h.find (by omega) _ rfl
  case rename i hi ho h hb hb2 hR =>
    have e : bckP x L row = row := by unfold bckP; simp only [ho]; rfl
    have := g2 (.inl ho)
    rw [e]
    exact bck_op2 x L row hx.l (by omega) (by omega) (by omega) ho
  case split i hi ho h hk hb hc hs hbc hb2 hc2 hl hR => have := g3 ho; exact bck_op3 x L row hx.l (by omega) (by omega) (by omega) ho i h.find (by omega) (by omega) (by have := (qbd hr (i := i) (by omega)).s; have := (qbd hr (i := i + 1) (by omega)).s; omega) _ rfl
  case join i k hi hk ho h hkf hkn hik ti tk hc hs hc2 hR =>
    have := g4 ho
    exact bck_op4 x L row hx.l (by omega) (by omega) (by omega) ho i k (if k < i then i - 1 else i) h.find hkf (by omega) rfl (by split <;> omega) (by have := (qbd hr (i := if k < i then i - 1 else i) (by split <;> omega)).s; omega) _ rfl
  case retype i hi ho h hn0 hn3 hv hk ht hR => have := g2 (.inr (.inl ho)); exact bck_op5 x L row hx.l (by omega) (by omega) (by omega) ho i h.find (by omega) hi (qbd hr _).n (by have := (qbd hr (i := i) (by omega)).s; omega) _ rfl
  case scale i hi ho h ht hn hu hR => have := g2 (.inr (.inr ho)); exact bck_op6 x L row hx.l (by omega) (by omega) (by omega) ho i h.find (by omega) hn _ rfl
theorem fwd_len {x : Lens} {L : List Col} {row : List Val} (h : qeh x L) (hlen : row.length = L.length) : (fwdP x L row).length = (oneP x L).1.length := by
  obtain ⟨g0, g1, g3, g4, g2⟩ := step_len h
  cases h
  case add ho ha hn hl hR hu hv => have := g0 ho; simp only [fwdP, ho]; simp; omega
  case drop i hi ho h hk hl hR hv => have := g1 ho; have := h.find; simp only [fwdP, ho, this, if_pos, if_neg, reduceIte, Int.reduceEq, Int.toNat_natCast]; rw [List.length_eraseIdx_of_lt (by omega)]; omega
  case rename i hi ho h hb hb2 hR => have := g2 (.inl ho); simp only [fwdP, ho]; simp; omega
  case split i hi ho h hk hb hc hs hbc hb2 hc2 hl hR => have := g3 ho; have := h.find; simp only [fwdP, ho, this, if_pos, if_neg, reduceIte, Int.reduceEq, Int.toNat_natCast]; simp; omega
  case join i k hi hk ho h hkf hkn hik ti tk hc hs hc2 hR => have := g4 ho; have := h.find; simp only [fwdP, ho, this, hkf, if_pos, if_neg, reduceIte, Int.reduceEq, Int.toNat_natCast]; rw [List.length_eraseIdx_of_lt (by rw [List.length_set]; omega), List.length_set]; omega
  case retype i hi ho h hn0 hn3 hv hk ht hR => have := g2 (.inr (.inl ho)); simp only [fwdP, ho]; simp; omega
  case scale i hi ho h ht hn hu hR => have := g2 (.inr (.inr ho)); simp only [fwdP, ho]; simp; omega
theorem bck_len {x : Lens} {L : List Col} {row : List Val} (h : qeh x L) (hlen : row.length = (oneP x L).1.length) : (bckP x L row).length = L.length := by
  obtain ⟨g0, g1, g3, g4, g2⟩ := step_len h
  cases h
  case add ho ha hn hl hR hu hv => have := g0 ho; simp only [bckP, ho]; simp; omega
  case drop i hi ho h hk hl hR hv => have := g1 ho; have := h.find; simp only [bckP, ho, this, if_pos, if_neg, reduceIte, Int.reduceEq, Int.toNat_natCast]; simp; omega
  case rename i hi ho h hb hb2 hR => have := g2 (.inl ho); simp only [bckP, ho]; simp; omega
  case split i hi ho h hk hb hc hs hbc hb2 hc2 hl hR => have := g3 ho; have := h.find; simp only [bckP, ho, this, if_pos, if_neg, reduceIte, Int.reduceEq, Int.toNat_natCast]; simp; omega
  case join i k hi hk ho h hkf hkn hik ti tk hc hs hc2 hR => have := g4 ho; have := h.find; simp only [bckP, ho, this, hkf, if_pos, if_neg, reduceIte, Int.reduceEq, Int.toNat_natCast]; simp; omega
  case retype i hi ho h hn0 hn3 hv hk ht hR => have := g2 (.inr (.inl ho)); simp only [bckP, ho]; simp; omega
  case scale i hi ho h ht hn hu hR => have := g2 (.inr (.inr ho)); simp only [bckP, ho]; simp; omega
theorem fwd_small {x : Lens} {L : List Col} {row : List Val} (hx : qdv x) (h : qeh x L) (hlen : row.length = L.length) (hr : qbv row) : qbv (fwdP x L row) := by
  have hv : ∀ i, i < row.length → qew (valAt row i) := fun i hi => by rw [qbi hi]; exact qbd hr hi
  cases h
  case add ho ha hn hl hR hu hv => simp only [fwdP, ho]; exact qcs hr (qev hx.v)
  case drop i hi ho h hk hl hR hv => simp only [fwdP, ho]; exact smallR_erase hr _
  case rename i hi ho h hb hb2 hR => simp only [fwdP, ho]; exact hr
  case split i hi ho h hk hb hc hs hbc hb2 hc2 hl hR => simp only [fwdP, ho]; exact qcs (qcs (qez hr _) (smallR_two (qdn _) (qdn _))) (qgq hr _)
  case join i k hi hk ho h hkf hkn hik ti tk hc hs hc2 hR => simp only [fwdP, ho]; exact smallR_erase (qef hr (qdn _) _) _
  case retype i hi ho h hn0 hn3 hv2 hk ht hR => simp only [fwdP, ho, h.find]; exact qef hr (smallV_conv (hv _ (by simp; omega)) hx.v) _
  case scale i hi ho h ht hn hu hR => simp only [fwdP, ho]; exact qef hr (smallV_int (wrap_i64' _)) _
theorem bck_small {x : Lens} {L : List Col} {row : List Val} (hx : qdv x) (h : qeh x L) (hlen : row.length = (oneP x L).1.length) (hr : qbv row) : qbv (bckP x L row) := by
  obtain ⟨g0, g1, g3, g4, g2⟩ := step_len h
  have hv : ∀ i, i < row.length → qew (valAt row i) := fun i hi => by rw [qbi hi]; exact qbd hr hi
  cases h
  case add ho ha hn hl hR hu hv => simp only [bckP, ho]; exact qez hr _
  case drop i hi ho h hk hl hR hv => simp only [bckP, ho]; exact qcs (qcs (qez hr _) (qev hx.v)) (qgq hr _)
  case rename i hi ho h hb hb2 hR => simp only [bckP, ho]; exact hr
  case split i hi ho h hk hb hc hs hbc hb2 hc2 hl hR => simp only [bckP, ho]; exact qcs (qcs (qez hr _) (qev (qdn _))) (qgq hr _)
  case join i k hi hk ho h hkf hkn hik ti tk hc hs hc2 hR => simp only [bckP, ho]; exact qcs (qcs (qez (qef hr (qdn _) _) _) (qev (qdn _))) (qgq (qef hr (qdn _) _) _)
  case retype i hi ho h hn0 hn3 hv2 hk ht hR => have := g2 (.inr (.inl ho)); simp only [bckP, ho, h.find]; exact qef hr (smallV_conv (hv _ (by simp; omega)) ⟨i64_0, by show 0 ≤ 300000; omega⟩) _
  case scale i hi ho h ht hn hu hR => simp only [bckP, ho]; exact qef hr (smallV_int (wrap_i64' _)) _
end Go.Proofs.YtbkkjlcclddpdaaGreatDoor

/- Shapes before each step: step by step. -/
namespace Go.Proofs.YtbkkjlcclddpdaaGreatDoor
open Go.RowKit Go.Lib
def shAt (ss : List (List Col)) (k : Nat) : List Col := ss.getD k []
theorem shAt_eq {ss : List (List Col)} {k : Nat} (h : k < ss.length) : shAt ss k = ss[k] := by unfold shAt; rw [List.getD_eq_getElem?_getD, List.getElem?_eq_getElem h]; rfl
theorem shAt_succ (ss : List (List Col)) (k : Nat) : shAt ss.tail k = shAt ss (k + 1) := by cases ss <;> rfl
theorem shAt_0 (ss : List (List Col)) : ss.headD [] = shAt ss 0 := by cases ss <;> rfl
structure Chain (l : List Lens) (ss : List (List Col)) : Prop where
  len : ss.length = l.length + 1
  sz : ∀ k, k ≤ l.length → 1 ≤ (shAt ss k).length ∧ (shAt ss k).length ≤ 12
  ok : ∀ k (h : k < l.length), qeh l[k] (shAt ss k) ∧ (oneP l[k] (shAt ss k)).1 = shAt ss (k + 1)
theorem shapes_at : ∀ {l : List Lens} {cols : List Col} {ss : List (List Col)}, qn l cols = (ss, 0) → shAt ss 0 = cols ∧ ∀ k (h : k < l.length), qeh l[k] (shAt ss k) ∧ (oneP l[k] (shAt ss k)).1 = shAt ss (k + 1)
  | [], cols, ss, h => by
    rw [qn] at h
    cases h
    exact ⟨rfl, fun k h => absurd h (Nat.not_lt_zero _)⟩
  | y :: l, cols, ss, h => by
    rw [qn] at h
    split at h
    · exact absurd (Prod.mk.inj h).2 (by assumption)
    · split at h
      · exact absurd (Prod.mk.inj h).2 (by assumption)
      · rename_i h1 h2
        have h1' : (oneP y cols).2 = 0 := Classical.byContradiction h1
        have h2' : (qn l (oneP y cols).1).2 = 0 := Classical.byContradiction h2
        cases h
        obtain ⟨e0, e1⟩ := shapes_at (l := l) (cols := (oneP y cols).1) (ss := (qn l (oneP y cols).1).1) (by rw [← h2'])
        refine ⟨rfl, fun k hk => ?_⟩
        cases k with
        | zero => exact ⟨step_ok h1', e0.symm⟩
        | succ k => exact e1 k (by simpa using hk)
theorem chain_of {l : List Lens} {cols : List Col} {ss : List (List Col)} (h : qn l cols = (ss, 0)) (h0 : 1 ≤ cols.length) (h1 : cols.length ≤ 12) : Chain l ss ∧ shAt ss 0 = cols := by
  obtain ⟨e1, e2⟩ := qfw h
  obtain ⟨e3, e4⟩ := shapes_at h
  exact ⟨⟨e1, fun k hk => e2 h0 h1 _ (by rw [shAt_eq (by omega)]; exact List.getElem_mem _), e4⟩, e3⟩
theorem fwdAll_snoc (x : Lens) : ∀ (l : List Lens) (ss : List (List Col)) (row : List Val), qfg (l ++ [x]) ss row = fwdP x (shAt ss l.length) (qfg l ss row)
  | [], ss, row => by show fwdP x (ss.headD []) row = _; rw [shAt_0]; rfl
  | y :: l, ss, row => by
    show qfg (l ++ [x]) ss.tail (fwdP y (ss.headD []) row) = _
    rw [fwdAll_snoc x l, shAt_succ]; rfl
def fwdK (l : List Lens) (ss : List (List Col)) (row : List Val) (k : Nat) : List Val := qfg (l.take k) ss row
theorem fwdK_succ {l : List Lens} {ss : List (List Col)} {row : List Val} {k : Nat} (h : k < l.length) : fwdK l ss row (k + 1) = fwdP l[k] (shAt ss k) (fwdK l ss row k) := by
  unfold fwdK
  rw [List.take_succ_eq_append_getElem h, fwdAll_snoc, List.length_take, Nat.min_eq_left (by omega)]
theorem fwdK_all (l : List Lens) (ss : List (List Col)) (row : List Val) : fwdK l ss row l.length = qfg l ss row := by unfold fwdK; rw [List.take_length]
theorem fwdK_ok {l : List Lens} {ss : List (List Col)} {row : List Val} (hc : Chain l ss) (hl : ∀ x ∈ l, qdv x) (hr : qbv row) (hlen : row.length = (shAt ss 0).length) : ∀ k, k ≤ l.length → (fwdK l ss row k).length = (shAt ss k).length ∧ qbv (fwdK l ss row k)
  | 0, _ => ⟨hlen, hr⟩
  | k + 1, hk => by
    obtain ⟨h1, h2⟩ := fwdK_ok hc hl hr hlen k (by omega)
    obtain ⟨h3, h4⟩ := hc.ok k hk
    rw [fwdK_succ hk]
    exact ⟨by rw [fwd_len h3 h1, h4], fwd_small (hl _ (List.getElem_mem hk)) h3 h1 h2⟩
theorem bckAll_cons (x : Lens) (l : List Lens) (ss : List (List Col)) (row : List Val) : bckAll (x :: l) ss row = bckP x (shAt ss 0) (bckAll l ss.tail row) := by rw [bckAll, shAt_0]
def bckK (l : List Lens) (ss : List (List Col)) (row : List Val) (k : Nat) : List Val := bckAll (l.drop k) (ss.drop k) row
theorem bckK_pred {l : List Lens} {ss : List (List Col)} {row : List Val} {k : Nat} (h : k < l.length) : bckK l ss row k = bckP l[k] (shAt ss k) (bckK l ss row (k + 1)) := by
  unfold bckK
  rw [List.drop_eq_getElem_cons h, bckAll_cons]
  have e : shAt (ss.drop k) 0 = shAt ss k := by unfold shAt; rw [List.getD_eq_getElem?_getD, List.getElem?_drop, Nat.add_zero, ← List.getD_eq_getElem?_getD]
  rw [e, List.tail_drop]
theorem bckK_end (l : List Lens) (ss : List (List Col)) (row : List Val) : bckK l ss row l.length = row := by unfold bckK; rw [List.drop_length]; rfl
theorem bckK_ok {l : List Lens} {ss : List (List Col)} {row : List Val} (hc : Chain l ss) (hl : ∀ x ∈ l, qdv x) (hr : qbv row) (hlen : row.length = (shAt ss l.length).length) : ∀ j k, k + j = l.length → (bckK l ss row k).length = (shAt ss k).length ∧ qbv (bckK l ss row k)
  | 0, k, hk => by
    obtain rfl : k = l.length := by omega
    rw [bckK_end]; exact ⟨hlen, hr⟩
  | j + 1, k, hk => by
    obtain ⟨h1, h2⟩ := bckK_ok hc hl hr hlen j (k + 1) (by omega)
    obtain ⟨h3, h4⟩ := hc.ok k (by omega)
    rw [bckK_pred (by omega)]
    rw [← h4] at h1
    exact ⟨bck_len h3 h1, bck_small (hl _ (List.getElem_mem _)) h3 h1 h2⟩
theorem vals_ne {row : List Val} (h : 1 ≤ row.length) : row.map Val.av ≠ [] := by intro e; rw [List.map_eq_nil_iff] at e; subst e; simp at h
theorem cloR (row : List Val) (h : 1 ≤ row.length) (h1 : row.length ≤ 1000000) : Gives Tryz.prog 58 [.sl (row.map Val.av)] (.sl (row.map Val.av)) :=
  cloVg (row.map Val.av) (vals_ne h) (by simpa using h1) (Val.avs_wid row) (Val.avs_elms row) (fun m => Val.avs_cl row m)
end Go.Proofs.YtbkkjlcclddpdaaGreatDoor
