/- Walks of lens.changed, an operation each (printed by gen_chg.py). -/
import Derived.Test.YtbkkjlcclddpdaaGreatDoorGb26
set_option linter.unusedSimpArgs false
set_option linter.unusedVariables false
namespace Go.Proofs.YtbkkjlcclddpdaaGreatDoor
open Go.RowKit Go.Lib
@[simp] theorem tab_arr3 : ainfo Tryz.prog 132 = some (3, 3, [.v (.int .i64 0), .v (.int .i64 0), .v (.string ByteArray.empty), .v (.int .i64 0), .v (.int .i64 0), .v (.string ByteArray.empty), .v (.int .i64 0), .v (.int .i64 0), .v (.string ByteArray.empty)]) := by kernel_rfl
set_option maxRecDepth 4000 in
set_option maxHeartbeats 4000000 in
theorem chg_1 (x : Lens) (cols : List Col) (DD : List Val) (hDD : qbm cols = DD) (hc0 : 1 ≤ cols.length) (hc : cols.length ≤ 12) (i : Nat) (hi1 : findP cols x.a.toList = i) (hi : i < cols.length) (hid : i < DD.length) (ho : x.op = 1) (t0 : 0 ≤ cols[i].type) (t3 : cols[i].type < 3) (R : List Val) (hR : (if Val.eqB DD[i] x.value then DD.set i (if cols[i].type = 0 then ⟨0, 1, ⟨#[]⟩⟩ else if cols[i].type = 1 then ⟨1, 0, ⟨#[97]⟩⟩ else ⟨2, 1, ⟨#[]⟩⟩) else DD) = R) : Gives Tryz.prog 61 [x.av, .sl (cols.map Col.av)] (.tup [.sl (R.map Val.av), .bool true]) := by
  have c2 := qz cols x.a (by omega)
  rw [hi1] at c2
  have c3 := qex cols (by omega)
  rw [hDD] at c3
  have hln : DD.length = cols.length := by rw [← hDD, qdq]
  have h1 : ((i : Int)).toNat = i := by omega
  have k1 := qdi 1
  have k2 := qdi 2
  have k3 := qdi 9223372036854775807
  have k4 := qde ⟨#[97]⟩
  have k5 := qde x.sep
  have d1 : (x.op == 1) = true := by rw [ho]; rfl
  have d3 : (x.op == 3) = false := beq_eq_false_iff_ne.2 (by omega)
  have d4 : (x.op == 4) = false := beq_eq_false_iff_ne.2 (by omega)
  have d5 : (x.op == 5) = false := beq_eq_false_iff_ne.2 (by omega)
  have d6 : (x.op == 6) = false := beq_eq_false_iff_ne.2 (by omega)
  have ta : aeq Tryz.prog .eql 27 (.agg [.int DD[i].k, .int DD[i].n, .str DD[i].s]) (.agg [.int x.value.k, .int x.value.n, .str x.value.s]) = some (Val.eqB DD[i] x.value) := Val.aeq _ _
  have hdv : DD[i].av = .agg [.int DD[i].k, .int DD[i].n, .str DD[i].s] := rfl
  have hxv : x.value.av = .agg [.int x.value.k, .int x.value.n, .str x.value.s] := rfl
  by_cases he : Val.eqB DD[i] x.value = true
  · rw [if_pos he] at hR
    have ht : cols[i].type = 0 ∨ cols[i].type = 1 ∨ cols[i].type = 2 := by omega
    rcases ht with ht | ht | ht
    · rw [ht] at hR
      refine qm Tryz.func61 Tryz.ntmps61 rfl rfl (by decide) rfl (by intro n; simp) fun σ n0 hcl hft => ?_
      repeat' (first | ((first | (with_reducible first | refine qbe ?_ | refine qc ?_ | refine qb ?_ | refine qj ?_ | refine qi ?_ | refine qbn ?_ | refine qbw ?_ | refine anyV_step ?_ | refine anyV_end ?_) | ((with_reducible refine qp (fun hg => ?_) (fun hg => ?_)) <;> (try simp only [hg]) <;> (try simp only [gS] at hg) <;> (try (first | simp only [eq_false hg, gI] | simp only [eq_true hg, gI]))) | refine acall (c2) ?_ | refine qn (c2) ?_ | refine qbk c3 ?_ | refine acall (k1) ?_ | refine qn (k1) ?_ | refine acall (k2) ?_ | refine qn (k2) ?_ | refine acall (k3) ?_ | refine qn (k3) ?_ | refine acall (k4) ?_ | refine qn (k4) ?_ | refine acall (k5) ?_ | refine qn (k5) ?_ | refine acall (qbo) ?_ | refine qn (qbo) ?_ | refine qe ?_ | refine qk ?_ | refine qh ?_ | refine qo ?_) <;> (try simp (disch := first | omega | simp) [qg, -qq, -qu, d1, d3, d4, d5, d6, h1, hi, hid, hln, ta, he, ht, hdv, hxv, -Val.av_fold])) | (with_reducible refine awp_anyV (id := 6) [.cells [.int x.op, .str x.a, .str x.b, .str x.c, .str x.sep, .int x.n, .int x.value.k, .int x.value.n, .str x.value.s] 29, .unborn] 1 [.R, .R, .M, .M, .M, .R, .R, .R, .R, .R, .R, .R, .N, .W] (by kernel_rfl) (by kernel_rfl) (by simp) ?_) | (with_reducible refine qbx (id := 1) [.cells [.int x.op, .str x.a, .str x.b, .str x.c, .str x.sep, .int x.n, .int x.value.k, .int x.value.n, .str x.value.s] 29] [.R, .W, .R, .R, .R, .W, .R, .R] (by kernel_rfl) (by kernel_rfl) (by simp) ?_) | ((with_reducible refine sideT ?_ ?_); first | omega | assumption | (simp; done)) | (refine qf fun K hK => ?_) | (refine qa ?_) | refine ql ?_ | ((first | refine hK _ ?_ | (clear hK K; refine hK _ ?_) | (clear hK K; clear hK K; refine hK _ ?_)); clear hK K) | refine qd ?_)
      refine ⟨qx 4 1 (k := cols.length) (by simp) (by rfl) (by simp; omega) ?_⟩
      repeat' (first | ((first | ((with_reducible refine qp (fun hg => ?_) (fun hg => ?_)) <;> (try simp only [hg]) <;> (try simp only [gS] at hg) <;> (try (first | simp only [eq_false hg, gI] | simp only [eq_true hg, gI]))) | (with_reducible first | refine qc ?_ | refine qb ?_ | refine qj ?_ | refine qi ?_) | refine qe ?_ | refine qk ?_ | refine qh ?_ | refine qo ?_) <;> (try simp (disch := first | omega | simp) [qg, -qq, -qu])) | ((with_reducible refine sideT ?_ ?_); first | omega | assumption | (simp; done)) | (refine qf fun K hK => ?_) | (refine qa ?_) | refine ql ?_ | ((first | refine hK _ ?_ | (clear hK K; refine hK _ ?_) | (clear hK K; clear hK K; refine hK _ ?_)); clear hK K) | refine qd ?_)
      rw [← hR]; exact qbv DD i ⟨0, 1, ⟨#[]⟩⟩
    · rw [ht] at hR
      refine qm Tryz.func61 Tryz.ntmps61 rfl rfl (by decide) rfl (by intro n; simp) fun σ n0 hcl hft => ?_
      repeat' (first | ((first | (with_reducible first | refine qbe ?_ | refine qc ?_ | refine qb ?_ | refine qj ?_ | refine qi ?_ | refine qbn ?_ | refine qbw ?_ | refine anyV_step ?_ | refine anyV_end ?_) | ((with_reducible refine qp (fun hg => ?_) (fun hg => ?_)) <;> (try simp only [hg]) <;> (try simp only [gS] at hg) <;> (try (first | simp only [eq_false hg, gI] | simp only [eq_true hg, gI]))) | refine acall (c2) ?_ | refine qn (c2) ?_ | refine qbk c3 ?_ | refine acall (k1) ?_ | refine qn (k1) ?_ | refine acall (k2) ?_ | refine qn (k2) ?_ | refine acall (k3) ?_ | refine qn (k3) ?_ | refine acall (k4) ?_ | refine qn (k4) ?_ | refine acall (k5) ?_ | refine qn (k5) ?_ | refine acall (qbo) ?_ | refine qn (qbo) ?_ | refine qe ?_ | refine qk ?_ | refine qh ?_ | refine qo ?_) <;> (try simp (disch := first | omega | simp) [qg, -qq, -qu, d1, d3, d4, d5, d6, h1, hi, hid, hln, ta, he, ht, hdv, hxv, -Val.av_fold])) | (with_reducible refine awp_anyV (id := 6) [.cells [.int x.op, .str x.a, .str x.b, .str x.c, .str x.sep, .int x.n, .int x.value.k, .int x.value.n, .str x.value.s] 29, .unborn] 1 [.R, .R, .M, .M, .M, .R, .R, .R, .R, .R, .R, .R, .N, .W] (by kernel_rfl) (by kernel_rfl) (by simp) ?_) | (with_reducible refine qbx (id := 1) [.cells [.int x.op, .str x.a, .str x.b, .str x.c, .str x.sep, .int x.n, .int x.value.k, .int x.value.n, .str x.value.s] 29] [.R, .W, .R, .R, .R, .W, .R, .R] (by kernel_rfl) (by kernel_rfl) (by simp) ?_) | ((with_reducible refine sideT ?_ ?_); first | omega | assumption | (simp; done)) | (refine qf fun K hK => ?_) | (refine qa ?_) | refine ql ?_ | ((first | refine hK _ ?_ | (clear hK K; refine hK _ ?_) | (clear hK K; clear hK K; refine hK _ ?_)); clear hK K) | refine qd ?_)
      refine ⟨qx 4 1 (k := cols.length) (by simp) (by rfl) (by simp; omega) ?_⟩
      repeat' (first | ((first | ((with_reducible refine qp (fun hg => ?_) (fun hg => ?_)) <;> (try simp only [hg]) <;> (try simp only [gS] at hg) <;> (try (first | simp only [eq_false hg, gI] | simp only [eq_true hg, gI]))) | (with_reducible first | refine qc ?_ | refine qb ?_ | refine qj ?_ | refine qi ?_) | refine qe ?_ | refine qk ?_ | refine qh ?_ | refine qo ?_) <;> (try simp (disch := first | omega | simp) [qg, -qq, -qu])) | ((with_reducible refine sideT ?_ ?_); first | omega | assumption | (simp; done)) | (refine qf fun K hK => ?_) | (refine qa ?_) | refine ql ?_ | ((first | refine hK _ ?_ | (clear hK K; refine hK _ ?_) | (clear hK K; clear hK K; refine hK _ ?_)); clear hK K) | refine qd ?_)
      rw [← hR]; exact qbv DD i ⟨1, 0, ⟨#[97]⟩⟩
    · rw [ht] at hR
      refine qm Tryz.func61 Tryz.ntmps61 rfl rfl (by decide) rfl (by intro n; simp) fun σ n0 hcl hft => ?_
      repeat' (first | ((first | (with_reducible first | refine qbe ?_ | refine qc ?_ | refine qb ?_ | refine qj ?_ | refine qi ?_ | refine qbn ?_ | refine qbw ?_ | refine anyV_step ?_ | refine anyV_end ?_) | ((with_reducible refine qp (fun hg => ?_) (fun hg => ?_)) <;> (try simp only [hg]) <;> (try simp only [gS] at hg) <;> (try (first | simp only [eq_false hg, gI] | simp only [eq_true hg, gI]))) | refine acall (c2) ?_ | refine qn (c2) ?_ | refine qbk c3 ?_ | refine acall (k1) ?_ | refine qn (k1) ?_ | refine acall (k2) ?_ | refine qn (k2) ?_ | refine acall (k3) ?_ | refine qn (k3) ?_ | refine acall (k4) ?_ | refine qn (k4) ?_ | refine acall (k5) ?_ | refine qn (k5) ?_ | refine acall (qbo) ?_ | refine qn (qbo) ?_ | refine qe ?_ | refine qk ?_ | refine qh ?_ | refine qo ?_) <;> (try simp (disch := first | omega | simp) [qg, -qq, -qu, d1, d3, d4, d5, d6, h1, hi, hid, hln, ta, he, ht, hdv, hxv, -Val.av_fold])) | (with_reducible refine awp_anyV (id := 6) [.cells [.int x.op, .str x.a, .str x.b, .str x.c, .str x.sep, .int x.n, .int x.value.k, .int x.value.n, .str x.value.s] 29, .unborn] 1 [.R, .R, .M, .M, .M, .R, .R, .R, .R, .R, .R, .R, .N, .W] (by kernel_rfl) (by kernel_rfl) (by simp) ?_) | (with_reducible refine qbx (id := 1) [.cells [.int x.op, .str x.a, .str x.b, .str x.c, .str x.sep, .int x.n, .int x.value.k, .int x.value.n, .str x.value.s] 29] [.R, .W, .R, .R, .R, .W, .R, .R] (by kernel_rfl) (by kernel_rfl) (by simp) ?_) | ((with_reducible refine sideT ?_ ?_); first | omega | assumption | (simp; done)) | (refine qf fun K hK => ?_) | (refine qa ?_) | refine ql ?_ | ((first | refine hK _ ?_ | (clear hK K; refine hK _ ?_) | (clear hK K; clear hK K; refine hK _ ?_)); clear hK K) | refine qd ?_)
      refine ⟨qx 4 1 (k := cols.length) (by simp) (by rfl) (by simp; omega) ?_⟩
      repeat' (first | ((first | ((with_reducible refine qp (fun hg => ?_) (fun hg => ?_)) <;> (try simp only [hg]) <;> (try simp only [gS] at hg) <;> (try (first | simp only [eq_false hg, gI] | simp only [eq_true hg, gI]))) | (with_reducible first | refine qc ?_ | refine qb ?_ | refine qj ?_ | refine qi ?_) | refine qe ?_ | refine qk ?_ | refine qh ?_ | refine qo ?_) <;> (try simp (disch := first | omega | simp) [qg, -qq, -qu])) | ((with_reducible refine sideT ?_ ?_); first | omega | assumption | (simp; done)) | (refine qf fun K hK => ?_) | (refine qa ?_) | refine ql ?_ | ((first | refine hK _ ?_ | (clear hK K; refine hK _ ?_) | (clear hK K; clear hK K; refine hK _ ?_)); clear hK K) | refine qd ?_)
      rw [← hR]; exact qbv DD i ⟨2, 1, ⟨#[]⟩⟩
  · rw [if_neg he] at hR
    have he2 : Val.eqB DD[i] x.value = false := by simpa using he
    refine qm Tryz.func61 Tryz.ntmps61 rfl rfl (by decide) rfl (by intro n; simp) fun σ n0 hcl hft => ?_
    repeat' (first | ((first | (with_reducible first | refine qbe ?_ | refine qc ?_ | refine qb ?_ | refine qj ?_ | refine qi ?_ | refine qbn ?_ | refine qbw ?_) | ((with_reducible refine qp (fun hg => ?_) (fun hg => ?_)) <;> (try simp only [hg]) <;> (try simp only [gS] at hg) <;> (try (first | simp only [eq_false hg, gI] | simp only [eq_true hg, gI]))) | refine acall (c2) ?_ | refine qn (c2) ?_ | refine qbk c3 ?_ | refine acall (k1) ?_ | refine qn (k1) ?_ | refine acall (k2) ?_ | refine qn (k2) ?_ | refine acall (k3) ?_ | refine qn (k3) ?_ | refine acall (k4) ?_ | refine qn (k4) ?_ | refine acall (k5) ?_ | refine qn (k5) ?_ | refine acall (qbo) ?_ | refine qn (qbo) ?_ | refine qe ?_ | refine qk ?_ | refine qh ?_ | refine qo ?_) <;> (try simp (disch := first | omega | simp) [qg, -qq, -qu, d1, d3, d4, d5, d6, h1, hi, hid, hln, ta, he2, hdv, hxv, -Val.av_fold])) | (with_reducible refine qbx (id := 1) [.cells [.int x.op, .str x.a, .str x.b, .str x.c, .str x.sep, .int x.n, .int x.value.k, .int x.value.n, .str x.value.s] 29] [.R, .W, .R, .R, .R, .W, .R, .R] (by kernel_rfl) (by kernel_rfl) (by simp) ?_) | ((with_reducible refine sideT ?_ ?_); first | omega | assumption | (simp; done)) | (refine qf fun K hK => ?_) | (refine qa ?_) | refine ql ?_ | ((first | refine hK _ ?_ | (clear hK K; refine hK _ ?_) | (clear hK K; clear hK K; refine hK _ ?_)); clear hK K) | refine qd ?_)
    refine ⟨qx 4 1 (k := cols.length) (by simp) (by rfl) (by simp; omega) ?_⟩
    repeat' (first | ((first | ((with_reducible refine qp (fun hg => ?_) (fun hg => ?_)) <;> (try simp only [hg]) <;> (try simp only [gS] at hg) <;> (try (first | simp only [eq_false hg, gI] | simp only [eq_true hg, gI]))) | (with_reducible first | refine qc ?_ | refine qb ?_ | refine qj ?_ | refine qi ?_) | refine qe ?_ | refine qk ?_ | refine qh ?_ | refine qo ?_) <;> (try simp (disch := first | omega | simp) [qg, -qq, -qu])) | ((with_reducible refine sideT ?_ ?_); first | omega | assumption | (simp; done)) | (refine qf fun K hK => ?_) | (refine qa ?_) | refine ql ?_ | ((first | refine hK _ ?_ | (clear hK K; refine hK _ ?_) | (clear hK K; clear hK K; refine hK _ ?_)); clear hK K) | refine qd ?_)
    rw [hR]
set_option maxRecDepth 4000 in
set_option maxHeartbeats 4000000 in
theorem chg_3 (x : Lens) (cols : List Col) (DD : List Val) (hDD : qbm cols = DD) (hc0 : 1 ≤ cols.length) (hc : cols.length ≤ 12) (i : Nat) (hi1 : findP cols x.a.toList = i) (hi : i < cols.length) (hid : i < DD.length) (ho : x.op = 3) (R : List Val) (hR : DD.set i ⟨1, 0, x.sep⟩ = R) : Gives Tryz.prog 61 [x.av, .sl (cols.map Col.av)] (.tup [.sl (R.map Val.av), .bool true]) := by
  have c2 := qz cols x.a (by omega)
  rw [hi1] at c2
  have c3 := qex cols (by omega)
  rw [hDD] at c3
  have hln : DD.length = cols.length := by rw [← hDD, qdq]
  have h1 : ((i : Int)).toNat = i := by omega
  have k1 := qdi 1
  have k2 := qdi 2
  have k3 := qdi 9223372036854775807
  have k4 := qde ⟨#[97]⟩
  have k5 := qde x.sep
  have d1 : (x.op == 1) = false := beq_eq_false_iff_ne.2 (by omega)
  have d3 : (x.op == 3) = true := by rw [ho]; rfl
  have d4 : (x.op == 4) = false := beq_eq_false_iff_ne.2 (by omega)
  have d5 : (x.op == 5) = false := beq_eq_false_iff_ne.2 (by omega)
  have d6 : (x.op == 6) = false := beq_eq_false_iff_ne.2 (by omega)
  refine qm Tryz.func61 Tryz.ntmps61 rfl rfl (by decide) rfl (by intro n; simp) fun σ n0 hcl hft => ?_
  repeat' (first | ((first | (with_reducible first | refine qbe ?_ | refine qc ?_ | refine qb ?_ | refine qj ?_ | refine qi ?_ | refine qbn ?_ | refine qbw ?_) | ((with_reducible refine qp (fun hg => ?_) (fun hg => ?_)) <;> (try simp only [hg]) <;> (try simp only [gS] at hg) <;> (try (first | simp only [eq_false hg, gI] | simp only [eq_true hg, gI]))) | refine acall (c2) ?_ | refine qn (c2) ?_ | refine qbk c3 ?_ | refine acall (k1) ?_ | refine qn (k1) ?_ | refine acall (k2) ?_ | refine qn (k2) ?_ | refine acall (k3) ?_ | refine qn (k3) ?_ | refine acall (k4) ?_ | refine qn (k4) ?_ | refine acall (k5) ?_ | refine qn (k5) ?_ | refine acall (qbo) ?_ | refine qn (qbo) ?_ | refine qe ?_ | refine qk ?_ | refine qh ?_ | refine qo ?_) <;> (try simp (disch := first | omega | simp) [qg, -qq, -qu, d1, d3, d4, d5, d6, h1, hi, hid, hln])) | (with_reducible refine qbx (id := 1) [.cells [.int x.op, .str x.a, .str x.b, .str x.c, .str x.sep, .int x.n, .int x.value.k, .int x.value.n, .str x.value.s] 29] [.R, .W, .R, .R, .R, .W, .R, .R] (by kernel_rfl) (by kernel_rfl) (by simp) ?_) | ((with_reducible refine sideT ?_ ?_); first | omega | assumption | (simp; done)) | (refine qf fun K hK => ?_) | (refine qa ?_) | refine ql ?_ | ((first | refine hK _ ?_ | (clear hK K; refine hK _ ?_) | (clear hK K; clear hK K; refine hK _ ?_)); clear hK K) | refine qd ?_)
  refine ⟨qx 4 1 (k := cols.length) (by simp) (by rfl) (by simp; omega) ?_⟩
  repeat' (first | ((first | ((with_reducible refine qp (fun hg => ?_) (fun hg => ?_)) <;> (try simp only [hg]) <;> (try simp only [gS] at hg) <;> (try (first | simp only [eq_false hg, gI] | simp only [eq_true hg, gI]))) | (with_reducible first | refine qc ?_ | refine qb ?_ | refine qj ?_ | refine qi ?_) | refine qe ?_ | refine qk ?_ | refine qh ?_ | refine qo ?_) <;> (try simp (disch := first | omega | simp) [qg, -qq, -qu])) | ((with_reducible refine sideT ?_ ?_); first | omega | assumption | (simp; done)) | (refine qf fun K hK => ?_) | (refine qa ?_) | refine ql ?_ | ((first | refine hK _ ?_ | (clear hK K; refine hK _ ?_) | (clear hK K; clear hK K; refine hK _ ?_)); clear hK K) | refine qd ?_)
  rw [← hR]; exact qbv DD i ⟨1, 0, x.sep⟩
set_option maxRecDepth 4000 in
set_option maxHeartbeats 4000000 in
theorem chg_4 (x : Lens) (cols : List Col) (DD : List Val) (hDD : qbm cols = DD) (hc0 : 1 ≤ cols.length) (hc : cols.length ≤ 12) (i : Nat) (hi1 : findP cols x.a.toList = i) (hi : i < cols.length) (hid : i < DD.length) (ho : x.op = 4) (R : List Val) (hR : DD.set i ⟨1, 0, x.sep⟩ = R) : Gives Tryz.prog 61 [x.av, .sl (cols.map Col.av)] (.tup [.sl (R.map Val.av), .bool true]) := by
  have c2 := qz cols x.a (by omega)
  rw [hi1] at c2
  have c3 := qex cols (by omega)
  rw [hDD] at c3
  have hln : DD.length = cols.length := by rw [← hDD, qdq]
  have h1 : ((i : Int)).toNat = i := by omega
  have k1 := qdi 1
  have k2 := qdi 2
  have k3 := qdi 9223372036854775807
  have k4 := qde ⟨#[97]⟩
  have k5 := qde x.sep
  have d1 : (x.op == 1) = false := beq_eq_false_iff_ne.2 (by omega)
  have d3 : (x.op == 3) = false := beq_eq_false_iff_ne.2 (by omega)
  have d4 : (x.op == 4) = true := by rw [ho]; rfl
  have d5 : (x.op == 5) = false := beq_eq_false_iff_ne.2 (by omega)
  have d6 : (x.op == 6) = false := beq_eq_false_iff_ne.2 (by omega)
  refine qm Tryz.func61 Tryz.ntmps61 rfl rfl (by decide) rfl (by intro n; simp) fun σ n0 hcl hft => ?_
  repeat' (first | ((first | (with_reducible first | refine qbe ?_ | refine qc ?_ | refine qb ?_ | refine qj ?_ | refine qi ?_ | refine qbn ?_ | refine qbw ?_) | ((with_reducible refine qp (fun hg => ?_) (fun hg => ?_)) <;> (try simp only [hg]) <;> (try simp only [gS] at hg) <;> (try (first | simp only [eq_false hg, gI] | simp only [eq_true hg, gI]))) | refine acall (c2) ?_ | refine qn (c2) ?_ | refine qbk c3 ?_ | refine acall (k1) ?_ | refine qn (k1) ?_ | refine acall (k2) ?_ | refine qn (k2) ?_ | refine acall (k3) ?_ | refine qn (k3) ?_ | refine acall (k4) ?_ | refine qn (k4) ?_ | refine acall (k5) ?_ | refine qn (k5) ?_ | refine acall (qbo) ?_ | refine qn (qbo) ?_ | refine qe ?_ | refine qk ?_ | refine qh ?_ | refine qo ?_) <;> (try simp (disch := first | omega | simp) [qg, -qq, -qu, d1, d3, d4, d5, d6, h1, hi, hid, hln])) | (with_reducible refine qbx (id := 1) [.cells [.int x.op, .str x.a, .str x.b, .str x.c, .str x.sep, .int x.n, .int x.value.k, .int x.value.n, .str x.value.s] 29] [.R, .W, .R, .R, .R, .W, .R, .R] (by kernel_rfl) (by kernel_rfl) (by simp) ?_) | ((with_reducible refine sideT ?_ ?_); first | omega | assumption | (simp; done)) | (refine qf fun K hK => ?_) | (refine qa ?_) | refine ql ?_ | ((first | refine hK _ ?_ | (clear hK K; refine hK _ ?_) | (clear hK K; clear hK K; refine hK _ ?_)); clear hK K) | refine qd ?_)
  refine ⟨qx 4 1 (k := cols.length) (by simp) (by rfl) (by simp; omega) ?_⟩
  repeat' (first | ((first | ((with_reducible refine qp (fun hg => ?_) (fun hg => ?_)) <;> (try simp only [hg]) <;> (try simp only [gS] at hg) <;> (try (first | simp only [eq_false hg, gI] | simp only [eq_true hg, gI]))) | (with_reducible first | refine qc ?_ | refine qb ?_ | refine qj ?_ | refine qi ?_) | refine qe ?_ | refine qk ?_ | refine qh ?_ | refine qo ?_) <;> (try simp (disch := first | omega | simp) [qg, -qq, -qu])) | ((with_reducible refine sideT ?_ ?_); first | omega | assumption | (simp; done)) | (refine qf fun K hK => ?_) | (refine qa ?_) | refine ql ?_ | ((first | refine hK _ ?_ | (clear hK K; refine hK _ ?_) | (clear hK K; clear hK K; refine hK _ ?_)); clear hK K) | refine qd ?_)
  rw [← hR]; exact qbv DD i ⟨1, 0, x.sep⟩
set_option maxRecDepth 4000 in
set_option maxHeartbeats 4000000 in
theorem chg_5 (x : Lens) (cols : List Col) (DD : List Val) (hDD : qbm cols = DD) (hc0 : 1 ≤ cols.length) (hc : cols.length ≤ 12) (i : Nat) (hi1 : findP cols x.a.toList = i) (hi : i < cols.length) (hid : i < DD.length) (ho : x.op = 5) (R : Option (List Val)) (hR : (if cols[i].type = 2 ∨ cols[i].type = 0 ∧ x.n = 1 then none else some (if cols[i].type = 0 then DD.set i ⟨0, 2, ⟨#[]⟩⟩ else DD)) = R) : Gives Tryz.prog 61 [x.av, .sl (cols.map Col.av)] (.tup [chAv R, .bool R.isSome]) := by
  have c2 := qz cols x.a (by omega)
  rw [hi1] at c2
  have c3 := qex cols (by omega)
  rw [hDD] at c3
  have hln : DD.length = cols.length := by rw [← hDD, qdq]
  have h1 : ((i : Int)).toNat = i := by omega
  have k1 := qdi 1
  have k2 := qdi 2
  have k3 := qdi 9223372036854775807
  have k4 := qde ⟨#[97]⟩
  have k5 := qde x.sep
  have d1 : (x.op == 1) = false := beq_eq_false_iff_ne.2 (by omega)
  have d3 : (x.op == 3) = false := beq_eq_false_iff_ne.2 (by omega)
  have d4 : (x.op == 4) = false := beq_eq_false_iff_ne.2 (by omega)
  have d5 : (x.op == 5) = true := by rw [ho]; rfl
  have d6 : (x.op == 6) = false := beq_eq_false_iff_ne.2 (by omega)
  by_cases t2 : cols[i].type = 2
  · have n0 : ¬ cols[i].type = 0 := by omega
    have b2 : (cols[i].type == 2) = true := by rw [t2]; rfl
    rw [if_pos (.inl t2)] at hR
    subst hR
    refine qm Tryz.func61 Tryz.ntmps61 rfl rfl (by decide) rfl (by intro n; simp) fun σ n0 hcl hft => ?_
    repeat' (first | ((first | ((with_reducible refine qp (fun hg => ?_) (fun hg => ?_)) <;> (try simp only [hg]) <;> (try simp only [gS] at hg) <;> (try (first | simp only [eq_false hg, gI] | simp only [eq_true hg, gI]))) | (with_reducible first | refine qc ?_ | refine qb ?_ | refine qj ?_ | refine qi ?_ | refine qbn ?_ | refine qbw ?_) | refine acall (c2) ?_ | refine qn (c2) ?_ | refine qbk c3 ?_ | refine acall (k1) ?_ | refine qn (k1) ?_ | refine acall (k2) ?_ | refine qn (k2) ?_ | refine acall (k3) ?_ | refine qn (k3) ?_ | refine acall (k4) ?_ | refine qn (k4) ?_ | refine acall (k5) ?_ | refine qn (k5) ?_ | refine acall (qbo) ?_ | refine qn (qbo) ?_ | refine qe ?_ | refine qk ?_ | refine qh ?_ | refine qo ?_) <;> (try simp (disch := first | omega | simp) [qg, -qq, -qu, d1, d3, d4, d5, d6, h1, hi, hid, hln, b2])) | (with_reducible refine qbx (id := 1) [.cells [.int x.op, .str x.a, .str x.b, .str x.c, .str x.sep, .int x.n, .int x.value.k, .int x.value.n, .str x.value.s] 29] [.R, .W, .R, .R, .R, .W, .R, .R] (by kernel_rfl) (by kernel_rfl) (by simp) ?_) | ((with_reducible refine sideT ?_ ?_); first | omega | assumption | (simp; done)) | (refine qf fun K hK => ?_) | (refine qa ?_) | refine ql ?_ | ((first | refine hK _ ?_ | (clear hK K; refine hK _ ?_) | (clear hK K; clear hK K; refine hK _ ?_)); clear hK K) | refine qd ?_)
    rfl
  · have b2 : (cols[i].type == 2) = false := beq_eq_false_iff_ne.2 t2
    by_cases t0 : cols[i].type = 0
    · have b0 : (cols[i].type == 0) = true := by rw [t0]; rfl
      by_cases n1 : x.n = 1
      · have b1 : (x.n == 1) = true := by rw [n1]; rfl
        rw [if_pos (.inr ⟨t0, n1⟩)] at hR
        subst hR
        refine qm Tryz.func61 Tryz.ntmps61 rfl rfl (by decide) rfl (by intro n; simp) fun σ n0 hcl hft => ?_
        repeat' (first | ((first | ((with_reducible refine qp (fun hg => ?_) (fun hg => ?_)) <;> (try simp only [hg]) <;> (try simp only [gS] at hg) <;> (try (first | simp only [eq_false hg, gI] | simp only [eq_true hg, gI]))) | (with_reducible first | refine qc ?_ | refine qb ?_ | refine qj ?_ | refine qi ?_ | refine qbn ?_ | refine qbw ?_) | refine acall (c2) ?_ | refine qn (c2) ?_ | refine qbk c3 ?_ | refine acall (k1) ?_ | refine qn (k1) ?_ | refine acall (k2) ?_ | refine qn (k2) ?_ | refine acall (k3) ?_ | refine qn (k3) ?_ | refine acall (k4) ?_ | refine qn (k4) ?_ | refine acall (k5) ?_ | refine qn (k5) ?_ | refine acall (qbo) ?_ | refine qn (qbo) ?_ | refine qe ?_ | refine qk ?_ | refine qh ?_ | refine qo ?_) <;> (try simp (disch := first | omega | simp) [qg, -qq, -qu, d1, d3, d4, d5, d6, h1, hi, hid, hln, b2, b0, b1])) | (with_reducible refine qbx (id := 1) [.cells [.int x.op, .str x.a, .str x.b, .str x.c, .str x.sep, .int x.n, .int x.value.k, .int x.value.n, .str x.value.s] 29] [.R, .W, .R, .R, .R, .W, .R, .R] (by kernel_rfl) (by kernel_rfl) (by simp) ?_) | ((with_reducible refine sideT ?_ ?_); first | omega | assumption | (simp; done)) | (refine qf fun K hK => ?_) | (refine qa ?_) | refine ql ?_ | ((first | refine hK _ ?_ | (clear hK K; refine hK _ ?_) | (clear hK K; clear hK K; refine hK _ ?_)); clear hK K) | refine qd ?_)
        rfl
      · have b1 : (x.n == 1) = false := beq_eq_false_iff_ne.2 n1
        rw [if_neg (by omega), if_pos t0] at hR
        subst hR
        refine qm Tryz.func61 Tryz.ntmps61 rfl rfl (by decide) rfl (by intro n; simp) fun σ n0 hcl hft => ?_
        repeat' (first | ((first | (with_reducible first | refine qbe ?_ | refine qc ?_ | refine qb ?_ | refine qj ?_ | refine qi ?_ | refine qbn ?_ | refine qbw ?_) | ((with_reducible refine qp (fun hg => ?_) (fun hg => ?_)) <;> (try simp only [hg]) <;> (try simp only [gS] at hg) <;> (try (first | simp only [eq_false hg, gI] | simp only [eq_true hg, gI]))) | refine acall (c2) ?_ | refine qn (c2) ?_ | refine qbk c3 ?_ | refine acall (k1) ?_ | refine qn (k1) ?_ | refine acall (k2) ?_ | refine qn (k2) ?_ | refine acall (k3) ?_ | refine qn (k3) ?_ | refine acall (k4) ?_ | refine qn (k4) ?_ | refine acall (k5) ?_ | refine qn (k5) ?_ | refine acall (qbo) ?_ | refine qn (qbo) ?_ | refine qe ?_ | refine qk ?_ | refine qh ?_ | refine qo ?_) <;> (try simp (disch := first | omega | simp) [qg, -qq, -qu, d1, d3, d4, d5, d6, h1, hi, hid, hln, b2, b0, b1])) | (with_reducible refine qbx (id := 1) [.cells [.int x.op, .str x.a, .str x.b, .str x.c, .str x.sep, .int x.n, .int x.value.k, .int x.value.n, .str x.value.s] 29] [.R, .W, .R, .R, .R, .W, .R, .R] (by kernel_rfl) (by kernel_rfl) (by simp) ?_) | ((with_reducible refine sideT ?_ ?_); first | omega | assumption | (simp; done)) | (refine qf fun K hK => ?_) | (refine qa ?_) | refine ql ?_ | ((first | refine hK _ ?_ | (clear hK K; refine hK _ ?_) | (clear hK K; clear hK K; refine hK _ ?_)); clear hK K) | refine qd ?_)
        refine ⟨qx 4 1 (k := cols.length) (by simp) (by rfl) (by simp; omega) ?_⟩
        repeat' (first | ((first | ((with_reducible refine qp (fun hg => ?_) (fun hg => ?_)) <;> (try simp only [hg]) <;> (try simp only [gS] at hg) <;> (try (first | simp only [eq_false hg, gI] | simp only [eq_true hg, gI]))) | (with_reducible first | refine qc ?_ | refine qb ?_ | refine qj ?_ | refine qi ?_) | refine qe ?_ | refine qk ?_ | refine qh ?_ | refine qo ?_) <;> (try simp (disch := first | omega | simp) [qg, -qq, -qu])) | ((with_reducible refine sideT ?_ ?_); first | omega | assumption | (simp; done)) | (refine qf fun K hK => ?_) | (refine qa ?_) | refine ql ?_ | ((first | refine hK _ ?_ | (clear hK K; refine hK _ ?_) | (clear hK K; clear hK K; refine hK _ ?_)); clear hK K) | refine qd ?_)
        exact congrArg AV.sl (qbv DD i ⟨0, 2, ⟨#[]⟩⟩)
    · have b0 : (cols[i].type == 0) = false := beq_eq_false_iff_ne.2 t0
      rw [if_neg (by omega), if_neg t0] at hR
      subst hR
      refine qm Tryz.func61 Tryz.ntmps61 rfl rfl (by decide) rfl (by intro n; simp) fun σ n0 hcl hft => ?_
      repeat' (first | ((first | (with_reducible first | refine qbe ?_ | refine qc ?_ | refine qb ?_ | refine qj ?_ | refine qi ?_ | refine qbn ?_ | refine qbw ?_) | ((with_reducible refine qp (fun hg => ?_) (fun hg => ?_)) <;> (try simp only [hg]) <;> (try simp only [gS] at hg) <;> (try (first | simp only [eq_false hg, gI] | simp only [eq_true hg, gI]))) | refine acall (c2) ?_ | refine qn (c2) ?_ | refine qbk c3 ?_ | refine acall (k1) ?_ | refine qn (k1) ?_ | refine acall (k2) ?_ | refine qn (k2) ?_ | refine acall (k3) ?_ | refine qn (k3) ?_ | refine acall (k4) ?_ | refine qn (k4) ?_ | refine acall (k5) ?_ | refine qn (k5) ?_ | refine acall (qbo) ?_ | refine qn (qbo) ?_ | refine qe ?_ | refine qk ?_ | refine qh ?_ | refine qo ?_) <;> (try simp (disch := first | omega | simp) [qg, -qq, -qu, d1, d3, d4, d5, d6, h1, hi, hid, hln, b2, b0])) | (with_reducible refine qbx (id := 1) [.cells [.int x.op, .str x.a, .str x.b, .str x.c, .str x.sep, .int x.n, .int x.value.k, .int x.value.n, .str x.value.s] 29] [.R, .W, .R, .R, .R, .W, .R, .R] (by kernel_rfl) (by kernel_rfl) (by simp) ?_) | ((with_reducible refine sideT ?_ ?_); first | omega | assumption | (simp; done)) | (refine qf fun K hK => ?_) | (refine qa ?_) | refine ql ?_ | ((first | refine hK _ ?_ | (clear hK K; refine hK _ ?_) | (clear hK K; clear hK K; refine hK _ ?_)); clear hK K) | refine qd ?_)
      refine ⟨qx 4 1 (k := cols.length) (by simp) (by rfl) (by simp; omega) ?_⟩
      repeat' (first | ((first | ((with_reducible refine qp (fun hg => ?_) (fun hg => ?_)) <;> (try simp only [hg]) <;> (try simp only [gS] at hg) <;> (try (first | simp only [eq_false hg, gI] | simp only [eq_true hg, gI]))) | (with_reducible first | refine qc ?_ | refine qb ?_ | refine qj ?_ | refine qi ?_) | refine qe ?_ | refine qk ?_ | refine qh ?_ | refine qo ?_) <;> (try simp (disch := first | omega | simp) [qg, -qq, -qu])) | ((with_reducible refine sideT ?_ ?_); first | omega | assumption | (simp; done)) | (refine qf fun K hK => ?_) | (refine qa ?_) | refine ql ?_ | ((first | refine hK _ ?_ | (clear hK K; refine hK _ ?_) | (clear hK K; clear hK K; refine hK _ ?_)); clear hK K) | refine qd ?_)
      rfl
set_option maxRecDepth 4000 in
set_option maxHeartbeats 4000000 in
theorem chg_6 (x : Lens) (cols : List Col) (DD : List Val) (hDD : qbm cols = DD) (hc0 : 1 ≤ cols.length) (hc : cols.length ≤ 12) (i : Nat) (hi1 : findP cols x.a.toList = i) (hi : i < cols.length) (hid : i < DD.length) (ho : x.op = 6) (R : Option (List Val)) (hR : (if x.n = 1 ∨ x.n = -1 then none else some (DD.set i ⟨0, 9223372036854775807, ⟨#[]⟩⟩)) = R) : Gives Tryz.prog 61 [x.av, .sl (cols.map Col.av)] (.tup [chAv R, .bool R.isSome]) := by
  have c2 := qz cols x.a (by omega)
  rw [hi1] at c2
  have c3 := qex cols (by omega)
  rw [hDD] at c3
  have hln : DD.length = cols.length := by rw [← hDD, qdq]
  have h1 : ((i : Int)).toNat = i := by omega
  have k1 := qdi 1
  have k2 := qdi 2
  have k3 := qdi 9223372036854775807
  have k4 := qde ⟨#[97]⟩
  have k5 := qde x.sep
  have d1 : (x.op == 1) = false := beq_eq_false_iff_ne.2 (by omega)
  have d3 : (x.op == 3) = false := beq_eq_false_iff_ne.2 (by omega)
  have d4 : (x.op == 4) = false := beq_eq_false_iff_ne.2 (by omega)
  have d5 : (x.op == 5) = false := beq_eq_false_iff_ne.2 (by omega)
  have d6 : (x.op == 6) = true := by rw [ho]; rfl
  by_cases n1 : x.n = 1 ∨ x.n = -1
  · rw [if_pos n1] at hR
    subst hR
    rcases n1 with n1 | n1
    · have n2 : ¬ x.n = -1 := by omega
      have b1 : (x.n == 1) = true := by rw [n1]; rfl
      refine qm Tryz.func61 Tryz.ntmps61 rfl rfl (by decide) rfl (by intro n; simp) fun σ n0 hcl hft => ?_
      repeat' (first | ((first | ((with_reducible refine qp (fun hg => ?_) (fun hg => ?_)) <;> (try simp only [hg]) <;> (try simp only [gS] at hg) <;> (try (first | simp only [eq_false hg, gI] | simp only [eq_true hg, gI]))) | (with_reducible first | refine qc ?_ | refine qb ?_ | refine qj ?_ | refine qi ?_ | refine qbn ?_ | refine qbw ?_) | refine acall (c2) ?_ | refine qn (c2) ?_ | refine qbk c3 ?_ | refine acall (k1) ?_ | refine qn (k1) ?_ | refine acall (k2) ?_ | refine qn (k2) ?_ | refine acall (k3) ?_ | refine qn (k3) ?_ | refine acall (k4) ?_ | refine qn (k4) ?_ | refine acall (k5) ?_ | refine qn (k5) ?_ | refine acall (qbo) ?_ | refine qn (qbo) ?_ | refine qe ?_ | refine qk ?_ | refine qh ?_ | refine qo ?_) <;> (try simp (disch := first | omega | simp) [qg, -qq, -qu, d1, d3, d4, d5, d6, h1, hi, hid, hln, b1])) | (with_reducible refine qbx (id := 1) [.cells [.int x.op, .str x.a, .str x.b, .str x.c, .str x.sep, .int x.n, .int x.value.k, .int x.value.n, .str x.value.s] 29] [.R, .W, .R, .R, .R, .W, .R, .R] (by kernel_rfl) (by kernel_rfl) (by simp) ?_) | ((with_reducible refine sideT ?_ ?_); first | omega | assumption | (simp; done)) | (refine qf fun K hK => ?_) | (refine qa ?_) | refine ql ?_ | ((first | refine hK _ ?_ | (clear hK K; refine hK _ ?_) | (clear hK K; clear hK K; refine hK _ ?_)); clear hK K) | refine qd ?_)
      rfl
    · have b1 : (x.n == 1) = false := beq_eq_false_iff_ne.2 (by omega)
      have b2 : (x.n == -1) = true := by rw [n1]; rfl
      refine qm Tryz.func61 Tryz.ntmps61 rfl rfl (by decide) rfl (by intro n; simp) fun σ n0 hcl hft => ?_
      repeat' (first | ((first | ((with_reducible refine qp (fun hg => ?_) (fun hg => ?_)) <;> (try simp only [hg]) <;> (try simp only [gS] at hg) <;> (try (first | simp only [eq_false hg, gI] | simp only [eq_true hg, gI]))) | (with_reducible first | refine qc ?_ | refine qb ?_ | refine qj ?_ | refine qi ?_ | refine qbn ?_ | refine qbw ?_) | refine acall (c2) ?_ | refine qn (c2) ?_ | refine qbk c3 ?_ | refine acall (k1) ?_ | refine qn (k1) ?_ | refine acall (k2) ?_ | refine qn (k2) ?_ | refine acall (k3) ?_ | refine qn (k3) ?_ | refine acall (k4) ?_ | refine qn (k4) ?_ | refine acall (k5) ?_ | refine qn (k5) ?_ | refine acall (qbo) ?_ | refine qn (qbo) ?_ | refine qe ?_ | refine qk ?_ | refine qh ?_ | refine qo ?_) <;> (try simp (disch := first | omega | simp) [qg, -qq, -qu, d1, d3, d4, d5, d6, h1, hi, hid, hln, b1, b2])) | (with_reducible refine qbx (id := 1) [.cells [.int x.op, .str x.a, .str x.b, .str x.c, .str x.sep, .int x.n, .int x.value.k, .int x.value.n, .str x.value.s] 29] [.R, .W, .R, .R, .R, .W, .R, .R] (by kernel_rfl) (by kernel_rfl) (by simp) ?_) | ((with_reducible refine sideT ?_ ?_); first | omega | assumption | (simp; done)) | (refine qf fun K hK => ?_) | (refine qa ?_) | refine ql ?_ | ((first | refine hK _ ?_ | (clear hK K; refine hK _ ?_) | (clear hK K; clear hK K; refine hK _ ?_)); clear hK K) | refine qd ?_)
      rfl
  · rw [if_neg n1] at hR
    subst hR
    rw [not_or] at n1
    obtain ⟨n1, n2⟩ := n1
    have b1 : (x.n == 1) = false := beq_eq_false_iff_ne.2 n1
    have b2 : (x.n == -1) = false := beq_eq_false_iff_ne.2 n2
    refine qm Tryz.func61 Tryz.ntmps61 rfl rfl (by decide) rfl (by intro n; simp) fun σ n0 hcl hft => ?_
    repeat' (first | ((first | (with_reducible first | refine qbe ?_ | refine qc ?_ | refine qb ?_ | refine qj ?_ | refine qi ?_ | refine qbn ?_ | refine qbw ?_) | ((with_reducible refine qp (fun hg => ?_) (fun hg => ?_)) <;> (try simp only [hg]) <;> (try simp only [gS] at hg) <;> (try (first | simp only [eq_false hg, gI] | simp only [eq_true hg, gI]))) | refine acall (c2) ?_ | refine qn (c2) ?_ | refine qbk c3 ?_ | refine acall (k1) ?_ | refine qn (k1) ?_ | refine acall (k2) ?_ | refine qn (k2) ?_ | refine acall (k3) ?_ | refine qn (k3) ?_ | refine acall (k4) ?_ | refine qn (k4) ?_ | refine acall (k5) ?_ | refine qn (k5) ?_ | refine acall (qbo) ?_ | refine qn (qbo) ?_ | refine qe ?_ | refine qk ?_ | refine qh ?_ | refine qo ?_) <;> (try simp (disch := first | omega | simp) [qg, -qq, -qu, d1, d3, d4, d5, d6, h1, hi, hid, hln, b1, b2])) | (with_reducible refine qbx (id := 1) [.cells [.int x.op, .str x.a, .str x.b, .str x.c, .str x.sep, .int x.n, .int x.value.k, .int x.value.n, .str x.value.s] 29] [.R, .W, .R, .R, .R, .W, .R, .R] (by kernel_rfl) (by kernel_rfl) (by simp) ?_) | ((with_reducible refine sideT ?_ ?_); first | omega | assumption | (simp; done)) | (refine qf fun K hK => ?_) | (refine qa ?_) | refine ql ?_ | ((first | refine hK _ ?_ | (clear hK K; refine hK _ ?_) | (clear hK K; clear hK K; refine hK _ ?_)); clear hK K) | refine qd ?_)
    refine ⟨qx 4 1 (k := cols.length) (by simp) (by rfl) (by simp; omega) ?_⟩
    repeat' (first | ((first | ((with_reducible refine qp (fun hg => ?_) (fun hg => ?_)) <;> (try simp only [hg]) <;> (try simp only [gS] at hg) <;> (try (first | simp only [eq_false hg, gI] | simp only [eq_true hg, gI]))) | (with_reducible first | refine qc ?_ | refine qb ?_ | refine qj ?_ | refine qi ?_) | refine qe ?_ | refine qk ?_ | refine qh ?_ | refine qo ?_) <;> (try simp (disch := first | omega | simp) [qg, -qq, -qu])) | ((with_reducible refine sideT ?_ ?_); first | omega | assumption | (simp; done)) | (refine qf fun K hK => ?_) | (refine qa ?_) | refine ql ?_ | ((first | refine hK _ ?_ | (clear hK K; refine hK _ ?_) | (clear hK K; clear hK K; refine hK _ ?_)); clear hK K) | refine qd ?_)
    exact congrArg AV.sl (qbv DD i ⟨0, 9223372036854775807, ⟨#[]⟩⟩)
set_option maxRecDepth 4000 in
set_option maxHeartbeats 4000000 in
theorem chg_0 (x : Lens) (cols : List Col) (hc : cols.length ≤ 12) (hc0 : 1 ≤ cols.length) (ho : ¬ x.op = 1 ∧ ¬ x.op = 3 ∧ ¬ x.op = 4 ∧ ¬ x.op = 5 ∧ ¬ x.op = 6) : Gives Tryz.prog 61 [x.av, .sl (cols.map Col.av)] (.tup [chAv none, .bool false]) := by
  have c2 := qz cols x.a (by omega)
  have c3 := qex cols (by omega)
  have d1 : (x.op == 1) = false := beq_eq_false_iff_ne.2 ho.1
  have d3 : (x.op == 3) = false := beq_eq_false_iff_ne.2 ho.2.1
  have d4 : (x.op == 4) = false := beq_eq_false_iff_ne.2 ho.2.2.1
  have d5 : (x.op == 5) = false := beq_eq_false_iff_ne.2 ho.2.2.2.1
  have d6 : (x.op == 6) = false := beq_eq_false_iff_ne.2 ho.2.2.2.2
  refine qm Tryz.func61 Tryz.ntmps61 rfl rfl (by decide) rfl (by intro n; simp) fun σ n0 hcl hft => ?_
  repeat' (first | ((first | ((with_reducible refine qp (fun hg => ?_) (fun hg => ?_)) <;> (try simp only [hg]) <;> (try simp only [gS] at hg) <;> (try (first | simp only [eq_false hg, gI] | simp only [eq_true hg, gI]))) | (with_reducible first | refine qc ?_ | refine qb ?_ | refine qj ?_ | refine qi ?_ | refine qbn ?_ | refine qbw ?_) | refine acall (c2) ?_ | refine qn (c2) ?_ | refine qbk c3 ?_ | refine qe ?_ | refine qk ?_ | refine qh ?_ | refine qo ?_) <;> (try simp (disch := first | omega | simp) [qg, -qq, -qu, d1, d3, d4, d5, d6])) | (with_reducible refine qbx (id := 1) [.cells [.int x.op, .str x.a, .str x.b, .str x.c, .str x.sep, .int x.n, .int x.value.k, .int x.value.n, .str x.value.s] 29] [.R, .W, .R, .R, .R, .W, .R, .R] (by kernel_rfl) (by kernel_rfl) (by simp) ?_) | ((with_reducible refine sideT ?_ ?_); first | omega | assumption | (simp; done)) | (refine qf fun K hK => ?_) | (refine qa ?_) | refine ql ?_ | ((first | refine hK _ ?_ | (clear hK K; refine hK _ ?_) | (clear hK K; clear hK K; refine hK _ ?_)); clear hK K) | refine qd ?_)
  rfl
end Go.Proofs.YtbkkjlcclddpdaaGreatDoor

/- lens.changed, any step that can be done; walk of lens.Lossless. -/
namespace Go.Proofs.YtbkkjlcclddpdaaGreatDoor
open Go.RowKit Go.Lib
theorem rightV_k {v : Val} (h : qbl v = true) : 0 ≤ v.k ∧ v.k < 3 := by
  unfold qbl at h
  by_cases h0 : v.k = 0
  · omega
  · rw [if_neg h0] at h
    by_cases h1 : v.k = 1
    · omega
    · rw [if_neg h1, Bool.or_eq_true] at h
      rcases h with h | h <;>
      · have := (Val.eqB_iff _ _).1 h
        rw [this]
        exact ⟨by decide, by decide⟩
theorem changed_g {x : Lens} {L : List Col} (h0 : 1 ≤ L.length) (h1 : L.length ≤ 12) (h : StepOk x L) (R : Option (List Val)) (hR : qcp x L = R) : Gives Tryz.prog 61 [x.av, .sl (L.map Col.av)] (.tup [chAv R, .bool R.isSome]) := by
  have hd := qdq L
  cases h
  case add ho ha hn hl hR2 hu hv =>
    have e : qcp x L = none := by unfold qcp; simp only [ho]; rfl
    rw [← hR, e]
    exact chg_0 x L h1 h0 (by omega)
  case drop i hi ho h hk hl hR2 hv =>
    have hid : i < (qbm L).length := by omega
    have hv := rightV_k hv
    have e : qcp x L = some (if Val.eqB (qbm L)[i] x.value then (qbm L).set i (if L[i].type = 0 then ⟨0, 1, ⟨#[]⟩⟩ else if L[i].type = 1 then ⟨1, 0, ⟨#[97]⟩⟩ else ⟨2, 1, ⟨#[]⟩⟩) else qbm L) := by
      unfold qcp
      simp only [ho, if_pos, h.find, Int.toNat_natCast, qbj hid, qda hi]
    rw [← hR, e]
    exact chg_1 x L (qbm L) rfl h0 h1 i h.find hi hid ho (by omega) (by omega) _ rfl
  case rename i hi ho h hb hb2 hR2 =>
    have e : qcp x L = none := by unfold qcp; simp only [ho]; rfl
    rw [← hR, e]
    exact chg_0 x L h1 h0 (by omega)
  case split i hi ho h hk hb hc hs hbc hb2 hc2 hl hR2 =>
    have e : qcp x L = some ((qbm L).set i ⟨1, 0, x.sep⟩) := by unfold qcp; simp only [ho, h.find, Int.toNat_natCast]; rfl
    rw [← hR, e]
    exact chg_3 x L (qbm L) rfl h0 h1 i h.find hi (by omega) ho _ rfl
  case join i k hi hk ho h hkf hkn hik ti tk hc hs hc2 hR2 =>
    have e : qcp x L = some ((qbm L).set i ⟨1, 0, x.sep⟩) := by unfold qcp; simp only [ho, h.find, Int.toNat_natCast]; rfl
    rw [← hR, e]
    exact chg_4 x L (qbm L) rfl h0 h1 i h.find hi (by omega) ho _ rfl
  case retype i hi ho h hn0 hn3 hv hk ht hR2 =>
    refine chg_5 x L (qbm L) rfl h0 h1 i h.find hi (by omega) ho R ?_
    rw [← hR]
    unfold qcp
    simp only [ho, h.find, Int.toNat_natCast, qda hi]; rfl
  case scale i hi ho h ht hn hu hR2 =>
    refine chg_6 x L (qbm L) rfl h0 h1 i h.find hi (by omega) ho R ?_
    rw [← hR]
    unfold qcp
    simp only [ho, h.find, Int.toNat_natCast]; rfl
theorem lost_step {l : List Lens} {ss : List (List Col)} {k : Nat} (h : k < l.length) (j : Nat) : lostP (l.drop k) (ss.drop k) j = match qcp l[k] (shAt ss k) with
    | some row => (false, (j : Int), row)
    | none => lostP (l.drop (k + 1)) (ss.drop (k + 1)) (j + 1) := by
  have e : (ss.drop k).headD [] = shAt ss k := by rw [shAt_0]; unfold shAt; rw [List.getD_eq_getElem?_getD, List.getElem?_drop, Nat.add_zero, ← List.getD_eq_getElem?_getD]
  rw [List.drop_eq_getElem_cons h, lostP, e, List.tail_drop]; rfl
set_option maxHeartbeats 4000000 in
theorem lossless_g {l : List Lens} {cols : List Col} {ss : List (List Col)} (hs : qbg l cols = (ss, 0)) (hl : ∀ x ∈ l, qea x) (h0 : 1 ≤ cols.length) (h1 : cols.length ≤ 12) (R : Bool × Int × List Val) (hR : lostP l ss 0 = R) :
    Gives Tryz.prog 27 [.sl (l.map Lens.av), .sl (cols.map Col.av)] (.tup [.bool R.1, .int R.2.1, .sl (R.2.2.map Val.av)]) := by
  have hL : l.length ≤ 60 := by
    unfold qbg at hs
    by_cases h : 60 < l.length
    · rw [if_pos h] at hs; exact absurd (Prod.mk.inj hs).2 (by decide)
    · omega
  have hs' : qv l cols = (ss, 0) := by rw [qbg, if_neg (by omega)] at hs; exact hs
  obtain ⟨hc, hc0⟩ := chain_of hs' h0 h1
  have c1 := shapes_g l cols (fun x hx => (hl x hx).l) (by omega) h0 h1
  rw [hs] at c1
  have hsl := hc.len
  refine qm Tryz.func27 Tryz.ntmps27 rfl rfl (by decide) rfl (by intro n; simp) fun σ n0 hcl hft => ?_
  repeat' (first | ((first | ((with_reducible refine qp (fun hg => ?_) (fun hg => ?_)) <;> (try simp only [hg]) <;> (try simp only [gS] at hg) <;> (try (first | simp only [eq_false hg, gI] | simp only [eq_true hg, gI]))) | (with_reducible first | refine qc ?_ | refine qb ?_ | refine qj ?_ | refine qi ?_) | refine acall (c1) ?_ | refine qn (c1) ?_ | refine qe ?_ | refine qk ?_ | refine qh ?_ | refine qo ?_) <;> (try simp (disch := first | omega | simp) [qg, -qq, -qu])) | ((with_reducible refine sideT ?_ ?_); first | omega | assumption | (simp; done)) | (refine qf fun K hK => ?_) | (refine qa ?_) | refine ql ?_ | ((first | refine hK _ ?_ | (clear hK K; refine hK _ ?_) | (clear hK K; clear hK K; refine hK _ ?_)); clear hK K) | refine qd ?_)
  refine qbq hcl (fun k : Nat => [(7, .sl (ss.map qdh)), (19, .sl (l.map Lens.av)), (20, .int l.length), (21, .int k)]) (fun k => [])
    (fun k => k ≤ l.length ∧ lostP (l.drop k) (ss.drop k) k = R) (fun k => l.length - k) 0 ⟨by omega, hR⟩ (by simp) fun k ⟨hkl, hk⟩ => ?_
  by_cases hlt : k < l.length
  · obtain ⟨g3, g4⟩ := hc.ok k hlt
    have hks : k < ss.length := by omega
    obtain ⟨g5, g6⟩ := hc.sz k hkl
    rw [lost_step hlt] at hk
    obtain ⟨C, hC⟩ : ∃ C, qcp l[k] (shAt ss k) = C := ⟨_, rfl⟩
    have c3 := changed_g g5 g6 g3 C hC
    rw [hC] at hk
    rw [shAt_eq hks] at c3
    cases C with
    | none =>
      have hk' : lostP (l.drop (k + 1)) (ss.drop (k + 1)) (k + 1) = R := hk
      repeat' (first | ((first | ((with_reducible refine qp (fun hg => ?_) (fun hg => ?_)) <;> (try simp only [hg]) <;> (try simp only [gS] at hg) <;> (try (first | simp only [eq_false hg, gI] | simp only [eq_true hg, gI]))) | (with_reducible first | refine qc ?_ | refine qb ?_ | refine qj ?_ | refine qi ?_) | refine acall (c3) ?_ | refine qn (c3) ?_ | refine qe ?_ | refine qk ?_ | refine qh ?_ | refine qo ?_) <;> (try simp (disch := first | omega | simp) [qg, -qq, -qu, hlt, hks, qdh, chAv])) | ((with_reducible refine sideT ?_ ?_); first | omega | assumption | (simp; done)) | (refine qf fun K hK => ?_) | (refine qa ?_) | refine ql ?_ | ((first | refine hK _ ?_ | (clear hK K; refine hK _ ?_) | (clear hK K; clear hK K; refine hK _ ?_)); clear hK K) | refine qd ?_)
      exact ⟨k + 1, ⟨by omega, hk'⟩, by omega, by simp⟩
    | some row =>
      have hk' : (false, (k : Int), row) = R := hk
      subst hk'
      repeat' (first | ((first | ((with_reducible refine qp (fun hg => ?_) (fun hg => ?_)) <;> (try simp only [hg]) <;> (try simp only [gS] at hg) <;> (try (first | simp only [eq_false hg, gI] | simp only [eq_true hg, gI]))) | (with_reducible first | refine qc ?_ | refine qb ?_ | refine qj ?_ | refine qi ?_) | refine acall (c3) ?_ | refine qn (c3) ?_ | refine qe ?_ | refine qk ?_ | refine qh ?_ | refine qo ?_) <;> (try simp (disch := first | omega | simp) [qg, -qq, -qu, hlt, hks, qdh, chAv])) | ((with_reducible refine sideT ?_ ?_); first | omega | assumption | (simp; done)) | (refine qf fun K hK => ?_) | (refine qa ?_) | refine ql ?_ | ((first | refine hK _ ?_ | (clear hK K; refine hK _ ?_) | (clear hK K; clear hK K; refine hK _ ?_)); clear hK K) | refine qd ?_)
  · obtain rfl : k = l.length := by omega
    rw [List.drop_length, lostP] at hk
    subst hk
    repeat' (first | ((first | ((with_reducible refine qp (fun hg => ?_) (fun hg => ?_)) <;> (try simp only [hg]) <;> (try simp only [gS] at hg) <;> (try (first | simp only [eq_false hg, gI] | simp only [eq_true hg, gI]))) | (with_reducible first | refine qc ?_ | refine qb ?_ | refine qj ?_ | refine qi ?_) | refine qe ?_ | refine qk ?_ | refine qh ?_ | refine qo ?_) <;> (try simp (disch := first | omega | simp) [qg, -qq, -qu, hlt])) | ((with_reducible refine sideT ?_ ?_); first | omega | assumption | (simp; done)) | (refine qf fun K hK => ?_) | (refine qa ?_) | refine ql ?_ | ((first | refine hK _ ?_ | (clear hK K; refine hK _ ?_) | (clear hK K; clear hK K; refine hK _ ?_)); clear hK K) | refine qd ?_)
end Go.Proofs.YtbkkjlcclddpdaaGreatDoor

/- Layer 14 on plain data: what a step makes of right shapes and of rows that fit. -/
namespace Go.Proofs.YtbkkjlcclddpdaaGreatDoor
open Go.RowKit Go.Lib
theorem ColOk.set {L : List Col} {i : Nat} {c : Col} (h : ∀ c ∈ L, ColOk c) (hc : ColOk c) : ∀ d ∈ L.set i c, ColOk d := fun d hd => by
  rcases List.mem_or_eq_of_mem_set hd with h1 | rfl
  · exact h d h1
  · exact hc
end Go.Proofs.YtbkkjlcclddpdaaGreatDoor

/- Layer 14 on plain data: rows that fit, forward and back. -/
namespace Go.Proofs.YtbkkjlcclddpdaaGreatDoor
open Go.RowKit Go.Lib
theorem rightV_int (n : Int) : qbl ⟨0, n, ⟨#[]⟩⟩ = true := by unfold qbl; rw [if_pos rfl]; exact (Val.eqB_iff _ _).2 rfl
theorem rightV_text {s : ByteArray} (h : s.size ≤ 200) : qbl ⟨1, 0, s⟩ = true := by
  unfold qbl
  rw [if_neg (by show ¬ (1 : Int) = 0; decide), if_pos rfl, Bool.and_eq_true]
  exact ⟨(Val.eqB_iff _ _).2 rfl, by simpa using h⟩
theorem rightV_bit (b : Bool) : qbl (bitV b) = true := by
  unfold qbl bitV
  rw [if_neg (by show ¬ (2 : Int) = 0; decide), if_neg (by show ¬ (2 : Int) = 1; decide), Bool.or_eq_true]
  cases b
  · exact .inl ((Val.eqB_iff _ _).2 rfl)
  · exact .inr ((Val.eqB_iff _ _).2 rfl)
theorem rightV_cut (s : List UInt8) : qbl (cutV s) = true := rightV_text (by rw [qt, List.length_take]; omega)
theorem rightV_cases {v : Val} (h : qbl v = true) : (v = ⟨0, v.n, ⟨#[]⟩⟩) ∨ (v = ⟨1, 0, v.s⟩ ∧ v.s.size ≤ 200) ∨ v = bitV false ∨ v = bitV true := by
  unfold qbl at h
  by_cases h0 : v.k = 0
  · rw [if_pos h0] at h
    exact .inl ((Val.eqB_iff _ _).1 h)
  · rw [if_neg h0] at h
    by_cases h1 : v.k = 1
    · rw [if_pos h1, Bool.and_eq_true] at h
      exact .inr (.inl ⟨(Val.eqB_iff _ _).1 h.1, by simpa using h.2⟩)
    · rw [if_neg h1, Bool.or_eq_true] at h
      rcases h with h | h
      · exact .inr (.inr (.inl ((Val.eqB_iff _ _).1 h)))
      · exact .inr (.inr (.inr ((Val.eqB_iff _ _).1 h)))
theorem conv_kind {v o : Val} {t : Int} (h0 : 0 ≤ t) (h1 : t < 3) (hk : o.k = t) (ho : qbl o = true) : (convP v t o).k = t ∧ qbl (convP v t o) = true := by
  have ht : t = 0 ∨ t = 1 ∨ t = 2 := by omega
  unfold convP
  rcases ht with rfl | rfl | rfl
  · rw [if_neg (by simp), if_neg (by decide)]
    split
    · exact ⟨rfl, rightV_int _⟩
    · rw [if_pos rfl]
      split
      · exact ⟨rfl, rightV_int _⟩
      · exact ⟨hk, ho⟩
  · split
    · exact ⟨rfl, rightV_cut _⟩
    · rw [if_pos rfl]; exact ⟨rfl, rightV_cut _⟩
  · rw [if_neg (by simp), if_neg (by decide), if_neg (by simp), if_neg (by decide)]
    repeat' split
    · exact ⟨rfl, rightV_bit _⟩
    · exact ⟨rfl, rightV_bit _⟩
    · exact ⟨hk, ho⟩
theorem FitOk.one {v : Val} {c : Col} (h : v.k = c.type) (hr : qbl v = true) : FitOk [v] [c] :=
  ⟨by simp [h], fun u hu => by rw [List.mem_singleton] at hu; subst hu; exact hr⟩
theorem FitOk.take {r : List Val} {L : List Col} (h : FitOk r L) (i : Nat) : FitOk (r.take i) (L.take i) :=
  ⟨by rw [List.map_take, List.map_take, h.kinds], fun v hv => h.vals v (List.mem_of_mem_take hv)⟩
theorem FitOk.drop {r : List Val} {L : List Col} (h : FitOk r L) (i : Nat) : FitOk (r.drop i) (L.drop i) :=
  ⟨by rw [List.map_drop, List.map_drop, h.kinds], fun v hv => h.vals v (List.mem_of_mem_drop hv)⟩
theorem FitOk.set {r : List Val} {L : List Col} (h : FitOk r L) (i : Nat) {v : Val} {c : Col} (hk : v.k = c.type) (hr : qbl v = true) : FitOk (r.set i v) (L.set i c) :=
  ⟨by rw [List.map_set, List.map_set, h.kinds, hk], fun u hu => by
    rcases List.mem_or_eq_of_mem_set hu with h1 | rfl
    · exact h.vals u h1
    · exact hr⟩
theorem FitOk.types {r : List Val} {L M : List Col} (h : FitOk r L) (e : L.map Col.type = M.map Col.type) : FitOk r M := ⟨by rw [h.kinds, e], h.vals⟩
theorem FitOk.kind {r : List Val} {L : List Col} (h : FitOk r L) {i : Nat} (hi : i < r.length) (hi2 : i < L.length) : r[i].k = L[i].type := by
  have e : (r.map Val.k)[i]'(by simpa using hi) = (L.map Col.type)[i]'(by simpa using hi2) := by simp only [h.kinds]
  simpa using e
end Go.Proofs.YtbkkjlcclddpdaaGreatDoor
