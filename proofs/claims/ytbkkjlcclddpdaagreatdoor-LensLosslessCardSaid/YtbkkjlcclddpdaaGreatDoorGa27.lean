/- Walks of lens.changed, an operation each (printed by gen_chg.py). -/
import Derived.Test.YtbkkjlcclddpdaaGreatDoorGa26
set_option linter.unusedSimpArgs false
set_option linter.unusedVariables false
namespace Go.Proofs.YtbkkjlcclddpdaaGreatDoor
open Go.RowKit Go.Lib
@[simp] theorem tab_arr3 : ainfo Tryz.prog 132 = some (3, 3, [.v (.int .i64 0), .v (.int .i64 0), .v (.string ByteArray.empty), .v (.int .i64 0), .v (.int .i64 0), .v (.string ByteArray.empty), .v (.int .i64 0), .v (.int .i64 0), .v (.string ByteArray.empty)]) := by kernel_rfl
set_option maxRecDepth 4000 in
set_option maxHeartbeats 4000000 in
theorem chg_1 (x : Lens) (cols : List Col) (DD : List Val) (hDD : qw cols = DD) (hc0 : 1 ≤ cols.length) (hc : cols.length ≤ 12) (i : Nat) (hi1 : findP cols x.a.toList = i) (hi : i < cols.length) (hid : i < DD.length) (ho : x.op = 1) (t0 : 0 ≤ cols[i].type) (t3 : cols[i].type < 3) (R : List Val) (hR : (if Val.eqB DD[i] x.value then DD.set i (if cols[i].type = 0 then ⟨0, 1, ⟨#[]⟩⟩ else if cols[i].type = 1 then ⟨1, 0, ⟨#[97]⟩⟩ else ⟨2, 1, ⟨#[]⟩⟩) else DD) = R) : Gives Tryz.prog 61 [x.av, .sl (cols.map Col.av)] (.tup [.sl (R.map Val.av), .bool true]) := by
  have c2 := qbc cols x.a (by omega)
  rw [hi1] at c2
  have c3 := qfb cols (by omega)
  rw [hDD] at c3
  have hln : DD.length = cols.length := by rw [← hDD, qdg]
  have h1 : ((i : Int)).toNat = i := by omega
  have k1 := qdm 1
  have k2 := qdm 2
  have k3 := qdm 9223372036854775807
  have k4 := qdi ⟨#[97]⟩
  have k5 := qdi x.sep
  have d1 : (x.op == 1) = true := by rw [ho]; rfl
  have d3 : (x.op == 3) = false := beq_eq_false_iff_ne.2 (by omega)
  have d4 : (x.op == 4) = false := beq_eq_false_iff_ne.2 (by omega)
  have d5 : (x.op == 5) = false := beq_eq_false_iff_ne.2 (by omega)
  have d6 : (x.op == 6) = false := beq_eq_false_iff_ne.2 (by omega)
  have ta : aeq Tryz.prog .eql 27 (.agg [.int DD[i].k, .int DD[i].n, .str DD[i].s]) (.agg [.int x.value.k, .int x.value.n, .str x.value.s]) = some (Val.eqB DD[i] x.value) := Val.aeq _ _
  have hdv : DD[i].av = .agg [.int DD[i].k, .int DD[i].n, .str DD[i].s] := rfl
  have hxv : x.value.av = .agg [.int x.value.k, .int x.value.n, .str x.value.s] := rfl
  by_cases he : Val.eqB DD[i] x.value = true
  · rw [if_pos he] at hR
    have ht : cols[i].type = 0 ∨ cols[i].type = 1 ∨ cols[i].type = 2 := by omega
    rcases ht with ht | ht | ht
    · rw [ht] at hR
      refine qm Tryz.func61 Tryz.ntmps61 rfl rfl (by decide) rfl (by intro n; simp) fun σ n0 hcl hft => ?_
      repeat' (first | ((first | (with_reducible first | refine qbi ?_ | refine qc ?_ | refine qb ?_ | refine qj ?_ | refine qi ?_ | refine qbq ?_ | refine qcd ?_ | refine anyV_step ?_ | refine anyV_end ?_) | ((with_reducible refine qp (fun hg => ?_) (fun hg => ?_)) <;> (try simp only [hg]) <;> (try simp only [gS] at hg) <;> (try (first | simp only [eq_false hg, gI] | simp only [eq_true hg, gI]))) | refine acall (c2) ?_ | refine qn (c2) ?_ | refine qbo c3 ?_ | refine acall (k1) ?_ | refine qn (k1) ?_ | refine acall (k2) ?_ | refine qn (k2) ?_ | refine acall (k3) ?_ | refine qn (k3) ?_ | refine acall (k4) ?_ | refine qn (k4) ?_ | refine acall (k5) ?_ | refine qn (k5) ?_ | refine acall (qbs) ?_ | refine qn (qbs) ?_ | refine qe ?_ | refine qk ?_ | refine qh ?_ | refine qo ?_) <;> (try simp (disch := first | omega | simp) [qg, -qq, -qu, d1, d3, d4, d5, d6, h1, hi, hid, hln, ta, he, ht, hdv, hxv, -Val.av_fold])) | (with_reducible refine awp_anyV (id := 6) [.cells [.int x.op, .str x.a, .str x.b, .str x.c, .str x.sep, .int x.n, .int x.value.k, .int x.value.n, .str x.value.s] 29, .unborn] 1 [.R, .R, .M, .M, .M, .R, .R, .R, .R, .R, .R, .R, .N, .W] (by kernel_rfl) (by kernel_rfl) (by simp) ?_) | (with_reducible refine qce (id := 1) [.cells [.int x.op, .str x.a, .str x.b, .str x.c, .str x.sep, .int x.n, .int x.value.k, .int x.value.n, .str x.value.s] 29] [.R, .W, .R, .R, .R, .W, .R, .R] (by kernel_rfl) (by kernel_rfl) (by simp) ?_) | ((with_reducible refine sideT ?_ ?_); first | omega | assumption | (simp; done)) | (refine qf fun K hK => ?_) | (refine qa ?_) | refine ql ?_ | ((first | refine hK _ ?_ | (clear hK K; refine hK _ ?_) | (clear hK K; clear hK K; refine hK _ ?_)); clear hK K) | refine qd ?_)
      refine ⟨qba 4 1 (k := cols.length) (by simp) (by rfl) (by simp; omega) ?_⟩
      repeat' (first | ((first | ((with_reducible refine qp (fun hg => ?_) (fun hg => ?_)) <;> (try simp only [hg]) <;> (try simp only [gS] at hg) <;> (try (first | simp only [eq_false hg, gI] | simp only [eq_true hg, gI]))) | (with_reducible first | refine qc ?_ | refine qb ?_ | refine qj ?_ | refine qi ?_) | refine qe ?_ | refine qk ?_ | refine qh ?_ | refine qo ?_) <;> (try simp (disch := first | omega | simp) [qg, -qq, -qu])) | ((with_reducible refine sideT ?_ ?_); first | omega | assumption | (simp; done)) | (refine qf fun K hK => ?_) | (refine qa ?_) | refine ql ?_ | ((first | refine hK _ ?_ | (clear hK K; refine hK _ ?_) | (clear hK K; clear hK K; refine hK _ ?_)); clear hK K) | refine qd ?_)
      rw [← hR]; exact qca DD i ⟨0, 1, ⟨#[]⟩⟩
    · rw [ht] at hR
      refine qm Tryz.func61 Tryz.ntmps61 rfl rfl (by decide) rfl (by intro n; simp) fun σ n0 hcl hft => ?_
      repeat' (first | ((first | (with_reducible first | refine qbi ?_ | refine qc ?_ | refine qb ?_ | refine qj ?_ | refine qi ?_ | refine qbq ?_ | refine qcd ?_ | refine anyV_step ?_ | refine anyV_end ?_) | ((with_reducible refine qp (fun hg => ?_) (fun hg => ?_)) <;> (try simp only [hg]) <;> (try simp only [gS] at hg) <;> (try (first | simp only [eq_false hg, gI] | simp only [eq_true hg, gI]))) | refine acall (c2) ?_ | refine qn (c2) ?_ | refine qbo c3 ?_ | refine acall (k1) ?_ | refine qn (k1) ?_ | refine acall (k2) ?_ | refine qn (k2) ?_ | refine acall (k3) ?_ | refine qn (k3) ?_ | refine acall (k4) ?_ | refine qn (k4) ?_ | refine acall (k5) ?_ | refine qn (k5) ?_ | refine acall (qbs) ?_ | refine qn (qbs) ?_ | refine qe ?_ | refine qk ?_ | refine qh ?_ | refine qo ?_) <;> (try simp (disch := first | omega | simp) [qg, -qq, -qu, d1, d3, d4, d5, d6, h1, hi, hid, hln, ta, he, ht, hdv, hxv, -Val.av_fold])) | (with_reducible refine awp_anyV (id := 6) [.cells [.int x.op, .str x.a, .str x.b, .str x.c, .str x.sep, .int x.n, .int x.value.k, .int x.value.n, .str x.value.s] 29, .unborn] 1 [.R, .R, .M, .M, .M, .R, .R, .R, .R, .R, .R, .R, .N, .W] (by kernel_rfl) (by kernel_rfl) (by simp) ?_) | (with_reducible refine qce (id := 1) [.cells [.int x.op, .str x.a, .str x.b, .str x.c, .str x.sep, .int x.n, .int x.value.k, .int x.value.n, .str x.value.s] 29] [.R, .W, .R, .R, .R, .W, .R, .R] (by kernel_rfl) (by kernel_rfl) (by simp) ?_) | ((with_reducible refine sideT ?_ ?_); first | omega | assumption | (simp; done)) | (refine qf fun K hK => ?_) | (refine qa ?_) | refine ql ?_ | ((first | refine hK _ ?_ | (clear hK K; refine hK _ ?_) | (clear hK K; clear hK K; refine hK _ ?_)); clear hK K) | refine qd ?_)
      refine ⟨qba 4 1 (k := cols.length) (by simp) (by rfl) (by simp; omega) ?_⟩
      repeat' (first | ((first | ((with_reducible refine qp (fun hg => ?_) (fun hg => ?_)) <;> (try simp only [hg]) <;> (try simp only [gS] at hg) <;> (try (first | simp only [eq_false hg, gI] | simp only [eq_true hg, gI]))) | (with_reducible first | refine qc ?_ | refine qb ?_ | refine qj ?_ | refine qi ?_) | refine qe ?_ | refine qk ?_ | refine qh ?_ | refine qo ?_) <;> (try simp (disch := first | omega | simp) [qg, -qq, -qu])) | ((with_reducible refine sideT ?_ ?_); first | omega | assumption | (simp; done)) | (refine qf fun K hK => ?_) | (refine qa ?_) | refine ql ?_ | ((first | refine hK _ ?_ | (clear hK K; refine hK _ ?_) | (clear hK K; clear hK K; refine hK _ ?_)); clear hK K) | refine qd ?_)
      rw [← hR]; exact qca DD i ⟨1, 0, ⟨#[97]⟩⟩
    · rw [ht] at hR
      refine qm Tryz.func61 Tryz.ntmps61 rfl rfl (by decide) rfl (by intro n; simp) fun σ n0 hcl hft => ?_
      repeat' (first | ((first | (with_reducible first | refine qbi ?_ | refine qc ?_ | refine qb ?_ | refine qj ?_ | refine qi ?_ | refine qbq ?_ | refine qcd ?_ | refine anyV_step ?_ | refine anyV_end ?_) | ((with_reducible refine qp (fun hg => ?_) (fun hg => ?_)) <;> (try simp only [hg]) <;> (try simp only [gS] at hg) <;> (try (first | simp only [eq_false hg, gI] | simp only [eq_true hg, gI]))) | refine acall (c2) ?_ | refine qn (c2) ?_ | refine qbo c3 ?_ | refine acall (k1) ?_ | refine qn (k1) ?_ | refine acall (k2) ?_ | refine qn (k2) ?_ | refine acall (k3) ?_ | refine qn (k3) ?_ | refine acall (k4) ?_ | refine qn (k4) ?_ | refine acall (k5) ?_ | refine qn (k5) ?_ | refine acall (qbs) ?_ | refine qn (qbs) ?_ | refine qe ?_ | refine qk ?_ | refine qh ?_ | refine qo ?_) <;> (try simp (disch := first | omega | simp) [qg, -qq, -qu, d1, d3, d4, d5, d6, h1, hi, hid, hln, ta, he, ht, hdv, hxv, -Val.av_fold])) | (with_reducible refine awp_anyV (id := 6) [.cells [.int x.op, .str x.a, .str x.b, .str x.c, .str x.sep, .int x.n, .int x.value.k, .int x.value.n, .str x.value.s] 29, .unborn] 1 [.R, .R, .M, .M, .M, .R, .R, .R, .R, .R, .R, .R, .N, .W] (by kernel_rfl) (by kernel_rfl) (by simp) ?_) | (with_reducible refine qce (id := 1) [.cells [.int x.op, .str x.a, .str x.b, .str x.c, .str x.sep, .int x.n, .int x.value.k, .int x.value.n, .str x.value.s] 29] [.R, .W, .R, .R, .R, .W, .R, .R] (by kernel_rfl) (by kernel_rfl) (by simp) ?_) | ((with_reducible refine sideT ?_ ?_); first | omega | assumption | (simp; done)) | (refine qf fun K hK => ?_) | (refine qa ?_) | refine ql ?_ | ((first | refine hK _ ?_ | (clear hK K; refine hK _ ?_) | (clear hK K; clear hK K; refine hK _ ?_)); clear hK K) | refine qd ?_)
      refine ⟨qba 4 1 (k := cols.length) (by simp) (by rfl) (by simp; omega) ?_⟩
      repeat' (first | ((first | ((with_reducible refine qp (fun hg => ?_) (fun hg => ?_)) <;> (try simp only [hg]) <;> (try simp only [gS] at hg) <;> (try (first | simp only [eq_false hg, gI] | simp only [eq_true hg, gI]))) | (with_reducible first | refine qc ?_ | refine qb ?_ | refine qj ?_ | refine qi ?_) | refine qe ?_ | refine qk ?_ | refine qh ?_ | refine qo ?_) <;> (try simp (disch := first | omega | simp) [qg, -qq, -qu])) | ((with_reducible refine sideT ?_ ?_); first | omega | assumption | (simp; done)) | (refine qf fun K hK => ?_) | (refine qa ?_) | refine ql ?_ | ((first | refine hK _ ?_ | (clear hK K; refine hK _ ?_) | (clear hK K; clear hK K; refine hK _ ?_)); clear hK K) | refine qd ?_)
      rw [← hR]; exact qca DD i ⟨2, 1, ⟨#[]⟩⟩
  · rw [if_neg he] at hR
    have he2 : Val.eqB DD[i] x.value = false := by simpa using he
    refine qm Tryz.func61 Tryz.ntmps61 rfl rfl (by decide) rfl (by intro n; simp) fun σ n0 hcl hft => ?_
    repeat' (first | ((first | (with_reducible first | refine qbi ?_ | refine qc ?_ | refine qb ?_ | refine qj ?_ | refine qi ?_ | refine qbq ?_ | refine qcd ?_) | ((with_reducible refine qp (fun hg => ?_) (fun hg => ?_)) <;> (try simp only [hg]) <;> (try simp only [gS] at hg) <;> (try (first | simp only [eq_false hg, gI] | simp only [eq_true hg, gI]))) | refine acall (c2) ?_ | refine qn (c2) ?_ | refine qbo c3 ?_ | refine acall (k1) ?_ | refine qn (k1) ?_ | refine acall (k2) ?_ | refine qn (k2) ?_ | refine acall (k3) ?_ | refine qn (k3) ?_ | refine acall (k4) ?_ | refine qn (k4) ?_ | refine acall (k5) ?_ | refine qn (k5) ?_ | refine acall (qbs) ?_ | refine qn (qbs) ?_ | refine qe ?_ | refine qk ?_ | refine qh ?_ | refine qo ?_) <;> (try simp (disch := first | omega | simp) [qg, -qq, -qu, d1, d3, d4, d5, d6, h1, hi, hid, hln, ta, he2, hdv, hxv, -Val.av_fold])) | (with_reducible refine qce (id := 1) [.cells [.int x.op, .str x.a, .str x.b, .str x.c, .str x.sep, .int x.n, .int x.value.k, .int x.value.n, .str x.value.s] 29] [.R, .W, .R, .R, .R, .W, .R, .R] (by kernel_rfl) (by kernel_rfl) (by simp) ?_) | ((with_reducible refine sideT ?_ ?_); first | omega | assumption | (simp; done)) | (refine qf fun K hK => ?_) | (refine qa ?_) | refine ql ?_ | ((first | refine hK _ ?_ | (clear hK K; refine hK _ ?_) | (clear hK K; clear hK K; refine hK _ ?_)); clear hK K) | refine qd ?_)
    refine ⟨qba 4 1 (k := cols.length) (by simp) (by rfl) (by simp; omega) ?_⟩
    repeat' (first | ((first | ((with_reducible refine qp (fun hg => ?_) (fun hg => ?_)) <;> (try simp only [hg]) <;> (try simp only [gS] at hg) <;> (try (first | simp only [eq_false hg, gI] | simp only [eq_true hg, gI]))) | (with_reducible first | refine qc ?_ | refine qb ?_ | refine qj ?_ | refine qi ?_) | refine qe ?_ | refine qk ?_ | refine qh ?_ | refine qo ?_) <;> (try simp (disch := first | omega | simp) [qg, -qq, -qu])) | ((with_reducible refine sideT ?_ ?_); first | omega | assumption | (simp; done)) | (refine qf fun K hK => ?_) | (refine qa ?_) | refine ql ?_ | ((first | refine hK _ ?_ | (clear hK K; refine hK _ ?_) | (clear hK K; clear hK K; refine hK _ ?_)); clear hK K) | refine qd ?_)
    rw [hR]
set_option maxRecDepth 4000 in
set_option maxHeartbeats 4000000 in
theorem chg_3 (x : Lens) (cols : List Col) (DD : List Val) (hDD : qw cols = DD) (hc0 : 1 ≤ cols.length) (hc : cols.length ≤ 12) (i : Nat) (hi1 : findP cols x.a.toList = i) (hi : i < cols.length) (hid : i < DD.length) (ho : x.op = 3) (R : List Val) (hR : DD.set i ⟨1, 0, x.sep⟩ = R) : Gives Tryz.prog 61 [x.av, .sl (cols.map Col.av)] (.tup [.sl (R.map Val.av), .bool true]) := by
  have c2 := qbc cols x.a (by omega)
  rw [hi1] at c2
  have c3 := qfb cols (by omega)
  rw [hDD] at c3
  have hln : DD.length = cols.length := by rw [← hDD, qdg]
  have h1 : ((i : Int)).toNat = i := by omega
  have k1 := qdm 1
  have k2 := qdm 2
  have k3 := qdm 9223372036854775807
  have k4 := qdi ⟨#[97]⟩
  have k5 := qdi x.sep
  have d1 : (x.op == 1) = false := beq_eq_false_iff_ne.2 (by omega)
  have d3 : (x.op == 3) = true := by rw [ho]; rfl
  have d4 : (x.op == 4) = false := beq_eq_false_iff_ne.2 (by omega)
  have d5 : (x.op == 5) = false := beq_eq_false_iff_ne.2 (by omega)
  have d6 : (x.op == 6) = false := beq_eq_false_iff_ne.2 (by omega)
  refine qm Tryz.func61 Tryz.ntmps61 rfl rfl (by decide) rfl (by intro n; simp) fun σ n0 hcl hft => ?_
  repeat' (first | ((first | (with_reducible first | refine qbi ?_ | refine qc ?_ | refine qb ?_ | refine qj ?_ | refine qi ?_ | refine qbq ?_ | refine qcd ?_) | ((with_reducible refine qp (fun hg => ?_) (fun hg => ?_)) <;> (try simp only [hg]) <;> (try simp only [gS] at hg) <;> (try (first | simp only [eq_false hg, gI] | simp only [eq_true hg, gI]))) | refine acall (c2) ?_ | refine qn (c2) ?_ | refine qbo c3 ?_ | refine acall (k1) ?_ | refine qn (k1) ?_ | refine acall (k2) ?_ | refine qn (k2) ?_ | refine acall (k3) ?_ | refine qn (k3) ?_ | refine acall (k4) ?_ | refine qn (k4) ?_ | refine acall (k5) ?_ | refine qn (k5) ?_ | refine acall (qbs) ?_ | refine qn (qbs) ?_ | refine qe ?_ | refine qk ?_ | refine qh ?_ | refine qo ?_) <;> (try simp (disch := first | omega | simp) [qg, -qq, -qu, d1, d3, d4, d5, d6, h1, hi, hid, hln])) | (with_reducible refine qce (id := 1) [.cells [.int x.op, .str x.a, .str x.b, .str x.c, .str x.sep, .int x.n, .int x.value.k, .int x.value.n, .str x.value.s] 29] [.R, .W, .R, .R, .R, .W, .R, .R] (by kernel_rfl) (by kernel_rfl) (by simp) ?_) | ((with_reducible refine sideT ?_ ?_); first | omega | assumption | (simp; done)) | (refine qf fun K hK => ?_) | (refine qa ?_) | refine ql ?_ | ((first | refine hK _ ?_ | (clear hK K; refine hK _ ?_) | (clear hK K; clear hK K; refine hK _ ?_)); clear hK K) | refine qd ?_)
  refine ⟨qba 4 1 (k := cols.length) (by simp) (by rfl) (by simp; omega) ?_⟩
  repeat' (first | ((first | ((with_reducible refine qp (fun hg => ?_) (fun hg => ?_)) <;> (try simp only [hg]) <;> (try simp only [gS] at hg) <;> (try (first | simp only [eq_false hg, gI] | simp only [eq_true hg, gI]))) | (with_reducible first | refine qc ?_ | refine qb ?_ | refine qj ?_ | refine qi ?_) | refine qe ?_ | refine qk ?_ | refine qh ?_ | refine qo ?_) <;> (try simp (disch := first | omega | simp) [qg, -qq, -qu])) | ((with_reducible refine sideT ?_ ?_); first | omega | assumption | (simp; done)) | (refine qf fun K hK => ?_) | (refine qa ?_) | refine ql ?_ | ((first | refine hK _ ?_ | (clear hK K; refine hK _ ?_) | (clear hK K; clear hK K; refine hK _ ?_)); clear hK K) | refine qd ?_)
  rw [← hR]; exact qca DD i ⟨1, 0, x.sep⟩
set_option maxRecDepth 4000 in
set_option maxHeartbeats 4000000 in
theorem chg_4 (x : Lens) (cols : List Col) (DD : List Val) (hDD : qw cols = DD) (hc0 : 1 ≤ cols.length) (hc : cols.length ≤ 12) (i : Nat) (hi1 : findP cols x.a.toList = i) (hi : i < cols.length) (hid : i < DD.length) (ho : x.op = 4) (R : List Val) (hR : DD.set i ⟨1, 0, x.sep⟩ = R) : Gives Tryz.prog 61 [x.av, .sl (cols.map Col.av)] (.tup [.sl (R.map Val.av), .bool true]) := by
  have c2 := qbc cols x.a (by omega)
  rw [hi1] at c2
  have c3 := qfb cols (by omega)
  rw [hDD] at c3
  have hln : DD.length = cols.length := by rw [← hDD, qdg]
  have h1 : ((i : Int)).toNat = i := by omega
  have k1 := qdm 1
  have k2 := qdm 2
  have k3 := qdm 9223372036854775807
  have k4 := qdi ⟨#[97]⟩
  have k5 := qdi x.sep
  have d1 : (x.op == 1) = false := beq_eq_false_iff_ne.2 (by omega)
  have d3 : (x.op == 3) = false := beq_eq_false_iff_ne.2 (by omega)
  have d4 : (x.op == 4) = true := by rw [ho]; rfl
  have d5 : (x.op == 5) = false := beq_eq_false_iff_ne.2 (by omega)
  have d6 : (x.op == 6) = false := beq_eq_false_iff_ne.2 (by omega)
  refine qm Tryz.func61 Tryz.ntmps61 rfl rfl (by decide) rfl (by intro n; simp) fun σ n0 hcl hft => ?_
  repeat' (first | ((first | (with_reducible first | refine qbi ?_ | refine qc ?_ | refine qb ?_ | refine qj ?_ | refine qi ?_ | refine qbq ?_ | refine qcd ?_) | ((with_reducible refine qp (fun hg => ?_) (fun hg => ?_)) <;> (try simp only [hg]) <;> (try simp only [gS] at hg) <;> (try (first | simp only [eq_false hg, gI] | simp only [eq_true hg, gI]))) | refine acall (c2) ?_ | refine qn (c2) ?_ | refine qbo c3 ?_ | refine acall (k1) ?_ | refine qn (k1) ?_ | refine acall (k2) ?_ | refine qn (k2) ?_ | refine acall (k3) ?_ | refine qn (k3) ?_ | refine acall (k4) ?_ | refine qn (k4) ?_ | refine acall (k5) ?_ | refine qn (k5) ?_ | refine acall (qbs) ?_ | refine qn (qbs) ?_ | refine qe ?_ | refine qk ?_ | refine qh ?_ | refine qo ?_) <;> (try simp (disch := first | omega | simp) [qg, -qq, -qu, d1, d3, d4, d5, d6, h1, hi, hid, hln])) | (with_reducible refine qce (id := 1) [.cells [.int x.op, .str x.a, .str x.b, .str x.c, .str x.sep, .int x.n, .int x.value.k, .int x.value.n, .str x.value.s] 29] [.R, .W, .R, .R, .R, .W, .R, .R] (by kernel_rfl) (by kernel_rfl) (by simp) ?_) | ((with_reducible refine sideT ?_ ?_); first | omega | assumption | (simp; done)) | (refine qf fun K hK => ?_) | (refine qa ?_) | refine ql ?_ | ((first | refine hK _ ?_ | (clear hK K; refine hK _ ?_) | (clear hK K; clear hK K; refine hK _ ?_)); clear hK K) | refine qd ?_)
  refine ⟨qba 4 1 (k := cols.length) (by simp) (by rfl) (by simp; omega) ?_⟩
  repeat' (first | ((first | ((with_reducible refine qp (fun hg => ?_) (fun hg => ?_)) <;> (try simp only [hg]) <;> (try simp only [gS] at hg) <;> (try (first | simp only [eq_false hg, gI] | simp only [eq_true hg, gI]))) | (with_reducible first | refine qc ?_ | refine qb ?_ | refine qj ?_ | refine qi ?_) | refine qe ?_ | refine qk ?_ | refine qh ?_ | refine qo ?_) <;> (try simp (disch := first | omega | simp) [qg, -qq, -qu])) | ((with_reducible refine sideT ?_ ?_); first | omega | assumption | (simp; done)) | (refine qf fun K hK => ?_) | (refine qa ?_) | refine ql ?_ | ((first | refine hK _ ?_ | (clear hK K; refine hK _ ?_) | (clear hK K; clear hK K; refine hK _ ?_)); clear hK K) | refine qd ?_)
  rw [← hR]; exact qca DD i ⟨1, 0, x.sep⟩
set_option maxRecDepth 4000 in
set_option maxHeartbeats 4000000 in
theorem chg_5 (x : Lens) (cols : List Col) (DD : List Val) (hDD : qw cols = DD) (hc0 : 1 ≤ cols.length) (hc : cols.length ≤ 12) (i : Nat) (hi1 : findP cols x.a.toList = i) (hi : i < cols.length) (hid : i < DD.length) (ho : x.op = 5) (R : Option (List Val)) (hR : (if cols[i].type = 2 ∨ cols[i].type = 0 ∧ x.n = 1 then none else some (if cols[i].type = 0 then DD.set i ⟨0, 2, ⟨#[]⟩⟩ else DD)) = R) : Gives Tryz.prog 61 [x.av, .sl (cols.map Col.av)] (.tup [chAv R, .bool R.isSome]) := by
  have c2 := qbc cols x.a (by omega)
  rw [hi1] at c2
  have c3 := qfb cols (by omega)
  rw [hDD] at c3
  have hln : DD.length = cols.length := by rw [← hDD, qdg]
  have h1 : ((i : Int)).toNat = i := by omega
  have k1 := qdm 1
  have k2 := qdm 2
  have k3 := qdm 9223372036854775807
  have k4 := qdi ⟨#[97]⟩
  have k5 := qdi x.sep
  have d1 : (x.op == 1) = false := beq_eq_false_iff_ne.2 (by omega)
  have d3 : (x.op == 3) = false := beq_eq_false_iff_ne.2 (by omega)
  have d4 : (x.op == 4) = false := beq_eq_false_iff_ne.2 (by omega)
  have d5 : (x.op == 5) = true := by rw [ho]; rfl
  have d6 : (x.op == 6) = false := beq_eq_false_iff_ne.2 (by omega)
  by_cases t2 : cols[i].type = 2
  · have n0 : ¬ cols[i].type = 0 := by omega
    have b2 : (cols[i].type == 2) = true := by rw [t2]; rfl
    rw [if_pos (.inl t2)] at hR
    subst hR
    refine qm Tryz.func61 Tryz.ntmps61 rfl rfl (by decide) rfl (by intro n; simp) fun σ n0 hcl hft => ?_
    repeat' (first | ((first | ((with_reducible refine qp (fun hg => ?_) (fun hg => ?_)) <;> (try simp only [hg]) <;> (try simp only [gS] at hg) <;> (try (first | simp only [eq_false hg, gI] | simp only [eq_true hg, gI]))) | (with_reducible first | refine qc ?_ | refine qb ?_ | refine qj ?_ | refine qi ?_ | refine qbq ?_ | refine qcd ?_) | refine acall (c2) ?_ | refine qn (c2) ?_ | refine qbo c3 ?_ | refine acall (k1) ?_ | refine qn (k1) ?_ | refine acall (k2) ?_ | refine qn (k2) ?_ | refine acall (k3) ?_ | refine qn (k3) ?_ | refine acall (k4) ?_ | refine qn (k4) ?_ | refine acall (k5) ?_ | refine qn (k5) ?_ | refine acall (qbs) ?_ | refine qn (qbs) ?_ | refine qe ?_ | refine qk ?_ | refine qh ?_ | refine qo ?_) <;> (try simp (disch := first | omega | simp) [qg, -qq, -qu, d1, d3, d4, d5, d6, h1, hi, hid, hln, b2])) | (with_reducible refine qce (id := 1) [.cells [.int x.op, .str x.a, .str x.b, .str x.c, .str x.sep, .int x.n, .int x.value.k, .int x.value.n, .str x.value.s] 29] [.R, .W, .R, .R, .R, .W, .R, .R] (by kernel_rfl) (by kernel_rfl) (by simp) ?_) | ((with_reducible refine sideT ?_ ?_); first | omega | assumption | (simp; done)) | (refine qf fun K hK => ?_) | (refine qa ?_) | refine ql ?_ | ((first | refine hK _ ?_ | (clear hK K; refine hK _ ?_) | (clear hK K; clear hK K; refine hK _ ?_)); clear hK K) | refine qd ?_)
    rfl
  · have b2 : (cols[i].type == 2) = false := beq_eq_false_iff_ne.2 t2
    by_cases t0 : cols[i].type = 0
    · have b0 : (cols[i].type == 0) = true := by rw [t0]; rfl
      by_cases n1 : x.n = 1
      · have b1 : (x.n == 1) = true := by rw [n1]; rfl
        rw [if_pos (.inr ⟨t0, n1⟩)] at hR
        subst hR
        refine qm Tryz.func61 Tryz.ntmps61 rfl rfl (by decide) rfl (by intro n; simp) fun σ n0 hcl hft => ?_
        repeat' (first | ((first | ((with_reducible refine qp (fun hg => ?_) (fun hg => ?_)) <;> (try simp only [hg]) <;> (try simp only [gS] at hg) <;> (try (first | simp only [eq_false hg, gI] | simp only [eq_true hg, gI]))) | (with_reducible first | refine qc ?_ | refine qb ?_ | refine qj ?_ | refine qi ?_ | refine qbq ?_ | refine qcd ?_) | refine acall (c2) ?_ | refine qn (c2) ?_ | refine qbo c3 ?_ | refine acall (k1) ?_ | refine qn (k1) ?_ | refine acall (k2) ?_ | refine qn (k2) ?_ | refine acall (k3) ?_ | refine qn (k3) ?_ | refine acall (k4) ?_ | refine qn (k4) ?_ | refine acall (k5) ?_ | refine qn (k5) ?_ | refine acall (qbs) ?_ | refine qn (qbs) ?_ | refine qe ?_ | refine qk ?_ | refine qh ?_ | refine qo ?_) <;> (try simp (disch := first | omega | simp) [qg, -qq, -qu, d1, d3, d4, d5, d6, h1, hi, hid, hln, b2, b0, b1])) | (with_reducible refine qce (id := 1) [.cells [.int x.op, .str x.a, .str x.b, .str x.c, .str x.sep, .int x.n, .int x.value.k, .int x.value.n, .str x.value.s] 29] [.R, .W, .R, .R, .R, .W, .R, .R] (by kernel_rfl) (by kernel_rfl) (by simp) ?_) | ((with_reducible refine sideT ?_ ?_); first | omega | assumption | (simp; done)) | (refine qf fun K hK => ?_) | (refine qa ?_) | refine ql ?_ | ((first | refine hK _ ?_ | (clear hK K; refine hK _ ?_) | (clear hK K; clear hK K; refine hK _ ?_)); clear hK K) | refine qd ?_)
        rfl
      · have b1 : (x.n == 1) = false := beq_eq_false_iff_ne.2 n1
        rw [if_neg (by omega), if_pos t0] at hR
        subst hR
        refine qm Tryz.func61 Tryz.ntmps61 rfl rfl (by decide) rfl (by intro n; simp) fun σ n0 hcl hft => ?_
        repeat' (first | ((first | (with_reducible first | refine qbi ?_ | refine qc ?_ | refine qb ?_ | refine qj ?_ | refine qi ?_ | refine qbq ?_ | refine qcd ?_) | ((with_reducible refine qp (fun hg => ?_) (fun hg => ?_)) <;> (try simp only [hg]) <;> (try simp only [gS] at hg) <;> (try (first | simp only [eq_false hg, gI] | simp only [eq_true hg, gI]))) | refine acall (c2) ?_ | refine qn (c2) ?_ | refine qbo c3 ?_ | refine acall (k1) ?_ | refine qn (k1) ?_ | refine acall (k2) ?_ | refine qn (k2) ?_ | refine acall (k3) ?_ | refine qn (k3) ?_ | refine acall (k4) ?_ | refine qn (k4) ?_ | refine acall (k5) ?_ | refine qn (k5) ?_ | refine acall (qbs) ?_ | refine qn (qbs) ?_ | refine qe ?_ | refine qk ?_ | refine qh ?_ | refine qo ?_) <;> (try simp (disch := first | omega | simp) [qg, -qq, -qu, d1, d3, d4, d5, d6, h1, hi, hid, hln, b2, b0, b1])) | (with_reducible refine qce (id := 1) [.cells [.int x.op, .str x.a, .str x.b, .str x.c, .str x.sep, .int x.n, .int x.value.k, .int x.value.n, .str x.value.s] 29] [.R, .W, .R, .R, .R, .W, .R, .R] (by kernel_rfl) (by kernel_rfl) (by simp) ?_) | ((with_reducible refine sideT ?_ ?_); first | omega | assumption | (simp; done)) | (refine qf fun K hK => ?_) | (refine qa ?_) | refine ql ?_ | ((first | refine hK _ ?_ | (clear hK K; refine hK _ ?_) | (clear hK K; clear hK K; refine hK _ ?_)); clear hK K) | refine qd ?_)
        refine ⟨qba 4 1 (k := cols.length) (by simp) (by rfl) (by simp; omega) ?_⟩
        repeat' (first | ((first | ((with_reducible refine qp (fun hg => ?_) (fun hg => ?_)) <;> (try simp only [hg]) <;> (try simp only [gS] at hg) <;> (try (first | simp only [eq_false hg, gI] | simp only [eq_true hg, gI]))) | (with_reducible first | refine qc ?_ | refine qb ?_ | refine qj ?_ | refine qi ?_) | refine qe ?_ | refine qk ?_ | refine qh ?_ | refine qo ?_) <;> (try simp (disch := first | omega | simp) [qg, -qq, -qu])) | ((with_reducible refine sideT ?_ ?_); first | omega | assumption | (simp; done)) | (refine qf fun K hK => ?_) | (refine qa ?_) | refine ql ?_ | ((first | refine hK _ ?_ | (clear hK K; refine hK _ ?_) | (clear hK K; clear hK K; refine hK _ ?_)); clear hK K) | refine qd ?_)
        exact congrArg AV.sl (qca DD i ⟨0, 2, ⟨#[]⟩⟩)
    · have b0 : (cols[i].type == 0) = false := beq_eq_false_iff_ne.2 t0
      rw [if_neg (by omega), if_neg t0] at hR
      subst hR
      refine qm Tryz.func61 Tryz.ntmps61 rfl rfl (by decide) rfl (by intro n; simp) fun σ n0 hcl hft => ?_
      repeat' (first | ((first | (with_reducible first | refine qbi ?_ | refine qc ?_ | refine qb ?_ | refine qj ?_ | refine qi ?_ | refine qbq ?_ | refine qcd ?_) | ((with_reducible refine qp (fun hg => ?_) (fun hg => ?_)) <;> (try simp only [hg]) <;> (try simp only [gS] at hg) <;> (try (first | simp only [eq_false hg, gI] | simp only [eq_true hg, gI]))) | refine acall (c2) ?_ | refine qn (c2) ?_ | refine qbo c3 ?_ | refine acall (k1) ?_ | refine qn (k1) ?_ | refine acall (k2) ?_ | refine qn (k2) ?_ | refine acall (k3) ?_ | refine qn (k3) ?_ | refine acall (k4) ?_ | refine qn (k4) ?_ | refine acall (k5) ?_ | refine qn (k5) ?_ | refine acall (qbs) ?_ | refine qn (qbs) ?_ | refine qe ?_ | refine qk ?_ | refine qh ?_ | refine qo ?_) <;> (try simp (disch := first | omega | simp) [qg, -qq, -qu, d1, d3, d4, d5, d6, h1, hi, hid, hln, b2, b0])) | (with_reducible refine qce (id := 1) [.cells [.int x.op, .str x.a, .str x.b, .str x.c, .str x.sep, .int x.n, .int x.value.k, .int x.value.n, .str x.value.s] 29] [.R, .W, .R, .R, .R, .W, .R, .R] (by kernel_rfl) (by kernel_rfl) (by simp) ?_) | ((with_reducible refine sideT ?_ ?_); first | omega | assumption | (simp; done)) | (refine qf fun K hK => ?_) | (refine qa ?_) | refine ql ?_ | ((first | refine hK _ ?_ | (clear hK K; refine hK _ ?_) | (clear hK K; clear hK K; refine hK _ ?_)); clear hK K) | refine qd ?_)
      refine ⟨qba 4 1 (k := cols.length) (by simp) (by rfl) (by simp; omega) ?_⟩
      repeat' (first | ((first | ((with_reducible refine qp (fun hg => ?_) (fun hg => ?_)) <;> (try simp only [hg]) <;> (try simp only [gS] at hg) <;> (try (first | simp only [eq_false hg, gI] | simp only [eq_true hg, gI]))) | (with_reducible first | refine qc ?_ | refine qb ?_ | refine qj ?_ | refine qi ?_) | refine qe ?_ | refine qk ?_ | refine qh ?_ | refine qo ?_) <;> (try simp (disch := first | omega | simp) [qg, -qq, -qu])) | ((with_reducible refine sideT ?_ ?_); first | omega | assumption | (simp; done)) | (refine qf fun K hK => ?_) | (refine qa ?_) | refine ql ?_ | ((first | refine hK _ ?_ | (clear hK K; refine hK _ ?_) | (clear hK K; clear hK K; refine hK _ ?_)); clear hK K) | refine qd ?_)
      rfl
set_option maxRecDepth 4000 in
set_option maxHeartbeats 4000000 in
theorem chg_6 (x : Lens) (cols : List Col) (DD : List Val) (hDD : qw cols = DD) (hc0 : 1 ≤ cols.length) (hc : cols.length ≤ 12) (i : Nat) (hi1 : findP cols x.a.toList = i) (hi : i < cols.length) (hid : i < DD.length) (ho : x.op = 6) (R : Option (List Val)) (hR : (if x.n = 1 ∨ x.n = -1 then none else some (DD.set i ⟨0, 9223372036854775807, ⟨#[]⟩⟩)) = R) : Gives Tryz.prog 61 [x.av, .sl (cols.map Col.av)] (.tup [chAv R, .bool R.isSome]) := by
  have c2 := qbc cols x.a (by omega)
  rw [hi1] at c2
  have c3 := qfb cols (by omega)
  rw [hDD] at c3
  have hln : DD.length = cols.length := by rw [← hDD, qdg]
  have h1 : ((i : Int)).toNat = i := by omega
  have k1 := qdm 1
  have k2 := qdm 2
  have k3 := qdm 9223372036854775807
  have k4 := qdi ⟨#[97]⟩
  have k5 := qdi x.sep
  have d1 : (x.op == 1) = false := beq_eq_false_iff_ne.2 (by omega)
  have d3 : (x.op == 3) = false := beq_eq_false_iff_ne.2 (by omega)
  have d4 : (x.op == 4) = false := beq_eq_false_iff_ne.2 (by omega)
  have d5 : (x.op == 5) = false := beq_eq_false_iff_ne.2 (by omega)
  have d6 : (x.op == 6) = true := by rw [ho]; rfl
  by_cases n1 : x.n = 1 ∨ x.n = -1
  · rw [if_pos n1] at hR
    subst hR
    rcases n1 with n1 | n1
    · have n2 : ¬ x.n = -1 := by omega
      have b1 : (x.n == 1) = true := by rw [n1]; rfl
      refine qm Tryz.func61 Tryz.ntmps61 rfl rfl (by decide) rfl (by intro n; simp) fun σ n0 hcl hft => ?_
      repeat' (first | ((first | ((with_reducible refine qp (fun hg => ?_) (fun hg => ?_)) <;> (try simp only [hg]) <;> (try simp only [gS] at hg) <;> (try (first | simp only [eq_false hg, gI] | simp only [eq_true hg, gI]))) | (with_reducible first | refine qc ?_ | refine qb ?_ | refine qj ?_ | refine qi ?_ | refine qbq ?_ | refine qcd ?_) | refine acall (c2) ?_ | refine qn (c2) ?_ | refine qbo c3 ?_ | refine acall (k1) ?_ | refine qn (k1) ?_ | refine acall (k2) ?_ | refine qn (k2) ?_ | refine acall (k3) ?_ | refine qn (k3) ?_ | refine acall (k4) ?_ | refine qn (k4) ?_ | refine acall (k5) ?_ | refine qn (k5) ?_ | refine acall (qbs) ?_ | refine qn (qbs) ?_ | refine qe ?_ | refine qk ?_ | refine qh ?_ | refine qo ?_) <;> (try simp (disch := first | omega | simp) [qg, -qq, -qu, d1, d3, d4, d5, d6, h1, hi, hid, hln, b1])) | (with_reducible refine qce (id := 1) [.cells [.int x.op, .str x.a, .str x.b, .str x.c, .str x.sep, .int x.n, .int x.value.k, .int x.value.n, .str x.value.s] 29] [.R, .W, .R, .R, .R, .W, .R, .R] (by kernel_rfl) (by kernel_rfl) (by simp) ?_) | ((with_reducible refine sideT ?_ ?_); first | omega | assumption | (simp; done)) | (refine qf fun K hK => ?_) | (refine qa ?_) | refine ql ?_ | ((first | refine hK _ ?_ | (clear hK K; refine hK _ ?_) | (clear hK K; clear hK K; refine hK _ ?_)); clear hK K) | refine qd ?_)
      rfl
    · have b1 : (x.n == 1) = false := beq_eq_false_iff_ne.2 (by omega)
      have b2 : (x.n == -1) = true := by rw [n1]; rfl
      refine qm Tryz.func61 Tryz.ntmps61 rfl rfl (by decide) rfl (by intro n; simp) fun σ n0 hcl hft => ?_
      repeat' (first | ((first | ((with_reducible refine qp (fun hg => ?_) (fun hg => ?_)) <;> (try simp only [hg]) <;> (try simp only [gS] at hg) <;> (try (first | simp only [eq_false hg, gI] | simp only [eq_true hg, gI]))) | (with_reducible first | refine qc ?_ | refine qb ?_ | refine qj ?_ | refine qi ?_ | refine qbq ?_ | refine qcd ?_) | refine acall (c2) ?_ | refine qn (c2) ?_ | refine qbo c3 ?_ | refine acall (k1) ?_ | refine qn (k1) ?_ | refine acall (k2) ?_ | refine qn (k2) ?_ | refine acall (k3) ?_ | refine qn (k3) ?_ | refine acall (k4) ?_ | refine qn (k4) ?_ | refine acall (k5) ?_ | refine qn (k5) ?_ | refine acall (qbs) ?_ | refine qn (qbs) ?_ | refine qe ?_ | refine qk ?_ | refine qh ?_ | refine qo ?_) <;> (try simp (disch := first | omega | simp) [qg, -qq, -qu, d1, d3, d4, d5, d6, h1, hi, hid, hln, b1, b2])) | (with_reducible refine qce (id := 1) [.cells [.int x.op, .str x.a, .str x.b, .str x.c, .str x.sep, .int x.n, .int x.value.k, .int x.value.n, .str x.value.s] 29] [.R, .W, .R, .R, .R, .W, .R, .R] (by kernel_rfl) (by kernel_rfl) (by simp) ?_) | ((with_reducible refine sideT ?_ ?_); first | omega | assumption | (simp; done)) | (refine qf fun K hK => ?_) | (refine qa ?_) | refine ql ?_ | ((first | refine hK _ ?_ | (clear hK K; refine hK _ ?_) | (clear hK K; clear hK K; refine hK _ ?_)); clear hK K) | refine qd ?_)
      rfl
  · rw [if_neg n1] at hR
    subst hR
    rw [not_or] at n1
    obtain ⟨n1, n2⟩ := n1
    have b1 : (x.n == 1) = false := beq_eq_false_iff_ne.2 n1
    have b2 : (x.n == -1) = false := beq_eq_false_iff_ne.2 n2
    refine qm Tryz.func61 Tryz.ntmps61 rfl rfl (by decide) rfl (by intro n; simp) fun σ n0 hcl hft => ?_
    repeat' (first | ((first | (with_reducible first | refine qbi ?_ | refine qc ?_ | refine qb ?_ | refine qj ?_ | refine qi ?_ | refine qbq ?_ | refine qcd ?_) | ((with_reducible refine qp (fun hg => ?_) (fun hg => ?_)) <;> (try simp only [hg]) <;> (try simp only [gS] at hg) <;> (try (first | simp only [eq_false hg, gI] | simp only [eq_true hg, gI]))) | refine acall (c2) ?_ | refine qn (c2) ?_ | refine qbo c3 ?_ | refine acall (k1) ?_ | refine qn (k1) ?_ | refine acall (k2) ?_ | refine qn (k2) ?_ | refine acall (k3) ?_ | refine qn (k3) ?_ | refine acall (k4) ?_ | refine qn (k4) ?_ | refine acall (k5) ?_ | refine qn (k5) ?_ | refine acall (qbs) ?_ | refine qn (qbs) ?_ | refine qe ?_ | refine qk ?_ | refine qh ?_ | refine qo ?_) <;> (try simp (disch := first | omega | simp) [qg, -qq, -qu, d1, d3, d4, d5, d6, h1, hi, hid, hln, b1, b2])) | (with_reducible refine qce (id := 1) [.cells [.int x.op, .str x.a, .str x.b, .str x.c, .str x.sep, .int x.n, .int x.value.k, .int x.value.n, .str x.value.s] 29] [.R, .W, .R, .R, .R, .W, .R, .R] (by kernel_rfl) (by kernel_rfl) (by simp) ?_) | ((with_reducible refine sideT ?_ ?_); first | omega | assumption | (simp; done)) | (refine qf fun K hK => ?_) | (refine qa ?_) | refine ql ?_ | ((first | refine hK _ ?_ | (clear hK K; refine hK _ ?_) | (clear hK K; clear hK K; refine hK _ ?_)); clear hK K) | refine qd ?_)
    refine ⟨qba 4 1 (k := cols.length) (by simp) (by rfl) (by simp; omega) ?_⟩
    repeat' (first | ((first | ((with_reducible refine qp (fun hg => ?_) (fun hg => ?_)) <;> (try simp only [hg]) <;> (try simp only [gS] at hg) <;> (try (first | simp only [eq_false hg, gI] | simp only [eq_true hg, gI]))) | (with_reducible first | refine qc ?_ | refine qb ?_ | refine qj ?_ | refine qi ?_) | refine qe ?_ | refine qk ?_ | refine qh ?_ | refine qo ?_) <;> (try simp (disch := first | omega | simp) [qg, -qq, -qu])) | ((with_reducible refine sideT ?_ ?_); first | omega | assumption | (simp; done)) | (refine qf fun K hK => ?_) | (refine qa ?_) | refine ql ?_ | ((first | refine hK _ ?_ | (clear hK K; refine hK _ ?_) | (clear hK K; clear hK K; refine hK _ ?_)); clear hK K) | refine qd ?_)
    exact congrArg AV.sl (qca DD i ⟨0, 9223372036854775807, ⟨#[]⟩⟩)
set_option maxRecDepth 4000 in
set_option maxHeartbeats 4000000 in
theorem chg_0 (x : Lens) (cols : List Col) (hc : cols.length ≤ 12) (hc0 : 1 ≤ cols.length) (ho : ¬ x.op = 1 ∧ ¬ x.op = 3 ∧ ¬ x.op = 4 ∧ ¬ x.op = 5 ∧ ¬ x.op = 6) : Gives Tryz.prog 61 [x.av, .sl (cols.map Col.av)] (.tup [chAv none, .bool false]) := by
  have c2 := qbc cols x.a (by omega)
  have c3 := qfb cols (by omega)
  have d1 : (x.op == 1) = false := beq_eq_false_iff_ne.2 ho.1
  have d3 : (x.op == 3) = false := beq_eq_false_iff_ne.2 ho.2.1
  have d4 : (x.op == 4) = false := beq_eq_false_iff_ne.2 ho.2.2.1
  have d5 : (x.op == 5) = false := beq_eq_false_iff_ne.2 ho.2.2.2.1
  have d6 : (x.op == 6) = false := beq_eq_false_iff_ne.2 ho.2.2.2.2
  refine qm Tryz.func61 Tryz.ntmps61 rfl rfl (by decide) rfl (by intro n; simp) fun σ n0 hcl hft => ?_
  repeat' (first | ((first | ((with_reducible refine qp (fun hg => ?_) (fun hg => ?_)) <;> (try simp only [hg]) <;> (try simp only [gS] at hg) <;> (try (first | simp only [eq_false hg, gI] | simp only [eq_true hg, gI]))) | (with_reducible first | refine qc ?_ | refine qb ?_ | refine qj ?_ | refine qi ?_ | refine qbq ?_ | refine qcd ?_) | refine acall (c2) ?_ | refine qn (c2) ?_ | refine qbo c3 ?_ | refine qe ?_ | refine qk ?_ | refine qh ?_ | refine qo ?_) <;> (try simp (disch := first | omega | simp) [qg, -qq, -qu, d1, d3, d4, d5, d6])) | (with_reducible refine qce (id := 1) [.cells [.int x.op, .str x.a, .str x.b, .str x.c, .str x.sep, .int x.n, .int x.value.k, .int x.value.n, .str x.value.s] 29] [.R, .W, .R, .R, .R, .W, .R, .R] (by kernel_rfl) (by kernel_rfl) (by simp) ?_) | ((with_reducible refine sideT ?_ ?_); first | omega | assumption | (simp; done)) | (refine qf fun K hK => ?_) | (refine qa ?_) | refine ql ?_ | ((first | refine hK _ ?_ | (clear hK K; refine hK _ ?_) | (clear hK K; clear hK K; refine hK _ ?_)); clear hK K) | refine qd ?_)
  rfl
end Go.Proofs.YtbkkjlcclddpdaaGreatDoor

/- lens.changed, any step that can be done; walk of lens.Lossless. -/
namespace Go.Proofs.YtbkkjlcclddpdaaGreatDoor
open Go.RowKit Go.Lib
theorem rightV_k {v : Val} (h : qbl v = true) : 0 ≤ v.k ∧ v.k < 3 := by
  unfold qbl at h
  by_cases h0 : v.k = 0
  · omega
  · rw [if_neg h0] at h
    by_cases h1 : v.k = 1
    · omega
    · rw [if_neg h1, Bool.or_eq_true] at h
      rcases h with h | h <;>
      · have := (Val.eqB_iff _ _).1 h
        rw [this]
        exact ⟨by decide, by decide⟩
theorem changed_g {x : Lens} {L : List Col} (h0 : 1 ≤ L.length) (h1 : L.length ≤ 12) (h : qef x L) (R : Option (List Val)) (hR : qx x L = R) : Gives Tryz.prog 61 [x.av, .sl (L.map Col.av)] (.tup [chAv R, .bool R.isSome]) := by
  have hd := qdg L
  cases h
  case add ho ha hn hl hR2 hu hv =>
    have e : qx x L = none := by unfold qx; simp only [ho]; rfl
    rw [← hR, e]
    exact chg_0 x L h1 h0 (by omega)
  case drop i hi ho h hk hl hR2 hv =>
    have hid : i < (qw L).length := by omega
    have hv := rightV_k hv
    have e : qx x L = some (if Val.eqB (qw L)[i] x.value then (qw L).set i (if L[i].type = 0 then ⟨0, 1, ⟨#[]⟩⟩ else if L[i].type = 1 then ⟨1, 0, ⟨#[97]⟩⟩ else ⟨2, 1, ⟨#[]⟩⟩) else qw L) := by
      unfold qx
      simp only [ho, if_pos, h.find, Int.toNat_natCast, qz hid, qbz hi]
    rw [← hR, e]
    exact chg_1 x L (qw L) rfl h0 h1 i h.find hi hid ho (by omega) (by omega) _ rfl
  case rename i hi ho h hb hb2 hR2 =>
    have e : qx x L = none := by unfold qx; simp only [ho]; rfl
    rw [← hR, e]
    exact chg_0 x L h1 h0 (by omega)
  case split i hi ho h hk hb hc hs hbc hb2 hc2 hl hR2 =>
    have e : qx x L = some ((qw L).set i ⟨1, 0, x.sep⟩) := by unfold qx; simp only [ho, h.find, Int.toNat_natCast]; rfl
    rw [← hR, e]
    exact chg_3 x L (qw L) rfl h0 h1 i h.find hi (by omega) ho _ rfl
  case join i k hi hk ho h hkf hkn hik ti tk hc hs hc2 hR2 =>
    have e : qx x L = some ((qw L).set i ⟨1, 0, x.sep⟩) := by unfold qx; simp only [ho, h.find, Int.toNat_natCast]; rfl
    rw [← hR, e]
    exact chg_4 x L (qw L) rfl h0 h1 i h.find hi (by omega) ho _ rfl
  case retype i hi ho h hn0 hn3 hv hk ht hR2 =>
    refine chg_5 x L (qw L) rfl h0 h1 i h.find hi (by omega) ho R ?_
    rw [← hR]
    unfold qx
    simp only [ho, h.find, Int.toNat_natCast, qbz hi]; rfl
  case scale i hi ho h ht hn hu hR2 =>
    refine chg_6 x L (qw L) rfl h0 h1 i h.find hi (by omega) ho R ?_
    rw [← hR]
    unfold qx
    simp only [ho, h.find, Int.toNat_natCast]; rfl
theorem lost_step {l : List Lens} {ss : List (List Col)} {k : Nat} (h : k < l.length) (j : Nat) : lostP (l.drop k) (ss.drop k) j = match qx l[k] (shAt ss k) with
    | some row => (false, (j : Int), row)
    | none => lostP (l.drop (k + 1)) (ss.drop (k + 1)) (j + 1) := by
  have e : (ss.drop k).headD [] = shAt ss k := by rw [shAt_0]; unfold shAt; rw [List.getD_eq_getElem?_getD, List.getElem?_drop, Nat.add_zero, ← List.getD_eq_getElem?_getD]
  rw [List.drop_eq_getElem_cons h, lostP, e, List.tail_drop]; rfl
set_option maxHeartbeats 4000000 in
theorem lossless_g {l : List Lens} {cols : List Col} {ss : List (List Col)} (hs : qbj l cols = (ss, 0)) (hl : ∀ x ∈ l, qdv x) (h0 : 1 ≤ cols.length) (h1 : cols.length ≤ 12) (R : Bool × Int × List Val) (hR : lostP l ss 0 = R) :
    Gives Tryz.prog 27 [.sl (l.map Lens.av), .sl (cols.map Col.av)] (.tup [.bool R.1, .int R.2.1, .sl (R.2.2.map Val.av)]) := by
  have hL : l.length ≤ 60 := by
    unfold qbj at hs
    by_cases h : 60 < l.length
    · rw [if_pos h] at hs; exact absurd (Prod.mk.inj hs).2 (by decide)
    · omega
  have hs' : qv l cols = (ss, 0) := by rw [qbj, if_neg (by omega)] at hs; exact hs
  obtain ⟨hc, hc0⟩ := chain_of hs' h0 h1
  have c1 := shapes_g l cols (fun x hx => (hl x hx).l) (by omega) h0 h1
  rw [hs] at c1
  have hsl := hc.len
  refine qm Tryz.func27 Tryz.ntmps27 rfl rfl (by decide) rfl (by intro n; simp) fun σ n0 hcl hft => ?_
  repeat' (first | ((first | ((with_reducible refine qp (fun hg => ?_) (fun hg => ?_)) <;> (try simp only [hg]) <;> (try simp only [gS] at hg) <;> (try (first | simp only [eq_false hg, gI] | simp only [eq_true hg, gI]))) | (with_reducible first | refine qc ?_ | refine qb ?_ | refine qj ?_ | refine qi ?_) | refine acall (c1) ?_ | refine qn (c1) ?_ | refine qe ?_ | refine qk ?_ | refine qh ?_ | refine qo ?_) <;> (try simp (disch := first | omega | simp) [qg, -qq, -qu])) | ((with_reducible refine sideT ?_ ?_); first | omega | assumption | (simp; done)) | (refine qf fun K hK => ?_) | (refine qa ?_) | refine ql ?_ | ((first | refine hK _ ?_ | (clear hK K; refine hK _ ?_) | (clear hK K; clear hK K; refine hK _ ?_)); clear hK K) | refine qd ?_)
  refine qbr hcl (fun k : Nat => [(7, .sl (ss.map qdl)), (19, .sl (l.map Lens.av)), (20, .int l.length), (21, .int k)]) (fun k => [])
    (fun k => k ≤ l.length ∧ lostP (l.drop k) (ss.drop k) k = R) (fun k => l.length - k) 0 ⟨by omega, hR⟩ (by simp) fun k ⟨hkl, hk⟩ => ?_
  by_cases hlt : k < l.length
  · obtain ⟨g3, g4⟩ := hc.ok k hlt
    have hks : k < ss.length := by omega
    obtain ⟨g5, g6⟩ := hc.sz k hkl
    rw [lost_step hlt] at hk
    obtain ⟨C, hC⟩ : ∃ C, qx l[k] (shAt ss k) = C := ⟨_, rfl⟩
    have c3 := changed_g g5 g6 g3 C hC
    rw [hC] at hk
    rw [shAt_eq hks] at c3
    cases C with
    | none =>
      have hk' : lostP (l.drop (k + 1)) (ss.drop (k + 1)) (k + 1) = R := hk
      repeat' (first | ((first | ((with_reducible refine qp (fun hg => ?_) (fun hg => ?_)) <;> (try simp only [hg]) <;> (try simp only [gS] at hg) <;> (try (first | simp only [eq_false hg, gI] | simp only [eq_true hg, gI]))) | (with_reducible first | refine qc ?_ | refine qb ?_ | refine qj ?_ | refine qi ?_) | refine acall (c3) ?_ | refine qn (c3) ?_ | refine qe ?_ | refine qk ?_ | refine qh ?_ | refine qo ?_) <;> (try simp (disch := first | omega | simp) [qg, -qq, -qu, hlt, hks, qdl, chAv])) | ((with_reducible refine sideT ?_ ?_); first | omega | assumption | (simp; done)) | (refine qf fun K hK => ?_) | (refine qa ?_) | refine ql ?_ | ((first | refine hK _ ?_ | (clear hK K; refine hK _ ?_) | (clear hK K; clear hK K; refine hK _ ?_)); clear hK K) | refine qd ?_)
      exact ⟨k + 1, ⟨by omega, hk'⟩, by omega, by simp⟩
    | some row =>
      have hk' : (false, (k : Int), row) = R := hk
      subst hk'
      repeat' (first | ((first | ((with_reducible refine qp (fun hg => ?_) (fun hg => ?_)) <;> (try simp only [hg]) <;> (try simp only [gS] at hg) <;> (try (first | simp only [eq_false hg, gI] | simp only [eq_true hg, gI]))) | (with_reducible first | refine qc ?_ | refine qb ?_ | refine qj ?_ | refine qi ?_) | refine acall (c3) ?_ | refine qn (c3) ?_ | refine qe ?_ | refine qk ?_ | refine qh ?_ | refine qo ?_) <;> (try simp (disch := first | omega | simp) [qg, -qq, -qu, hlt, hks, qdl, chAv])) | ((with_reducible refine sideT ?_ ?_); first | omega | assumption | (simp; done)) | (refine qf fun K hK => ?_) | (refine qa ?_) | refine ql ?_ | ((first | refine hK _ ?_ | (clear hK K; refine hK _ ?_) | (clear hK K; clear hK K; refine hK _ ?_)); clear hK K) | refine qd ?_)
  · obtain rfl : k = l.length := by omega
    rw [List.drop_length, lostP] at hk
    subst hk
    repeat' (first | ((first | ((with_reducible refine qp (fun hg => ?_) (fun hg => ?_)) <;> (try simp only [hg]) <;> (try simp only [gS] at hg) <;> (try (first | simp only [eq_false hg, gI] | simp only [eq_true hg, gI]))) | (with_reducible first | refine qc ?_ | refine qb ?_ | refine qj ?_ | refine qi ?_) | refine qe ?_ | refine qk ?_ | refine qh ?_ | refine qo ?_) <;> (try simp (disch := first | omega | simp) [qg, -qq, -qu, hlt])) | ((with_reducible refine sideT ?_ ?_); first | omega | assumption | (simp; done)) | (refine qf fun K hK => ?_) | (refine qa ?_) | refine ql ?_ | ((first | refine hK _ ?_ | (clear hK K; refine hK _ ?_) | (clear hK K; clear hK K; refine hK _ ?_)); clear hK K) | refine qd ?_)
end Go.Proofs.YtbkkjlcclddpdaaGreatDoor

/- Layer 14 on plain data: what a step makes of right shapes and of rows that fit. -/
namespace Go.Proofs.YtbkkjlcclddpdaaGreatDoor
open Go.RowKit Go.Lib
theorem apart_nodup {α : Type} {l : List α} : Apart l ↔ l.Nodup := by
  unfold Apart List.Nodup
  rw [List.pairwise_iff_getElem]
  constructor
  · intro h i j hi hj hij e
    have := h i j hi hj e; omega
  · intro h i j hi hj e
    rcases Nat.lt_trichotomy i j with h1 | h1 | h1
    · exact absurd e (h i j hi hj h1)
    · exact h1
    · exact absurd e.symm (h j i hj hi h1)
theorem ColOk.set {L : List Col} {i : Nat} {c : Col} (h : ∀ c ∈ L, ColOk c) (hc : ColOk c) : ∀ d ∈ L.set i c, ColOk d := fun d hd => by
  rcases List.mem_or_eq_of_mem_set hd with h1 | rfl
  · exact h d h1
  · exact hc
theorem names_set (L : List Col) (i : Nat) (c : Col) : qbp (L.set i c) = (qbp L).set i c.name.toList := by unfold qbp; rw [List.map_set]
theorem names_erase (L : List Col) (i : Nat) : qbp (L.eraseIdx i) = (qbp L).eraseIdx i := by unfold qbp; exact qby _ _ _
theorem qgr {L : List Col} {j : Nat} (h : j < (qbp L).length) : (qbp L)[j] = (L[j]'(by simpa [qbp] using h)).name.toList := by simp only [qbp, List.getElem_map]
@[simp] theorem names_len (L : List Col) : (qbp L).length = L.length := by simp [qbp]
theorem emptyL : (⟨#[]⟩ : ByteArray).toList = [] := by rw [ByteArray.toList_eq]
theorem unit_no {n : ByteArray} {t : Int} : unitP ⟨n, t, ⟨#[]⟩⟩ = true := by unfold unitP; simp [emptyL]
theorem names_same {L : List Col} {i : Nat} (hi : i < L.length) {c : Col} (h : c.name = L[i].name) : qbp (L.set i c) = qbp L := by
  rw [names_set, h]
  have : L[i].name.toList = (qbp L)[i]'(by simpa [qbp] using hi) := by rw [qgr]
  rw [this, List.set_getElem_self]
theorem other_ne {x : Lens} {L : List Col} {i : Nat} {hi : i < L.length} (h : At x L i hi) (ha : Apart (qbp L)) {s : List UInt8} (hs : findP L s < 0 ∨ s = x.a.toList) : ∀ j (hj : j < L.length), j ≠ i → L[j].name.toList ≠ s := fun j hj hji e => by
  rcases hs with hs | rfl
  · exact find_no hs hj e
  · exact hji (ha.pre (f := fun c : Col => c.name.toList) hj hi (e.trans h.name.symm))
theorem step_right {x : Lens} {L : List Col} (hL : qdc L) (h : qef x L) : qdc (oneP x L).1 := by
  obtain ⟨g0, g1, g3, g4, g2⟩ := step_len h
  have hl0 := hL.l0
  have hl1 := hL.l1
  cases h
  case add ho ha hn hl hR hu hv =>
    have hk := rightV_k hv
    have hlen := g0 ho
    rw [hR] at hlen ⊢
    refine ⟨fun c hc => ?_, ?_, by omega, by omega⟩
    · rcases List.mem_append.1 hc with h | h
      · exact hL.cols c h
      · rw [List.mem_singleton] at h; subst h
        refine ⟨ha, hk.1, hk.2, ?_⟩
        unfold unitP
        rcases hu with hu | ⟨hu, hk0⟩
        · simp [hu]
        · unfold nam at hu; simp [hu, hk0]
    · unfold qbp
      rw [List.map_append]
      show Apart (qbp L ++ [x.a.toList])
      exact apart_snoc hL.names fun j hj e => find_no hn (i := j) (by have := names_len L; omega) (by rw [qgr] at e; exact e)
  case drop i hi ho h hk hl hR hv =>
    have hlen := g1 ho
    rw [hR] at hlen ⊢
    exact ⟨fun c hc => hL.cols c (List.mem_of_mem_eraseIdx hc), by rw [names_erase]; exact apart_erase hL.names i, by omega, by omega⟩
  case rename i hi ho h hb hb2 hR =>
    have hlen := g2 (.inl ho)
    have hc := hL.cols _ (List.getElem_mem hi)
    rw [hR] at hlen ⊢
    refine ⟨ColOk.set hL.cols ⟨hb, hc.k0, hc.k1, hc.unit⟩, ?_, by omega, by omega⟩
    rw [names_set]
    exact apart_set hL.names fun j hj _ => by rw [qgr]; exact find_no hb2 _
  case split i hi ho h hk hb hc hs hbc hb2 hc2 hl hR =>
    have hlen := g3 ho
    have hob := other_ne h hL.names hb2
    have hoc := other_ne h hL.names hc2
    rw [hR] at hlen ⊢
    refine ⟨fun c hm => ?_, ?_, by omega, by omega⟩
    · rcases List.mem_append.1 hm with hm | hm
      · rcases List.mem_append.1 hm with hm | hm
        · exact hL.cols c (List.mem_of_mem_take hm)
        · simp only [List.mem_cons, List.not_mem_nil, or_false] at hm
          rcases hm with rfl | rfl
          · exact ⟨hb, by show (0 : Int) ≤ 1; decide, by show (1 : Int) < 3; decide, unit_no⟩
          · exact ⟨hc, by show (0 : Int) ≤ 1; decide, by show (1 : Int) < 3; decide, unit_no⟩
      · exact hL.cols c (List.mem_of_mem_drop hm)
    · have hn := apart_nodup.1 hL.names
      have e : qbp (L.take i ++ [⟨x.b, 1, ⟨#[]⟩⟩, ⟨x.c, 1, ⟨#[]⟩⟩] ++ L.drop (i + 1)) = (qbp L).take i ++ [x.b.toList, x.c.toList] ++ (qbp L).drop (i + 1) := by unfold qbp; simp
      have h1 : ∀ s, (∀ j (hj : j < L.length), j ≠ i → L[j].name.toList ≠ s) → s ∉ (qbp L).take i ∧ s ∉ (qbp L).drop (i + 1) := fun s hs => by
        constructor
        · intro hm
          obtain ⟨j, hj, e⟩ := List.mem_iff_getElem.1 hm
          rw [List.length_take] at hj
          rw [List.getElem_take, qgr] at e
          exact hs j (by omega) (by omega) e
        · intro hm
          obtain ⟨j, hj, e⟩ := List.mem_iff_getElem.1 hm
          have hj' : i + 1 + j < L.length := by simp [qbp] at hj; omega
          rw [List.getElem_drop, qgr] at e
          exact hs (i + 1 + j) hj' (by omega) e
      obtain ⟨b1, b2⟩ := h1 _ hob
      obtain ⟨c1, c2⟩ := h1 _ hoc
      have hsplit : (qbp L).take i ++ (qbp L).drop (i + 1) = (qbp L).eraseIdx i := by rw [List.eraseIdx_eq_take_drop_succ]
      have hne := apart_nodup.1 (apart_erase hL.names i)
      rw [← hsplit, List.nodup_append] at hne
      obtain ⟨n1, n2, n3⟩ := hne
      rw [e, apart_nodup, List.nodup_append, List.nodup_append]
      refine ⟨⟨n1, by simp [hbc], ?_⟩, n2, ?_⟩
      · intro a ha b hb e
        subst e
        simp only [List.mem_cons, List.not_mem_nil, or_false] at hb
        rcases hb with rfl | rfl
        · exact b1 ha
        · exact c1 ha
      · intro a ha b hb e
        subst e
        rcases List.mem_append.1 ha with ha | ha
        · exact n3 a ha a hb rfl
        · simp only [List.mem_cons, List.not_mem_nil, or_false] at ha
          rcases ha with rfl | rfl
          · exact b2 hb
          · exact c2 hb
  case join i k hi hk ho h hkf hkn hik ti tk hc hs hc2 hR =>
    have hlen := g4 ho
    have hci := hL.cols _ (List.getElem_mem hi)
    rw [hR] at hlen ⊢
    refine ⟨fun c hm => ColOk.set (c := ⟨x.c, L[i].type, L[i].unit⟩) hL.cols ⟨hc, hci.k0, hci.k1, hci.unit⟩ c (List.mem_of_mem_eraseIdx hm), ?_, ?_, by omega⟩
    · rw [names_erase, names_set]
      refine fun p q hp hq e => ?_
      have hlen2 : (qbp L).length = L.length := by simp [qbp]
      rw [List.getElem_eraseIdx, List.getElem_eraseIdx] at e
      have key : ∀ u v (hu : u < ((qbp L).set i x.c.toList).length) (hv : v < ((qbp L).set i x.c.toList).length), u ≠ k → v ≠ k → ((qbp L).set i x.c.toList)[u] = ((qbp L).set i x.c.toList)[v] → u = v := fun u v hu hv huk hvk e => by
        rw [List.length_set, hlen2] at hu hv
        rw [List.getElem_set, List.getElem_set] at e
        have no : ∀ w (hw : w < L.length), w ≠ i → w ≠ k → L[w].name.toList ≠ x.c.toList := fun w hw hwi hwk ew => by
          rcases hc2 with h1 | h1 | h1
          · exact find_no h1 hw ew
          · exact hwi (hL.names.pre (f := fun c : Col => c.name.toList) hw hi (ew.trans (h1.trans h.name.symm)))
          · exact hwk (hL.names.pre (f := fun c : Col => c.name.toList) hw hk (ew.trans (h1.trans hkn.symm)))
        split at e <;> split at e
        · omega
        · rw [qgr] at e; exact absurd e.symm (no v hv (by omega) hvk)
        · rw [qgr] at e; exact absurd e (no u hu (by omega) huk)
        · exact hL.names u v (by omega) (by omega) e
      have hpl : p < L.length - 1 := by rw [List.length_eraseIdx_of_lt (by rw [List.length_set, hlen2]; exact hk), List.length_set, hlen2] at hp; exact hp
      have hql : q < L.length - 1 := by rw [List.length_eraseIdx_of_lt (by rw [List.length_set, hlen2]; exact hk), List.length_set, hlen2] at hq; exact hq
      split at e <;> split at e
      · exact key _ _ _ _ (by omega) (by omega) e
      · have := key _ _ _ _ (by omega) (by omega) e; omega
      · have := key _ _ _ _ (by omega) (by omega) e; omega
      · have := key _ _ _ _ (by omega) (by omega) e; omega
    · have : i < L.length := hi
      omega
  case retype i hi ho h hn0 hn3 hv hk ht hR =>
    have hlen := g2 (.inr (.inl ho))
    have hc := hL.cols _ (List.getElem_mem hi)
    rw [hR] at hlen ⊢
    exact ⟨ColOk.set hL.cols ⟨hc.name, hn0, hn3, unit_no⟩, by rw [names_same (c := ⟨L[i].name, x.n, ⟨#[]⟩⟩) hi rfl]; exact hL.names, by omega, by omega⟩
  case scale i hi ho h ht hn hu hR =>
    have hlen := g2 (.inr (.inr ho))
    have hc := hL.cols _ (List.getElem_mem hi)
    rw [hR] at hlen ⊢
    refine ⟨ColOk.set hL.cols ⟨hc.name, hc.k0, hc.k1, ?_⟩, by rw [names_same (c := ⟨L[i].name, L[i].type, x.b⟩) hi rfl]; exact hL.names, by omega, by omega⟩
    unfold unitP
    rcases hu with hu | hu
    · simp [hu]
    · unfold nam at hu; simp [hu, ht]
end Go.Proofs.YtbkkjlcclddpdaaGreatDoor
