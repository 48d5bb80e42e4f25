/- Walk of lens.changed. -/
import Derived.Test.YtbkkjlcclddpdaaGreatDoorGc28
import Derived.Test.YtbkkjlcclddpdaaGreatDoorGc30
set_option linter.unusedSimpArgs false
set_option linter.unusedVariables false
namespace Go.Proofs.YtbkkjlcclddpdaaGreatDoor
open Go.RowKit Go.Lib
theorem qdk (L : List Col) : (qbe L).length = L.length := by unfold qbe; simp
theorem qes (L : List Col) (hL : L.length ≤ 1000000) : GivesV Tryz.prog 115 [.sl (L.map Col.av)] L.length (.vec ((qbe L).map Val.av) 27 3) := by
  have hlen : ((qbe L).map Val.av).length = L.length := by rw [List.length_map, qdk]
  have key : GivesV Tryz.prog 115 [.sl (L.map Col.av)] ((qbe L).map Val.av).length (.vec ((qbe L).map Val.av) 27 3) := by
    refine qgf 0 Tryz.func115 Tryz.ntmps115 rfl rfl (by decide) rfl (fun m => Val.avs_cl _ m) fun σ n0 hcl hft => ?_
    rw [hlen]
    unfold qbe
    rw [List.map_map]
    repeat' (first | ((first | ((with_reducible refine qf (fun hg => ?_) (fun hg => ?_)) <;> (try simp only [hg]) <;> (try simp only [gS] at hg) <;> (try (first | simp only [eq_false hg, gI] | simp only [eq_true hg, gI]))) | refine Stp.m ?_) <;> (try simp (disch := first | omega | simp) [qd, -qg, -qm])) | refine sideA ?_ | refine qc fun K hK => ?_ | refine qa ?_ | refine qe ?_ | refine qb ?_ | (refine hK _ ?_; clear hK K) | clear hK K)
    refine qw hcl (fun k : Nat => [(3, .own n0 L.length), (9, .sl (L.map Col.av)), (10, .int L.length), (11, .int k)]) (fun k => [.vec (fillV (Val.av ∘ zeroV) (.agg [.int 0, .int 0, .str ByteArray.empty]) L k) 27 3])
      (fun k => k ≤ L.length) (fun k => L.length - k) 0 (by simp) (by simp [fillV_zero]; exact AV.cls_iff.2 fun x hx => by rw [(List.mem_replicate.1 hx).2]; simp) fun k hk => ?_
    by_cases hlt : k < L.length
    · have f1 := fillV_len (f := Val.av ∘ zeroV) (z := .agg [.int 0, .int 0, .str ByteArray.empty]) hk
      have f2 : ∀ h : k < (fillV (Val.av ∘ zeroV) (.agg [.int 0, .int 0, .str ByteArray.empty]) L k).length, (fillV (Val.av ∘ zeroV) (.agg [.int 0, .int 0, .str ByteArray.empty]) L k)[k]'h = .agg [.int 0, .int 0, .str ByteArray.empty] := fun h => by
        have := fillV_get (f := Val.av ∘ zeroV) (z := .agg [.int 0, .int 0, .str ByteArray.empty]) hlt
        rw [List.getElem?_eq_getElem h] at this; exact Option.some.inj this
      have f3 : (fillV (Val.av ∘ zeroV) (.agg [.int 0, .int 0, .str ByteArray.empty]) L k).set k (Val.av ⟨L[k].type, 0, ⟨#[]⟩⟩) = fillV (Val.av ∘ zeroV) (.agg [.int 0, .int 0, .str ByteArray.empty]) L (k + 1) := fillV_set hlt
      have f4 := fun m => fillV_cls (f := Val.av ∘ zeroV) (z := .agg [.int 0, .int 0, .str ByteArray.empty]) (L := L) (k := k + 1) (m := m) (fun _ => by simp) (by simp)
      repeat' (first | ((first | ((with_reducible refine qf (fun hg => ?_) (fun hg => ?_)) <;> (try simp only [hg]) <;> (try simp only [gS] at hg) <;> (try (first | simp only [eq_false hg, gI] | simp only [eq_true hg, gI]))) | refine Stp.m ?_ | refine acall (vzero_g _) ?_ | refine qo (vzero_g _) ?_) <;> (try simp (disch := first | omega | simp) [qd, -qg, -qm, hlt, f1, f2, f3])) | refine sideA ?_ | refine qc fun K hK => ?_ | refine qa ?_ | refine qe ?_ | refine qb ?_ | (refine hK _ ?_; clear hK K) | clear hK K)
      exact ⟨k + 1, by omega, by omega, f3, f4 _, by simp⟩
    · obtain rfl : k = L.length := by omega
      repeat' (first | ((first | ((with_reducible refine qf (fun hg => ?_) (fun hg => ?_)) <;> (try simp only [hg]) <;> (try simp only [gS] at hg) <;> (try (first | simp only [eq_false hg, gI] | simp only [eq_true hg, gI]))) | refine Stp.m ?_) <;> (try simp (disch := first | omega | simp) [qd, -qg, -qm, hlt, fillV_all])) | refine sideA ?_ | refine qc fun K hK => ?_ | refine qa ?_ | refine qe ?_ | refine qb ?_ | (refine hK _ ?_; clear hK K) | clear hK K)
  rwa [hlen] at key
def chAv (r : Option (List Val)) : AV := .sl ((r.getD []).map Val.av)
@[simp] theorem chAv_cl (r : Option (List Val)) (m : Nat) : (chAv r).cl m := by unfold chAv; simp
end Go.Proofs.YtbkkjlcclddpdaaGreatDoor

/- Walks of lens.changed, an operation each (printed by gen_chg.py). -/
namespace Go.Proofs.YtbkkjlcclddpdaaGreatDoor
open Go.RowKit Go.Lib
@[simp] theorem tab_arr3 : ainfo Tryz.prog 132 = some (3, 3, [.v (.int .i64 0), .v (.int .i64 0), .v (.string ByteArray.empty), .v (.int .i64 0), .v (.int .i64 0), .v (.string ByteArray.empty), .v (.int .i64 0), .v (.int .i64 0), .v (.string ByteArray.empty)]) := by kernel_rfl
set_option maxRecDepth 4000 in
set_option maxHeartbeats 4000000 in
theorem chg_1 (x : Lens) (cols : List Col) (DD : List Val) (hDD : qbe cols = DD) (hc0 : 1 ≤ cols.length) (hc : cols.length ≤ 12) (i : Nat) (hi1 : findP cols x.a.toList = i) (hi : i < cols.length) (hid : i < DD.length) (ho : x.op = 1) (t0 : 0 ≤ cols[i].type) (t3 : cols[i].type < 3) (R : List Val) (hR : (if Val.eqB DD[i] x.value then DD.set i (if cols[i].type = 0 then ⟨0, 1, ⟨#[]⟩⟩ else if cols[i].type = 1 then ⟨1, 0, ⟨#[97]⟩⟩ else ⟨2, 1, ⟨#[]⟩⟩) else DD) = R) : Gives Tryz.prog 61 [x.av, .sl (cols.map Col.av)] (.tup [.sl (R.map Val.av), .bool true]) := by
  have c2 := qu cols x.a (by omega)
  rw [hi1] at c2
  have c3 := qes cols (by omega)
  rw [hDD] at c3
  have hln : DD.length = cols.length := by rw [← hDD, qdk]
  have h1 : ((i : Int)).toNat = i := by omega
  have k1 := qdb 1
  have k2 := qdb 2
  have k3 := qdb 9223372036854775807
  have k4 := qct ⟨#[97]⟩
  have k5 := qct x.sep
  have d1 : (x.op == 1) = true := by rw [ho]; rfl
  have d3 : (x.op == 3) = false := beq_eq_false_iff_ne.2 (by omega)
  have d4 : (x.op == 4) = false := beq_eq_false_iff_ne.2 (by omega)
  have d5 : (x.op == 5) = false := beq_eq_false_iff_ne.2 (by omega)
  have d6 : (x.op == 6) = false := beq_eq_false_iff_ne.2 (by omega)
  have ta : aeq Tryz.prog .eql 27 (.agg [.int DD[i].k, .int DD[i].n, .str DD[i].s]) (.agg [.int x.value.k, .int x.value.n, .str x.value.s]) = some (Val.eqB DD[i] x.value) := Val.aeq _ _
  have hdv : DD[i].av = .agg [.int DD[i].k, .int DD[i].n, .str DD[i].s] := rfl
  have hxv : x.value.av = .agg [.int x.value.k, .int x.value.n, .str x.value.s] := rfl
  by_cases he : Val.eqB DD[i] x.value = true
  · rw [if_pos he] at hR
    have ht : cols[i].type = 0 ∨ cols[i].type = 1 ∨ cols[i].type = 2 := by omega
    rcases ht with ht | ht | ht
    · rw [ht] at hR
      refine qj Tryz.func61 Tryz.ntmps61 fun σ n0 hcl hft => ?_
      repeat' (first | ((first | with_reducible refine qz ?_ | ((with_reducible refine qf (fun hg => ?_) (fun hg => ?_)) <;> (try simp only [hg]) <;> (try simp only [gS] at hg) <;> (try (first | simp only [eq_false hg, gI] | simp only [eq_true hg, gI]))) | refine Stp.m ?_ | refine qbd c3 ?_ | refine acall (qbf) ?_ | refine qo (qbf) ?_ | refine ql ?_ | refine agH ?_) <;> (try simp (disch := first | omega | simp) [qd, -qg, -qm, d1, d3, d4, d5, d6, h1, hi, hid, hln, ta, he, ht, hdv, hxv, -Val.av_fold])) | with_reducible refine qbq (id := 1) [.cells [.int x.op, .str x.a, .str x.b, .str x.c, .str x.sep, .int x.n, .int x.value.k, .int x.value.n, .str x.value.s] 29] [.R, .W, .R, .R, .R, .W, .R, .R] (by kernel_rfl) (by kernel_rfl) (by simp) ?_ | with_reducible refine awp_anyV (id := 6) [.cells [.int x.op, .str x.a, .str x.b, .str x.c, .str x.sep, .int x.n, .int x.value.k, .int x.value.n, .str x.value.s] 29, .unborn] 1 [.R, .R, .M, .M, .M, .R, .R, .R, .R, .R, .R, .R, .N, .W] (by kernel_rfl) (by kernel_rfl) (by simp) ?_ | refine sideA ?_ | refine qc fun K hK => ?_ | refine qa ?_ | refine qe ?_ | refine qb ?_ | (refine hK _ ?_; clear hK K) | clear hK K)
      refine ⟨qq 4 1 (k := cols.length) (by simp) (by rfl) (by simp; omega) ?_⟩
      repeat' (first | ((first | ((with_reducible refine qf (fun hg => ?_) (fun hg => ?_)) <;> (try simp only [hg]) <;> (try simp only [gS] at hg) <;> (try (first | simp only [eq_false hg, gI] | simp only [eq_true hg, gI]))) | refine Stp.m ?_) <;> (try simp (disch := first | omega | simp) [qd, -qg, -qm])) | refine sideA ?_ | refine qc fun K hK => ?_ | refine qa ?_ | refine qe ?_ | refine qb ?_ | (refine hK _ ?_; clear hK K) | clear hK K)
      rw [← hR]; exact qbn DD i ⟨0, 1, ⟨#[]⟩⟩
    · rw [ht] at hR
      refine qj Tryz.func61 Tryz.ntmps61 fun σ n0 hcl hft => ?_
      repeat' (first | ((first | with_reducible refine qz ?_ | ((with_reducible refine qf (fun hg => ?_) (fun hg => ?_)) <;> (try simp only [hg]) <;> (try simp only [gS] at hg) <;> (try (first | simp only [eq_false hg, gI] | simp only [eq_true hg, gI]))) | refine Stp.m ?_ | refine qbd c3 ?_ | refine acall (qbf) ?_ | refine qo (qbf) ?_ | refine ql ?_ | refine agH ?_) <;> (try simp (disch := first | omega | simp) [qd, -qg, -qm, d1, d3, d4, d5, d6, h1, hi, hid, hln, ta, he, ht, hdv, hxv, -Val.av_fold])) | with_reducible refine qbq (id := 1) [.cells [.int x.op, .str x.a, .str x.b, .str x.c, .str x.sep, .int x.n, .int x.value.k, .int x.value.n, .str x.value.s] 29] [.R, .W, .R, .R, .R, .W, .R, .R] (by kernel_rfl) (by kernel_rfl) (by simp) ?_ | with_reducible refine awp_anyV (id := 6) [.cells [.int x.op, .str x.a, .str x.b, .str x.c, .str x.sep, .int x.n, .int x.value.k, .int x.value.n, .str x.value.s] 29, .unborn] 1 [.R, .R, .M, .M, .M, .R, .R, .R, .R, .R, .R, .R, .N, .W] (by kernel_rfl) (by kernel_rfl) (by simp) ?_ | refine sideA ?_ | refine qc fun K hK => ?_ | refine qa ?_ | refine qe ?_ | refine qb ?_ | (refine hK _ ?_; clear hK K) | clear hK K)
      refine ⟨qq 4 1 (k := cols.length) (by simp) (by rfl) (by simp; omega) ?_⟩
      repeat' (first | ((first | ((with_reducible refine qf (fun hg => ?_) (fun hg => ?_)) <;> (try simp only [hg]) <;> (try simp only [gS] at hg) <;> (try (first | simp only [eq_false hg, gI] | simp only [eq_true hg, gI]))) | refine Stp.m ?_) <;> (try simp (disch := first | omega | simp) [qd, -qg, -qm])) | refine sideA ?_ | refine qc fun K hK => ?_ | refine qa ?_ | refine qe ?_ | refine qb ?_ | (refine hK _ ?_; clear hK K) | clear hK K)
      rw [← hR]; exact qbn DD i ⟨1, 0, ⟨#[97]⟩⟩
    · rw [ht] at hR
      refine qj Tryz.func61 Tryz.ntmps61 fun σ n0 hcl hft => ?_
      repeat' (first | ((first | with_reducible refine qz ?_ | ((with_reducible refine qf (fun hg => ?_) (fun hg => ?_)) <;> (try simp only [hg]) <;> (try simp only [gS] at hg) <;> (try (first | simp only [eq_false hg, gI] | simp only [eq_true hg, gI]))) | refine Stp.m ?_ | refine qbd c3 ?_ | refine acall (qbf) ?_ | refine qo (qbf) ?_ | refine ql ?_ | refine agH ?_) <;> (try simp (disch := first | omega | simp) [qd, -qg, -qm, d1, d3, d4, d5, d6, h1, hi, hid, hln, ta, he, ht, hdv, hxv, -Val.av_fold])) | with_reducible refine qbq (id := 1) [.cells [.int x.op, .str x.a, .str x.b, .str x.c, .str x.sep, .int x.n, .int x.value.k, .int x.value.n, .str x.value.s] 29] [.R, .W, .R, .R, .R, .W, .R, .R] (by kernel_rfl) (by kernel_rfl) (by simp) ?_ | with_reducible refine awp_anyV (id := 6) [.cells [.int x.op, .str x.a, .str x.b, .str x.c, .str x.sep, .int x.n, .int x.value.k, .int x.value.n, .str x.value.s] 29, .unborn] 1 [.R, .R, .M, .M, .M, .R, .R, .R, .R, .R, .R, .R, .N, .W] (by kernel_rfl) (by kernel_rfl) (by simp) ?_ | refine sideA ?_ | refine qc fun K hK => ?_ | refine qa ?_ | refine qe ?_ | refine qb ?_ | (refine hK _ ?_; clear hK K) | clear hK K)
      refine ⟨qq 4 1 (k := cols.length) (by simp) (by rfl) (by simp; omega) ?_⟩
      repeat' (first | ((first | ((with_reducible refine qf (fun hg => ?_) (fun hg => ?_)) <;> (try simp only [hg]) <;> (try simp only [gS] at hg) <;> (try (first | simp only [eq_false hg, gI] | simp only [eq_true hg, gI]))) | refine Stp.m ?_) <;> (try simp (disch := first | omega | simp) [qd, -qg, -qm])) | refine sideA ?_ | refine qc fun K hK => ?_ | refine qa ?_ | refine qe ?_ | refine qb ?_ | (refine hK _ ?_; clear hK K) | clear hK K)
      rw [← hR]; exact qbn DD i ⟨2, 1, ⟨#[]⟩⟩
  · rw [if_neg he] at hR
    have he2 : Val.eqB DD[i] x.value = false := by simpa using he
    refine qj Tryz.func61 Tryz.ntmps61 fun σ n0 hcl hft => ?_
    repeat' (first | ((first | with_reducible refine qz ?_ | ((with_reducible refine qf (fun hg => ?_) (fun hg => ?_)) <;> (try simp only [hg]) <;> (try simp only [gS] at hg) <;> (try (first | simp only [eq_false hg, gI] | simp only [eq_true hg, gI]))) | refine Stp.m ?_ | refine qbd c3 ?_ | refine acall (qbf) ?_ | refine qo (qbf) ?_ | refine ql ?_ | refine agH ?_) <;> (try simp (disch := first | omega | simp) [qd, -qg, -qm, d1, d3, d4, d5, d6, h1, hi, hid, hln, ta, he2, hdv, hxv, -Val.av_fold])) | with_reducible refine qbq (id := 1) [.cells [.int x.op, .str x.a, .str x.b, .str x.c, .str x.sep, .int x.n, .int x.value.k, .int x.value.n, .str x.value.s] 29] [.R, .W, .R, .R, .R, .W, .R, .R] (by kernel_rfl) (by kernel_rfl) (by simp) ?_ | refine sideA ?_ | refine qc fun K hK => ?_ | refine qa ?_ | refine qe ?_ | refine qb ?_ | (refine hK _ ?_; clear hK K) | clear hK K)
    refine ⟨qq 4 1 (k := cols.length) (by simp) (by rfl) (by simp; omega) ?_⟩
    repeat' (first | ((first | ((with_reducible refine qf (fun hg => ?_) (fun hg => ?_)) <;> (try simp only [hg]) <;> (try simp only [gS] at hg) <;> (try (first | simp only [eq_false hg, gI] | simp only [eq_true hg, gI]))) | refine Stp.m ?_) <;> (try simp (disch := first | omega | simp) [qd, -qg, -qm])) | refine sideA ?_ | refine qc fun K hK => ?_ | refine qa ?_ | refine qe ?_ | refine qb ?_ | (refine hK _ ?_; clear hK K) | clear hK K)
    rw [hR]
set_option maxRecDepth 4000 in
set_option maxHeartbeats 4000000 in
theorem chg_3 (x : Lens) (cols : List Col) (DD : List Val) (hDD : qbe cols = DD) (hc0 : 1 ≤ cols.length) (hc : cols.length ≤ 12) (i : Nat) (hi1 : findP cols x.a.toList = i) (hi : i < cols.length) (hid : i < DD.length) (ho : x.op = 3) (R : List Val) (hR : DD.set i ⟨1, 0, x.sep⟩ = R) : Gives Tryz.prog 61 [x.av, .sl (cols.map Col.av)] (.tup [.sl (R.map Val.av), .bool true]) := by
  have c2 := qu cols x.a (by omega)
  rw [hi1] at c2
  have c3 := qes cols (by omega)
  rw [hDD] at c3
  have hln : DD.length = cols.length := by rw [← hDD, qdk]
  have h1 : ((i : Int)).toNat = i := by omega
  have k1 := qdb 1
  have k2 := qdb 2
  have k3 := qdb 9223372036854775807
  have k4 := qct ⟨#[97]⟩
  have k5 := qct x.sep
  have d1 : (x.op == 1) = false := beq_eq_false_iff_ne.2 (by omega)
  have d3 : (x.op == 3) = true := by rw [ho]; rfl
  have d4 : (x.op == 4) = false := beq_eq_false_iff_ne.2 (by omega)
  have d5 : (x.op == 5) = false := beq_eq_false_iff_ne.2 (by omega)
  have d6 : (x.op == 6) = false := beq_eq_false_iff_ne.2 (by omega)
  refine qj Tryz.func61 Tryz.ntmps61 fun σ n0 hcl hft => ?_
  repeat' (first | ((first | with_reducible refine qz ?_ | ((with_reducible refine qf (fun hg => ?_) (fun hg => ?_)) <;> (try simp only [hg]) <;> (try simp only [gS] at hg) <;> (try (first | simp only [eq_false hg, gI] | simp only [eq_true hg, gI]))) | refine Stp.m ?_ | refine qbd c3 ?_ | refine acall (qbf) ?_ | refine qo (qbf) ?_ | refine ql ?_ | refine agH ?_) <;> (try simp (disch := first | omega | simp) [qd, -qg, -qm, d1, d3, d4, d5, d6, h1, hi, hid, hln])) | with_reducible refine qbq (id := 1) [.cells [.int x.op, .str x.a, .str x.b, .str x.c, .str x.sep, .int x.n, .int x.value.k, .int x.value.n, .str x.value.s] 29] [.R, .W, .R, .R, .R, .W, .R, .R] (by kernel_rfl) (by kernel_rfl) (by simp) ?_ | refine sideA ?_ | refine qc fun K hK => ?_ | refine qa ?_ | refine qe ?_ | refine qb ?_ | (refine hK _ ?_; clear hK K) | clear hK K)
  refine ⟨qq 4 1 (k := cols.length) (by simp) (by rfl) (by simp; omega) ?_⟩
  repeat' (first | ((first | ((with_reducible refine qf (fun hg => ?_) (fun hg => ?_)) <;> (try simp only [hg]) <;> (try simp only [gS] at hg) <;> (try (first | simp only [eq_false hg, gI] | simp only [eq_true hg, gI]))) | refine Stp.m ?_) <;> (try simp (disch := first | omega | simp) [qd, -qg, -qm])) | refine sideA ?_ | refine qc fun K hK => ?_ | refine qa ?_ | refine qe ?_ | refine qb ?_ | (refine hK _ ?_; clear hK K) | clear hK K)
  rw [← hR]; exact qbn DD i ⟨1, 0, x.sep⟩
set_option maxRecDepth 4000 in
set_option maxHeartbeats 4000000 in
theorem chg_4 (x : Lens) (cols : List Col) (DD : List Val) (hDD : qbe cols = DD) (hc0 : 1 ≤ cols.length) (hc : cols.length ≤ 12) (i : Nat) (hi1 : findP cols x.a.toList = i) (hi : i < cols.length) (hid : i < DD.length) (ho : x.op = 4) (R : List Val) (hR : DD.set i ⟨1, 0, x.sep⟩ = R) : Gives Tryz.prog 61 [x.av, .sl (cols.map Col.av)] (.tup [.sl (R.map Val.av), .bool true]) := by
  have c2 := qu cols x.a (by omega)
  rw [hi1] at c2
  have c3 := qes cols (by omega)
  rw [hDD] at c3
  have hln : DD.length = cols.length := by rw [← hDD, qdk]
  have h1 : ((i : Int)).toNat = i := by omega
  have k1 := qdb 1
  have k2 := qdb 2
  have k3 := qdb 9223372036854775807
  have k4 := qct ⟨#[97]⟩
  have k5 := qct x.sep
  have d1 : (x.op == 1) = false := beq_eq_false_iff_ne.2 (by omega)
  have d3 : (x.op == 3) = false := beq_eq_false_iff_ne.2 (by omega)
  have d4 : (x.op == 4) = true := by rw [ho]; rfl
  have d5 : (x.op == 5) = false := beq_eq_false_iff_ne.2 (by omega)
  have d6 : (x.op == 6) = false := beq_eq_false_iff_ne.2 (by omega)
  refine qj Tryz.func61 Tryz.ntmps61 fun σ n0 hcl hft => ?_
  repeat' (first | ((first | with_reducible refine qz ?_ | ((with_reducible refine qf (fun hg => ?_) (fun hg => ?_)) <;> (try simp only [hg]) <;> (try simp only [gS] at hg) <;> (try (first | simp only [eq_false hg, gI] | simp only [eq_true hg, gI]))) | refine Stp.m ?_ | refine qbd c3 ?_ | refine acall (qbf) ?_ | refine qo (qbf) ?_ | refine ql ?_ | refine agH ?_) <;> (try simp (disch := first | omega | simp) [qd, -qg, -qm, d1, d3, d4, d5, d6, h1, hi, hid, hln])) | with_reducible refine qbq (id := 1) [.cells [.int x.op, .str x.a, .str x.b, .str x.c, .str x.sep, .int x.n, .int x.value.k, .int x.value.n, .str x.value.s] 29] [.R, .W, .R, .R, .R, .W, .R, .R] (by kernel_rfl) (by kernel_rfl) (by simp) ?_ | refine sideA ?_ | refine qc fun K hK => ?_ | refine qa ?_ | refine qe ?_ | refine qb ?_ | (refine hK _ ?_; clear hK K) | clear hK K)
  refine ⟨qq 4 1 (k := cols.length) (by simp) (by rfl) (by simp; omega) ?_⟩
  repeat' (first | ((first | ((with_reducible refine qf (fun hg => ?_) (fun hg => ?_)) <;> (try simp only [hg]) <;> (try simp only [gS] at hg) <;> (try (first | simp only [eq_false hg, gI] | simp only [eq_true hg, gI]))) | refine Stp.m ?_) <;> (try simp (disch := first | omega | simp) [qd, -qg, -qm])) | refine sideA ?_ | refine qc fun K hK => ?_ | refine qa ?_ | refine qe ?_ | refine qb ?_ | (refine hK _ ?_; clear hK K) | clear hK K)
  rw [← hR]; exact qbn DD i ⟨1, 0, x.sep⟩
set_option maxRecDepth 4000 in
set_option maxHeartbeats 4000000 in
theorem chg_5 (x : Lens) (cols : List Col) (DD : List Val) (hDD : qbe cols = DD) (hc0 : 1 ≤ cols.length) (hc : cols.length ≤ 12) (i : Nat) (hi1 : findP cols x.a.toList = i) (hi : i < cols.length) (hid : i < DD.length) (ho : x.op = 5) (R : Option (List Val)) (hR : (if cols[i].type = 2 ∨ cols[i].type = 0 ∧ x.n = 1 then none else some (if cols[i].type = 0 then DD.set i ⟨0, 2, ⟨#[]⟩⟩ else DD)) = R) : Gives Tryz.prog 61 [x.av, .sl (cols.map Col.av)] (.tup [chAv R, .bool R.isSome]) := by
  have c2 := qu cols x.a (by omega)
  rw [hi1] at c2
  have c3 := qes cols (by omega)
  rw [hDD] at c3
  have hln : DD.length = cols.length := by rw [← hDD, qdk]
  have h1 : ((i : Int)).toNat = i := by omega
  have k1 := qdb 1
  have k2 := qdb 2
  have k3 := qdb 9223372036854775807
  have k4 := qct ⟨#[97]⟩
  have k5 := qct x.sep
  have d1 : (x.op == 1) = false := beq_eq_false_iff_ne.2 (by omega)
  have d3 : (x.op == 3) = false := beq_eq_false_iff_ne.2 (by omega)
  have d4 : (x.op == 4) = false := beq_eq_false_iff_ne.2 (by omega)
  have d5 : (x.op == 5) = true := by rw [ho]; rfl
  have d6 : (x.op == 6) = false := beq_eq_false_iff_ne.2 (by omega)
  by_cases t2 : cols[i].type = 2
  · have n0 : ¬ cols[i].type = 0 := by omega
    have b2 : (cols[i].type == 2) = true := by rw [t2]; rfl
    rw [if_pos (.inl t2)] at hR
    subst hR
    refine qj Tryz.func61 Tryz.ntmps61 fun σ n0 hcl hft => ?_
    repeat' (first | ((first | ((with_reducible refine qf (fun hg => ?_) (fun hg => ?_)) <;> (try simp only [hg]) <;> (try simp only [gS] at hg) <;> (try (first | simp only [eq_false hg, gI] | simp only [eq_true hg, gI]))) | refine Stp.m ?_ | refine qbd c3 ?_ | refine acall (qbf) ?_ | refine qo (qbf) ?_ | refine ql ?_ | refine agH ?_) <;> (try simp (disch := first | omega | simp) [qd, -qg, -qm, d1, d3, d4, d5, d6, h1, hi, hid, hln, b2])) | with_reducible refine qbq (id := 1) [.cells [.int x.op, .str x.a, .str x.b, .str x.c, .str x.sep, .int x.n, .int x.value.k, .int x.value.n, .str x.value.s] 29] [.R, .W, .R, .R, .R, .W, .R, .R] (by kernel_rfl) (by kernel_rfl) (by simp) ?_ | refine sideA ?_ | refine qc fun K hK => ?_ | refine qa ?_ | refine qe ?_ | refine qb ?_ | (refine hK _ ?_; clear hK K) | clear hK K)
    rfl
  · have b2 : (cols[i].type == 2) = false := beq_eq_false_iff_ne.2 t2
    by_cases t0 : cols[i].type = 0
    · have b0 : (cols[i].type == 0) = true := by rw [t0]; rfl
      by_cases n1 : x.n = 1
      · have b1 : (x.n == 1) = true := by rw [n1]; rfl
        rw [if_pos (.inr ⟨t0, n1⟩)] at hR
        subst hR
        refine qj Tryz.func61 Tryz.ntmps61 fun σ n0 hcl hft => ?_
        repeat' (first | ((first | ((with_reducible refine qf (fun hg => ?_) (fun hg => ?_)) <;> (try simp only [hg]) <;> (try simp only [gS] at hg) <;> (try (first | simp only [eq_false hg, gI] | simp only [eq_true hg, gI]))) | refine Stp.m ?_ | refine qbd c3 ?_ | refine acall (qbf) ?_ | refine qo (qbf) ?_ | refine ql ?_ | refine agH ?_) <;> (try simp (disch := first | omega | simp) [qd, -qg, -qm, d1, d3, d4, d5, d6, h1, hi, hid, hln, b2, b0, b1])) | with_reducible refine qbq (id := 1) [.cells [.int x.op, .str x.a, .str x.b, .str x.c, .str x.sep, .int x.n, .int x.value.k, .int x.value.n, .str x.value.s] 29] [.R, .W, .R, .R, .R, .W, .R, .R] (by kernel_rfl) (by kernel_rfl) (by simp) ?_ | refine sideA ?_ | refine qc fun K hK => ?_ | refine qa ?_ | refine qe ?_ | refine qb ?_ | (refine hK _ ?_; clear hK K) | clear hK K)
        rfl
      · have b1 : (x.n == 1) = false := beq_eq_false_iff_ne.2 n1
        rw [if_neg (by omega), if_pos t0] at hR
        subst hR
        refine qj Tryz.func61 Tryz.ntmps61 fun σ n0 hcl hft => ?_
        repeat' (first | ((first | with_reducible refine qz ?_ | ((with_reducible refine qf (fun hg => ?_) (fun hg => ?_)) <;> (try simp only [hg]) <;> (try simp only [gS] at hg) <;> (try (first | simp only [eq_false hg, gI] | simp only [eq_true hg, gI]))) | refine Stp.m ?_ | refine qbd c3 ?_ | refine acall (qbf) ?_ | refine qo (qbf) ?_ | refine ql ?_ | refine agH ?_) <;> (try simp (disch := first | omega | simp) [qd, -qg, -qm, d1, d3, d4, d5, d6, h1, hi, hid, hln, b2, b0, b1])) | with_reducible refine qbq (id := 1) [.cells [.int x.op, .str x.a, .str x.b, .str x.c, .str x.sep, .int x.n, .int x.value.k, .int x.value.n, .str x.value.s] 29] [.R, .W, .R, .R, .R, .W, .R, .R] (by kernel_rfl) (by kernel_rfl) (by simp) ?_ | refine sideA ?_ | refine qc fun K hK => ?_ | refine qa ?_ | refine qe ?_ | refine qb ?_ | (refine hK _ ?_; clear hK K) | clear hK K)
        refine ⟨qq 4 1 (k := cols.length) (by simp) (by rfl) (by simp; omega) ?_⟩
        repeat' (first | ((first | ((with_reducible refine qf (fun hg => ?_) (fun hg => ?_)) <;> (try simp only [hg]) <;> (try simp only [gS] at hg) <;> (try (first | simp only [eq_false hg, gI] | simp only [eq_true hg, gI]))) | refine Stp.m ?_) <;> (try simp (disch := first | omega | simp) [qd, -qg, -qm])) | refine sideA ?_ | refine qc fun K hK => ?_ | refine qa ?_ | refine qe ?_ | refine qb ?_ | (refine hK _ ?_; clear hK K) | clear hK K)
        exact congrArg AV.sl (qbn DD i ⟨0, 2, ⟨#[]⟩⟩)
    · have b0 : (cols[i].type == 0) = false := beq_eq_false_iff_ne.2 t0
      rw [if_neg (by omega), if_neg t0] at hR
      subst hR
      refine qj Tryz.func61 Tryz.ntmps61 fun σ n0 hcl hft => ?_
      repeat' (first | ((first | with_reducible refine qz ?_ | ((with_reducible refine qf (fun hg => ?_) (fun hg => ?_)) <;> (try simp only [hg]) <;> (try simp only [gS] at hg) <;> (try (first | simp only [eq_false hg, gI] | simp only [eq_true hg, gI]))) | refine Stp.m ?_ | refine qbd c3 ?_ | refine acall (qbf) ?_ | refine qo (qbf) ?_ | refine ql ?_ | refine agH ?_) <;> (try simp (disch := first | omega | simp) [qd, -qg, -qm, d1, d3, d4, d5, d6, h1, hi, hid, hln, b2, b0])) | with_reducible refine qbq (id := 1) [.cells [.int x.op, .str x.a, .str x.b, .str x.c, .str x.sep, .int x.n, .int x.value.k, .int x.value.n, .str x.value.s] 29] [.R, .W, .R, .R, .R, .W, .R, .R] (by kernel_rfl) (by kernel_rfl) (by simp) ?_ | refine sideA ?_ | refine qc fun K hK => ?_ | refine qa ?_ | refine qe ?_ | refine qb ?_ | (refine hK _ ?_; clear hK K) | clear hK K)
      refine ⟨qq 4 1 (k := cols.length) (by simp) (by rfl) (by simp; omega) ?_⟩
      repeat' (first | ((first | ((with_reducible refine qf (fun hg => ?_) (fun hg => ?_)) <;> (try simp only [hg]) <;> (try simp only [gS] at hg) <;> (try (first | simp only [eq_false hg, gI] | simp only [eq_true hg, gI]))) | refine Stp.m ?_) <;> (try simp (disch := first | omega | simp) [qd, -qg, -qm])) | refine sideA ?_ | refine qc fun K hK => ?_ | refine qa ?_ | refine qe ?_ | refine qb ?_ | (refine hK _ ?_; clear hK K) | clear hK K)
      rfl
set_option maxRecDepth 4000 in
set_option maxHeartbeats 4000000 in
theorem chg_6 (x : Lens) (cols : List Col) (DD : List Val) (hDD : qbe cols = DD) (hc0 : 1 ≤ cols.length) (hc : cols.length ≤ 12) (i : Nat) (hi1 : findP cols x.a.toList = i) (hi : i < cols.length) (hid : i < DD.length) (ho : x.op = 6) (R : Option (List Val)) (hR : (if x.n = 1 ∨ x.n = -1 then none else some (DD.set i ⟨0, 9223372036854775807, ⟨#[]⟩⟩)) = R) : Gives Tryz.prog 61 [x.av, .sl (cols.map Col.av)] (.tup [chAv R, .bool R.isSome]) := by
  have c2 := qu cols x.a (by omega)
  rw [hi1] at c2
  have c3 := qes cols (by omega)
  rw [hDD] at c3
  have hln : DD.length = cols.length := by rw [← hDD, qdk]
  have h1 : ((i : Int)).toNat = i := by omega
  have k1 := qdb 1
  have k2 := qdb 2
  have k3 := qdb 9223372036854775807
  have k4 := qct ⟨#[97]⟩
  have k5 := qct x.sep
  have d1 : (x.op == 1) = false := beq_eq_false_iff_ne.2 (by omega)
  have d3 : (x.op == 3) = false := beq_eq_false_iff_ne.2 (by omega)
  have d4 : (x.op == 4) = false := beq_eq_false_iff_ne.2 (by omega)
  have d5 : (x.op == 5) = false := beq_eq_false_iff_ne.2 (by omega)
  have d6 : (x.op == 6) = true := by rw [ho]; rfl
  by_cases n1 : x.n = 1 ∨ x.n = -1
  · rw [if_pos n1] at hR
    subst hR
    rcases n1 with n1 | n1
    · have n2 : ¬ x.n = -1 := by omega
      have b1 : (x.n == 1) = true := by rw [n1]; rfl
      refine qj Tryz.func61 Tryz.ntmps61 fun σ n0 hcl hft => ?_
      repeat' (first | ((first | ((with_reducible refine qf (fun hg => ?_) (fun hg => ?_)) <;> (try simp only [hg]) <;> (try simp only [gS] at hg) <;> (try (first | simp only [eq_false hg, gI] | simp only [eq_true hg, gI]))) | refine Stp.m ?_ | refine qbd c3 ?_ | refine acall (qbf) ?_ | refine qo (qbf) ?_ | refine ql ?_ | refine agH ?_) <;> (try simp (disch := first | omega | simp) [qd, -qg, -qm, d1, d3, d4, d5, d6, h1, hi, hid, hln, b1])) | with_reducible refine qbq (id := 1) [.cells [.int x.op, .str x.a, .str x.b, .str x.c, .str x.sep, .int x.n, .int x.value.k, .int x.value.n, .str x.value.s] 29] [.R, .W, .R, .R, .R, .W, .R, .R] (by kernel_rfl) (by kernel_rfl) (by simp) ?_ | refine sideA ?_ | refine qc fun K hK => ?_ | refine qa ?_ | refine qe ?_ | refine qb ?_ | (refine hK _ ?_; clear hK K) | clear hK K)
      rfl
    · have b1 : (x.n == 1) = false := beq_eq_false_iff_ne.2 (by omega)
      have b2 : (x.n == -1) = true := by rw [n1]; rfl
      refine qj Tryz.func61 Tryz.ntmps61 fun σ n0 hcl hft => ?_
      repeat' (first | ((first | ((with_reducible refine qf (fun hg => ?_) (fun hg => ?_)) <;> (try simp only [hg]) <;> (try simp only [gS] at hg) <;> (try (first | simp only [eq_false hg, gI] | simp only [eq_true hg, gI]))) | refine Stp.m ?_ | refine qbd c3 ?_ | refine acall (qbf) ?_ | refine qo (qbf) ?_ | refine ql ?_ | refine agH ?_) <;> (try simp (disch := first | omega | simp) [qd, -qg, -qm, d1, d3, d4, d5, d6, h1, hi, hid, hln, b1, b2])) | with_reducible refine qbq (id := 1) [.cells [.int x.op, .str x.a, .str x.b, .str x.c, .str x.sep, .int x.n, .int x.value.k, .int x.value.n, .str x.value.s] 29] [.R, .W, .R, .R, .R, .W, .R, .R] (by kernel_rfl) (by kernel_rfl) (by simp) ?_ | refine sideA ?_ | refine qc fun K hK => ?_ | refine qa ?_ | refine qe ?_ | refine qb ?_ | (refine hK _ ?_; clear hK K) | clear hK K)
      rfl
  · rw [if_neg n1] at hR
    subst hR
    rw [not_or] at n1
    obtain ⟨n1, n2⟩ := n1
    have b1 : (x.n == 1) = false := beq_eq_false_iff_ne.2 n1
    have b2 : (x.n == -1) = false := beq_eq_false_iff_ne.2 n2
    refine qj Tryz.func61 Tryz.ntmps61 fun σ n0 hcl hft => ?_
    repeat' (first | ((first | with_reducible refine qz ?_ | ((with_reducible refine qf (fun hg => ?_) (fun hg => ?_)) <;> (try simp only [hg]) <;> (try simp only [gS] at hg) <;> (try (first | simp only [eq_false hg, gI] | simp only [eq_true hg, gI]))) | refine Stp.m ?_ | refine qbd c3 ?_ | refine acall (qbf) ?_ | refine qo (qbf) ?_ | refine ql ?_ | refine agH ?_) <;> (try simp (disch := first | omega | simp) [qd, -qg, -qm, d1, d3, d4, d5, d6, h1, hi, hid, hln, b1, b2])) | with_reducible refine qbq (id := 1) [.cells [.int x.op, .str x.a, .str x.b, .str x.c, .str x.sep, .int x.n, .int x.value.k, .int x.value.n, .str x.value.s] 29] [.R, .W, .R, .R, .R, .W, .R, .R] (by kernel_rfl) (by kernel_rfl) (by simp) ?_ | refine sideA ?_ | refine qc fun K hK => ?_ | refine qa ?_ | refine qe ?_ | refine qb ?_ | (refine hK _ ?_; clear hK K) | clear hK K)
    refine ⟨qq 4 1 (k := cols.length) (by simp) (by rfl) (by simp; omega) ?_⟩
    repeat' (first | ((first | ((with_reducible refine qf (fun hg => ?_) (fun hg => ?_)) <;> (try simp only [hg]) <;> (try simp only [gS] at hg) <;> (try (first | simp only [eq_false hg, gI] | simp only [eq_true hg, gI]))) | refine Stp.m ?_) <;> (try simp (disch := first | omega | simp) [qd, -qg, -qm])) | refine sideA ?_ | refine qc fun K hK => ?_ | refine qa ?_ | refine qe ?_ | refine qb ?_ | (refine hK _ ?_; clear hK K) | clear hK K)
    exact congrArg AV.sl (qbn DD i ⟨0, 9223372036854775807, ⟨#[]⟩⟩)
set_option maxRecDepth 4000 in
set_option maxHeartbeats 4000000 in
theorem chg_0 (x : Lens) (cols : List Col) (hc : cols.length ≤ 12) (hc0 : 1 ≤ cols.length) (ho : ¬ x.op = 1 ∧ ¬ x.op = 3 ∧ ¬ x.op = 4 ∧ ¬ x.op = 5 ∧ ¬ x.op = 6) : Gives Tryz.prog 61 [x.av, .sl (cols.map Col.av)] (.tup [chAv none, .bool false]) := by
  have c2 := qu cols x.a (by omega)
  have c3 := qes cols (by omega)
  have d1 : (x.op == 1) = false := beq_eq_false_iff_ne.2 ho.1
  have d3 : (x.op == 3) = false := beq_eq_false_iff_ne.2 ho.2.1
  have d4 : (x.op == 4) = false := beq_eq_false_iff_ne.2 ho.2.2.1
  have d5 : (x.op == 5) = false := beq_eq_false_iff_ne.2 ho.2.2.2.1
  have d6 : (x.op == 6) = false := beq_eq_false_iff_ne.2 ho.2.2.2.2
  refine qj Tryz.func61 Tryz.ntmps61 fun σ n0 hcl hft => ?_
  repeat' (first | ((first | ((with_reducible refine qf (fun hg => ?_) (fun hg => ?_)) <;> (try simp only [hg]) <;> (try simp only [gS] at hg) <;> (try (first | simp only [eq_false hg, gI] | simp only [eq_true hg, gI]))) | refine Stp.m ?_ | refine qbd c3 ?_ | refine ql ?_ | refine agH ?_) <;> (try simp (disch := first | omega | simp) [qd, -qg, -qm, d1, d3, d4, d5, d6])) | with_reducible refine qbq (id := 1) [.cells [.int x.op, .str x.a, .str x.b, .str x.c, .str x.sep, .int x.n, .int x.value.k, .int x.value.n, .str x.value.s] 29] [.R, .W, .R, .R, .R, .W, .R, .R] (by kernel_rfl) (by kernel_rfl) (by simp) ?_ | refine sideA ?_ | refine qc fun K hK => ?_ | refine qa ?_ | refine qe ?_ | refine qb ?_ | (refine hK _ ?_; clear hK K) | clear hK K)
  rfl
end Go.Proofs.YtbkkjlcclddpdaaGreatDoor

/- lens.changed, any step that can be done; walk of lens.Lossless. -/
namespace Go.Proofs.YtbkkjlcclddpdaaGreatDoor
open Go.RowKit Go.Lib
theorem rightV_k {v : Val} (h : qdg v = true) : 0 ≤ v.k ∧ v.k < 3 := by
  unfold qdg at h
  by_cases h0 : v.k = 0
  · omega
  · rw [if_neg h0] at h
    by_cases h1 : v.k = 1
    · omega
    · rw [if_neg h1, Bool.or_eq_true] at h
      rcases h with h | h <;>
      · have := (Val.eqB_iff _ _).1 h
        rw [this]
        exact ⟨by decide, by decide⟩
theorem changed_g {x : Lens} {L : List Col} (h0 : 1 ≤ L.length) (h1 : L.length ≤ 12) (h : StepOk x L) (R : Option (List Val)) (hR : qcg x L = R) : Gives Tryz.prog 61 [x.av, .sl (L.map Col.av)] (.tup [chAv R, .bool R.isSome]) := by
  have hd := qdk L
  cases h
  case add ho ha hn hl hR2 hu hv =>
    have e : qcg x L = none := by unfold qcg; simp only [ho]; rfl
    rw [← hR, e]
    exact chg_0 x L h1 h0 (by omega)
  case drop i hi ho h hk hl hR2 hv =>
    have hid : i < (qbe L).length := by omega
    have hv := rightV_k hv
    have e : qcg x L = some (if Val.eqB (qbe L)[i] x.value then (qbe L).set i (if L[i].type = 0 then ⟨0, 1, ⟨#[]⟩⟩ else if L[i].type = 1 then ⟨1, 0, ⟨#[97]⟩⟩ else ⟨2, 1, ⟨#[]⟩⟩) else qbe L) := by
      unfold qcg
      simp only [ho, if_pos, h.find, Int.toNat_natCast, qcr hid, qcw hi]
    rw [← hR, e]
    exact chg_1 x L (qbe L) rfl h0 h1 i h.find hi hid ho (by omega) (by omega) _ rfl
  case rename i hi ho h hb hb2 hR2 =>
    have e : qcg x L = none := by unfold qcg; simp only [ho]; rfl
    rw [← hR, e]
    exact chg_0 x L h1 h0 (by omega)
  case split i hi ho h hk hb hc hs hbc hb2 hc2 hl hR2 =>
    have e : qcg x L = some ((qbe L).set i ⟨1, 0, x.sep⟩) := by unfold qcg; simp only [ho, h.find, Int.toNat_natCast]; rfl
    rw [← hR, e]
    exact chg_3 x L (qbe L) rfl h0 h1 i h.find hi (by omega) ho _ rfl
  case join i k hi hk ho h hkf hkn hik ti tk hc hs hc2 hR2 =>
    have e : qcg x L = some ((qbe L).set i ⟨1, 0, x.sep⟩) := by unfold qcg; simp only [ho, h.find, Int.toNat_natCast]; rfl
    rw [← hR, e]
    exact chg_4 x L (qbe L) rfl h0 h1 i h.find hi (by omega) ho _ rfl
  case retype i hi ho h hn0 hn3 hv hk ht hR2 =>
    refine chg_5 x L (qbe L) rfl h0 h1 i h.find hi (by omega) ho R ?_
    rw [← hR]
    unfold qcg
    simp only [ho, h.find, Int.toNat_natCast, qcw hi]; rfl
  case scale i hi ho h ht hn hu hR2 =>
    refine chg_6 x L (qbe L) rfl h0 h1 i h.find hi (by omega) ho R ?_
    rw [← hR]
    unfold qcg
    simp only [ho, h.find, Int.toNat_natCast]; rfl
theorem lost_step {l : List Lens} {ss : List (List Col)} {k : Nat} (h : k < l.length) (j : Nat) : lostP (l.drop k) (ss.drop k) j = match qcg l[k] (shAt ss k) with
    | some row => (false, (j : Int), row)
    | none => lostP (l.drop (k + 1)) (ss.drop (k + 1)) (j + 1) := by
  have e : (ss.drop k).headD [] = shAt ss k := by rw [shAt_0]; unfold shAt; rw [List.getD_eq_getElem?_getD, List.getElem?_drop, Nat.add_zero, ← List.getD_eq_getElem?_getD]
  rw [List.drop_eq_getElem_cons h, lostP, e, List.tail_drop]; rfl
set_option maxHeartbeats 4000000 in
theorem lossless_g {l : List Lens} {cols : List Col} {ss : List (List Col)} (hs : qbi l cols = (ss, 0)) (hl : ∀ x ∈ l, qfk x) (h0 : 1 ≤ cols.length) (h1 : cols.length ≤ 12) (R : Bool × Int × List Val) (hR : lostP l ss 0 = R) :
    Gives Tryz.prog 27 [.sl (l.map Lens.av), .sl (cols.map Col.av)] (.tup [.bool R.1, .int R.2.1, .sl (R.2.2.map Val.av)]) := by
  have hL : l.length ≤ 60 := by
    unfold qbi at hs
    by_cases h : 60 < l.length
    · rw [if_pos h] at hs; exact absurd (Prod.mk.inj hs).2 (by decide)
    · omega
  have hs' : qn l cols = (ss, 0) := by rw [qbi, if_neg (by omega)] at hs; exact hs
  obtain ⟨hc, hc0⟩ := chain_of hs' h0 h1
  have c1 := shapes_g l cols (fun x hx => (hl x hx).l) (by omega) h0 h1
  rw [hs] at c1
  have hsl := hc.len
  refine qj Tryz.func27 Tryz.ntmps27 fun σ n0 hcl hft => ?_
  repeat' (first | ((first | ((with_reducible refine qf (fun hg => ?_) (fun hg => ?_)) <;> (try simp only [hg]) <;> (try simp only [gS] at hg) <;> (try (first | simp only [eq_false hg, gI] | simp only [eq_true hg, gI]))) | refine Stp.m ?_ | refine ql ?_ | refine agH ?_) <;> (try simp (disch := first | omega | simp) [qd, -qg, -qm])) | refine sideA ?_ | refine qc fun K hK => ?_ | refine qa ?_ | refine qe ?_ | refine qb ?_ | (refine hK _ ?_; clear hK K) | clear hK K)
  refine qw hcl (fun k : Nat => [(7, .sl (ss.map qcz)), (19, .sl (l.map Lens.av)), (20, .int l.length), (21, .int k)]) (fun k => [])
    (fun k => k ≤ l.length ∧ lostP (l.drop k) (ss.drop k) k = R) (fun k => l.length - k) 0 ⟨by omega, hR⟩ (by simp) fun k ⟨hkl, hk⟩ => ?_
  by_cases hlt : k < l.length
  · obtain ⟨g3, g4⟩ := hc.ok k hlt
    have hks : k < ss.length := by omega
    obtain ⟨g5, g6⟩ := hc.sz k hkl
    rw [lost_step hlt] at hk
    obtain ⟨C, hC⟩ : ∃ C, qcg l[k] (shAt ss k) = C := ⟨_, rfl⟩
    have c3 := changed_g g5 g6 g3 C hC
    rw [hC] at hk
    rw [shAt_eq hks] at c3
    cases C with
    | none =>
      have hk' : lostP (l.drop (k + 1)) (ss.drop (k + 1)) (k + 1) = R := hk
      repeat' (first | ((first | ((with_reducible refine qf (fun hg => ?_) (fun hg => ?_)) <;> (try simp only [hg]) <;> (try simp only [gS] at hg) <;> (try (first | simp only [eq_false hg, gI] | simp only [eq_true hg, gI]))) | refine Stp.m ?_ | refine ql ?_ | refine agH ?_) <;> (try simp (disch := first | omega | simp) [qd, -qg, -qm, hlt, hks, qcz, chAv])) | refine sideA ?_ | refine qc fun K hK => ?_ | refine qa ?_ | refine qe ?_ | refine qb ?_ | (refine hK _ ?_; clear hK K) | clear hK K)
      exact ⟨k + 1, ⟨by omega, hk'⟩, by omega, by simp⟩
    | some row =>
      have hk' : (false, (k : Int), row) = R := hk
      subst hk'
      repeat' (first | ((first | ((with_reducible refine qf (fun hg => ?_) (fun hg => ?_)) <;> (try simp only [hg]) <;> (try simp only [gS] at hg) <;> (try (first | simp only [eq_false hg, gI] | simp only [eq_true hg, gI]))) | refine Stp.m ?_ | refine ql ?_ | refine agH ?_) <;> (try simp (disch := first | omega | simp) [qd, -qg, -qm, hlt, hks, qcz, chAv])) | refine sideA ?_ | refine qc fun K hK => ?_ | refine qa ?_ | refine qe ?_ | refine qb ?_ | (refine hK _ ?_; clear hK K) | clear hK K)
  · obtain rfl : k = l.length := by omega
    rw [List.drop_length, lostP] at hk
    subst hk
    repeat' (first | ((first | ((with_reducible refine qf (fun hg => ?_) (fun hg => ?_)) <;> (try simp only [hg]) <;> (try simp only [gS] at hg) <;> (try (first | simp only [eq_false hg, gI] | simp only [eq_true hg, gI]))) | refine Stp.m ?_) <;> (try simp (disch := first | omega | simp) [qd, -qg, -qm, hlt])) | refine sideA ?_ | refine qc fun K hK => ?_ | refine qa ?_ | refine qe ?_ | refine qb ?_ | (refine hK _ ?_; clear hK K) | clear hK K)
end Go.Proofs.YtbkkjlcclddpdaaGreatDoor

/- Layer 14 on plain data: what a step makes of right shapes and of rows that fit. -/
namespace Go.Proofs.YtbkkjlcclddpdaaGreatDoor
open Go.RowKit Go.Lib
theorem ColOk.set {L : List Col} {i : Nat} {c : Col} (h : ∀ c ∈ L, ColOk c) (hc : ColOk c) : ∀ d ∈ L.set i c, ColOk d := fun d hd => by
  rcases List.mem_or_eq_of_mem_set hd with h1 | rfl
  · exact h d h1
  · exact hc
end Go.Proofs.YtbkkjlcclddpdaaGreatDoor

/- Layer 14 on plain data: rows that fit, forward and back. -/
namespace Go.Proofs.YtbkkjlcclddpdaaGreatDoor
open Go.RowKit Go.Lib
theorem rightV_cases {v : Val} (h : qdg v = true) : (v = ⟨0, v.n, ⟨#[]⟩⟩) ∨ (v = ⟨1, 0, v.s⟩ ∧ v.s.size ≤ 200) ∨ v = bitV false ∨ v = bitV true := by
  unfold qdg at h
  by_cases h0 : v.k = 0
  · rw [if_pos h0] at h
    exact .inl ((Val.eqB_iff _ _).1 h)
  · rw [if_neg h0] at h
    by_cases h1 : v.k = 1
    · rw [if_pos h1, Bool.and_eq_true] at h
      exact .inr (.inl ⟨(Val.eqB_iff _ _).1 h.1, by simpa using h.2⟩)
    · rw [if_neg h1, Bool.or_eq_true] at h
      rcases h with h | h
      · exact .inr (.inr (.inl ((Val.eqB_iff _ _).1 h)))
      · exact .inr (.inr (.inr ((Val.eqB_iff _ _).1 h)))
theorem FitOk.one {v : Val} {c : Col} (h : v.k = c.type) (hr : qdg v = true) : FitOk [v] [c] :=
  ⟨by simp [h], fun u hu => by rw [List.mem_singleton] at hu; subst hu; exact hr⟩
theorem FitOk.take {r : List Val} {L : List Col} (h : FitOk r L) (i : Nat) : FitOk (r.take i) (L.take i) :=
  ⟨by rw [List.map_take, List.map_take, h.kinds], fun v hv => h.vals v (List.mem_of_mem_take hv)⟩
theorem FitOk.drop {r : List Val} {L : List Col} (h : FitOk r L) (i : Nat) : FitOk (r.drop i) (L.drop i) :=
  ⟨by rw [List.map_drop, List.map_drop, h.kinds], fun v hv => h.vals v (List.mem_of_mem_drop hv)⟩
theorem FitOk.set {r : List Val} {L : List Col} (h : FitOk r L) (i : Nat) {v : Val} {c : Col} (hk : v.k = c.type) (hr : qdg v = true) : FitOk (r.set i v) (L.set i c) :=
  ⟨by rw [List.map_set, List.map_set, h.kinds, hk], fun u hu => by
    rcases List.mem_or_eq_of_mem_set hu with h1 | rfl
    · exact h.vals u h1
    · exact hr⟩
theorem FitOk.types {r : List Val} {L M : List Col} (h : FitOk r L) (e : L.map Col.type = M.map Col.type) : FitOk r M := ⟨by rw [h.kinds, e], h.vals⟩
theorem FitOk.kind {r : List Val} {L : List Col} (h : FitOk r L) {i : Nat} (hi : i < r.length) (hi2 : i < L.length) : r[i].k = L[i].type := by
  have e : (r.map Val.k)[i]'(by simpa using hi) = (L.map Col.type)[i]'(by simpa using hi2) := by simp only [h.kinds]
  simpa using e
end Go.Proofs.YtbkkjlcclddpdaaGreatDoor

/- Layer 14 on plain data: the text of a right step is read as this step. -/
namespace Go.Proofs.YtbkkjlcclddpdaaGreatDoor
open Go.RowKit Go.Lib
def Wrd (w : List UInt8) : Prop := ∀ r cur, wG (w ++ r) false false cur = wG r false false (cur ++ w)
theorem wrd_plain : ∀ (w : List UInt8), (∀ b ∈ w, b ≠ 32 ∧ b ≠ 34) → Wrd w
  | [], _ => fun r cur => by simp
  | c :: w, h => fun r cur => by
    have hc := h c (by simp)
    rw [List.cons_append, wG, if_neg (by simp), if_neg (by simp), if_neg hc.2, if_neg (fun h => hc.1 h.1), wrd_plain w (fun b hb => h b (by simp [hb]))]
    simp
theorem wG_sp (r cur : List UInt8) : wG (32 :: r) false false cur = cur :: wG r false false [] := by
  rw [wG, if_neg (by simp), if_neg (by decide), if_neg (by decide), if_pos ⟨rfl, rfl⟩]
theorem wG_in1 {c : UInt8} (h1 : c ≠ 92) (h2 : c ≠ 34) (r cur : List UInt8) : wG (c :: r) true false cur = wG r true false (cur ++ [c]) := by
  rw [wG, if_neg (by simp), if_neg (fun h => h1 h.1), if_neg h2, if_neg (by simp)]
theorem wG_in2 (c : UInt8) (r cur : List UInt8) : wG (92 :: c :: r) true false cur = wG r true false (cur ++ [92, c]) := by
  rw [wG, if_neg (by simp), if_pos ⟨rfl, rfl⟩, wG, if_pos rfl]
  simp
theorem hexd_no : ∀ n, n < 16 → hexd n ≠ 92 ∧ hexd n ≠ 34 ∧ hexd n ≠ 10 := by decide
theorem wG_q1 (c : UInt8) (r cur : List UInt8) : wG (qB c ++ r) true false cur = wG r true false (cur ++ qB c) := by
  have hlt : c.toNat < 256 := c.toNat_lt
  have g1 := hexd_no (c.toNat / 16) (by omega)
  have g2 := hexd_no (c.toNat % 16) (by omega)
  unfold qB
  by_cases h1 : c = 34 ∨ c = 92
  · rw [if_pos h1]; exact wG_in2 c r cur
  · rw [if_neg h1]
    by_cases h2 : c = 10
    · rw [if_pos h2]; exact wG_in2 110 r cur
    · rw [if_neg h2]
      by_cases h3 : 32 ≤ c.toNat ∧ c.toNat ≤ 126
      · rw [if_pos h3]; exact wG_in1 (fun e => h1 (.inr e)) (fun e => h1 (.inl e)) r cur
      · rw [if_neg h3]
        show wG (92 :: 120 :: (hexd (c.toNat / 16) :: hexd (c.toNat % 16) :: r)) true false cur = _
        rw [wG_in2, wG_in1 g1.1 g1.2.1, wG_in1 g2.1 g2.2.1]
        simp
theorem wG_qm : ∀ (l r cur : List UInt8), wG (qmid l ++ r) true false cur = wG r true false (cur ++ qmid l)
  | [], r, cur => by simp [qmid]
  | c :: l, r, cur => by
    rw [qmid_cons, List.append_assoc, wG_q1, wG_qm l, List.append_assoc]
theorem wrd_q (l : List UInt8) : Wrd (qP l) := fun r cur => by
  have e : qP l ++ r = 34 :: (qmid l ++ 34 :: r) := by unfold qP; simp
  rw [e, wG, if_neg (by simp), if_neg (by simp), if_pos rfl, show (!false) = true from rfl, wG_qm, wG, if_neg (by simp), if_neg (by simp), if_pos rfl]
  unfold qP; simp
def spJ : List (List UInt8) → List UInt8
  | [] => []
  | [w] => w
  | w :: u :: l => w ++ 32 :: spJ (u :: l)
theorem wG_spJ : ∀ (ws : List (List UInt8)), ws ≠ [] → (∀ w ∈ ws, Wrd w) → wG (spJ ws) false false [] = ws
  | [], h, _ => absurd rfl h
  | [w], _, h => by
    have h1 := h w (by simp) [] []
    rw [List.append_nil, List.nil_append] at h1
    rw [spJ, h1, wG]
  | w :: u :: l, _, h => by
    rw [spJ, h w (by simp) _ [], List.nil_append, wG_sp, wG_spJ (u :: l) (by simp) fun x hx => h x (by simp only [List.mem_cons] at hx ⊢; exact .inr hx)]
theorem name_no {s : List UInt8} (h : ownP s = true) : ∀ b ∈ s, b ≠ 32 ∧ b ≠ 34 ∧ b ≠ 10 := fun b hb => by
  unfold ownP at h
  rw [Bool.and_eq_true] at h
  have := (name_bytes h.1).2.2 b hb
  refine ⟨?_, ?_, ?_⟩ <;> (rintro rfl; revert this; decide)
theorem qB_no (c : UInt8) : ∀ b ∈ qB c, b ≠ 10 := fun b hb => by
  have hlt : c.toNat < 256 := c.toNat_lt
  have g1 := hexd_no (c.toNat / 16) (by omega)
  have g2 := hexd_no (c.toNat % 16) (by omega)
  unfold qB at hb
  by_cases h1 : c = 34 ∨ c = 92
  · rw [if_pos h1] at hb
    simp only [List.mem_cons, List.not_mem_nil, or_false] at hb
    rcases hb with rfl | rfl
    · decide
    · rcases h1 with h | h <;> (rw [h]; decide)
  · rw [if_neg h1] at hb
    by_cases h2 : c = 10
    · rw [if_pos h2] at hb
      simp only [List.mem_cons, List.not_mem_nil, or_false] at hb
      rcases hb with rfl | rfl <;> decide
    · rw [if_neg h2] at hb
      split at hb
      · simp only [List.mem_cons, List.not_mem_nil, or_false] at hb
        subst hb; exact h2
      · simp only [List.mem_cons, List.not_mem_nil, or_false] at hb
        rcases hb with rfl | rfl | rfl | rfl
        · decide
        · decide
        · exact g1.2.2
        · exact g2.2.2
theorem q_no (l : List UInt8) : ∀ b ∈ qP l, b ≠ 10 := fun b hb => by
  unfold qP qmid at hb
  simp only [List.mem_cons, List.mem_append, List.mem_flatMap, List.not_mem_nil, or_false] at hb
  rcases hb with rfl | ⟨c, -, hc⟩ | rfl
  · decide
  · exact qB_no c b hc
  · decide
theorem itoa_no (n : Int) : ∀ b ∈ itoa n, b ≠ 32 ∧ b ≠ 34 ∧ b ≠ 10 := fun b hb => by
  have key : ∀ u, b ∈ decDigits u → b ≠ 32 ∧ b ≠ 34 ∧ b ≠ 10 := fun u h => by
    have := qdu u b h
    refine ⟨?_, ?_, ?_⟩ <;> (rintro rfl; revert this; decide)
  unfold itoa at hb
  split at hb
  · rcases List.mem_cons.1 hb with rfl | h
    · decide
    · exact key _ h
  · exact key _ hb
theorem tname_no (k : Int) : ∀ b ∈ qbc k, b ≠ 32 ∧ b ≠ 34 ∧ b ≠ 10 := fun b hb => by
  unfold qbc at hb
  split at hb
  · rename_i h
    obtain rfl | rfl | rfl : k = 0 ∨ k = 1 ∨ k = 2 := by omega
    all_goals
      revert b
      decide
  · cases hb
structure Word (w : List UInt8) : Prop where
  wrd : Wrd w
  lf : ∀ b ∈ w, b ≠ 10
theorem qds {w : List UInt8} (h : ∀ b ∈ w, b ≠ 32 ∧ b ≠ 34 ∧ b ≠ 10) : Word w := ⟨wrd_plain w fun b hb => ⟨(h b hb).1, (h b hb).2.1⟩, fun b hb => (h b hb).2.2⟩
theorem word_q (l : List UInt8) : Word (qP l) := ⟨wrd_q l, q_no l⟩
theorem word_op : Word wAdd ∧ Word wDrop ∧ Word qbx ∧ Word qdc ∧ Word wJoin ∧ Word qby ∧ Word qcu := by
  refine ⟨?_, ?_, ?_, ?_, ?_, ?_, ?_⟩ <;> exact qds (by decide)
theorem word_show {v : Val} : Word (showL v) := by
  unfold showL
  repeat' split
  · exact qds (itoa_no _)
  · exact word_q _
  · exact qds (by decide)
  · exact qds (by decide)
  · exact qds (by simp)
theorem itoa_first {n : Int} (h : i64 n) : itoa n ≠ wTrue ∧ itoa n ≠ qdq := by
  have hne := (qgg h).2
  have key : ∀ c ∈ itoa n, c = 45 ∨ (48 ≤ c.toNat ∧ c.toNat ≤ 57) := fun c hc => by
    unfold itoa at hc
    split at hc
    · rcases List.mem_cons.1 hc with h | h
      · exact .inl h
      · exact .inr (qdu _ _ h)
    · exact .inr (qdu _ _ hc)
  constructor
  · intro e
    have := key 116 (by rw [e]; decide)
    revert this; decide
  · intro e
    have := key 102 (by rw [e]; decide)
    revert this; decide
theorem q_first (l : List UInt8) : qP l ≠ wTrue ∧ qP l ≠ qdq := by
  constructor
  · intro e; unfold qP wTrue at e; exact absurd (List.cons.inj e).1 (by decide)
  · intro e; unfold qP qdq at e; exact absurd (List.cons.inj e).1 (by decide)
theorem q_int (l : List UInt8) : intP (qP l) = none := by
  cases h : intP (qP l) with
  | none => rfl
  | some n =>
    obtain ⟨h1, h2⟩ := qfb.1 h
    have hm : (34 : UInt8) ∈ itoa n := by rw [h2]; unfold qP; simp
    exact absurd rfl (itoa_no n 34 hm).2.1
theorem bA_self (s : ByteArray) : qh s.data.toList = s := (bA_eq rfl).symm
theorem vparse_show {v : Val} (hr : qdg v = true) (hn : i64 v.n) : (qdn (showL v)).1 = v := by
  unfold showL
  rw [if_pos hr]
  rcases rightV_cases hr with e | ⟨e, e2⟩ | e | e
  · rw [if_pos (by rw [e]), qdn, if_neg (by have := itoa_first hn; rintro (h | h); exact this.1 h; exact this.2 h), qfb.2 ⟨hn, rfl⟩]
    exact e.symm
  · have k1 : v.k = 1 := by rw [e]
    rw [if_neg (by omega), if_pos k1, qdn, if_neg (by have := q_first v.s.data.toList; rintro (h | h); exact this.1 h; exact this.2 h), q_int, unq_q hxP_ok]
    have hl : v.s.data.toList.length ≤ 200 := by rw [qcl]; exact e2
    simp only
    rw [if_pos hl, bA_self]
    exact e.symm
  · have k1 : v.k = 2 := by rw [e]; rfl
    have n1 : v.n = 0 := by rw [e]; rfl
    rw [if_neg (by omega), if_neg (by omega), if_neg (by omega), e]
    decide
  · have k1 : v.k = 2 := by rw [e]; rfl
    have n1 : v.n = 1 := by rw [e]; rfl
    rw [if_neg (by omega), if_neg (by omega), if_pos n1, e]
    decide
theorem typeOf_name {k : Int} (h0 : 0 ≤ k) (h3 : k < 3) : (qbw (qbc k)).1 = k := by
  obtain rfl | rfl | rfl : k = 0 ∨ k = 1 ∨ k = 2 := by omega
  all_goals decide
theorem qdz {s : ByteArray} (h : strE s = true) : s = ⟨#[]⟩ := by
  unfold strE at h
  rw [decide_eq_true_eq, ByteArray.toList_eq] at h
  exact bA_eq h
theorem val0_eq {v : Val} (h : val0B v = true) : v = val0 := (Val.eqB_iff _ _).1 h
def dotE (x : Lens) : List (List UInt8) := if strE x.b = true then [] else [x.b.data.toList]
def qdd (x : Lens) : List (List UInt8) :=
  if x.op = 0 then [wAdd, x.a.data.toList, showL x.value] ++ dotE x
  else if x.op = 1 then [wDrop, x.a.data.toList, showL x.value]
  else if x.op = 2 then [qbx, x.a.data.toList] ++ dotE x
  else if x.op = 3 then [qdc, x.a.data.toList, sepL x] ++ dotE x ++ [x.c.data.toList]
  else if x.op = 4 then [wJoin, x.a.data.toList] ++ dotE x ++ [sepL x, x.c.data.toList]
  else if x.op = 5 then [qby, x.a.data.toList, qbc x.n, showL x.value]
  else [qcu, x.a.data.toList, itoa x.n] ++ dotE x
theorem line_words (x : Lens) : lineL x = spJ (qdd x) := by
  unfold lineL qdd unitL dotE
  cases strE x.b <;> (simp only [if_true, if_false, Bool.false_eq_true]; repeat' split) <;> simp [spJ]
theorem spJ_lf : ∀ (ws : List (List UInt8)), (∀ w ∈ ws, ∀ b ∈ w, b ≠ 10) → ∀ b ∈ spJ ws, b ≠ 10
  | [], _ => fun b hb => by cases hb
  | [w], h => fun b hb => h w (by simp) b hb
  | w :: u :: l, h => fun b hb => by
    rw [spJ] at hb
    rcases List.mem_append.1 hb with hb | hb
    · exact h w (by simp) b hb
    · rcases List.mem_cons.1 hb with rfl | hb
      · decide
      · exact spJ_lf (u :: l) (fun x hx => h x (by simp only [List.mem_cons] at hx ⊢; exact .inr hx)) b hb
theorem qfe {s : ByteArray} (h : ownA s = true) : Word s.data.toList := by
  unfold ownA at h
  rw [ByteArray.toList_eq] at h
  exact qds (name_no h)
theorem right_words {x : Lens} (h : qv x = true) : (∀ w ∈ qdd x, Word w) ∧ readL (qdd x ++ [[], [], [], []]) = x ∨ ¬ (i64 x.n ∧ i64 x.value.n) := by
  by_cases hi : i64 x.n ∧ i64 x.value.n
  · left
    obtain ⟨hn, hv⟩ := hi
    obtain ⟨w0, w1, w2, w3, w4, w5, w6⟩ := word_op
    have hs := word_show (v := x.value)
    have hq := word_q x.sep.data.toList
    have ht : Word (qbc x.n) := qds (tname_no _)
    have hd : Word (itoa x.n) := qds (itoa_no _)
    have ha := bA_self x.a
    have hb := bA_self x.b
    have hc := bA_self x.c
    have hsp := bA_self x.sep
    have huq := unq_q hxP_ok x.sep.data.toList
    have hip := qfb.2 ⟨hn, rfl⟩
    have o0 : opL wAdd = 0 := by decide
    have o1 : opL wDrop = 1 := by decide
    have o2 : opL qbx = 2 := by decide
    have o3 : opL qdc = 3 := by decide
    have o4 : opL wJoin = 4 := by decide
    have o5 : opL qby = 5 := by decide
    have o6 : opL qcu = 6 := by decide
    have ho := right_op h
    unfold qv at h
    rw [Bool.and_eq_true] at h
    obtain ⟨h1, h⟩ := h
    have wa := qfe h1
    obtain ⟨op, a, b, c, sep, n, v⟩ := x
    dsimp only at *
    have e0 : qh [] = ⟨#[]⟩ := rfl
    rcases ho with rfl | rfl | rfl | rfl | rfl | rfl | rfl <;> simp only [reduceIte, Int.reduceEq, usedB, Bool.and_eq_true, Bool.or_eq_true, Bool.not_eq_true', decide_eq_true_eq, Bool.false_eq_true, if_true, if_false, Bool.false_or, Bool.true_or, and_true, true_and] at h
    · obtain ⟨⟨⟨⟨⟨hB, hC⟩, hS⟩, hN⟩, hV⟩, -⟩ := h
      obtain rfl := qdz hC
      obtain rfl := qdz hS
      have hvs := vparse_show hV hv
      cases hE : strE b with
      | true =>
        obtain rfl := qdz hE
        have e1 : qdd ⟨0, a, ⟨#[]⟩, ⟨#[]⟩, ⟨#[]⟩, n, v⟩ = [wAdd, a.data.toList, showL v] := by unfold qdd dotE; simp [hE]
        rw [e1]
        refine ⟨by simp [w0, wa, hs], ?_⟩
        simp [readL, readW, o0, ha, hvs, e0, hN]
      | false =>
        rw [hE] at hB
        have wb := qfe (by simpa using hB)
        have e1 : qdd ⟨0, a, b, ⟨#[]⟩, ⟨#[]⟩, n, v⟩ = [wAdd, a.data.toList, showL v, b.data.toList] := by unfold qdd dotE; simp [hE]
        rw [e1]
        refine ⟨by simp [w0, wa, hs, wb], ?_⟩
        simp [readL, readW, o0, ha, hb, hvs, hN]
    · obtain ⟨⟨⟨⟨hB, hC⟩, hS⟩, hN⟩, hV⟩ := h
      obtain rfl := qdz hB
      obtain rfl := qdz hC
      obtain rfl := qdz hS
      have hvs := vparse_show hV hv
      have e1 : qdd ⟨1, a, ⟨#[]⟩, ⟨#[]⟩, ⟨#[]⟩, n, v⟩ = [wDrop, a.data.toList, showL v] := rfl
      rw [e1]
      refine ⟨by simp [w1, wa, hs], ?_⟩
      simp [readL, readW, o1, ha, hvs, e0, hN]
    · obtain ⟨⟨⟨⟨hB, hC⟩, hS⟩, hN⟩, hV⟩ := h
      obtain rfl := qdz hC
      obtain rfl := qdz hS
      obtain rfl := val0_eq hV
      have wb := qfe hB
      have hE : strE b = false := by
        cases hE : strE b with
        | false => rfl
        | true =>
          unfold strE at hE
          unfold ownA at hB
          rw [of_decide_eq_true hE] at hB
          revert hB; decide
      have e1 : qdd ⟨2, a, b, ⟨#[]⟩, ⟨#[]⟩, n, val0⟩ = [qbx, a.data.toList, b.data.toList] := by unfold qdd dotE; simp [hE]
      rw [e1]
      refine ⟨by simp [w2, wa, wb], ?_⟩
      simp [readL, readW, o2, ha, hb, hN]
    · obtain ⟨⟨⟨⟨hB, hC⟩, hS⟩, hN⟩, hV⟩ := h
      obtain rfl := val0_eq hV
      have wb := qfe hB
      have wc := qfe hC
      have hE : strE b = false := by
        cases hE : strE b with
        | false => rfl
        | true =>
          unfold strE at hE
          unfold ownA at hB
          rw [of_decide_eq_true hE] at hB
          revert hB; decide
      have e1 : qdd ⟨3, a, b, c, sep, n, val0⟩ = [qdc, a.data.toList, qP sep.data.toList, b.data.toList, c.data.toList] := by unfold qdd dotE sepL; simp [hE]
      rw [e1]
      refine ⟨by simp [w3, wa, wb, wc, hq], ?_⟩
      simp [readL, readW, o3, ha, hb, hc, hsp, huq, hN]
    · obtain ⟨⟨⟨⟨⟨hB, hC⟩, hS⟩, hN⟩, hV⟩, -⟩ := h
      obtain rfl := val0_eq hV
      have wb := qfe hB
      have wc := qfe hC
      have hE : strE b = false := by
        cases hE : strE b with
        | false => rfl
        | true =>
          unfold strE at hE
          unfold ownA at hB
          rw [of_decide_eq_true hE] at hB
          revert hB; decide
      have e1 : qdd ⟨4, a, b, c, sep, n, val0⟩ = [wJoin, a.data.toList, b.data.toList, qP sep.data.toList, c.data.toList] := by unfold qdd dotE sepL; simp [hE]
      rw [e1]
      refine ⟨by simp [w4, wa, wb, wc, hq], ?_⟩
      simp [readL, readW, o4, ha, hb, hc, hsp, huq, hN]
    · obtain ⟨⟨⟨⟨hB, hC⟩, hS⟩, hV⟩, hk0, hk3, hk⟩ := h
      obtain rfl := qdz hB
      obtain rfl := qdz hC
      obtain rfl := qdz hS
      have hvs := vparse_show hV hv
      have htn := typeOf_name hk0 hk3
      have e1 : qdd ⟨5, a, ⟨#[]⟩, ⟨#[]⟩, ⟨#[]⟩, n, v⟩ = [qby, a.data.toList, qbc n, showL v] := rfl
      rw [e1]
      refine ⟨by simp [w5, wa, hs, ht], ?_⟩
      simp [readL, readW, o5, ha, hvs, e0, htn]
    · obtain ⟨⟨⟨⟨hB, hC⟩, hS⟩, hV⟩, -⟩ := h
      obtain rfl := qdz hC
      obtain rfl := qdz hS
      obtain rfl := val0_eq hV
      cases hE : strE b with
      | true =>
        obtain rfl := qdz hE
        have e1 : qdd ⟨6, a, ⟨#[]⟩, ⟨#[]⟩, ⟨#[]⟩, n, val0⟩ = [qcu, a.data.toList, itoa n] := by unfold qdd dotE; simp [hE]
        rw [e1]
        refine ⟨by simp [w6, wa, hd], ?_⟩
        simp [readL, readW, o6, ha, hip, e0]
      | false =>
        rw [hE] at hB
        have wb := qfe (by simpa using hB)
        have e1 : qdd ⟨6, a, b, ⟨#[]⟩, ⟨#[]⟩, n, val0⟩ = [qcu, a.data.toList, itoa n, b.data.toList] := by unfold qdd dotE; simp [hE]
        rw [e1]
        refine ⟨by simp [w6, wa, hd, wb], ?_⟩
        simp [readL, readW, o6, ha, hb, hip]
  · exact .inr hi
theorem read_line {x : Lens} (h : qv x = true) (hn : i64 x.n) (hv : i64 x.value.n) : readP (lineL x) = x ∧ ∀ b ∈ lineL x, b ≠ 10 := by
  rcases right_words h with ⟨h1, h2⟩ | h1
  · have hne : qdd x ≠ [] := by
      unfold qdd
      repeat' split
      all_goals simp
    refine ⟨?_, ?_⟩
    · unfold readP qea
      rw [line_words, wG_spJ _ hne fun w hw => (h1 w hw).wrd]
      exact h2
    · rw [line_words]
      exact spJ_lf _ fun w hw => (h1 w hw).lf
  · exact absurd ⟨hn, hv⟩ h1
theorem lnK_line : ∀ (w r : List UInt8), (∀ b ∈ w, b ≠ 10) → lnK (w ++ 10 :: r) = (w ++ [10]) :: lnK r
  | [], r, _ => by rw [List.nil_append, lnK, if_pos rfl]; rfl
  | b :: w, r, h => by
    rw [List.cons_append, lnK, if_neg (h b (by simp)), lnK_line w r fun c hc => h c (by simp [hc])]
    rfl
theorem trim_lf (w : List UInt8) : Lib.trimSuffix (w ++ [10]) [10] = w := by
  unfold Lib.trimSuffix Lib.hasSuffix
  simp
theorem steps_lines : ∀ (l : List Lens), (∀ x ∈ l, qv x = true ∧ i64 x.n ∧ i64 x.value.n) → qbk (qr l) = l
  | [], _ => rfl
  | x :: l, h => by
    obtain ⟨h1, h2, h3⟩ := h x (by simp)
    obtain ⟨g1, g2⟩ := read_line h1 h2 h3
    have e : qr (x :: l) = lineL x ++ 10 :: qr l := by unfold qr; rw [List.flatMap_cons]; simp
    have ih := steps_lines l fun y hy => h y (by simp [hy])
    unfold qbk at ih ⊢
    rw [e, lnK_line _ _ g2, List.map_cons, ih]
    congr 1
    unfold lnR
    rw [trim_lf, g1]
theorem lparse_print {l : List Lens} (h : ∀ x ∈ l, qv x = true ∧ i64 x.n ∧ i64 x.value.n) : qbo (qbh l) = (l, true) := by
  have hall : l.all qv = true := List.all_eq_true.2 fun x hx => (h x hx).1
  have e : qbh l = qr l := by unfold qbh; rw [if_pos hall]
  unfold qbo
  rw [e, steps_lines l h, if_pos e]
end Go.Proofs.YtbkkjlcclddpdaaGreatDoor
