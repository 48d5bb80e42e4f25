/- Walk of lens.backward. -/
import Derived.Test.YtbkkjlcclddpdaaGreatDoorGc12
import Derived.Test.YtbkkjlcclddpdaaGreatDoorGc19
import Derived.Test.YtbkkjlcclddpdaaGreatDoorGc28
import Derived.Test.YtbkkjlcclddpdaaGreatDoorGc29
set_option linter.unusedSimpArgs false
set_option linter.unusedVariables false
namespace Go.Proofs.YtbkkjlcclddpdaaGreatDoor
open Go.RowKit Go.Lib
set_option maxRecDepth 4000 in
set_option maxHeartbeats 4000000 in
theorem bck_op0 (x : Lens) (cols : List Col) (row : List Val) (hx : qbp x) (hc : cols.length ≤ 100) (hr0 : 1 ≤ row.length) (hr : row.length ≤ 100) (ho : x.op = 0) (R : List Val) (hR : bckP x cols row = R) : Gives Tryz.prog 65 [x.av, .sl (cols.map Col.av), .sl (row.map Val.av)] (.sl (R.map Val.av)) := by
  have c2 := qu cols x.a (by omega)
  have c3 := qcc row hr0 hr
  have c5 := qu cols x.b (by omega)
  have hln : (row.map Val.av).length = row.length := by simp
  have d0 : (x.op == 0) = true := by rw [ho]; rfl
  have d1 : (x.op == 1) = false := beq_eq_false_iff_ne.2 (by omega)
  have d2 : (x.op == 2) = false := beq_eq_false_iff_ne.2 (by omega)
  have d3 : (x.op == 3) = false := beq_eq_false_iff_ne.2 (by omega)
  have d4 : (x.op == 4) = false := beq_eq_false_iff_ne.2 (by omega)
  have d5 : (x.op == 5) = false := beq_eq_false_iff_ne.2 (by omega)
  have d6 : (x.op == 6) = false := beq_eq_false_iff_ne.2 (by omega)
  unfold bckP at hR
  dsimp only at hR
  rw [if_pos ho] at hR
  have h1 : ((row.length : Int) - 1).toNat = row.length - 1 := by omega
  have h4 : (1 : Int) ≤ row.length := by omega
  have h5 : 1 ≤ row.length := hr0
  refine qj Tryz.func65 Tryz.ntmps65 fun σ n0 hcl hft => ?_
  repeat' (first | ((first | ((with_reducible refine qf (fun hg => ?_) (fun hg => ?_)) <;> (try simp only [hg]) <;> (try simp only [gS] at hg) <;> (try (first | simp only [eq_false hg, gI] | simp only [eq_true hg, gI]))) | refine Stp.m ?_ | refine qbd c3 ?_ | refine ql ?_ | refine agH ?_) <;> (try simp (disch := first | omega | simp) [qd, -qg, -qm, d0, d1, d2, d3, d4, d5, d6])) | with_reducible refine qbb (id := 4) ?_ | refine sideA ?_ | refine qc fun K hK => ?_ | refine qa ?_ | refine qe ?_ | refine qb ?_ | (refine hK _ ?_; clear hK K) | clear hK K)
  refine ⟨qq 8 1 (k := row.length) (by simp) (by rfl) (by simp) ?_⟩
  repeat' (first | ((first | ((with_reducible refine qf (fun hg => ?_) (fun hg => ?_)) <;> (try simp only [hg]) <;> (try simp only [gS] at hg) <;> (try (first | simp only [eq_false hg, gI] | simp only [eq_true hg, gI]))) | refine Stp.m ?_) <;> (try simp (disch := first | omega | simp) [qd, -qg, -qm, h1, h4, h5, qcy, List.map_take])) | refine sideA ?_ | refine qc fun K hK => ?_ | refine qa ?_ | refine qe ?_ | refine qb ?_ | (refine hK _ ?_; clear hK K) | clear hK K)
  rw [← hR]; simp [List.dropLast_eq_take, List.map_take]
set_option maxRecDepth 4000 in
set_option maxHeartbeats 4000000 in
theorem bck_op1 (x : Lens) (cols : List Col) (row : List Val) (hx : qbp x) (hc : cols.length ≤ 100) (hr0 : 1 ≤ row.length) (hr : row.length ≤ 100) (ho : x.op = 1) (i : Nat) (hi1 : findP cols x.a.toList = i) (hi2 : i ≤ row.length) (R : List Val) (hR : bckP x cols row = R) : Gives Tryz.prog 65 [x.av, .sl (cols.map Col.av), .sl (row.map Val.av)] (.sl (R.map Val.av)) := by
  have c2 := qu cols x.a (by omega)
  have c3 := qcc row hr0 hr
  have c5 := qu cols x.b (by omega)
  have hln : (row.map Val.av).length = row.length := by simp
  rw [hi1] at c2
  have h1 : ((i : Int)).toNat = i := by omega
  have e1 : (findP cols x.a.toList).toNat = i := by omega
  have d0 : (x.op == 0) = false := beq_eq_false_iff_ne.2 (by omega)
  have d1 : (x.op == 1) = true := by rw [ho]; rfl
  have d2 : (x.op == 2) = false := beq_eq_false_iff_ne.2 (by omega)
  have d3 : (x.op == 3) = false := beq_eq_false_iff_ne.2 (by omega)
  have d4 : (x.op == 4) = false := beq_eq_false_iff_ne.2 (by omega)
  have d5 : (x.op == 5) = false := beq_eq_false_iff_ne.2 (by omega)
  have d6 : (x.op == 6) = false := beq_eq_false_iff_ne.2 (by omega)
  unfold bckP at hR
  simp only [e1] at hR
  rw [if_neg (by omega), if_pos ho] at hR
  have c7 : ∀ (σ : Nat → AB) (r : Nat), σ r = .vec (row.map Val.av) 27 3 → _ := fun σ r hσ => ins_acV (row.map Val.av) ([x.value].map Val.av) i row.length 1 (by omega) (by omega) (by decide) (by simp) (by rfl) (qdi _) (qcy _) (qdi _) (qcy _) (by omega) (by omega) (fun m => by rw [← List.map_take, ← List.map_drop, ← List.map_append, ← List.map_append]; exact Val.avs_cl _ m) (σ := σ) (r := r) hσ
  refine qj Tryz.func65 Tryz.ntmps65 fun σ n0 hcl hft => ?_
  repeat' (first | ((first | ((with_reducible refine qf (fun hg => ?_) (fun hg => ?_)) <;> (try simp only [hg]) <;> (try simp only [gS] at hg) <;> (try (first | simp only [eq_false hg, gI] | simp only [eq_true hg, gI]))) | refine Stp.m ?_ | refine qbd c3 ?_ | refine qfm (n0 + 1) _ (c7 _ _ (by simp)) (by simp) ?_ | refine ql ?_ | refine agH ?_) <;> (try simp (disch := first | omega | simp) [qd, -qg, -qm, d0, d1, d2, d3, d4, d5, d6, h1])) | refine sideA ?_ | refine qc fun K hK => ?_ | refine qa ?_ | refine qe ?_ | refine qb ?_ | (refine hK _ ?_; clear hK K) | clear hK K)
  rw [← hR]; simp
set_option maxRecDepth 4000 in
set_option maxHeartbeats 4000000 in
theorem bck_op2 (x : Lens) (cols : List Col) (row : List Val) (hx : qbp x) (hc : cols.length ≤ 100) (hr0 : 1 ≤ row.length) (hr : row.length ≤ 100) (ho : x.op = 2) : Gives Tryz.prog 65 [x.av, .sl (cols.map Col.av), .sl (row.map Val.av)] (.sl (row.map Val.av)) := by
  have c2 := qu cols x.a (by omega)
  have c3 := qcc row hr0 hr
  have c5 := qu cols x.b (by omega)
  have hln : (row.map Val.av).length = row.length := by simp
  have d0 : (x.op == 0) = false := beq_eq_false_iff_ne.2 (by omega)
  have d1 : (x.op == 1) = false := beq_eq_false_iff_ne.2 (by omega)
  have d2 : (x.op == 2) = true := by rw [ho]; rfl
  have d3 : (x.op == 3) = false := beq_eq_false_iff_ne.2 (by omega)
  have d4 : (x.op == 4) = false := beq_eq_false_iff_ne.2 (by omega)
  have d5 : (x.op == 5) = false := beq_eq_false_iff_ne.2 (by omega)
  have d6 : (x.op == 6) = false := beq_eq_false_iff_ne.2 (by omega)
  refine qj Tryz.func65 Tryz.ntmps65 fun σ n0 hcl hft => ?_
  repeat' (first | ((first | with_reducible refine qz ?_ | ((with_reducible refine qf (fun hg => ?_) (fun hg => ?_)) <;> (try simp only [hg]) <;> (try simp only [gS] at hg) <;> (try (first | simp only [eq_false hg, gI] | simp only [eq_true hg, gI]))) | refine Stp.m ?_ | refine qbd c3 ?_ | refine ql ?_ | refine agH ?_) <;> (try simp (disch := first | omega | simp) [qd, -qg, -qm, d0, d1, d2, d3, d4, d5, d6])) | refine sideA ?_ | refine qc fun K hK => ?_ | refine qa ?_ | refine qe ?_ | refine qb ?_ | (refine hK _ ?_; clear hK K) | clear hK K)
  refine ⟨qq 6 1 (k := row.length) (by simp) (by rfl) (by simp) ?_⟩
  repeat' (first | ((first | ((with_reducible refine qf (fun hg => ?_) (fun hg => ?_)) <;> (try simp only [hg]) <;> (try simp only [gS] at hg) <;> (try (first | simp only [eq_false hg, gI] | simp only [eq_true hg, gI]))) | refine Stp.m ?_) <;> (try simp (disch := first | omega | simp) [qd, -qg, -qm])) | refine sideA ?_ | refine qc fun K hK => ?_ | refine qa ?_ | refine qe ?_ | refine qb ?_ | (refine hK _ ?_; clear hK K) | clear hK K)
set_option maxRecDepth 4000 in
set_option maxHeartbeats 4000000 in
theorem bck_op3 (x : Lens) (cols : List Col) (row : List Val) (hx : qbp x) (hc : cols.length ≤ 100) (hr0 : 1 ≤ row.length) (hr : row.length ≤ 100) (ho : x.op = 3) (i : Nat) (hi1 : findP cols x.a.toList = i) (hi2 : i < row.length) (hi3 : i + 1 < row.length) (hs : row[i].s.size + x.sep.size + row[i + 1].s.size ≤ 1000000) (R : List Val) (hR : bckP x cols row = R) : Gives Tryz.prog 65 [x.av, .sl (cols.map Col.av), .sl (row.map Val.av)] (.sl (R.map Val.av)) := by
  have c2 := qu cols x.a (by omega)
  have c3 := qcc row hr0 hr
  have c5 := qu cols x.b (by omega)
  have hln : (row.map Val.av).length = row.length := by simp
  rw [hi1] at c2
  have h1 : ((i : Int)).toNat = i := by omega
  have h2 : ((i : Int) + 1).toNat = i + 1 := by omega
  have hvi := qcr hi2
  have e1 : (findP cols x.a.toList).toNat = i := by omega
  have hvj := qcr hi3
  have h3 : ((i : Int) + 2).toNat = i + 2 := by omega
  have d0 : (x.op == 0) = false := beq_eq_false_iff_ne.2 (by omega)
  have d1 : (x.op == 1) = false := beq_eq_false_iff_ne.2 (by omega)
  have d2 : (x.op == 2) = false := beq_eq_false_iff_ne.2 (by omega)
  have d3 : (x.op == 3) = true := by rw [ho]; rfl
  have d4 : (x.op == 4) = false := beq_eq_false_iff_ne.2 (by omega)
  have d5 : (x.op == 5) = false := beq_eq_false_iff_ne.2 (by omega)
  have d6 : (x.op == 6) = false := beq_eq_false_iff_ne.2 (by omega)
  unfold bckP at hR
  simp only [e1] at hR
  rw [if_neg (by omega), if_neg (by omega), if_pos ho] at hR
  rw [hvi, hvj] at hR
  by_cases he : row[i + 1].s.toList = []
  · rw [if_pos he, List.append_nil] at hR
    have he2 : row[i + 1].s.toList.isEmpty = true := by rw [he]; rfl
    have c6 := lcut_g row[i].s (by omega)
    generalize hA : cutV row[i].s.data.toList = A at *
    have c7 : ∀ (σ : Nat → AB) (r : Nat), σ r = .vec (row.map Val.av) 27 3 → _ := fun σ r hσ => rep_acV (row.map Val.av) ([A].map Val.av) i (i + 2) row.length 1 (by omega) (by omega) (by decide) hln (by rfl) (qdi row) (qcy row) (qdi _) (qcy _) (by omega) (by omega) (fun m => by rw [← List.map_take, ← List.map_drop, ← List.map_append, ← List.map_append]; exact Val.avs_cl _ m) (σ := σ) (r := r) hσ
    refine qj Tryz.func65 Tryz.ntmps65 fun σ n0 hcl hft => ?_
    repeat' (first | ((first | ((with_reducible refine qf (fun hg => ?_) (fun hg => ?_)) <;> (try simp only [hg]) <;> (try simp only [gS] at hg) <;> (try (first | simp only [eq_false hg, gI] | simp only [eq_true hg, gI]))) | refine Stp.m ?_ | refine qbd c3 ?_ | refine qfm (n0 + 1) _ (c7 _ _ (by simp)) (by simp) ?_ | refine ql ?_ | refine agH ?_) <;> (try simp (disch := first | omega | simp) [qd, -qg, -qm, d0, d1, d2, d3, d4, d5, d6, h1, h2, h3, hi2, hi3, he2])) | refine sideA ?_ | refine qc fun K hK => ?_ | refine qa ?_ | refine qe ?_ | refine qb ?_ | (refine hK _ ?_; clear hK K) | clear hK K)
    rw [← hR]; simp
  · rw [if_neg he] at hR
    have he2 : row[i + 1].s.toList.isEmpty = false := List.isEmpty_eq_false_iff.2 he
    have c6 := lcut_g (row[i].s ++ (x.sep ++ row[i + 1].s)) (by rw [ByteArray.size_append, ByteArray.size_append]; omega)
    have hd : (row[i].s ++ (x.sep ++ row[i + 1].s)).data.toList = row[i].s.data.toList ++ (x.sep.data.toList ++ row[i + 1].s.data.toList) := by simp
    rw [hd] at c6
    generalize hA : cutV (row[i].s.data.toList ++ (x.sep.data.toList ++ row[i + 1].s.data.toList)) = A at *
    have c7 : ∀ (σ : Nat → AB) (r : Nat), σ r = .vec (row.map Val.av) 27 3 → _ := fun σ r hσ => rep_acV (row.map Val.av) ([A].map Val.av) i (i + 2) row.length 1 (by omega) (by omega) (by decide) hln (by rfl) (qdi row) (qcy row) (qdi _) (qcy _) (by omega) (by omega) (fun m => by rw [← List.map_take, ← List.map_drop, ← List.map_append, ← List.map_append]; exact Val.avs_cl _ m) (σ := σ) (r := r) hσ
    refine qj Tryz.func65 Tryz.ntmps65 fun σ n0 hcl hft => ?_
    repeat' (first | ((first | ((with_reducible refine qf (fun hg => ?_) (fun hg => ?_)) <;> (try simp only [hg]) <;> (try simp only [gS] at hg) <;> (try (first | simp only [eq_false hg, gI] | simp only [eq_true hg, gI]))) | refine Stp.m ?_ | refine qbd c3 ?_ | refine qfm (n0 + 1) _ (c7 _ _ (by simp)) (by simp) ?_ | refine ql ?_ | refine agH ?_) <;> (try simp (disch := first | omega | simp) [qd, -qg, -qm, d0, d1, d2, d3, d4, d5, d6, h1, h2, h3, hi2, hi3, he2])) | refine sideA ?_ | refine qc fun K hK => ?_ | refine qa ?_ | refine qe ?_ | refine qb ?_ | (refine hK _ ?_; clear hK K) | clear hK K)
    rw [← hR]; simp
set_option maxRecDepth 4000 in
set_option maxHeartbeats 4000000 in
theorem bck_op4 (x : Lens) (cols : List Col) (row : List Val) (hx : qbp x) (hc : cols.length ≤ 100) (hr0 : 1 ≤ row.length) (hr : row.length ≤ 100) (ho : x.op = 4) (i k a : Nat) (hi1 : findP cols x.a.toList = i) (hk1 : findP cols x.b.toList = k) (hk2 : k ≤ row.length) (ha : a = if k < i then i - 1 else i) (hai : a < row.length) (hs : row[a].s.size < 4294967281) (R : List Val) (hR : bckP x cols row = R) : Gives Tryz.prog 65 [x.av, .sl (cols.map Col.av), .sl (row.map Val.av)] (.sl (R.map Val.av)) := by
  have c2 := qu cols x.a (by omega)
  have c3 := qcc row hr0 hr
  have c5 := qu cols x.b (by omega)
  have hln : (row.map Val.av).length = row.length := by simp
  rw [hi1] at c2
  rw [hk1] at c5
  have e1 : (findP cols x.a.toList).toNat = i := by omega
  have e2 : (findP cols x.b.toList).toNat = k := by omega
  have h3 : ((k : Int)).toNat = k := by omega
  have h1 : ((a : Int)).toNat = a := by omega
  have hva := qcr hai
  have d0 : (x.op == 0) = false := beq_eq_false_iff_ne.2 (by omega)
  have d1 : (x.op == 1) = false := beq_eq_false_iff_ne.2 (by omega)
  have d2 : (x.op == 2) = false := beq_eq_false_iff_ne.2 (by omega)
  have d3 : (x.op == 3) = false := beq_eq_false_iff_ne.2 (by omega)
  have d4 : (x.op == 4) = true := by rw [ho]; rfl
  have d5 : (x.op == 5) = false := beq_eq_false_iff_ne.2 (by omega)
  have d6 : (x.op == 6) = false := beq_eq_false_iff_ne.2 (by omega)
  unfold bckP at hR
  simp only [e1, e2] at hR
  rw [if_neg (by omega), if_neg (by omega), if_neg (by omega), if_pos ho] at hR
  rw [← ha, hva] at hR
  have c6 := lsplit_g row[a].s x.sep hs
  generalize hA : (splitV row[a].s.data.toList x.sep.data.toList).1 = A at *
  generalize hB : (splitV row[a].s.data.toList x.sep.data.toList).2 = B at *
  have c7 : ∀ (σ : Nat → AB) (r : Nat), σ r = .vec ((row.map Val.av).set a A.av) 27 3 → _ := fun σ r hσ => ins_acV ((row.map Val.av).set a A.av) ([B].map Val.av) k row.length 1 (by omega) (by omega) (by decide) (by simp) (by rfl) (by rw [qbn]; exact qdi _) (by rw [qbn]; exact qcy _) (qdi _) (qcy _) (by omega) (by omega) (fun m => by rw [qbn, ← List.map_take, ← List.map_drop, ← List.map_append, ← List.map_append]; exact Val.avs_cl _ m) (σ := σ) (r := r) hσ
  by_cases hki : k < i
  · rw [if_pos hki] at ha
    have hki' : (k : Int) < i := by omega
    have hai' : (i : Int) - 1 = a := by omega
    refine qj Tryz.func65 Tryz.ntmps65 fun σ n0 hcl hft => ?_
    repeat' (first | ((first | ((with_reducible refine qf (fun hg => ?_) (fun hg => ?_)) <;> (try simp only [hg]) <;> (try simp only [gS] at hg) <;> (try (first | simp only [eq_false hg, gI] | simp only [eq_true hg, gI]))) | refine Stp.m ?_ | refine qbd c3 ?_ | refine qfm (n0 + 1) _ (c7 _ _ (by simp)) (by simp) ?_ | refine ql ?_ | refine agH ?_) <;> (try simp (disch := first | omega | simp) [qd, -qg, -qm, d0, d1, d2, d3, d4, d5, d6, h1, h3, hai, hki', hai'])) | with_reducible refine qbq (id := 17) [.cells [.int x.op, .str x.a, .str x.b, .str x.c, .str x.sep, .int x.n, .int x.value.k, .int x.value.n, .str x.value.s] 29, .vec (row.map Val.av) 27 3] [.R, .R, .R, .R, .R, .R, .R, .M, .R, .R, .R, .M, .M, .W, .W] (by kernel_rfl) (by kernel_rfl) (by simp) ?_ | refine sideA ?_ | refine qc fun K hK => ?_ | refine qa ?_ | refine qe ?_ | refine qb ?_ | (refine hK _ ?_; clear hK K) | clear hK K)
    rw [← hR, qbn]; simp
  · rw [if_neg hki] at ha
    subst ha
    have hki' : ¬ (k : Int) < a := by omega
    refine qj Tryz.func65 Tryz.ntmps65 fun σ n0 hcl hft => ?_
    repeat' (first | ((first | ((with_reducible refine qf (fun hg => ?_) (fun hg => ?_)) <;> (try simp only [hg]) <;> (try simp only [gS] at hg) <;> (try (first | simp only [eq_false hg, gI] | simp only [eq_true hg, gI]))) | refine Stp.m ?_ | refine qbd c3 ?_ | refine qfm (n0 + 1) _ (c7 _ _ (by simp)) (by simp) ?_ | refine ql ?_ | refine agH ?_) <;> (try simp (disch := first | omega | simp) [qd, -qg, -qm, d0, d1, d2, d3, d4, d5, d6, h1, h3, hai, hki'])) | with_reducible refine qbq (id := 17) [.cells [.int x.op, .str x.a, .str x.b, .str x.c, .str x.sep, .int x.n, .int x.value.k, .int x.value.n, .str x.value.s] 29, .vec (row.map Val.av) 27 3] [.R, .R, .R, .R, .R, .R, .R, .M, .R, .R, .R, .M, .M, .W, .W] (by kernel_rfl) (by kernel_rfl) (by simp) ?_ | refine sideA ?_ | refine qc fun K hK => ?_ | refine qa ?_ | refine qe ?_ | refine qb ?_ | (refine hK _ ?_; clear hK K) | clear hK K)
    rw [← hR, qbn]; simp
set_option maxRecDepth 4000 in
set_option maxHeartbeats 4000000 in
theorem bck_op5 (x : Lens) (cols : List Col) (row : List Val) (hx : qbp x) (hc : cols.length ≤ 100) (hr0 : 1 ≤ row.length) (hr : row.length ≤ 100) (ho : x.op = 5) (i : Nat) (hi1 : findP cols x.a.toList = i) (hi2 : i < row.length) (hic : i < cols.length) (hn : i64 row[i].n) (hs : row[i].s.size ≤ 1000000) (R : List Val) (hR : bckP x cols row = R) : Gives Tryz.prog 65 [x.av, .sl (cols.map Col.av), .sl (row.map Val.av)] (.sl (R.map Val.av)) := by
  have c2 := qu cols x.a (by omega)
  have c3 := qcc row hr0 hr
  have c5 := qu cols x.b (by omega)
  have hln : (row.map Val.av).length = row.length := by simp
  rw [hi1] at c2
  have h1 : ((i : Int)).toNat = i := by omega
  have h2 : ((i : Int) + 1).toNat = i + 1 := by omega
  have hvi := qcr hi2
  have e1 : (findP cols x.a.toList).toNat = i := by omega
  have hci := qcw hic
  have d0 : (x.op == 0) = false := beq_eq_false_iff_ne.2 (by omega)
  have d1 : (x.op == 1) = false := beq_eq_false_iff_ne.2 (by omega)
  have d2 : (x.op == 2) = false := beq_eq_false_iff_ne.2 (by omega)
  have d3 : (x.op == 3) = false := beq_eq_false_iff_ne.2 (by omega)
  have d4 : (x.op == 4) = false := beq_eq_false_iff_ne.2 (by omega)
  have d5 : (x.op == 5) = true := by rw [ho]; rfl
  have d6 : (x.op == 6) = false := beq_eq_false_iff_ne.2 (by omega)
  unfold bckP at hR
  simp only [e1] at hR
  rw [if_neg (by omega), if_neg (by omega), if_neg (by omega), if_neg (by omega), if_pos ho] at hR
  rw [hvi, hci] at hR
  have c8 := vzero_g cols[i].type
  have c6 := conv_g row[i] cols[i].type ⟨cols[i].type, 0, ⟨#[]⟩⟩ hn hs
  generalize hA : convP row[i] cols[i].type ⟨cols[i].type, 0, ⟨#[]⟩⟩ = A at *
  refine qj Tryz.func65 Tryz.ntmps65 fun σ n0 hcl hft => ?_
  repeat' (first | ((first | with_reducible refine qz ?_ | ((with_reducible refine qf (fun hg => ?_) (fun hg => ?_)) <;> (try simp only [hg]) <;> (try simp only [gS] at hg) <;> (try (first | simp only [eq_false hg, gI] | simp only [eq_true hg, gI]))) | refine Stp.m ?_ | refine qbd c3 ?_ | refine ql ?_ | refine agH ?_) <;> (try simp (disch := first | omega | simp) [qd, -qg, -qm, d0, d1, d2, d3, d4, d5, d6, h1, h2, hi2, hic])) | with_reducible refine awp_anyF (id := 21) [.cells [.int x.op, .str x.a, .str x.b, .str x.c, .str x.sep, .int x.n, .int x.value.k, .int x.value.n, .str x.value.s] 29, .unborn] 1 [.R, .R, .R, .R, .R, .R, .R, .R, .R, .R, .R, .R, .R, .R, .R, .R, .M, .M, .N, .W] (by kernel_rfl) (by kernel_rfl) (by simp) ?_ | refine sideA ?_ | refine qc fun K hK => ?_ | refine qa ?_ | refine qe ?_ | refine qb ?_ | (refine hK _ ?_; clear hK K) | clear hK K)
  refine ⟨qq 6 1 (k := row.length) (by simp) (by rfl) (by simp) ?_⟩
  repeat' (first | ((first | ((with_reducible refine qf (fun hg => ?_) (fun hg => ?_)) <;> (try simp only [hg]) <;> (try simp only [gS] at hg) <;> (try (first | simp only [eq_false hg, gI] | simp only [eq_true hg, gI]))) | refine Stp.m ?_) <;> (try simp (disch := first | omega | simp) [qd, -qg, -qm])) | refine sideA ?_ | refine qc fun K hK => ?_ | refine qa ?_ | refine qe ?_ | refine qb ?_ | (refine hK _ ?_; clear hK K) | clear hK K)
  rw [← hR, qbn]
set_option maxRecDepth 4000 in
set_option maxHeartbeats 4000000 in
theorem bck_op6 (x : Lens) (cols : List Col) (row : List Val) (hx : qbp x) (hc : cols.length ≤ 100) (hr0 : 1 ≤ row.length) (hr : row.length ≤ 100) (ho : x.op = 6) (i : Nat) (hi1 : findP cols x.a.toList = i) (hi2 : i < row.length) (hn0 : x.n ≠ 0) (R : List Val) (hR : bckP x cols row = R) : Gives Tryz.prog 65 [x.av, .sl (cols.map Col.av), .sl (row.map Val.av)] (.sl (R.map Val.av)) := by
  have c2 := qu cols x.a (by omega)
  have c3 := qcc row hr0 hr
  have c5 := qu cols x.b (by omega)
  have hln : (row.map Val.av).length = row.length := by simp
  rw [hi1] at c2
  have h1 : ((i : Int)).toNat = i := by omega
  have h2 : ((i : Int) + 1).toNat = i + 1 := by omega
  have hvi := qcr hi2
  have e1 : (findP cols x.a.toList).toNat = i := by omega
  have d0 : (x.op == 0) = false := beq_eq_false_iff_ne.2 (by omega)
  have d1 : (x.op == 1) = false := beq_eq_false_iff_ne.2 (by omega)
  have d2 : (x.op == 2) = false := beq_eq_false_iff_ne.2 (by omega)
  have d3 : (x.op == 3) = false := beq_eq_false_iff_ne.2 (by omega)
  have d4 : (x.op == 4) = false := beq_eq_false_iff_ne.2 (by omega)
  have d5 : (x.op == 5) = false := beq_eq_false_iff_ne.2 (by omega)
  have d6 : (x.op == 6) = true := by rw [ho]; rfl
  unfold bckP at hR
  simp only [e1] at hR
  rw [if_neg (by omega), if_neg (by omega), if_neg (by omega), if_neg (by omega), if_neg (by omega), if_pos ho] at hR
  rw [hvi] at hR
  have c6 := qdb (IntKind.i64.wrap (row[i].n.tdiv x.n))
  refine qj Tryz.func65 Tryz.ntmps65 fun σ n0 hcl hft => ?_
  repeat' (first | ((first | with_reducible refine qz ?_ | ((with_reducible refine qf (fun hg => ?_) (fun hg => ?_)) <;> (try simp only [hg]) <;> (try simp only [gS] at hg) <;> (try (first | simp only [eq_false hg, gI] | simp only [eq_true hg, gI]))) | refine Stp.m ?_ | refine qbd c3 ?_ | refine ql ?_ | refine agH ?_) <;> (try simp (disch := first | omega | simp) [qd, -qg, -qm, d0, d1, d2, d3, d4, d5, d6, h1, h2, hi2, hn0])) | with_reducible refine awp_anyF (id := 23) [.cells [.int x.op, .str x.a, .str x.b, .str x.c, .str x.sep, .int x.n, .int x.value.k, .int x.value.n, .str x.value.s] 29, .unborn] 1 [.R, .R, .R, .R, .R, .R, .R, .R, .R, .R, .M, .N, .W] (by kernel_rfl) (by kernel_rfl) (by simp) ?_ | refine sideA ?_ | refine qc fun K hK => ?_ | refine qa ?_ | refine qe ?_ | refine qb ?_ | (refine hK _ ?_; clear hK K) | clear hK K)
  refine ⟨qq 6 1 (k := row.length) (by simp) (by rfl) (by simp) ?_⟩
  repeat' (first | ((first | ((with_reducible refine qf (fun hg => ?_) (fun hg => ?_)) <;> (try simp only [hg]) <;> (try simp only [gS] at hg) <;> (try (first | simp only [eq_false hg, gI] | simp only [eq_true hg, gI]))) | refine Stp.m ?_) <;> (try simp (disch := first | omega | simp) [qd, -qg, -qm])) | refine sideA ?_ | refine qc fun K hK => ?_ | refine qa ?_ | refine qe ?_ | refine qb ?_ | (refine hK _ ?_; clear hK K) | clear hK K)
  rw [← hR]; exact qbn row i ⟨0, IntKind.i64.wrap (row[i].n.tdiv x.n), ⟨#[]⟩⟩
end Go.Proofs.YtbkkjlcclddpdaaGreatDoor

/- lens.forward and lens.backward, any step that can be done. -/
namespace Go.Proofs.YtbkkjlcclddpdaaGreatDoor
open Go.RowKit Go.Lib
structure qeu (v : Val) : Prop where
  n : i64 v.n
  s : v.s.size ≤ 300000
def qci (r : List Val) : Prop := ∀ v ∈ r, qeu v
theorem i64_0 : i64 0 := ⟨by decide, by decide⟩
theorem wrap_i64' (n : Int) : i64 (IntKind.i64.wrap n) := by
  unfold i64; have := IntKind.wrap_i64 n; rw [this]; constructor <;> (try simp only [wrap64]) <;> (try split) <;> omega
theorem smallV_int {n : Int} (h : i64 n) : qeu ⟨0, n, ⟨#[]⟩⟩ := ⟨h, by show 0 ≤ 300000; omega⟩
theorem qdp (s : List UInt8) : qeu (cutV s) := ⟨i64_0, by show (qh (s.take 200)).size ≤ _; rw [qk, List.length_take]; omega⟩
theorem smallV_bit (b : Bool) : qeu (bitV b) := ⟨by cases b <;> exact ⟨by decide, by decide⟩, by show 0 ≤ 300000; omega⟩
theorem smallV_conv {v o : Val} {t : Int} (hv : qeu v) (ho : qeu o) : qeu (convP v t o) := by
  unfold convP
  repeat' split
  all_goals first | exact qdp _ | exact smallV_bit _ | exact smallV_int hv.n | exact ho | skip
  rename_i n hn
  exact smallV_int (qfb.1 hn).1
theorem qca {r : List Val} (h : qci r) {i : Nat} (hi : i < r.length) : qeu r[i] := h _ (List.getElem_mem hi)
theorem qeg {r : List Val} (h : qci r) {v : Val} (hv : qeu v) (i : Nat) : qci (r.set i v) := fun u hu => by
  rcases List.mem_or_eq_of_mem_set hu with h1 | rfl
  · exact h u h1
  · exact hv
theorem smallR_erase {r : List Val} (h : qci r) (i : Nat) : qci (r.eraseIdx i) := fun u hu => h u (List.mem_of_mem_eraseIdx hu)
theorem qex {r : List Val} (h : qci r) (i : Nat) : qci (r.take i) := fun u hu => h u (List.mem_of_mem_take hu)
theorem qgl {r : List Val} (h : qci r) (i : Nat) : qci (r.drop i) := fun u hu => h u (List.mem_of_mem_drop hu)
theorem qcp {r q : List Val} (h : qci r) (h2 : qci q) : qci (r ++ q) := fun u hu => (List.mem_append.1 hu).elim (h u) (h2 u)
theorem qet {v : Val} (h : qeu v) : qci [v] := fun u hu => by rw [List.mem_singleton] at hu; subst hu; exact h
theorem smallR_two {v u : Val} (h : qeu v) (h2 : qeu u) : qci [v, u] := qcp (qet h) (qet h2)
structure qfk (x : Lens) : Prop where
  l : qbp x
  v : qeu x.value
theorem fwd_g {x : Lens} {L : List Col} {row : List Val} (hx : qfk x) (h0 : 1 ≤ L.length) (h1 : L.length ≤ 12) (h : StepOk x L) (hlen : row.length = L.length) (hr : qci row) :
    Gives Tryz.prog 59 [x.av, .sl (L.map Col.av), .sl (row.map Val.av)] (.sl ((fwdP x L row).map Val.av)) := by
  cases h
  case add ho ha hn hl hR hu hv => exact fwd_op0 x L row hx.l (by omega) (by omega) (by omega) ho _ rfl
  case drop i hi ho h hk hl hR hv => exact fwd_op1 x L row hx.l (by omega) (by omega) (by omega) ho i h.find (by omega) _ rfl
  case rename i hi ho h hb hb2 hR =>
    have e : fwdP x L row = row := by unfold fwdP; simp only [ho]; rfl
    rw [e]
    exact fwd_op2 x L row hx.l (by omega) (by omega) (by omega) ho
  case split i hi ho h hk hb hc hs hbc hb2 hc2 hl hR => exact fwd_op3 x L row hx.l (by omega) (by omega) (by omega) ho i h.find (by omega) (by have := (qca hr (i := i) (by omega)).s; omega) _ rfl
  case join i k hi hk ho h hkf hkn hik ti tk hc hs hc2 hR => exact fwd_op4 x L row hx.l (by omega) (by omega) (by omega) ho i h.find (by omega) k hkf (by omega) (by have := (qca hr (i := i) (by omega)).s; have := (qca hr (i := k) (by omega)).s; omega) _ rfl
  case retype i hi ho h hn0 hn3 hv hk ht hR => exact fwd_op5 x L row hx.l (by omega) (by omega) (by omega) ho i h.find (by omega) (qca hr _).n (by have := (qca hr (i := i) (by omega)).s; omega) _ rfl
  case scale i hi ho h ht hn hu hR => exact fwd_op6 x L row hx.l (by omega) (by omega) (by omega) ho i h.find (by omega) _ rfl
theorem bck_g {x : Lens} {L : List Col} {row : List Val} (hx : qfk x) (h0 : 1 ≤ L.length) (h1 : L.length ≤ 12) (h : StepOk x L) (hlen : row.length = (oneP x L).1.length) (hr : qci row) :
    Gives Tryz.prog 65 [x.av, .sl (L.map Col.av), .sl (row.map Val.av)] (.sl ((bckP x L row).map Val.av)) := by
  obtain ⟨g0, g1, g3, g4, g2⟩ := step_len h
  cases h
  case add ho ha hn hl hR hu hv => have := g0 ho; exact bck_op0 x L row hx.l (by omega) (by omega) (by omega) ho _ rfl
  case drop i hi ho h hk hl hR hv => have := g1 ho; exact bck_op1 x L row hx.l (by omega) (by omega) (by omega) ho i h.find (by omega) _ rfl
  case rename i hi ho h hb hb2 hR =>
    have e : bckP x L row = row := by unfold bckP; simp only [ho]; rfl
    have := g2 (.inl ho)
    rw [e]
    exact bck_op2 x L row hx.l (by omega) (by omega) (by omega) ho
  case split i hi ho h hk hb hc hs hbc hb2 hc2 hl hR => have := g3 ho; exact bck_op3 x L row hx.l (by omega) (by omega) (by omega) ho i h.find (by omega) (by omega) (by have := (qca hr (i := i) (by omega)).s; have := (qca hr (i := i + 1) (by omega)).s; omega) _ rfl
  case join i k hi hk ho h hkf hkn hik ti tk hc hs hc2 hR =>
    have := g4 ho
    exact bck_op4 x L row hx.l (by omega) (by omega) (by omega) ho i k (if k < i then i - 1 else i) h.find hkf (by omega) rfl (by split <;> omega) (by have := (qca hr (i := if k < i then i - 1 else i) (by split <;> omega)).s; omega) _ rfl
  case retype i hi ho h hn0 hn3 hv hk ht hR => have := g2 (.inr (.inl ho)); exact bck_op5 x L row hx.l (by omega) (by omega) (by omega) ho i h.find (by omega) hi (qca hr _).n (by have := (qca hr (i := i) (by omega)).s; omega) _ rfl
  case scale i hi ho h ht hn hu hR => have := g2 (.inr (.inr ho)); exact bck_op6 x L row hx.l (by omega) (by omega) (by omega) ho i h.find (by omega) hn _ rfl
theorem fwd_len {x : Lens} {L : List Col} {row : List Val} (h : StepOk x L) (hlen : row.length = L.length) : (fwdP x L row).length = (oneP x L).1.length := by
  obtain ⟨g0, g1, g3, g4, g2⟩ := step_len h
  cases h
  case add ho ha hn hl hR hu hv => have := g0 ho; simp only [fwdP, ho]; simp; omega
  case drop i hi ho h hk hl hR hv => have := g1 ho; have := h.find; simp only [fwdP, ho, this, if_pos, if_neg, reduceIte, Int.reduceEq, Int.toNat_natCast]; rw [List.length_eraseIdx_of_lt (by omega)]; omega
  case rename i hi ho h hb hb2 hR => have := g2 (.inl ho); simp only [fwdP, ho]; simp; omega
  case split i hi ho h hk hb hc hs hbc hb2 hc2 hl hR => have := g3 ho; have := h.find; simp only [fwdP, ho, this, if_pos, if_neg, reduceIte, Int.reduceEq, Int.toNat_natCast]; simp; omega
  case join i k hi hk ho h hkf hkn hik ti tk hc hs hc2 hR => have := g4 ho; have := h.find; simp only [fwdP, ho, this, hkf, if_pos, if_neg, reduceIte, Int.reduceEq, Int.toNat_natCast]; rw [List.length_eraseIdx_of_lt (by rw [List.length_set]; omega), List.length_set]; omega
  case retype i hi ho h hn0 hn3 hv hk ht hR => have := g2 (.inr (.inl ho)); simp only [fwdP, ho]; simp; omega
  case scale i hi ho h ht hn hu hR => have := g2 (.inr (.inr ho)); simp only [fwdP, ho]; simp; omega
theorem bck_len {x : Lens} {L : List Col} {row : List Val} (h : StepOk x L) (hlen : row.length = (oneP x L).1.length) : (bckP x L row).length = L.length := by
  obtain ⟨g0, g1, g3, g4, g2⟩ := step_len h
  cases h
  case add ho ha hn hl hR hu hv => have := g0 ho; simp only [bckP, ho]; simp; omega
  case drop i hi ho h hk hl hR hv => have := g1 ho; have := h.find; simp only [bckP, ho, this, if_pos, if_neg, reduceIte, Int.reduceEq, Int.toNat_natCast]; simp; omega
  case rename i hi ho h hb hb2 hR => have := g2 (.inl ho); simp only [bckP, ho]; simp; omega
  case split i hi ho h hk hb hc hs hbc hb2 hc2 hl hR => have := g3 ho; have := h.find; simp only [bckP, ho, this, if_pos, if_neg, reduceIte, Int.reduceEq, Int.toNat_natCast]; simp; omega
  case join i k hi hk ho h hkf hkn hik ti tk hc hs hc2 hR => have := g4 ho; have := h.find; simp only [bckP, ho, this, hkf, if_pos, if_neg, reduceIte, Int.reduceEq, Int.toNat_natCast]; simp; omega
  case retype i hi ho h hn0 hn3 hv hk ht hR => have := g2 (.inr (.inl ho)); simp only [bckP, ho]; simp; omega
  case scale i hi ho h ht hn hu hR => have := g2 (.inr (.inr ho)); simp only [bckP, ho]; simp; omega
theorem fwd_small {x : Lens} {L : List Col} {row : List Val} (hx : qfk x) (h : StepOk x L) (hlen : row.length = L.length) (hr : qci row) : qci (fwdP x L row) := by
  have hv : ∀ i, i < row.length → qeu (valAt row i) := fun i hi => by rw [qcr hi]; exact qca hr hi
  cases h
  case add ho ha hn hl hR hu hv => simp only [fwdP, ho]; exact qcp hr (qet hx.v)
  case drop i hi ho h hk hl hR hv => simp only [fwdP, ho]; exact smallR_erase hr _
  case rename i hi ho h hb hb2 hR => simp only [fwdP, ho]; exact hr
  case split i hi ho h hk hb hc hs hbc hb2 hc2 hl hR => simp only [fwdP, ho]; exact qcp (qcp (qex hr _) (smallR_two (qdp _) (qdp _))) (qgl hr _)
  case join i k hi hk ho h hkf hkn hik ti tk hc hs hc2 hR => simp only [fwdP, ho]; exact smallR_erase (qeg hr (qdp _) _) _
  case retype i hi ho h hn0 hn3 hv2 hk ht hR => simp only [fwdP, ho, h.find]; exact qeg hr (smallV_conv (hv _ (by simp; omega)) hx.v) _
  case scale i hi ho h ht hn hu hR => simp only [fwdP, ho]; exact qeg hr (smallV_int (wrap_i64' _)) _
theorem bck_small {x : Lens} {L : List Col} {row : List Val} (hx : qfk x) (h : StepOk x L) (hlen : row.length = (oneP x L).1.length) (hr : qci row) : qci (bckP x L row) := by
  obtain ⟨g0, g1, g3, g4, g2⟩ := step_len h
  have hv : ∀ i, i < row.length → qeu (valAt row i) := fun i hi => by rw [qcr hi]; exact qca hr hi
  cases h
  case add ho ha hn hl hR hu hv => simp only [bckP, ho]; exact qex hr _
  case drop i hi ho h hk hl hR hv => simp only [bckP, ho]; exact qcp (qcp (qex hr _) (qet hx.v)) (qgl hr _)
  case rename i hi ho h hb hb2 hR => simp only [bckP, ho]; exact hr
  case split i hi ho h hk hb hc hs hbc hb2 hc2 hl hR => simp only [bckP, ho]; exact qcp (qcp (qex hr _) (qet (qdp _))) (qgl hr _)
  case join i k hi hk ho h hkf hkn hik ti tk hc hs hc2 hR => simp only [bckP, ho]; exact qcp (qcp (qex (qeg hr (qdp _) _) _) (qet (qdp _))) (qgl (qeg hr (qdp _) _) _)
  case retype i hi ho h hn0 hn3 hv2 hk ht hR => have := g2 (.inr (.inl ho)); simp only [bckP, ho, h.find]; exact qeg hr (smallV_conv (hv _ (by simp; omega)) ⟨i64_0, by show 0 ≤ 300000; omega⟩) _
  case scale i hi ho h ht hn hu hR => simp only [bckP, ho]; exact qeg hr (smallV_int (wrap_i64' _)) _
end Go.Proofs.YtbkkjlcclddpdaaGreatDoor

/- Shapes before each step: step by step. -/
namespace Go.Proofs.YtbkkjlcclddpdaaGreatDoor
open Go.RowKit Go.Lib
def shAt (ss : List (List Col)) (k : Nat) : List Col := ss.getD k []
theorem shAt_eq {ss : List (List Col)} {k : Nat} (h : k < ss.length) : shAt ss k = ss[k] := by unfold shAt; rw [List.getD_eq_getElem?_getD, List.getElem?_eq_getElem h]; rfl
theorem shAt_succ (ss : List (List Col)) (k : Nat) : shAt ss.tail k = shAt ss (k + 1) := by cases ss <;> rfl
theorem shAt_0 (ss : List (List Col)) : ss.headD [] = shAt ss 0 := by cases ss <;> rfl
structure Chain (l : List Lens) (ss : List (List Col)) : Prop where
  len : ss.length = l.length + 1
  sz : ∀ k, k ≤ l.length → 1 ≤ (shAt ss k).length ∧ (shAt ss k).length ≤ 12
  ok : ∀ k (h : k < l.length), StepOk l[k] (shAt ss k) ∧ (oneP l[k] (shAt ss k)).1 = shAt ss (k + 1)
theorem shapes_at : ∀ {l : List Lens} {cols : List Col} {ss : List (List Col)}, qn l cols = (ss, 0) → shAt ss 0 = cols ∧ ∀ k (h : k < l.length), StepOk l[k] (shAt ss k) ∧ (oneP l[k] (shAt ss k)).1 = shAt ss (k + 1)
  | [], cols, ss, h => by
    rw [qn] at h
    cases h
    exact ⟨rfl, fun k h => absurd h (Nat.not_lt_zero _)⟩
  | y :: l, cols, ss, h => by
    rw [qn] at h
    split at h
    · exact absurd (Prod.mk.inj h).2 (by assumption)
    · split at h
      · exact absurd (Prod.mk.inj h).2 (by assumption)
      · rename_i h1 h2
        have h1' : (oneP y cols).2 = 0 := Classical.byContradiction h1
        have h2' : (qn l (oneP y cols).1).2 = 0 := Classical.byContradiction h2
        cases h
        obtain ⟨e0, e1⟩ := shapes_at (l := l) (cols := (oneP y cols).1) (ss := (qn l (oneP y cols).1).1) (by rw [← h2'])
        refine ⟨rfl, fun k hk => ?_⟩
        cases k with
        | zero => exact ⟨step_ok h1', e0.symm⟩
        | succ k => exact e1 k (by simpa using hk)
theorem chain_of {l : List Lens} {cols : List Col} {ss : List (List Col)} (h : qn l cols = (ss, 0)) (h0 : 1 ≤ cols.length) (h1 : cols.length ≤ 12) : Chain l ss ∧ shAt ss 0 = cols := by
  obtain ⟨e1, e2⟩ := shapes_len h
  obtain ⟨e3, e4⟩ := shapes_at h
  exact ⟨⟨e1, fun k hk => e2 h0 h1 _ (by rw [shAt_eq (by omega)]; exact List.getElem_mem _), e4⟩, e3⟩
theorem fwdAll_snoc (x : Lens) : ∀ (l : List Lens) (ss : List (List Col)) (row : List Val), fwdAll (l ++ [x]) ss row = fwdP x (shAt ss l.length) (fwdAll l ss row)
  | [], ss, row => by show fwdP x (ss.headD []) row = _; rw [shAt_0]; rfl
  | y :: l, ss, row => by
    show fwdAll (l ++ [x]) ss.tail (fwdP y (ss.headD []) row) = _
    rw [fwdAll_snoc x l, shAt_succ]; rfl
def fwdK (l : List Lens) (ss : List (List Col)) (row : List Val) (k : Nat) : List Val := fwdAll (l.take k) ss row
theorem fwdK_succ {l : List Lens} {ss : List (List Col)} {row : List Val} {k : Nat} (h : k < l.length) : fwdK l ss row (k + 1) = fwdP l[k] (shAt ss k) (fwdK l ss row k) := by
  unfold fwdK
  rw [List.take_succ_eq_append_getElem h, fwdAll_snoc, List.length_take, Nat.min_eq_left (by omega)]
theorem fwdK_all (l : List Lens) (ss : List (List Col)) (row : List Val) : fwdK l ss row l.length = fwdAll l ss row := by unfold fwdK; rw [List.take_length]
theorem fwdK_ok {l : List Lens} {ss : List (List Col)} {row : List Val} (hc : Chain l ss) (hl : ∀ x ∈ l, qfk x) (hr : qci row) (hlen : row.length = (shAt ss 0).length) : ∀ k, k ≤ l.length → (fwdK l ss row k).length = (shAt ss k).length ∧ qci (fwdK l ss row k)
  | 0, _ => ⟨hlen, hr⟩
  | k + 1, hk => by
    obtain ⟨h1, h2⟩ := fwdK_ok hc hl hr hlen k (by omega)
    obtain ⟨h3, h4⟩ := hc.ok k hk
    rw [fwdK_succ hk]
    exact ⟨by rw [fwd_len h3 h1, h4], fwd_small (hl _ (List.getElem_mem hk)) h3 h1 h2⟩
theorem bckAll_cons (x : Lens) (l : List Lens) (ss : List (List Col)) (row : List Val) : bckAll (x :: l) ss row = bckP x (shAt ss 0) (bckAll l ss.tail row) := by rw [bckAll, shAt_0]
def bckK (l : List Lens) (ss : List (List Col)) (row : List Val) (k : Nat) : List Val := bckAll (l.drop k) (ss.drop k) row
theorem bckK_pred {l : List Lens} {ss : List (List Col)} {row : List Val} {k : Nat} (h : k < l.length) : bckK l ss row k = bckP l[k] (shAt ss k) (bckK l ss row (k + 1)) := by
  unfold bckK
  rw [List.drop_eq_getElem_cons h, bckAll_cons]
  have e : shAt (ss.drop k) 0 = shAt ss k := by unfold shAt; rw [List.getD_eq_getElem?_getD, List.getElem?_drop, Nat.add_zero, ← List.getD_eq_getElem?_getD]
  rw [e, List.tail_drop]
theorem bckK_end (l : List Lens) (ss : List (List Col)) (row : List Val) : bckK l ss row l.length = row := by unfold bckK; rw [List.drop_length]; rfl
theorem bckK_ok {l : List Lens} {ss : List (List Col)} {row : List Val} (hc : Chain l ss) (hl : ∀ x ∈ l, qfk x) (hr : qci row) (hlen : row.length = (shAt ss l.length).length) : ∀ j k, k + j = l.length → (bckK l ss row k).length = (shAt ss k).length ∧ qci (bckK l ss row k)
  | 0, k, hk => by
    obtain rfl : k = l.length := by omega
    rw [bckK_end]; exact ⟨hlen, hr⟩
  | j + 1, k, hk => by
    obtain ⟨h1, h2⟩ := bckK_ok hc hl hr hlen j (k + 1) (by omega)
    obtain ⟨h3, h4⟩ := hc.ok k (by omega)
    rw [bckK_pred (by omega)]
    rw [← h4] at h1
    exact ⟨bck_len h3 h1, bck_small (hl _ (List.getElem_mem _)) h3 h1 h2⟩
theorem vals_ne {row : List Val} (h : 1 ≤ row.length) : row.map Val.av ≠ [] := by intro e; rw [List.map_eq_nil_iff] at e; subst e; simp at h
theorem cloR (row : List Val) (h : 1 ≤ row.length) (h1 : row.length ≤ 1000000) : Gives Tryz.prog 58 [.sl (row.map Val.av)] (.sl (row.map Val.av)) :=
  cloVg (row.map Val.av) (vals_ne h) (by simpa using h1) (Val.avs_wid row) (Val.avs_elms row) (fun m => Val.avs_cl row m)
end Go.Proofs.YtbkkjlcclddpdaaGreatDoor

/- Walk of lens.Forward. -/
namespace Go.Proofs.YtbkkjlcclddpdaaGreatDoor
open Go.RowKit Go.Lib
set_option maxHeartbeats 4000000 in
theorem forward_g {l : List Lens} {cols : List Col} {ss : List (List Col)} {row : List Val} (hs : qbi l cols = (ss, 0)) (hl : ∀ x ∈ l, qfk x) (h0 : 1 ≤ cols.length) (h1 : cols.length ≤ 12) (hr : qci row) (hlen : row.length = cols.length) (R : List Val) (hR : fwdAll l ss row = R) :
    Gives Tryz.prog 25 [.sl (l.map Lens.av), .sl (cols.map Col.av), .sl (row.map Val.av)] (.sl (R.map Val.av)) := by
  have hL : l.length ≤ 60 := by
    unfold qbi at hs
    by_cases h : 60 < l.length
    · rw [if_pos h] at hs; exact absurd (Prod.mk.inj hs).2 (by decide)
    · omega
  have hs' : qn l cols = (ss, 0) := by rw [qbi, if_neg (by omega)] at hs; exact hs
  obtain ⟨hc, hc0⟩ := chain_of hs' h0 h1
  have hk := fwdK_ok hc hl hr (by rw [hc0]; exact hlen)
  have c1 := shapes_g l cols (fun x hx => (hl x hx).l) (by omega) h0 h1
  rw [hs] at c1
  have c2 := cloR row (by omega) (by omega)
  have hsl := hc.len
  refine qj Tryz.func25 Tryz.ntmps25 fun σ n0 hcl hft => ?_
  repeat' (first | ((first | ((with_reducible refine qf (fun hg => ?_) (fun hg => ?_)) <;> (try simp only [hg]) <;> (try simp only [gS] at hg) <;> (try (first | simp only [eq_false hg, gI] | simp only [eq_true hg, gI]))) | refine Stp.m ?_ | refine ql ?_ | refine agH ?_) <;> (try simp (disch := first | omega | simp) [qd, -qg, -qm])) | refine sideA ?_ | refine qc fun K hK => ?_ | refine qa ?_ | refine qe ?_ | refine qb ?_ | (refine hK _ ?_; clear hK K) | clear hK K)
  refine qw hcl (fun k : Nat => [(7, .sl (ss.map qcz)), (9, .sl ((fwdK l ss row k).map Val.av)), (20, .sl (l.map Lens.av)), (21, .int l.length), (22, .int k)]) (fun k => [])
    (fun k => k ≤ l.length) (fun k => l.length - k) 0 (by omega) (by simp [fwdK, fwdAll]) fun k hkl => ?_
  by_cases hlt : k < l.length
  · obtain ⟨g1, g2⟩ := hk k hkl
    obtain ⟨g3, g4⟩ := hc.ok k hlt
    have hks : k < ss.length := by omega
    obtain ⟨g5, g6⟩ := hc.sz k hkl
    have c3 := fwd_g (hl _ (List.getElem_mem hlt)) g5 g6 g3 g1 g2
    rw [← fwdK_succ hlt, shAt_eq hks] at c3
    repeat' (first | ((first | ((with_reducible refine qf (fun hg => ?_) (fun hg => ?_)) <;> (try simp only [hg]) <;> (try simp only [gS] at hg) <;> (try (first | simp only [eq_false hg, gI] | simp only [eq_true hg, gI]))) | refine Stp.m ?_ | refine ql ?_ | refine agH ?_) <;> (try simp (disch := first | omega | simp) [qd, -qg, -qm, hlt, hks, qcz])) | refine sideA ?_ | refine qc fun K hK => ?_ | refine qa ?_ | refine qe ?_ | refine qb ?_ | (refine hK _ ?_; clear hK K) | clear hK K)
    exact ⟨k + 1, by omega, by omega, by simp⟩
  · obtain rfl : k = l.length := by omega
    repeat' (first | ((first | ((with_reducible refine qf (fun hg => ?_) (fun hg => ?_)) <;> (try simp only [hg]) <;> (try simp only [gS] at hg) <;> (try (first | simp only [eq_false hg, gI] | simp only [eq_true hg, gI]))) | refine Stp.m ?_) <;> (try simp (disch := first | omega | simp) [qd, -qg, -qm, hlt])) | refine sideA ?_ | refine qc fun K hK => ?_ | refine qa ?_ | refine qe ?_ | refine qb ?_ | (refine hK _ ?_; clear hK K) | clear hK K)
    rw [fwdK_all, hR]
end Go.Proofs.YtbkkjlcclddpdaaGreatDoor

/- Values of array types: built, and looked into; regions that draw their order (as anyF). -/
namespace Go.Proofs.YtbkkjlcclddpdaaGreatDoor
open Go.RowKit Go.Lib
def ainfo (P : Program) (t : TypeId) : Option (Nat × Nat × List AV) :=
  match P.underlying t with
  | some (.array n e) => match P.info? e, zl P t with
    | some i, some cs => some (n, i.size, cs)
    | _, _ => none
  | _ => none
theorem ainfo_spec {P : Program} {t : TypeId} {n sz : Nat} {cs : List AV} (h : ainfo P t = some (n, sz, cs)) : ∃ e i, P.underlying t = some (.array n e) ∧ P.info? e = some i ∧ i.size = sz ∧ zl P t = some cs := by
  unfold ainfo at h
  split at h
  · rename_i n' e hu
    split at h
    · rename_i i cs' hi hz; cases h; exact ⟨e, i, hu, hi, rfl, hz⟩
    · cases h
  · cases h
theorem fill_congr {p1 p2 : Nat → Option (Nat × Nat)} : ∀ {l : List (Nat × Value)} {cells : Array Value} {c : Array Value}, (∀ q ∈ l, p1 q.1 ≠ none → p2 q.1 = p1 q.1) → Instr.fill p1 cells l = some c → Instr.fill p2 cells l = some c
  | [], _, _, _, h => h
  | (i, v) :: l, cells, c, hp, h => by
    rw [Instr.fill] at h ⊢
    cases h1 : p1 i with
    | none => rw [h1] at h; cases h
    | some q =>
      have h2 := hp (i, v) (by simp) (by simp [h1])
      simp only at h2
      rw [h2, h1]
      rw [h1] at h
      dsimp only at h ⊢
      split at h
      · cases h
      · rename_i hn; rw [if_neg hn]; exact fill_congr (fun q hq => hp q (by simp [hq])) h
section
variable {P : Program} {ev : Operand → AV} {σ : Nat → AB}
theorem fop_buildA {t : TypeId} {ps : List (Nat × Operand)} {n sz : Nat} {cs out : List AV} (ht : ainfo P t = some (n, sz, cs)) (hb : bld ((List.range n).map fun i => (i * sz, sz)) (ps.map fun p => (p.1, ev p.2)) cs = some out) :
    FOp P ev σ (.build t ps.toArray) (.agg out) none := FOp.of fun X a oper hop hS hsub hev => by
  obtain ⟨e, i, hu, hi, rfl, hz⟩ := ainfo_spec ht
  obtain ⟨z, hzi, h1, rfl⟩ := zl_spec hz
  obtain ⟨c, h2, h3⟩ := bld_run (X := X) (vs := ps.map fun p => (p.1, a.eval p.2)) (cells := z.cells) (by simp) (fun j p q hj hq => by
    rw [List.getElem?_map] at hj hq
    cases hp : ps[j]? with
    | none => rw [hp] at hj; cases hj
    | some p0 =>
      rw [hp] at hj hq
      cases hj; cases hq
      exact hev _ (by simp [Op.operands]; exact ⟨_, List.mem_of_getElem? hp⟩)) (zcells h1) hb
  refine ⟨.agg c, ?_, c.toList, rfl, h3⟩
  have h4 : Instr.fill (fun k => some (k * i.size, i.size)) z.cells (ps.map fun p => (p.1, a.eval p.2)) = some c := by
    refine fill_congr (fun q _ hq => ?_) h2
    by_cases hlt : q.1 < n
    · simp [hlt]
    · exfalso; apply hq; simp; omega
  unfold zinfo at hzi
  cases hti : P.info? t with
  | none => rw [hti] at hzi; cases hzi
  | some ti =>
    rw [hti] at hzi
    have hz' : ti.zero = some z := hzi
    simp [execOp, hop, Instr.build, zeroValue, typeInfo, hti, hz', underlying, hu, sizeOf, hi, h4]
theorem fop_indexV {t e : TypeId} {x y : Operand} {n sz : Nat} {l : List AV} {ik : IntKind} {k : Int} {ag : Bool} {z : AV} (hu : P.underlying t = some (.array n e)) (ht : tinfo P e = some (ag, sz)) (hx : ev x = .agg l) (hy : ev y = .v (.int ik k)) (h0 : 0 ≤ k) (h1 : k < n) (hz : qdl ag sz l (k.toNat * sz) = some z) :
    FOp P ev σ (.index t x y) z none := FOp.of fun X a oper ho hS hsub hev => by
  have h := hev x (by simp [Op.operands])
  have hy2 := hev y (by simp [Op.operands])
  rw [hx] at h; rw [hy, RR.v] at hy2
  obtain ⟨vs, hv, hr⟩ := h
  obtain ⟨h3, h4⟩ := qbu ht X.w
  unfold qdl at hz
  cases ag with
  | true =>
    rw [if_pos rfl] at hz
    split at hz
    · cases hz
      refine ⟨.agg ((vs.drop (k.toNat * sz)).take sz).toArray, ?_, ?_⟩
      · simp [execOp, ho, hv, hy2, Instr.index, asIntOf, underlying, hu, h0, h1, part, h3, h4]
      · exact ⟨_, rfl, (hr.drop _).take sz⟩
    · cases hz
  | false =>
    rw [if_neg (by simp)] at hz
    obtain ⟨v, hv2, h5, hrv⟩ := hr.get hz
    refine ⟨v, ?_, RR.of_one h5 hrv⟩
    simp [execOp, ho, hv, hy2, Instr.index, asIntOf, underlying, hu, h0, h1, part, h3, h4, hv2]
end
def aevFV (P : Program) (s : AS) (o : Op) (K : AV → Option AB → Prop) : Prop :=
  match o with
  | .build t ⟨ps⟩ => match ainfo P t with
    | some (n, sz, cs) => match bld ((List.range n).map fun i => (i * sz, sz)) (ps.map fun p => (p.1, s.eval p.2)) cs with
      | some out => K (.agg out) none
      | none => False
    | none => aevF P s (.build t ⟨ps⟩) K
  | .index t x y => match P.underlying t with
    | some (.array n e) => match tinfo P e, s.eval x, s.eval y with
      | some (ag, sz), .agg l, .v (.int _ k) => 0 ≤ k ∧ k < n ∧ (match qdl ag sz l (k.toNat * sz) with
        | some z => K z none
        | none => False)
      | _, _, _ => False
    | _ => aevF P s (.index t x y) K
  | o => aevF P s o K
theorem aevFV_sound {P : Program} {s : AS} {o : Op} {K : AV → Option AB → Prop} (h : aevFV P s o K) : ∃ x nb, FOp P s.eval s.st o x (nb.map (s.nx, ·)) ∧ K x nb := by
  unfold aevFV at h
  split at h
  · split at h
    · split at h
      · exact ⟨_, none, fop_buildA ‹_› ‹_›, h⟩
      · exact h.elim
    · exact qbz h
  · split at h
    · split at h
      · obtain ⟨h1, h2, h⟩ := h
        split at h
        · exact ⟨_, none, fop_indexV ‹_› ‹_› ‹_› ‹_› h1 h2 ‹_›, h⟩
        · exact h.elim
      · exact h.elim
    · exact qbz h
  · exact qbz h
attribute [simp] aevFV
section
variable {P : Program}
def anyV (P : Program) (ops : Array Oper) (m : List AB) (j : Nat) (K : AS → Prop) : List Oper → List RK → AS → Prop
  | [], _, s => K s
  | o :: l, ks, s => match awant ops o s.t with
    | some b => qbv b (match ks.headD .R with
      | .R => aevFV P (s.seen m) o.op (fun x nb => nb = none ∧ dstOk o.dst s.n ∧ anyV P ops m j K l ks.tail (s.put o.dst x))
      | .N => aevF P (s.eyeO j) o.op (fun x nb => nb = none ∧ dstOk o.dst s.n ∧ anyV P ops m j K l ks.tail (s.put o.dst x))
      | .M => aevM4 P s o.op (fun x nb => j < s.L.length ∧ dstOk o.dst s.n ∧ anyV P ops m j K l ks.tail ((s.ext nb).put o.dst x))
      | .A => aevW4 P s o.op (fun x s1 => s1.L.getD j .unborn = s.L.getD j .unborn ∧ dstOk o.dst s.n ∧ qck m s1.L ∧ s1.σ = s.σ ∧ anyV P ops m j K l ks.tail (s1.put o.dst x))
      | .W => aevW4 P s o.op (fun x s1 => dstOk o.dst s.n ∧ qck m s1.L ∧ s1.σ = s.σ ∧ anyV P ops m j K l ks.tail (s1.put o.dst x))) (dstOk o.dst s.n ∧ anyV P ops m j K l ks.tail (s.put o.dst (.v undef)))
    | none => False
theorem anyV_steps {ops : Array Oper} {m : List AB} {j : Nat} {σ0 : Nat → AB} {n0 : Nat} {K : AS → Prop} : ∀ (l : List Oper) (ks : List RK) (s : AS), s.n0 = n0 → s.σ = σ0 → (∀ r, loc σ0 n0 m r ≠ .unborn → s.st r = loc σ0 n0 m r) → anyV P ops m j K l ks s →
    ∃ st s1 xs bs nbs, AnyRaw4 P ops l ks st s1 xs bs nbs (loc σ0 n0 m) (n0 + j) ∧ st 0 = s ∧ K (st l.length)
  | [], ks, s, hn0, hs0, hke, h => by
    refine ⟨fun _ => s, fun _ => s, fun _ => .any, fun _ => true, fun _ => none, ⟨fun r hr j _ => hke r hr, fun _ hi => absurd hi (Nat.not_lt_zero _), ?_, ?_, ?_, ?_, ?_, ?_, ?_, ?_, ?_⟩, rfl, h⟩ <;> (intro i o ho; simp at ho)
  | o :: l, ks, s, hn0, hs0, hke, h => by
    have key : ∀ (x : AV) (b : Bool) (nb : Option AB) (s1 : AS), awant ops o s.t = some b → dstOk o.dst s.n → (s1.t = s.t ∧ s1.n = s.n ∧ s1.n0 = s.n0) → s1.σ = s.σ → (ks.headD .R ≠ .W → s1.st (n0 + j) = s.st (n0 + j)) → (b = false → x = .v undef ∧ s1 = s ∧ nb = none) →
        (b = true → ks.headD .R = .R → FOp2 P s.eval (loc σ0 n0 m) o.op x none ∧ s1 = s ∧ nb = none) → (b = true → ks.headD .R = .N → FOp2 P s.eval (only (n0 + j) s.st) o.op x none ∧ s1 = s ∧ nb = none) → (b = true → ks.headD .R = .M → FOp2 P s.eval s.st o.op x (nb.map (s.nx, ·)) ∧ s1 = s.ext nb) →
        (b = true → (ks.headD .R).base = .W → WOp P s.eval s.st o.op x s1.st ∧ nb = none) → (∀ r, loc σ0 n0 m r ≠ .unborn → s1.st r = loc σ0 n0 m r) → anyV P ops m j K l ks.tail (s1.put o.dst x) →
        ∃ st s1 xs bs nbs, AnyRaw4 P ops (o :: l) ks st s1 xs bs nbs (loc σ0 n0 m) (n0 + j) ∧ st 0 = s ∧ K (st (o :: l).length) := by
      intro x b nb s1 hw hd hsame hss heye hskip hR hN hM hW hke1 hrest
      have hput : (s1.put o.dst x).σ = s1.σ := by cases o.dst <;> rfl
      obtain ⟨st, s1', xs, bs, nbs, hs, h0, hK⟩ := anyV_steps (n0 := n0) (σ0 := σ0) l ks.tail _ (by rw [(qdx s1 o.dst x).2.2.2, hsame.2.2]; exact hn0) (by rw [hput, hss]; exact hs0) (fun r hr => by rw [(qdx s1 o.dst x).1]; exact hke1 r hr) hrest
      have hks : ∀ i, ks.getD (i + 1) .R = ks.tail.getD i .R := fun i => by cases ks <;> simp
      have hk0 : ks.getD 0 .R = ks.headD .R := by cases ks <;> simp
      refine ⟨fun i => match i with | 0 => s | i + 1 => st i, fun i => match i with | 0 => s1 | i + 1 => s1' i, fun i => match i with | 0 => x | i + 1 => xs i, fun i => match i with | 0 => b | i + 1 => bs i, fun i => match i with | 0 => nb | i + 1 => nbs i, ⟨fun r hr j hj => (match j with | 0 => hke r hr | j + 1 => hs.kept r hr j (by simpa using hj)), fun i hi hk => ?_, ?_, ?_, ?_, ?_, ?_, ?_, ?_, ?_, ?_⟩, rfl, hK⟩
      · cases i with
        | zero => rw [hk0] at hk; show (st 0).st _ = s.st _; rw [h0, (qdx s1 o.dst x).1]; exact heye hk
        | succ i => rw [hks] at hk; exact hs.eye i (by simpa using hi) hk
      all_goals (intro i o' ho; cases i)
      · simp at ho; subst ho; exact hw
      · exact hs.want _ o' (by simpa using ho)
      · simp at ho; subst ho; exact hd
      · exact hs.dst _ o' (by simpa using ho)
      · simp at ho; subst ho; exact h0
      · exact hs.next _ o' (by simpa using ho)
      · simp at ho; subst ho; exact hsame
      · exact hs.same _ o' (by simpa using ho)
      · simp at ho; subst ho; exact hskip
      · exact hs.skip _ o' (by simpa using ho)
      · simp at ho; subst ho; rw [hk0]; exact hR
      · rw [hks]; exact hs.opR _ o' (by simpa using ho)
      · simp at ho; subst ho; rw [hk0]; exact hN
      · rw [hks]; exact hs.opN _ o' (by simpa using ho)
      · simp at ho; subst ho; rw [hk0]; exact hM
      · rw [hks]; exact hs.opM _ o' (by simpa using ho)
      · simp at ho; subst ho; rw [hk0]; exact hW
      · rw [hks]; exact hs.opW _ o' (by simpa using ho)
    rw [anyV] at h
    split at h
    · rename_i bb hw
      cases bb with
      | true =>
        replace h := h.1 rfl
        split at h
        · rename_i hk
          obtain ⟨x, nb, h1, rfl, h2, h3⟩ := aevFV_sound h
          have e : (s.seen m).st = loc σ0 n0 m := by show loc s.σ s.n0 m = _; rw [hs0, hn0]
          rw [e] at h1
          exact key x true none s hw h2 ⟨rfl, rfl, rfl⟩ rfl (fun _ => rfl) (fun e => by cases e) (fun _ _ => ⟨h1.two, rfl, rfl⟩) (fun _ e => by rw [hk] at e; cases e) (fun _ e => by rw [hk] at e; cases e) (fun _ e => by rw [hk] at e; cases e) hke h3
        · rename_i hk
          obtain ⟨x, nb, h1, rfl, h2, h3⟩ := qbz h
          rw [eyeO_st, hn0] at h1
          exact key x true none s hw h2 ⟨rfl, rfl, rfl⟩ rfl (fun _ => rfl) (fun e => by cases e) (fun _ e => by rw [hk] at e; cases e) (fun _ _ => ⟨h1.two, rfl, rfl⟩) (fun _ e => by rw [hk] at e; cases e) (fun _ e => by rw [hk] at e; cases e) hke h3
        · rename_i hk
          obtain ⟨x, nb, h1, hj, h2, h3⟩ := aevM4_sound h
          refine key x true nb (s.ext nb) hw h2 (by cases nb <;> exact ⟨rfl, rfl, rfl⟩) (by cases nb <;> rfl) (fun _ => ?_) (fun e => by cases e) (fun _ e => by rw [hk] at e; cases e) (fun _ e => by rw [hk] at e; cases e) (fun _ _ => ⟨h1, rfl⟩) (fun _ e => by rw [hk] at e; cases e) (ext_keeps hke nb) h3
          cases nb with
          | none => rfl
          | some ab =>
            rw [(qem s ab).1]
            have : n0 + j ≠ s.nx := by unfold AS.nx; omega
            unfold upd; rw [if_neg this]
        · rename_i hk
          obtain ⟨x, s1, h1, h2, h7, h3, h5, h6, h4⟩ := qfv h
          exact key x true none s1 hw h3 h2 h6 (fun _ => by rw [st_own (h2.2.2.trans hn0), st_own hn0]; exact h7) (fun e => by cases e) (fun _ e => by rw [hk] at e; cases e) (fun _ e => by rw [hk] at e; cases e) (fun _ e => by rw [hk] at e; cases e) (fun _ _ => ⟨h1, rfl⟩) (kept_e (h6.trans hs0) (h2.2.2.trans hn0) h5) h4
        · rename_i hk
          obtain ⟨x, s1, h1, h2, h3, h5, h6, h4⟩ := qfv h
          exact key x true none s1 hw h3 h2 h6 (fun e => absurd hk e) (fun e => by cases e) (fun _ e => by rw [hk] at e; cases e) (fun _ e => by rw [hk] at e; cases e) (fun _ e => by rw [hk] at e; cases e) (fun _ _ => ⟨h1, rfl⟩) (kept_e (h6.trans hs0) (h2.2.2.trans hn0) h5) h4
      | false =>
        replace h := h.2 rfl
        exact key (.v undef) false none s hw h.1 ⟨rfl, rfl, rfl⟩ rfl (fun _ => rfl) (fun _ => ⟨rfl, rfl, rfl⟩) (fun e => by cases e) (fun e => by cases e) (fun e => by cases e) (fun e => by cases e) hke h.2
    · exact h.elim
theorem awp_anyV {s : AS} {id : Nat} {l : List Oper} {Q : Exit → AS → Prop} (m : List AB) (j : Nat) (ks : List RK) (hm : P.follows .mixedOrders = true) (hB : anyB l ks = true) (h0 : qck m s.L) (h : anyV P l.toArray m j (Q .normal) l ks s) : awp P (.region id l.toArray true) Q s := by
  obtain ⟨st, s1, xs, bs, nbs, hs, rfl, hK⟩ := anyV_steps l ks s rfl rfl (kept_e rfl rfl h0) h
  exact awp_any hm (anyB_ok hB) (raw_steps4 hB hs) hK
end
instance {P : Program} {ops : Array Oper} {m : List AB} {j : Nat} {K : AS → Prop} {o : Oper} {l : List Oper} {ks : List RK} {s : AS} : Stp (anyV P ops m j K (o :: l) ks s) (match awant ops o s.t with
    | some b => qbv b (match ks.headD .R with
      | .R => aevFV P (s.seen m) o.op (fun x nb => nb = none ∧ dstOk o.dst s.n ∧ anyV P ops m j K l ks.tail (s.put o.dst x))
      | .N => aevF P (s.eyeO j) o.op (fun x nb => nb = none ∧ dstOk o.dst s.n ∧ anyV P ops m j K l ks.tail (s.put o.dst x))
      | .M => aevM4 P s o.op (fun x nb => j < s.L.length ∧ dstOk o.dst s.n ∧ anyV P ops m j K l ks.tail ((s.ext nb).put o.dst x))
      | .A => aevW4 P s o.op (fun x s1 => s1.L.getD j .unborn = s.L.getD j .unborn ∧ dstOk o.dst s.n ∧ qck m s1.L ∧ s1.σ = s.σ ∧ anyV P ops m j K l ks.tail (s1.put o.dst x))
      | .W => aevW4 P s o.op (fun x s1 => dstOk o.dst s.n ∧ qck m s1.L ∧ s1.σ = s.σ ∧ anyV P ops m j K l ks.tail (s1.put o.dst x))) (dstOk o.dst s.n ∧ anyV P ops m j K l ks.tail (s.put o.dst (.v undef)))
    | none => False) := ⟨fun h => h⟩
instance {P : Program} {ops : Array Oper} {m : List AB} {j : Nat} {K : AS → Prop} {ks : List RK} {s : AS} : Stp (anyV P ops m j K [] ks s) (K s) := ⟨fun h => h⟩
instance {P : Program} {ops : Array Oper} {m : List AB} {j : Nat} {K : AS → Prop} {l : List Oper} {ks : List RK} {s : AS} : Inhabited (Tag (anyV P ops m j K l ks s)) := ⟨⟨⟩⟩
end Go.Proofs.YtbkkjlcclddpdaaGreatDoor
