/- Walk of lens.One: steps that can be done. -/
import Derived.Test.YtbkkjlcclddpdaaGreatDoorGb11
import Derived.Test.YtbkkjlcclddpdaaGreatDoorGb19
import Derived.Test.YtbkkjlcclddpdaaGreatDoorGb22
set_option linter.unusedSimpArgs false
set_option linter.unusedVariables false
namespace Go.Proofs.YtbkkjlcclddpdaaGreatDoor
open Go.RowKit Go.Lib
@[simp] theorem Col.av_keep (x : AV) (o : Nat) (v : Col) : x.keep o v.av = v.av := by
  have h := v.av_pub
  unfold Col.av at h ⊢
  exact keep_all (by simp) h x o
@[simp] theorem str_keep (x : AV) (o : Nat) (s : ByteArray) : x.keep o (.str s) = .str s := by cases x <;> simp [AV.keep, keep1]
@[simp] theorem int_keep (x : AV) (o : Nat) (n : Int) : x.keep o (.int n) = .int n := by cases x <;> simp [AV.keep, keep1]
theorem set_map (cols : List Col) (i : Nat) (c : Col) : (cols.map Col.av).set i c.av = (cols.set i c).map Col.av := List.map_set.symm
set_option maxRecDepth 4000 in
set_option maxHeartbeats 4000000 in
theorem one_op1 (x : Lens) (cols : List Col) (hx : qcc x) (hc0 : 1 ≤ cols.length) (hc : cols.length ≤ 100) (hr : qct x = true) (ho : x.op = 1) (i : Nat) (hi1 : findP cols x.a.toList = i) (hi2 : i < cols.length) (he : qdj x cols i = 0) (R : List Col) (hR : nextP x cols i (findP cols x.b.toList).toNat = R) : Gives Tryz.prog 18 [x.av, .sl (cols.map Col.av)] (.tup [.sl (R.map Col.av), .int 0]) := by
  have c1 := qfk x hx
  have c2 := qz cols x.a (by omega)
  have c3 := qgh cols hc0 hc
  have c5 := qz cols x.b (by omega)
  have c6 := qgj x cols i hi2 (by omega) (fun h => absurd h (by omega))
  rw [hr] at c1
  rw [hi1] at c2
  rw [he] at c6
  have hin : ¬ (i : Int) < 0 := by omega
  have h1 : ((i : Int)).toNat = i := by omega
  have h2 : ((i : Int) + 1).toNat = i + 1 := by omega
  have hci := qda hi2
  have hln : (cols.map Col.av).length = cols.length := by simp
  have d0 : (x.op == 0) = false := beq_eq_false_iff_ne.2 (by omega)
  have d1 : (x.op == 1) = true := by rw [ho]; rfl
  have d2 : (x.op == 2) = false := beq_eq_false_iff_ne.2 (by omega)
  have d3 : (x.op == 3) = false := beq_eq_false_iff_ne.2 (by omega)
  have d4 : (x.op == 4) = false := beq_eq_false_iff_ne.2 (by omega)
  have d5 : (x.op == 5) = false := beq_eq_false_iff_ne.2 (by omega)
  have d6 : (x.op == 6) = false := beq_eq_false_iff_ne.2 (by omega)
  have c7 : ∀ (σ : Nat → AB) (r : Nat), σ r = .vec (cols.map Col.av) 53 3 → _ := fun σ r hσ => del_acC (cols.map Col.av) i cols.length hi2 hln (raw_cols cols) (wid_cols cols) (by omega) (fun m => by rw [← qcu]; exact Col.avs_cl _ m) (σ := σ) (r := r) hσ
  unfold nextP at hR
  rw [if_pos ho] at hR
  refine qm Tryz.func18 Tryz.ntmps18 rfl rfl (by decide) rfl (by intro n; simp) fun σ n0 hcl hft => ?_
  repeat' (first | ((first | ((with_reducible refine qp (fun hg => ?_) (fun hg => ?_)) <;> (try simp only [hg]) <;> (try simp only [gS] at hg) <;> (try (first | simp only [eq_false hg, gI] | simp only [eq_true hg, gI]))) | (with_reducible first | refine qc ?_ | refine qb ?_ | refine qj ?_ | refine qi ?_) | refine acall (c1) ?_ | refine qn (c1) ?_ | refine acall (c2) ?_ | refine qn (c2) ?_ | refine acall (c6) ?_ | refine qn (c6) ?_ | refine qbk c3 ?_ | refine qfr (n0 + 1) _ (c7 _ _ (by simp)) (by simp) ?_ | refine qe ?_ | refine qk ?_ | refine qh ?_ | refine qo ?_) <;> (try simp (disch := first | omega | simp) [qg, -qq, -qu, d0, d1, d2, d3, d4, d5, d6, hin, h1, h2, List.take_succ_cons, List.drop_succ_cons])) | ((with_reducible refine sideT ?_ ?_); first | omega | assumption | (simp; done)) | (refine qf fun K hK => ?_) | (refine qa ?_) | refine ql ?_ | ((first | refine hK _ ?_ | (clear hK K; refine hK _ ?_) | (clear hK K; clear hK K; refine hK _ ?_)); clear hK K) | refine qd ?_)
  rw [← hR]; exact qcu _ _ _
set_option maxRecDepth 4000 in
set_option maxHeartbeats 4000000 in
theorem one_op2 (x : Lens) (cols : List Col) (hx : qcc x) (hc0 : 1 ≤ cols.length) (hc : cols.length ≤ 100) (hr : qct x = true) (ho : x.op = 2) (i : Nat) (hi1 : findP cols x.a.toList = i) (hi2 : i < cols.length) (he : qdj x cols i = 0) (R : List Col) (hR : nextP x cols i (findP cols x.b.toList).toNat = R) : Gives Tryz.prog 18 [x.av, .sl (cols.map Col.av)] (.tup [.sl (R.map Col.av), .int 0]) := by
  have c1 := qfk x hx
  have c2 := qz cols x.a (by omega)
  have c3 := qgh cols hc0 hc
  have c5 := qz cols x.b (by omega)
  have c6 := qgj x cols i hi2 (by omega) (fun h => absurd h (by omega))
  rw [hr] at c1
  rw [hi1] at c2
  rw [he] at c6
  have hin : ¬ (i : Int) < 0 := by omega
  have h1 : ((i : Int)).toNat = i := by omega
  have h2 : ((i : Int) + 1).toNat = i + 1 := by omega
  have hci := qda hi2
  have hln : (cols.map Col.av).length = cols.length := by simp
  have d0 : (x.op == 0) = false := beq_eq_false_iff_ne.2 (by omega)
  have d1 : (x.op == 1) = false := beq_eq_false_iff_ne.2 (by omega)
  have d2 : (x.op == 2) = true := by rw [ho]; rfl
  have d3 : (x.op == 3) = false := beq_eq_false_iff_ne.2 (by omega)
  have d4 : (x.op == 4) = false := beq_eq_false_iff_ne.2 (by omega)
  have d5 : (x.op == 5) = false := beq_eq_false_iff_ne.2 (by omega)
  have d6 : (x.op == 6) = false := beq_eq_false_iff_ne.2 (by omega)
  unfold nextP at hR
  rw [if_neg (by omega), if_pos ho, hci] at hR
  refine qm Tryz.func18 Tryz.ntmps18 rfl rfl (by decide) rfl (by intro n; simp) fun σ n0 hcl hft => ?_
  repeat' (first | ((first | ((with_reducible refine qp (fun hg => ?_) (fun hg => ?_)) <;> (try simp only [hg]) <;> (try simp only [gS] at hg) <;> (try (first | simp only [eq_false hg, gI] | simp only [eq_true hg, gI]))) | (with_reducible first | refine qbe ?_ | refine qc ?_ | refine qb ?_ | refine qj ?_ | refine qi ?_) | refine acall (c1) ?_ | refine qn (c1) ?_ | refine acall (c2) ?_ | refine qn (c2) ?_ | refine acall (c6) ?_ | refine qn (c6) ?_ | refine qbk c3 ?_ | refine qe ?_ | refine qk ?_ | refine qh ?_ | refine qo ?_) <;> (try simp (disch := first | omega | simp) [qg, -qq, -qu, d0, d1, d2, d3, d4, d5, d6, hin, h1, h2, hi2])) | ((with_reducible refine sideT ?_ ?_); first | omega | assumption | (simp; done)) | (refine qf fun K hK => ?_) | (refine qa ?_) | refine ql ?_ | ((first | refine hK _ ?_ | (clear hK K; refine hK _ ?_) | (clear hK K; clear hK K; refine hK _ ?_)); clear hK K) | refine qd ?_)
  refine ⟨qx 4 1 (k := cols.length) (by simp) (by rfl) (by simp) ?_⟩
  repeat' (first | ((first | ((with_reducible refine qp (fun hg => ?_) (fun hg => ?_)) <;> (try simp only [hg]) <;> (try simp only [gS] at hg) <;> (try (first | simp only [eq_false hg, gI] | simp only [eq_true hg, gI]))) | (with_reducible first | refine qc ?_ | refine qb ?_ | refine qj ?_ | refine qi ?_) | refine qe ?_ | refine qk ?_ | refine qh ?_ | refine qo ?_) <;> (try simp (disch := first | omega | simp) [qg, -qq, -qu])) | ((with_reducible refine sideT ?_ ?_); first | omega | assumption | (simp; done)) | (refine qf fun K hK => ?_) | (refine qa ?_) | refine ql ?_ | ((first | refine hK _ ?_ | (clear hK K; refine hK _ ?_) | (clear hK K; clear hK K; refine hK _ ?_)); clear hK K) | refine qd ?_)
  rw [← hR]; exact set_map cols i ⟨x.b, cols[i].type, cols[i].unit⟩
set_option maxRecDepth 4000 in
set_option maxHeartbeats 4000000 in
theorem one_op3 (x : Lens) (cols : List Col) (hx : qcc x) (hc0 : 1 ≤ cols.length) (hc : cols.length ≤ 100) (hr : qct x = true) (ho : x.op = 3) (i : Nat) (hi1 : findP cols x.a.toList = i) (hi2 : i < cols.length) (he : qdj x cols i = 0) (R : List Col) (hR : nextP x cols i (findP cols x.b.toList).toNat = R) : Gives Tryz.prog 18 [x.av, .sl (cols.map Col.av)] (.tup [.sl (R.map Col.av), .int 0]) := by
  have c1 := qfk x hx
  have c2 := qz cols x.a (by omega)
  have c3 := qgh cols hc0 hc
  have c5 := qz cols x.b (by omega)
  have c6 := qgj x cols i hi2 (by omega) (fun h => absurd h (by omega))
  rw [hr] at c1
  rw [hi1] at c2
  rw [he] at c6
  have hin : ¬ (i : Int) < 0 := by omega
  have h1 : ((i : Int)).toNat = i := by omega
  have h2 : ((i : Int) + 1).toNat = i + 1 := by omega
  have hci := qda hi2
  have hln : (cols.map Col.av).length = cols.length := by simp
  have d0 : (x.op == 0) = false := beq_eq_false_iff_ne.2 (by omega)
  have d1 : (x.op == 1) = false := beq_eq_false_iff_ne.2 (by omega)
  have d2 : (x.op == 2) = false := beq_eq_false_iff_ne.2 (by omega)
  have d3 : (x.op == 3) = true := by rw [ho]; rfl
  have d4 : (x.op == 4) = false := beq_eq_false_iff_ne.2 (by omega)
  have d5 : (x.op == 5) = false := beq_eq_false_iff_ne.2 (by omega)
  have d6 : (x.op == 6) = false := beq_eq_false_iff_ne.2 (by omega)
  have c7 : ∀ (σ : Nat → AB) (r : Nat), σ r = .vec (cols.map Col.av) 53 3 → _ := fun σ r hσ => rep_acC (cols.map Col.av) ([⟨x.b, 1, ⟨#[]⟩⟩, ⟨x.c, 1, ⟨#[]⟩⟩].map Col.av) i (i + 1) cols.length 2 (by omega) (by omega) (by decide) hln (by rfl) (raw_cols cols) (wid_cols cols) (raw_cols _) (wid_cols _) (by omega) (by omega) (fun m => by rw [← List.map_take, ← List.map_drop, ← List.map_append, ← List.map_append]; exact Col.avs_cl _ m) (σ := σ) (r := r) hσ
  unfold nextP at hR
  rw [if_neg (by omega), if_neg (by omega), if_pos ho] at hR
  refine qm Tryz.func18 Tryz.ntmps18 rfl rfl (by decide) rfl (by intro n; simp) fun σ n0 hcl hft => ?_
  repeat' (first | ((first | ((with_reducible refine qp (fun hg => ?_) (fun hg => ?_)) <;> (try simp only [hg]) <;> (try simp only [gS] at hg) <;> (try (first | simp only [eq_false hg, gI] | simp only [eq_true hg, gI]))) | (with_reducible first | refine qc ?_ | refine qb ?_ | refine qj ?_ | refine qi ?_) | refine acall (c1) ?_ | refine qn (c1) ?_ | refine acall (c2) ?_ | refine qn (c2) ?_ | refine acall (c6) ?_ | refine qn (c6) ?_ | refine qbk c3 ?_ | refine qfr (n0 + 1) _ (c7 _ _ (by simp)) (by simp) ?_ | refine qe ?_ | refine qk ?_ | refine qh ?_ | refine qo ?_) <;> (try simp (disch := first | omega | simp) [qg, -qq, -qu, d0, d1, d2, d3, d4, d5, d6, hin, h1, h2, hi2])) | ((with_reducible refine sideT ?_ ?_); first | omega | assumption | (simp; done)) | (refine qf fun K hK => ?_) | (refine qa ?_) | refine ql ?_ | ((first | refine hK _ ?_ | (clear hK K; refine hK _ ?_) | (clear hK K; clear hK K; refine hK _ ?_)); clear hK K) | refine qd ?_)
  rw [← hR]; simp
set_option maxRecDepth 4000 in
set_option maxHeartbeats 4000000 in
theorem one_op4 (x : Lens) (cols : List Col) (hx : qcc x) (hc0 : 1 ≤ cols.length) (hc : cols.length ≤ 100) (hr : qct x = true) (ho : x.op = 4) (i : Nat) (hi1 : findP cols x.a.toList = i) (hi2 : i < cols.length) (he : qdj x cols i = 0) (hb : 0 ≤ findP cols x.b.toList) (R : List Col) (hR : nextP x cols i (findP cols x.b.toList).toNat = R) : Gives Tryz.prog 18 [x.av, .sl (cols.map Col.av)] (.tup [.sl (R.map Col.av), .int 0]) := by
  have c1 := qfk x hx
  have c2 := qz cols x.a (by omega)
  have c3 := qgh cols hc0 hc
  have c5 := qz cols x.b (by omega)
  have c6 := qgj x cols i hi2 (by omega) (fun _ => hb)
  rw [hr] at c1
  rw [hi1] at c2
  rw [he] at c6
  have hin : ¬ (i : Int) < 0 := by omega
  have h1 : ((i : Int)).toNat = i := by omega
  have h2 : ((i : Int) + 1).toNat = i + 1 := by omega
  have hci := qda hi2
  have hln : (cols.map Col.av).length = cols.length := by simp
  have d0 : (x.op == 0) = false := beq_eq_false_iff_ne.2 (by omega)
  have d1 : (x.op == 1) = false := beq_eq_false_iff_ne.2 (by omega)
  have d2 : (x.op == 2) = false := beq_eq_false_iff_ne.2 (by omega)
  have d3 : (x.op == 3) = false := beq_eq_false_iff_ne.2 (by omega)
  have d4 : (x.op == 4) = true := by rw [ho]; rfl
  have d5 : (x.op == 5) = false := beq_eq_false_iff_ne.2 (by omega)
  have d6 : (x.op == 6) = false := beq_eq_false_iff_ne.2 (by omega)
  obtain ⟨k, hk1, hk2, -⟩ := findI hb
  rw [hk1] at c5
  have e2 : (findP cols x.b.toList).toNat = k := by omega
  have hkn : ¬ (k : Int) < 0 := by omega
  have hset : (cols.map Col.av).set i (Col.av ⟨x.c, cols[i].type, cols[i].unit⟩) = (cols.set i ⟨x.c, cols[i].type, cols[i].unit⟩).map Col.av := set_map _ _ _
  have c7 : ∀ (σ : Nat → AB) (r : Nat), σ r = .vec ((cols.map Col.av).set i (Col.av ⟨x.c, cols[i].type, cols[i].unit⟩)) 53 3 → _ := fun σ r hσ => del_acC ((cols.map Col.av).set i (Col.av ⟨x.c, cols[i].type, cols[i].unit⟩)) k cols.length hk2 (by simp) (by rw [hset]; exact raw_cols _) (by rw [hset]; exact wid_cols _) (by omega) (fun m => by rw [hset, ← qcu]; exact Col.avs_cl _ m) (σ := σ) (r := r) hσ
  have h3 : ((k : Int)).toNat = k := by omega
  unfold nextP at hR
  rw [if_neg (by omega), if_neg (by omega), if_neg (by omega), if_pos ho, hci, e2] at hR
  refine qm Tryz.func18 Tryz.ntmps18 rfl rfl (by decide) rfl (by intro n; simp) fun σ n0 hcl hft => ?_
  repeat' (first | ((first | ((with_reducible refine qp (fun hg => ?_) (fun hg => ?_)) <;> (try simp only [hg]) <;> (try simp only [gS] at hg) <;> (try (first | simp only [eq_false hg, gI] | simp only [eq_true hg, gI]))) | (with_reducible first | refine qc ?_ | refine qb ?_ | refine qj ?_ | refine qi ?_) | refine acall (c1) ?_ | refine qn (c1) ?_ | refine acall (c2) ?_ | refine qn (c2) ?_ | refine acall (c5) ?_ | refine qn (c5) ?_ | refine acall (c6) ?_ | refine qn (c6) ?_ | refine qbk c3 ?_ | (refine qfr (n0 + 1) _ (c7 _ _ (by simp; rfl)) (by simp) ?_) | refine qe ?_ | refine qk ?_ | refine qh ?_ | refine qo ?_) <;> (try simp (disch := first | omega | simp) [qg, -qq, -qu, d0, d1, d2, d3, d4, d5, d6, hin, hkn, h1, h2, hi2, hk2])) | ((with_reducible refine sideT ?_ ?_); first | omega | assumption | (simp; done)) | (refine qf fun K hK => ?_) | (refine qa ?_) | refine ql ?_ | ((first | refine hK _ ?_ | (clear hK K; refine hK _ ?_) | (clear hK K; clear hK K; refine hK _ ?_)); clear hK K) | refine qd ?_)
  rw [← hR, hset]; exact qcu _ _ _
set_option maxRecDepth 4000 in
set_option maxHeartbeats 4000000 in
theorem one_op5 (x : Lens) (cols : List Col) (hx : qcc x) (hc0 : 1 ≤ cols.length) (hc : cols.length ≤ 100) (hr : qct x = true) (ho : x.op = 5) (i : Nat) (hi1 : findP cols x.a.toList = i) (hi2 : i < cols.length) (he : qdj x cols i = 0) (R : List Col) (hR : nextP x cols i (findP cols x.b.toList).toNat = R) : Gives Tryz.prog 18 [x.av, .sl (cols.map Col.av)] (.tup [.sl (R.map Col.av), .int 0]) := by
  have c1 := qfk x hx
  have c2 := qz cols x.a (by omega)
  have c3 := qgh cols hc0 hc
  have c5 := qz cols x.b (by omega)
  have c6 := qgj x cols i hi2 (by omega) (fun h => absurd h (by omega))
  rw [hr] at c1
  rw [hi1] at c2
  rw [he] at c6
  have hin : ¬ (i : Int) < 0 := by omega
  have h1 : ((i : Int)).toNat = i := by omega
  have h2 : ((i : Int) + 1).toNat = i + 1 := by omega
  have hci := qda hi2
  have hln : (cols.map Col.av).length = cols.length := by simp
  have d0 : (x.op == 0) = false := beq_eq_false_iff_ne.2 (by omega)
  have d1 : (x.op == 1) = false := beq_eq_false_iff_ne.2 (by omega)
  have d2 : (x.op == 2) = false := beq_eq_false_iff_ne.2 (by omega)
  have d3 : (x.op == 3) = false := beq_eq_false_iff_ne.2 (by omega)
  have d4 : (x.op == 4) = false := beq_eq_false_iff_ne.2 (by omega)
  have d5 : (x.op == 5) = true := by rw [ho]; rfl
  have d6 : (x.op == 6) = false := beq_eq_false_iff_ne.2 (by omega)
  unfold nextP at hR
  rw [if_neg (by omega), if_neg (by omega), if_neg (by omega), if_neg (by omega), if_pos ho, hci] at hR
  have hcv : cols[i].av = .agg [.str cols[i].name, .int cols[i].type, .str cols[i].unit] := rfl
  refine qm Tryz.func18 Tryz.ntmps18 rfl rfl (by decide) rfl (by intro n; simp) fun σ n0 hcl hft => ?_
  repeat' (first | ((first | ((with_reducible refine qp (fun hg => ?_) (fun hg => ?_)) <;> (try simp only [hg]) <;> (try simp only [gS] at hg) <;> (try (first | simp only [eq_false hg, gI] | simp only [eq_true hg, gI]))) | (with_reducible first | refine qbe ?_ | refine qc ?_ | refine qb ?_ | refine qj ?_ | refine qi ?_) | refine acall (c1) ?_ | refine qn (c1) ?_ | refine acall (c2) ?_ | refine qn (c2) ?_ | refine acall (c6) ?_ | refine qn (c6) ?_ | refine qbk c3 ?_ | refine qe ?_ | refine qk ?_ | refine qh ?_ | refine qo ?_) <;> (try simp (disch := first | omega | simp) [qg, -qq, -qu, d0, d1, d2, d3, d4, d5, d6, hin, h1, h2, hi2, hcv, -Col.av_fold])) | ((with_reducible refine sideT ?_ ?_); first | omega | assumption | (simp; done)) | (refine qf fun K hK => ?_) | (refine qa ?_) | refine ql ?_ | ((first | refine hK _ ?_ | (clear hK K; refine hK _ ?_) | (clear hK K; clear hK K; refine hK _ ?_)); clear hK K) | refine qd ?_)
  refine ⟨qx 4 1 (k := cols.length) (by simp) (by rfl) (by simp) ?_⟩
  repeat' (first | ((first | ((with_reducible refine qp (fun hg => ?_) (fun hg => ?_)) <;> (try simp only [hg]) <;> (try simp only [gS] at hg) <;> (try (first | simp only [eq_false hg, gI] | simp only [eq_true hg, gI]))) | (with_reducible first | refine qc ?_ | refine qb ?_ | refine qj ?_ | refine qi ?_) | refine qe ?_ | refine qk ?_ | refine qh ?_ | refine qo ?_) <;> (try simp (disch := first | omega | simp) [qg, -qq, -qu])) | ((with_reducible refine sideT ?_ ?_); first | omega | assumption | (simp; done)) | (refine qf fun K hK => ?_) | (refine qa ?_) | refine ql ?_ | ((first | refine hK _ ?_ | (clear hK K; refine hK _ ?_) | (clear hK K; clear hK K; refine hK _ ?_)); clear hK K) | refine qd ?_)
  rw [← hR]; exact set_map cols i ⟨cols[i].name, x.n, ⟨#[]⟩⟩
set_option maxRecDepth 4000 in
set_option maxHeartbeats 4000000 in
theorem one_op6 (x : Lens) (cols : List Col) (hx : qcc x) (hc0 : 1 ≤ cols.length) (hc : cols.length ≤ 100) (hr : qct x = true) (ho : x.op = 6) (i : Nat) (hi1 : findP cols x.a.toList = i) (hi2 : i < cols.length) (he : qdj x cols i = 0) (R : List Col) (hR : nextP x cols i (findP cols x.b.toList).toNat = R) : Gives Tryz.prog 18 [x.av, .sl (cols.map Col.av)] (.tup [.sl (R.map Col.av), .int 0]) := by
  have c1 := qfk x hx
  have c2 := qz cols x.a (by omega)
  have c3 := qgh cols hc0 hc
  have c5 := qz cols x.b (by omega)
  have c6 := qgj x cols i hi2 (by omega) (fun h => absurd h (by omega))
  rw [hr] at c1
  rw [hi1] at c2
  rw [he] at c6
  have hin : ¬ (i : Int) < 0 := by omega
  have h1 : ((i : Int)).toNat = i := by omega
  have h2 : ((i : Int) + 1).toNat = i + 1 := by omega
  have hci := qda hi2
  have hln : (cols.map Col.av).length = cols.length := by simp
  have d0 : (x.op == 0) = false := beq_eq_false_iff_ne.2 (by omega)
  have d1 : (x.op == 1) = false := beq_eq_false_iff_ne.2 (by omega)
  have d2 : (x.op == 2) = false := beq_eq_false_iff_ne.2 (by omega)
  have d3 : (x.op == 3) = false := beq_eq_false_iff_ne.2 (by omega)
  have d4 : (x.op == 4) = false := beq_eq_false_iff_ne.2 (by omega)
  have d5 : (x.op == 5) = false := beq_eq_false_iff_ne.2 (by omega)
  have d6 : (x.op == 6) = true := by rw [ho]; rfl
  unfold nextP at hR
  rw [if_neg (by omega), if_neg (by omega), if_neg (by omega), if_neg (by omega), if_neg (by omega), if_pos ho, hci] at hR
  refine qm Tryz.func18 Tryz.ntmps18 rfl rfl (by decide) rfl (by intro n; simp) fun σ n0 hcl hft => ?_
  repeat' (first | ((first | ((with_reducible refine qp (fun hg => ?_) (fun hg => ?_)) <;> (try simp only [hg]) <;> (try simp only [gS] at hg) <;> (try (first | simp only [eq_false hg, gI] | simp only [eq_true hg, gI]))) | (with_reducible first | refine qbe ?_ | refine qc ?_ | refine qb ?_ | refine qj ?_ | refine qi ?_) | refine acall (c1) ?_ | refine qn (c1) ?_ | refine acall (c2) ?_ | refine qn (c2) ?_ | refine acall (c6) ?_ | refine qn (c6) ?_ | refine qbk c3 ?_ | refine qe ?_ | refine qk ?_ | refine qh ?_ | refine qo ?_) <;> (try simp (disch := first | omega | simp) [qg, -qq, -qu, d0, d1, d2, d3, d4, d5, d6, hin, h1, h2, hi2])) | ((with_reducible refine sideT ?_ ?_); first | omega | assumption | (simp; done)) | (refine qf fun K hK => ?_) | (refine qa ?_) | refine ql ?_ | ((first | refine hK _ ?_ | (clear hK K; refine hK _ ?_) | (clear hK K; clear hK K; refine hK _ ?_)); clear hK K) | refine qd ?_)
  refine ⟨qx 4 1 (k := cols.length) (by simp) (by rfl) (by simp) ?_⟩
  repeat' (first | ((first | ((with_reducible refine qp (fun hg => ?_) (fun hg => ?_)) <;> (try simp only [hg]) <;> (try simp only [gS] at hg) <;> (try (first | simp only [eq_false hg, gI] | simp only [eq_true hg, gI]))) | (with_reducible first | refine qc ?_ | refine qb ?_ | refine qj ?_ | refine qi ?_) | refine qe ?_ | refine qk ?_ | refine qh ?_ | refine qo ?_) <;> (try simp (disch := first | omega | simp) [qg, -qq, -qu])) | ((with_reducible refine sideT ?_ ?_); first | omega | assumption | (simp; done)) | (refine qf fun K hK => ?_) | (refine qa ?_) | refine ql ?_ | ((first | refine hK _ ?_ | (clear hK K; refine hK _ ?_) | (clear hK K; clear hK K; refine hK _ ?_)); clear hK K) | refine qd ?_)
  rw [← hR]; exact set_map cols i ⟨cols[i].name, cols[i].type, x.b⟩
theorem right_op {x : Lens} (h : qct x = true) : x.op = 0 ∨ x.op = 1 ∨ x.op = 2 ∨ x.op = 3 ∨ x.op = 4 ∨ x.op = 5 ∨ x.op = 6 := by
  refine Classical.byContradiction fun hn => ?_
  unfold qct at h
  rw [if_neg (by omega), if_neg (by omega), if_neg (by omega), if_neg (by omega), if_neg (by omega), if_neg (by omega), if_neg (by omega), Bool.and_false] at h
  cases h
theorem oneP_ok {x : Lens} {cols : List Col} (hr : qct x = true) (h0 : x.op ≠ 0) (h : (oneP x cols).2 = 0) : ∃ i : Nat, findP cols x.a.toList = i ∧ ∃ hi : i < cols.length, cols[i].name.toList = x.a.toList ∧ (x.op = 4 → 0 ≤ findP cols x.b.toList) ∧ qdj x cols i = 0 ∧ (oneP x cols).1 = nextP x cols i (findP cols x.b.toList).toNat := by
  unfold oneP at h ⊢
  rw [if_neg (by simp [hr]), if_neg h0] at h ⊢
  by_cases hn : findP cols x.a.toList < 0 ∨ x.op = 4 ∧ findP cols x.b.toList < 0
  · rw [if_pos hn] at h; cases h
  · rw [if_neg hn] at h ⊢
    obtain ⟨i, h1, h2, h3⟩ := findI (L := cols) (s := x.a.toList) (by omega)
    have e : (findP cols x.a.toList).toNat = i := by omega
    rw [e] at h ⊢
    refine ⟨i, h1, h2, h3, fun h4 => by by_cases hh : 0 ≤ findP cols x.b.toList; exact hh; exact absurd (.inr ⟨h4, by omega⟩) hn, ?_⟩
    by_cases hf : qdj x cols i = 0
    · exact ⟨hf, by rw [if_neg (by simp [hf])]⟩
    · rw [if_pos hf] at h; exact absurd h hf
theorem one_g (x : Lens) (cols : List Col) (hx : qcc x) (hc0 : 1 ≤ cols.length) (hc : cols.length ≤ 100) : Gives Tryz.prog 18 [x.av, .sl (cols.map Col.av)] (.tup [.sl ((oneP x cols).1.map Col.av), .int (oneP x cols).2]) := by
  by_cases h : qct x = false ∨ x.op = 0 ∨ (oneP x cols).2 ≠ 0
  · exact one_g1 x cols hx hc0 hc h
  · have hr : qct x = true := by cases hh : qct x; exact absurd (.inl hh) h; rfl
    have h0 : x.op ≠ 0 := fun e => h (.inr (.inl e))
    have h2 : (oneP x cols).2 = 0 := Classical.byContradiction fun e => h (.inr (.inr e))
    obtain ⟨i, hi1, hi2, -, hb, he, hR⟩ := oneP_ok hr h0 h2
    rw [hR, h2]
    rcases right_op hr with ho | ho | ho | ho | ho | ho | ho
    · exact absurd ho h0
    · exact one_op1 x cols hx hc0 hc hr ho i hi1 hi2 he _ rfl
    · exact one_op2 x cols hx hc0 hc hr ho i hi1 hi2 he _ rfl
    · exact one_op3 x cols hx hc0 hc hr ho i hi1 hi2 he _ rfl
    · exact one_op4 x cols hx hc0 hc hr ho i hi1 hi2 he (hb ho) _ rfl
    · exact one_op5 x cols hx hc0 hc hr ho i hi1 hi2 he _ rfl
    · exact one_op6 x cols hx hc0 hc hr ho i hi1 hi2 he _ rfl
end Go.Proofs.YtbkkjlcclddpdaaGreatDoor

/- Layer 14 on plain data: a step that can be done, part by part. -/
namespace Go.Proofs.YtbkkjlcclddpdaaGreatDoor
open Go.RowKit Go.Lib
def nam (s : ByteArray) : Prop := ownP s.toList = true
structure At (x : Lens) (L : List Col) (i : Nat) (hi : i < L.length) : Prop where
  find : findP L x.a.toList = i
  name : L[i].name.toList = x.a.toList
inductive StepOk (x : Lens) (L : List Col) : Prop
  | add (ho : x.op = 0) (ha : nam x.a) (hn : findP L x.a.toList < 0) (hl : L.length < 12) (hR : (oneP x L).1 = L ++ [⟨x.a, x.value.k, x.b⟩]) (hu : x.b.toList = [] ∨ nam x.b ∧ x.value.k = 0) (hv : qbl x.value = true)
  | drop (i : Nat) (hi : i < L.length) (ho : x.op = 1) (h : At x L i hi) (hk : L[i].type = x.value.k) (hl : 2 ≤ L.length) (hR : (oneP x L).1 = L.eraseIdx i) (hv : qbl x.value = true)
  | rename (i : Nat) (hi : i < L.length) (ho : x.op = 2) (h : At x L i hi) (hb : nam x.b) (hb2 : findP L x.b.toList < 0) (hR : (oneP x L).1 = L.set i ⟨x.b, L[i].type, L[i].unit⟩)
  | split (i : Nat) (hi : i < L.length) (ho : x.op = 3) (h : At x L i hi) (hk : L[i].type = 1) (hb : nam x.b) (hc : nam x.c) (hs : 1 ≤ x.sep.size ∧ x.sep.size ≤ 200) (hbc : x.b.toList ≠ x.c.toList) (hb2 : findP L x.b.toList < 0 ∨ x.b.toList = x.a.toList) (hc2 : findP L x.c.toList < 0 ∨ x.c.toList = x.a.toList) (hl : L.length < 12)
      (hR : (oneP x L).1 = L.take i ++ [⟨x.b, 1, ⟨#[]⟩⟩, ⟨x.c, 1, ⟨#[]⟩⟩] ++ L.drop (i + 1))
  | join (i k : Nat) (hi : i < L.length) (hk : k < L.length) (ho : x.op = 4) (h : At x L i hi) (hkf : findP L x.b.toList = k) (hkn : L[k].name.toList = x.b.toList) (hik : i ≠ k) (ti : L[i].type = 1) (tk : L[k].type = 1) (hc : nam x.c) (hs : 1 ≤ x.sep.size ∧ x.sep.size ≤ 200) (hc2 : findP L x.c.toList < 0 ∨ x.c.toList = x.a.toList ∨ x.c.toList = x.b.toList)
      (hR : (oneP x L).1 = (L.set i ⟨x.c, L[i].type, L[i].unit⟩).eraseIdx k)
  | retype (i : Nat) (hi : i < L.length) (ho : x.op = 5) (h : At x L i hi) (hn0 : 0 ≤ x.n) (hn3 : x.n < 3) (hv : qbl x.value = true) (hk : x.value.k = x.n) (ht : L[i].type ≠ x.n) (hR : (oneP x L).1 = L.set i ⟨L[i].name, x.n, ⟨#[]⟩⟩)
  | scale (i : Nat) (hi : i < L.length) (ho : x.op = 6) (h : At x L i hi) (ht : L[i].type = 0) (hn : x.n ≠ 0) (hu : x.b.toList = [] ∨ nam x.b) (hR : (oneP x L).1 = L.set i ⟨L[i].name, L[i].type, x.b⟩)
theorem takenB_no {L : List Col} {s : List UInt8} {bs : List (List UInt8)} (h : ¬ takenB L s bs = true) : findP L s < 0 ∨ s ∈ bs := by
  unfold takenB at h
  simp only [Bool.and_eq_true, decide_eq_true_eq, Bool.not_eq_true', not_and] at h
  by_cases h1 : 0 ≤ findP L s
  · exact .inr (by simpa using h h1)
  · exact .inl (by omega)
theorem optB {b : ByteArray} (h : (if !strE b then ownA b else strE b) = true) : b.toList = [] ∨ nam b := by
  by_cases hb : b.toList = []
  · exact .inl hb
  · have : strE b = false := by unfold strE; simp [hb]
    rw [this] at h
    exact .inr (by simpa [nam, ownA] using h)
theorem sepB_ok {s : ByteArray} (h : sepB s = true) : 1 ≤ s.size ∧ s.size ≤ 200 := by unfold sepB at h; simpa using h
theorem step_ok {x : Lens} {L : List Col} (h : (oneP x L).2 = 0) : StepOk x L := by
  by_cases hr : qct x = true
  · have hr' := hr
    unfold qct at hr'
    rw [Bool.and_eq_true] at hr'
    obtain ⟨ha, hr'⟩ := hr'
    by_cases h0 : x.op = 0
    · rw [if_pos h0] at hr'
      simp only [usedB, Bool.and_eq_true, Bool.or_eq_true, Bool.true_or, Bool.false_eq_true, if_true, if_false, decide_eq_true_eq] at hr'
      obtain ⟨⟨⟨⟨⟨h1, h2⟩, h3⟩, h4⟩, h5⟩, h6⟩ := hr'
      have hR : (oneP x L).1 = _ := rfl
      unfold oneP at h
      conv at hR => rhs; unfold oneP
      rw [if_neg (by simp [hr]), if_pos h0] at h hR
      split at h
      · cases h
      · split at h
        · cases h
        · rename_i g1 g2
          rw [if_neg g1, if_neg g2] at hR
          refine .add h0 ha (by omega) (by omega) hR ?_ h5
          rcases optB h1 with h7 | h7
          · exact .inl h7
          · rcases h6 with h6 | h6
            · exact .inl (by unfold strE at h6; simpa using h6)
            · exact .inr ⟨h7, h6⟩
    · obtain ⟨i, hi1, hi, hn, hb, he, hR⟩ := oneP_ok hr h0 h
      have hat : At x L i hi := ⟨hi1, hn⟩
      have hci := qda hi
      unfold qdj at he
      unfold nextP at hR
      rw [hci] at he hR
      rw [if_neg h0] at hr'
      rcases right_op hr with ho | ho | ho | ho | ho | ho | ho
      · exact absurd ho h0
      all_goals simp only [ho, if_pos, if_neg, reduceIte, Int.reduceEq, usedB, Bool.and_eq_true, Bool.or_eq_true, Bool.true_or, Bool.false_eq_true, if_true, if_false, decide_eq_true_eq] at hr' he hR
      · obtain ⟨⟨⟨⟨h1, h2⟩, h3⟩, h4⟩, h5⟩ := hr'
        split at he
        · cases he
        · split at he
          · cases he
          · rename_i g1 g2
            exact .drop i hi ho hat (Classical.byContradiction g1) (by omega) hR h5
      · obtain ⟨⟨⟨⟨h1, h2⟩, h3⟩, h4⟩, h5⟩ := hr'
        split at he
        · cases he
        · rename_i g
          exact .rename i hi ho hat h1 (by rcases takenB_no g with g | g; exact g; cases g) hR
      · obtain ⟨⟨⟨⟨h1, h2⟩, h3⟩, h4⟩, h5⟩ := hr'
        split at he
        · cases he
        · split at he
          · cases he
          · split at he
            · cases he
            · rename_i g1 g2 g3
              simp only [not_or] at g2
              obtain ⟨g2, g4, g5⟩ := g2
              refine .split i hi ho hat (Classical.byContradiction g1) h1 h2 (sepB_ok h3) g2 ?_ ?_ (by omega) hR
              · rcases takenB_no g4 with g | g; exact .inl g; exact .inr (by simpa using g)
              · rcases takenB_no g5 with g | g; exact .inl g; exact .inr (by simpa using g)
      · obtain ⟨⟨⟨⟨⟨h1, h2⟩, h3⟩, h4⟩, h5⟩, h6⟩ := hr'
        obtain ⟨k, hk1, hk, hkn⟩ := findI (hb ho)
        have ek : (findP L x.b.toList).toNat = k := by omega
        have hck := qda hk
        rw [ek] at he hR
        rw [hck] at he
        split at he
        · cases he
        · split at he
          · cases he
          · rename_i g1 g2
            rw [not_or] at g1
            refine .join i k hi hk ho hat hk1 hkn (fun e => ?_) (Classical.byContradiction g1.1) (Classical.byContradiction g1.2) h2 (sepB_ok h3) ?_ hR
            · subst e; exact h6 (hn.symm.trans hkn)
            · rcases takenB_no g2 with g | g; exact .inl g; exact .inr (by simpa using g)
      · obtain ⟨⟨⟨⟨⟨h1, h2⟩, h3⟩, h4⟩, h5⟩, h6, h7, h8⟩ := hr'
        split at he
        · cases he
        · rename_i g
          exact .retype i hi ho hat h6 h7 h5 h8 g hR
      · obtain ⟨⟨⟨⟨⟨h1, h2⟩, h3⟩, h4⟩, h5⟩, h6⟩ := hr'
        split at he
        · cases he
        · rename_i g
          exact .scale i hi ho hat (Classical.byContradiction g) h6 (optB h1) hR
  · unfold oneP at h
    rw [if_pos (by simpa using hr)] at h
    cases h
theorem step_len {x : Lens} {L : List Col} (h : StepOk x L) : (x.op = 0 → (oneP x L).1.length = L.length + 1) ∧ (x.op = 1 → (oneP x L).1.length + 1 = L.length) ∧ (x.op = 3 → (oneP x L).1.length = L.length + 1) ∧ (x.op = 4 → (oneP x L).1.length + 1 = L.length) ∧ (x.op = 2 ∨ x.op = 5 ∨ x.op = 6 → (oneP x L).1.length = L.length) := by
  cases h
  case add ho ha hn hl hR hu hv => rw [hR, ho]; simp
  case drop i hi ho h hk hl hR hv => rw [hR, ho, List.length_eraseIdx_of_lt hi]; simp; omega
  case rename i hi ho h hb hb2 hR => rw [hR, ho]; simp
  case split i hi ho h hk hb hc hs hbc hb2 hc2 hl hR => rw [hR, ho]; simp; omega
  case join i k hi hk ho h hkf hkn hik ti tk hc hs hc2 hR => rw [hR, ho, List.length_eraseIdx_of_lt (by rw [List.length_set]; exact hk), List.length_set]; simp; omega
  case retype i hi ho h hn0 hn3 hv hk ht hR => rw [hR, ho]; simp
  case scale i hi ho h ht hn hu hR => rw [hR, ho]; simp
end Go.Proofs.YtbkkjlcclddpdaaGreatDoor

/- Walk of lens.convert. -/
namespace Go.Proofs.YtbkkjlcclddpdaaGreatDoor
open Go.RowKit Go.Lib
theorem vbit_g (b : Bool) : Gives Tryz.prog 117 [.bool b] (bitV b).av := by
  cases b
  · exact vfalse_g
  · exact qbo
set_option maxHeartbeats 2000000 in
theorem conv_g (v : Val) (to : Int) (o : Val) (hn : i64 v.n) (hs : v.s.size ≤ 1000000) : Gives Tryz.prog 109 [v.av, .int to, o.av] (convP v to o).av := by
  have c1 := decimal_g v.n hn
  have c2 := lcut_g (qs (itoa v.n)) (by have := itoa_length_le v.n hn.1 hn.2; have := qt (itoa v.n); omega)
  have c3 := fun b => fmtBool_g b
  have c4 := fun b => lcut_g (qs (Lib.formatBool b)) (by cases b <;> decide)
  have c5 := qdi v.n
  have c6 := int_g v.s hs
  have c7 := fun b => vbit_g b
  have e1 : (qs (itoa v.n)).data.toList = itoa v.n := rfl
  have e2 : ∀ b, (qs (Lib.formatBool b)).data.toList = Lib.formatBool b := fun _ => rfl
  rw [e1] at c2
  simp only [e2] at c4
  unfold convP
  by_cases t1 : to = 1
  · subst t1
    by_cases k0 : v.k = 0
    · refine qm Tryz.func109 Tryz.ntmps109 rfl rfl (by decide) rfl (by intro n; simp) fun σ n0 hcl hft => ?_
      repeat' (first | ((first | ((with_reducible refine qp (fun hg => ?_) (fun hg => ?_)) <;> (try simp only [hg]) <;> (try simp only [gS] at hg) <;> (try (first | simp only [eq_false hg, gI] | simp only [eq_true hg, gI]))) | (with_reducible first | refine qc ?_ | refine qb ?_ | refine qj ?_ | refine qi ?_) | refine acall (c1) ?_ | refine qn (c1) ?_ | refine acall (c2) ?_ | refine qn (c2) ?_ | refine qe ?_ | refine qk ?_ | refine qh ?_ | refine qo ?_) <;> (try simp (disch := first | omega | simp) [qg, -qq, -qu, k0])) | ((with_reducible refine sideT ?_ ?_); first | omega | assumption | (simp; done)) | (refine qf fun K hK => ?_) | (refine qa ?_) | refine ql ?_ | ((first | refine hK _ ?_ | (clear hK K; refine hK _ ?_) | (clear hK K; clear hK K; refine hK _ ?_)); clear hK K) | refine qd ?_)
      all_goals (clear c1 c2 c3 c4 c5 c6 c7 hcl hft; first | rfl | (simp_all; done))
    · have e3 : Lib.formatBool (v.n == 1) = if v.n = 1 then wTrue else qfx := by
        have f1 : Lib.formatBool true = wTrue := by kernel_rfl
        have f2 : Lib.formatBool false = qfx := by kernel_rfl
        by_cases h : v.n = 1
        · rw [if_pos h, ← f1]; congr 1; simpa using h
        · rw [if_neg h, ← f2]; congr 1; simpa using h
      refine qm Tryz.func109 Tryz.ntmps109 rfl rfl (by decide) rfl (by intro n; simp) fun σ n0 hcl hft => ?_
      repeat' (first | ((first | ((with_reducible refine qp (fun hg => ?_) (fun hg => ?_)) <;> (try simp only [hg]) <;> (try simp only [gS] at hg) <;> (try (first | simp only [eq_false hg, gI] | simp only [eq_true hg, gI]))) | (with_reducible first | refine qc ?_ | refine qb ?_ | refine qj ?_ | refine qi ?_) | refine acall (c3 _) ?_ | refine qn (c3 _) ?_ | refine acall (c4 _) ?_ | refine qn (c4 _) ?_ | refine qe ?_ | refine qk ?_ | refine qh ?_ | refine qo ?_) <;> (try simp (disch := first | omega | simp) [qg, -qq, -qu, k0])) | ((with_reducible refine sideT ?_ ?_); first | omega | assumption | (simp; done)) | (refine qf fun K hK => ?_) | (refine qa ?_) | refine ql ?_ | ((first | refine hK _ ?_ | (clear hK K; refine hK _ ?_) | (clear hK K; clear hK K; refine hK _ ?_)); clear hK K) | refine qd ?_)
      all_goals (clear c1 c2 c3 c4 c5 c6 c7 hcl hft; first | rfl | (simp_all; done))
  · by_cases t0 : to = 0
    · subst t0
      by_cases k2 : v.k = 2
      · refine qm Tryz.func109 Tryz.ntmps109 rfl rfl (by decide) rfl (by intro n; simp) fun σ n0 hcl hft => ?_
        repeat' (first | ((first | ((with_reducible refine qp (fun hg => ?_) (fun hg => ?_)) <;> (try simp only [hg]) <;> (try simp only [gS] at hg) <;> (try (first | simp only [eq_false hg, gI] | simp only [eq_true hg, gI]))) | (with_reducible first | refine qc ?_ | refine qb ?_ | refine qj ?_ | refine qi ?_) | refine acall (c5) ?_ | refine qn (c5) ?_ | refine qe ?_ | refine qk ?_ | refine qh ?_ | refine qo ?_) <;> (try simp (disch := first | omega | simp) [qg, -qq, -qu, k2])) | ((with_reducible refine sideT ?_ ?_); first | omega | assumption | (simp; done)) | (refine qf fun K hK => ?_) | (refine qa ?_) | refine ql ?_ | ((first | refine hK _ ?_ | (clear hK K; refine hK _ ?_) | (clear hK K; clear hK K; refine hK _ ?_)); clear hK K) | refine qd ?_)
        all_goals (clear c1 c2 c3 c4 c5 c6 c7 hcl hft; first | rfl | (simp_all; done))
      · cases hI : intP v.s.data.toList with
        | none =>
          rw [hI] at c6
          refine qm Tryz.func109 Tryz.ntmps109 rfl rfl (by decide) rfl (by intro n; simp) fun σ n0 hcl hft => ?_
          repeat' (first | ((first | ((with_reducible refine qp (fun hg => ?_) (fun hg => ?_)) <;> (try simp only [hg]) <;> (try simp only [gS] at hg) <;> (try (first | simp only [eq_false hg, gI] | simp only [eq_true hg, gI]))) | (with_reducible first | refine qc ?_ | refine qb ?_ | refine qj ?_ | refine qi ?_) | refine acall (c6) ?_ | refine qn (c6) ?_ | refine qe ?_ | refine qk ?_ | refine qh ?_ | refine qo ?_) <;> (try simp (disch := first | omega | simp) [qg, -qq, -qu, k2])) | ((with_reducible refine sideT ?_ ?_); first | omega | assumption | (simp; done)) | (refine qf fun K hK => ?_) | (refine qa ?_) | refine ql ?_ | ((first | refine hK _ ?_ | (clear hK K; refine hK _ ?_) | (clear hK K; clear hK K; refine hK _ ?_)); clear hK K) | refine qd ?_)
          all_goals (clear c1 c2 c3 c4 c5 c6 c7 hcl hft; first | rfl | (simp_all; done))
        | some n =>
          have c8 := qdi n
          rw [hI] at c6
          refine qm Tryz.func109 Tryz.ntmps109 rfl rfl (by decide) rfl (by intro n; simp) fun σ n0 hcl hft => ?_
          repeat' (first | ((first | ((with_reducible refine qp (fun hg => ?_) (fun hg => ?_)) <;> (try simp only [hg]) <;> (try simp only [gS] at hg) <;> (try (first | simp only [eq_false hg, gI] | simp only [eq_true hg, gI]))) | (with_reducible first | refine qc ?_ | refine qb ?_ | refine qj ?_ | refine qi ?_) | refine acall (c6) ?_ | refine qn (c6) ?_ | refine acall (c8) ?_ | refine qn (c8) ?_ | refine qe ?_ | refine qk ?_ | refine qh ?_ | refine qo ?_) <;> (try simp (disch := first | omega | simp) [qg, -qq, -qu, k2])) | ((with_reducible refine sideT ?_ ?_); first | omega | assumption | (simp; done)) | (refine qf fun K hK => ?_) | (refine qa ?_) | refine ql ?_ | ((first | refine hK _ ?_ | (clear hK K; refine hK _ ?_) | (clear hK K; clear hK K; refine hK _ ?_)); clear hK K) | refine qd ?_)
          all_goals (clear c1 c2 c3 c4 c5 c6 c7 c8 hcl hft; first | rfl | (simp_all; done))
    · by_cases k0 : v.k = 0
      · have e3 : (v.n != 0) = decide (v.n ≠ 0) := by by_cases h : v.n = 0 <;> simp [h]
        refine qm Tryz.func109 Tryz.ntmps109 rfl rfl (by decide) rfl (by intro n; simp) fun σ n0 hcl hft => ?_
        repeat' (first | ((first | ((with_reducible refine qp (fun hg => ?_) (fun hg => ?_)) <;> (try simp only [hg]) <;> (try simp only [gS] at hg) <;> (try (first | simp only [eq_false hg, gI] | simp only [eq_true hg, gI]))) | (with_reducible first | refine qc ?_ | refine qb ?_ | refine qj ?_ | refine qi ?_) | refine acall (c7 _) ?_ | refine qn (c7 _) ?_ | refine qe ?_ | refine qk ?_ | refine qh ?_ | refine qo ?_) <;> (try simp (disch := first | omega | simp) [qg, -qq, -qu, t1, t0, k0])) | ((with_reducible refine sideT ?_ ?_); first | omega | assumption | (simp; done)) | (refine qf fun K hK => ?_) | (refine qa ?_) | refine ql ?_ | ((first | refine hK _ ?_ | (clear hK K; refine hK _ ?_) | (clear hK K; clear hK K; refine hK _ ?_)); clear hK K) | refine qd ?_)
        all_goals (clear c1 c2 c3 c4 c5 c6 c7 hcl hft; first | rfl | (simp_all; done))
      · have e3 : (v.s.toList == [116, 114, 117, 101]) = decide (v.s.toList = [116, 114, 117, 101]) := by by_cases h : v.s.toList = [116, 114, 117, 101] <;> simp [h]
        refine qm Tryz.func109 Tryz.ntmps109 rfl rfl (by decide) rfl (by intro n; simp) fun σ n0 hcl hft => ?_
        repeat' (first | ((first | ((with_reducible refine qp (fun hg => ?_) (fun hg => ?_)) <;> (try simp only [hg]) <;> (try simp only [gS] at hg) <;> (try (first | simp only [eq_false hg, gI] | simp only [eq_true hg, gI]))) | (with_reducible first | refine qc ?_ | refine qb ?_ | refine qj ?_ | refine qi ?_) | refine acall (c7 _) ?_ | refine qn (c7 _) ?_ | refine qe ?_ | refine qk ?_ | refine qh ?_ | refine qo ?_) <;> (try simp (disch := first | omega | simp) [qg, -qq, -qu, t1, t0, k0])) | ((with_reducible refine sideT ?_ ?_); first | omega | assumption | (simp; done)) | (refine qf fun K hK => ?_) | (refine qa ?_) | refine ql ?_ | ((first | refine hK _ ?_ | (clear hK K; refine hK _ ?_) | (clear hK K; clear hK K; refine hK _ ?_)); clear hK K) | refine qd ?_)
        all_goals (clear c1 c2 c3 c4 c5 c6 c7 hcl hft; first | rfl | (simp_all [wTrue, qfx]; done))
end Go.Proofs.YtbkkjlcclddpdaaGreatDoor

/- Slice literals that grow. -/
namespace Go.Proofs.YtbkkjlcclddpdaaGreatDoor
open Go.RowKit Go.Lib
theorem EOp.frz {P : Program} {s : AS} {o : Op} {K : AV → AS → Prop} {r n : Nat} {l : List AV} {et : TypeId} {sz : Nat} (h : EOp P s o fun x s1 => x = .own r n ∧ n = l.length ∧ s1.st r = .vec l et sz ∧ K (.gs s1.nx l) ((s1.set r .dead).ext (some (.tail l.length et sz)))) : EOp P s o K := by
  intro X0 a w X oper ho hc Q
  refine OwpA.mono ?_ (h X0 a w X oper ho hc Q)
  rintro a' w' ⟨v, x, s1, X', e1, ⟨rfl, hn, hσ, hK⟩, hc', hr⟩
  obtain ⟨X2, hw, hc2, hF, hR⟩ := con_freeze hc' hσ
  exact ⟨v, _, _, X2, e1, hK, hc2, hR v n hn hr⟩
theorem ext_dead (s : AS) (ab cd : AB) : ((s.ext (some ab)).set s.nx .dead).ext (some cd) = (s.ext (some .dead)).ext (some cd) := by
  have h : (s.ext (some ab)).set s.nx .dead = s.ext (some .dead) := by
    unfold AS.set AS.ext AS.nx
    dsimp only
    rw [if_neg (by omega), Nat.add_sub_cancel_left]
    simp
  rw [h]
def aevZ (P : Program) (s : AS) (o : Op) (K : AV → AS → Prop) : Prop :=
  match o with
  | .buildSlice t n ⟨p :: ps⟩ => match vinfo P t with
    | some (e, sz, _) => n = (p :: ps).length ∧ n * sz ≤ 16777216 ∧ bldS sz 0 ((p :: ps).map fun p => (p.1, s.eval p.2)) ∧ AV.wid ((p :: ps).map fun p => (s.eval p.2).pub) sz ∧
        K (.gs (s.n0 + (s.L.length + 1)) ((p :: ps).map fun p => (s.eval p.2).pub)) ((s.ext (some .dead)).ext (some (.tail n e sz)))
    | none => False
  | o => aev P s o K
theorem aevZ_sound {P : Program} {s : AS} {o : Op} {K : AV → AS → Prop} (h : aevZ P s o K) : EOp P s o K := by
  unfold aevZ at h
  split at h
  · rename_i t n p ps
    split at h
    · rename_i e sz _ hv
      obtain ⟨h1, h2, h3, h4, h5⟩ := h
      have hlen : ((p :: ps).map fun p => (s.eval p.2).pub).length = n := by rw [List.length_map, h1]
      refine EOp.frz (r := s.nx) (n := n) (l := (p :: ps).map fun p => (s.eval p.2).pub) (et := e) (sz := sz) (eop_fun (nb := some _) (fop_litVec hv h1 h2 h3 h4) ⟨rfl, hlen.symm, ?_, ?_⟩)
      · show loc s.σ s.n0 (s.L ++ [_]) (s.n0 + s.L.length) = _
        rw [loc_add]; simp
      · rw [ext_dead, hlen]
        have : (s.ext (some (AB.vec ((p :: ps).map fun p => (s.eval p.2).pub) e sz))).nx = s.n0 + (s.L.length + 1) := by
          show s.n0 + (s.L ++ [_]).length = _
          simp
        rw [this]
        exact h5
    · exact h.elim
  · exact qci h
def aseqZ (P : Program) (ops : Array Oper) (K : AS → Prop) : List Oper → AS → Prop
  | [], s => K s
  | o :: l, s => match awant ops o s.t with
    | some b => qch b (aevZ P s o.op (fun x s1 => dstOk o.dst s1.n ∧ aseqZ P ops K l (s1.put o.dst x))) (dstOk o.dst s.n ∧ aseqZ P ops K l (s.put o.dst (.v undef)))
    | none => False
theorem aseqZ_sound {P : Program} {ops : Array Oper} {K : AS → Prop} : ∀ {l : List Oper} {s : AS}, aseqZ P ops K l s → aseq P ops K l s
  | [], _, h => h
  | o :: l, s, h => by
    rw [aseqZ] at h
    rw [aseq]
    split at h
    · rename_i b hb
      cases b with
      | true => exact ⟨true, hb, (aevZ_sound (h.1 rfl)).mono fun x s1 ⟨h1, h2⟩ => ⟨h1, aseqZ_sound h2⟩⟩
      | false => exact ⟨false, hb, (h.2 rfl).1, aseqZ_sound (h.2 rfl).2⟩
    · exact h.elim
theorem awp_regionZ {P : Program} {s : AS} {id : Nat} {l : List Oper} {Q : Exit → AS → Prop} (h : aseqZ P l.toArray (Q .normal) l s) : awp P (.region id l.toArray false) Q s := qee (aseqZ_sound h)
theorem aseqZ_step {P : Program} {ops : Array Oper} {K : AS → Prop} {o : Oper} {l : List Oper} {s : AS} (h : match awant ops o s.t with
    | some b => qch b (aevZ P s o.op (fun x s1 => dstOk o.dst s1.n ∧ aseqZ P ops K l (s1.put o.dst x))) (dstOk o.dst s.n ∧ aseqZ P ops K l (s.put o.dst (.v undef)))
    | none => False) : aseqZ P ops K (o :: l) s := h
theorem aseqZ_end {P : Program} {ops : Array Oper} {K : AS → Prop} {s : AS} (h : K s) : aseqZ P ops K [] s := h
attribute [simp] aevZ
end Go.Proofs.YtbkkjlcclddpdaaGreatDoor
