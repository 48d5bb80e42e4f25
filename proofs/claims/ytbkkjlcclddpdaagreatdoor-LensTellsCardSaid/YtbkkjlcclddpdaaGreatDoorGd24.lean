/- Walk of lens.One: steps that can be done. -/
import Derived.Test.YtbkkjlcclddpdaaGreatDoorGd16
import Derived.Test.YtbkkjlcclddpdaaGreatDoorGd18
import Derived.Test.YtbkkjlcclddpdaaGreatDoorGd23
set_option linter.unusedSimpArgs false
set_option linter.unusedVariables false
namespace Go.Proofs.YtbkkjlcclddpdaaGreatDoor
open Go.RowKit Go.Lib
@[simp] theorem Col.av_keep (x : AV) (o : Nat) (v : Col) : x.keep o v.av = v.av := by
  have h := v.av_pub
  unfold Col.av at h ⊢
  exact keep_all (by simp) h x o
@[simp] theorem str_keep (x : AV) (o : Nat) (s : ByteArray) : x.keep o (.str s) = .str s := by cases x <;> simp [AV.keep, keep1]
@[simp] theorem int_keep (x : AV) (o : Nat) (n : Int) : x.keep o (.int n) = .int n := by cases x <;> simp [AV.keep, keep1]
theorem set_map (cols : List Col) (i : Nat) (c : Col) : (cols.map Col.av).set i c.av = (cols.set i c).map Col.av := List.map_set.symm
set_option maxRecDepth 4000 in
set_option maxHeartbeats 4000000 in
theorem one_op1 (x : Lens) (cols : List Col) (hx : qbq x) (hc0 : 1 ≤ cols.length) (hc : cols.length ≤ 100) (hr : qbz x = true) (ho : x.op = 1) (i : Nat) (hi1 : findP cols x.a.toList = i) (hi2 : i < cols.length) (he : qcx x cols i = 0) (R : List Col) (hR : nextP x cols i (findP cols x.b.toList).toNat = R) : Gives Tryz.prog 18 [x.av, .sl (cols.map Col.av)] (.tup [.sl (R.map Col.av), .int 0]) := by
  have c1 := qes x hx
  have c2 := qx cols x.a (by omega)
  have c3 := qgm cols hc0 hc
  have c5 := qx cols x.b (by omega)
  have c6 := qgo x cols i hi2 (by omega) (fun h => absurd h (by omega))
  rw [hr] at c1
  rw [hi1] at c2
  rw [he] at c6
  have hin : ¬ (i : Int) < 0 := by omega
  have h1 : ((i : Int)).toNat = i := by omega
  have h2 : ((i : Int) + 1).toNat = i + 1 := by omega
  have hci := qbu hi2
  have hln : (cols.map Col.av).length = cols.length := by simp
  have d0 : (x.op == 0) = false := beq_eq_false_iff_ne.2 (by omega)
  have d1 : (x.op == 1) = true := by rw [ho]; rfl
  have d2 : (x.op == 2) = false := beq_eq_false_iff_ne.2 (by omega)
  have d3 : (x.op == 3) = false := beq_eq_false_iff_ne.2 (by omega)
  have d4 : (x.op == 4) = false := beq_eq_false_iff_ne.2 (by omega)
  have d5 : (x.op == 5) = false := beq_eq_false_iff_ne.2 (by omega)
  have d6 : (x.op == 6) = false := beq_eq_false_iff_ne.2 (by omega)
  have c7 : ∀ (σ : Nat → AB) (r : Nat), σ r = .vec (cols.map Col.av) 53 3 → _ := fun σ r hσ => del_acC (cols.map Col.av) i cols.length hi2 hln (raw_cols cols) (wid_cols cols) (by omega) (fun m => by rw [← qbr]; exact Col.avs_cl _ m) (σ := σ) (r := r) hσ
  unfold nextP at hR
  rw [if_pos ho] at hR
  refine qh Tryz.func18 Tryz.ntmps18 fun σ n0 hcl hft => ?_
  repeat' (first | ((first | ((with_reducible refine qf (fun hg => ?_) (fun hg => ?_)) <;> (try simp only [hg]) <;> (try simp only [gS] at hg) <;> (try (first | simp only [eq_false hg, gI] | simp only [eq_true hg, gI]))) | refine Stp.m ?_ | refine qw c3 ?_ | refine qfp (n0 + 1) _ (c7 _ _ (by simp)) (by simp) ?_ | refine qi ?_ | refine agH ?_) <;> (try simp (disch := first | omega | simp) [qd, -qg, -ql, d0, d1, d2, d3, d4, d5, d6, hin, h1, h2, List.take_succ_cons, List.drop_succ_cons])) | refine sideA ?_ | refine qc fun K hK => ?_ | refine qa ?_ | refine qe ?_ | refine qb ?_ | (refine hK _ ?_; clear hK K) | clear hK K)
  rw [← hR]; exact qbr _ _ _
set_option maxRecDepth 4000 in
set_option maxHeartbeats 4000000 in
theorem one_op2 (x : Lens) (cols : List Col) (hx : qbq x) (hc0 : 1 ≤ cols.length) (hc : cols.length ≤ 100) (hr : qbz x = true) (ho : x.op = 2) (i : Nat) (hi1 : findP cols x.a.toList = i) (hi2 : i < cols.length) (he : qcx x cols i = 0) (R : List Col) (hR : nextP x cols i (findP cols x.b.toList).toNat = R) : Gives Tryz.prog 18 [x.av, .sl (cols.map Col.av)] (.tup [.sl (R.map Col.av), .int 0]) := by
  have c1 := qes x hx
  have c2 := qx cols x.a (by omega)
  have c3 := qgm cols hc0 hc
  have c5 := qx cols x.b (by omega)
  have c6 := qgo x cols i hi2 (by omega) (fun h => absurd h (by omega))
  rw [hr] at c1
  rw [hi1] at c2
  rw [he] at c6
  have hin : ¬ (i : Int) < 0 := by omega
  have h1 : ((i : Int)).toNat = i := by omega
  have h2 : ((i : Int) + 1).toNat = i + 1 := by omega
  have hci := qbu hi2
  have hln : (cols.map Col.av).length = cols.length := by simp
  have d0 : (x.op == 0) = false := beq_eq_false_iff_ne.2 (by omega)
  have d1 : (x.op == 1) = false := beq_eq_false_iff_ne.2 (by omega)
  have d2 : (x.op == 2) = true := by rw [ho]; rfl
  have d3 : (x.op == 3) = false := beq_eq_false_iff_ne.2 (by omega)
  have d4 : (x.op == 4) = false := beq_eq_false_iff_ne.2 (by omega)
  have d5 : (x.op == 5) = false := beq_eq_false_iff_ne.2 (by omega)
  have d6 : (x.op == 6) = false := beq_eq_false_iff_ne.2 (by omega)
  unfold nextP at hR
  rw [if_neg (by omega), if_pos ho, hci] at hR
  refine qh Tryz.func18 Tryz.ntmps18 fun σ n0 hcl hft => ?_
  repeat' (first | ((first | with_reducible refine qs ?_ | ((with_reducible refine qf (fun hg => ?_) (fun hg => ?_)) <;> (try simp only [hg]) <;> (try simp only [gS] at hg) <;> (try (first | simp only [eq_false hg, gI] | simp only [eq_true hg, gI]))) | refine Stp.m ?_ | refine qw c3 ?_ | refine qi ?_ | refine agH ?_) <;> (try simp (disch := first | omega | simp) [qd, -qg, -ql, d0, d1, d2, d3, d4, d5, d6, hin, h1, h2, hi2])) | refine sideA ?_ | refine qc fun K hK => ?_ | refine qa ?_ | refine qe ?_ | refine qb ?_ | (refine hK _ ?_; clear hK K) | clear hK K)
  refine ⟨qq 4 1 (k := cols.length) (by simp) (by rfl) (by simp) ?_⟩
  repeat' (first | ((first | ((with_reducible refine qf (fun hg => ?_) (fun hg => ?_)) <;> (try simp only [hg]) <;> (try simp only [gS] at hg) <;> (try (first | simp only [eq_false hg, gI] | simp only [eq_true hg, gI]))) | refine Stp.m ?_) <;> (try simp (disch := first | omega | simp) [qd, -qg, -ql])) | refine sideA ?_ | refine qc fun K hK => ?_ | refine qa ?_ | refine qe ?_ | refine qb ?_ | (refine hK _ ?_; clear hK K) | clear hK K)
  rw [← hR]; exact set_map cols i ⟨x.b, cols[i].type, cols[i].unit⟩
set_option maxRecDepth 4000 in
set_option maxHeartbeats 4000000 in
theorem one_op3 (x : Lens) (cols : List Col) (hx : qbq x) (hc0 : 1 ≤ cols.length) (hc : cols.length ≤ 100) (hr : qbz x = true) (ho : x.op = 3) (i : Nat) (hi1 : findP cols x.a.toList = i) (hi2 : i < cols.length) (he : qcx x cols i = 0) (R : List Col) (hR : nextP x cols i (findP cols x.b.toList).toNat = R) : Gives Tryz.prog 18 [x.av, .sl (cols.map Col.av)] (.tup [.sl (R.map Col.av), .int 0]) := by
  have c1 := qes x hx
  have c2 := qx cols x.a (by omega)
  have c3 := qgm cols hc0 hc
  have c5 := qx cols x.b (by omega)
  have c6 := qgo x cols i hi2 (by omega) (fun h => absurd h (by omega))
  rw [hr] at c1
  rw [hi1] at c2
  rw [he] at c6
  have hin : ¬ (i : Int) < 0 := by omega
  have h1 : ((i : Int)).toNat = i := by omega
  have h2 : ((i : Int) + 1).toNat = i + 1 := by omega
  have hci := qbu hi2
  have hln : (cols.map Col.av).length = cols.length := by simp
  have d0 : (x.op == 0) = false := beq_eq_false_iff_ne.2 (by omega)
  have d1 : (x.op == 1) = false := beq_eq_false_iff_ne.2 (by omega)
  have d2 : (x.op == 2) = false := beq_eq_false_iff_ne.2 (by omega)
  have d3 : (x.op == 3) = true := by rw [ho]; rfl
  have d4 : (x.op == 4) = false := beq_eq_false_iff_ne.2 (by omega)
  have d5 : (x.op == 5) = false := beq_eq_false_iff_ne.2 (by omega)
  have d6 : (x.op == 6) = false := beq_eq_false_iff_ne.2 (by omega)
  have c7 : ∀ (σ : Nat → AB) (r : Nat), σ r = .vec (cols.map Col.av) 53 3 → _ := fun σ r hσ => rep_acC (cols.map Col.av) ([⟨x.b, 1, ⟨#[]⟩⟩, ⟨x.c, 1, ⟨#[]⟩⟩].map Col.av) i (i + 1) cols.length 2 (by omega) (by omega) (by decide) hln (by rfl) (raw_cols cols) (wid_cols cols) (raw_cols _) (wid_cols _) (by omega) (by omega) (fun m => by rw [← List.map_take, ← List.map_drop, ← List.map_append, ← List.map_append]; exact Col.avs_cl _ m) (σ := σ) (r := r) hσ
  unfold nextP at hR
  rw [if_neg (by omega), if_neg (by omega), if_pos ho] at hR
  refine qh Tryz.func18 Tryz.ntmps18 fun σ n0 hcl hft => ?_
  repeat' (first | ((first | ((with_reducible refine qf (fun hg => ?_) (fun hg => ?_)) <;> (try simp only [hg]) <;> (try simp only [gS] at hg) <;> (try (first | simp only [eq_false hg, gI] | simp only [eq_true hg, gI]))) | refine Stp.m ?_ | refine qw c3 ?_ | refine qfp (n0 + 1) _ (c7 _ _ (by simp)) (by simp) ?_ | refine qi ?_ | refine agH ?_) <;> (try simp (disch := first | omega | simp) [qd, -qg, -ql, d0, d1, d2, d3, d4, d5, d6, hin, h1, h2, hi2])) | refine sideA ?_ | refine qc fun K hK => ?_ | refine qa ?_ | refine qe ?_ | refine qb ?_ | (refine hK _ ?_; clear hK K) | clear hK K)
  rw [← hR]; simp
set_option maxRecDepth 4000 in
set_option maxHeartbeats 4000000 in
theorem one_op4 (x : Lens) (cols : List Col) (hx : qbq x) (hc0 : 1 ≤ cols.length) (hc : cols.length ≤ 100) (hr : qbz x = true) (ho : x.op = 4) (i : Nat) (hi1 : findP cols x.a.toList = i) (hi2 : i < cols.length) (he : qcx x cols i = 0) (hb : 0 ≤ findP cols x.b.toList) (R : List Col) (hR : nextP x cols i (findP cols x.b.toList).toNat = R) : Gives Tryz.prog 18 [x.av, .sl (cols.map Col.av)] (.tup [.sl (R.map Col.av), .int 0]) := by
  have c1 := qes x hx
  have c2 := qx cols x.a (by omega)
  have c3 := qgm cols hc0 hc
  have c5 := qx cols x.b (by omega)
  have c6 := qgo x cols i hi2 (by omega) (fun _ => hb)
  rw [hr] at c1
  rw [hi1] at c2
  rw [he] at c6
  have hin : ¬ (i : Int) < 0 := by omega
  have h1 : ((i : Int)).toNat = i := by omega
  have h2 : ((i : Int) + 1).toNat = i + 1 := by omega
  have hci := qbu hi2
  have hln : (cols.map Col.av).length = cols.length := by simp
  have d0 : (x.op == 0) = false := beq_eq_false_iff_ne.2 (by omega)
  have d1 : (x.op == 1) = false := beq_eq_false_iff_ne.2 (by omega)
  have d2 : (x.op == 2) = false := beq_eq_false_iff_ne.2 (by omega)
  have d3 : (x.op == 3) = false := beq_eq_false_iff_ne.2 (by omega)
  have d4 : (x.op == 4) = true := by rw [ho]; rfl
  have d5 : (x.op == 5) = false := beq_eq_false_iff_ne.2 (by omega)
  have d6 : (x.op == 6) = false := beq_eq_false_iff_ne.2 (by omega)
  obtain ⟨k, hk1, hk2, -⟩ := findI hb
  rw [hk1] at c5
  have e2 : (findP cols x.b.toList).toNat = k := by omega
  have hkn : ¬ (k : Int) < 0 := by omega
  have hset : (cols.map Col.av).set i (Col.av ⟨x.c, cols[i].type, cols[i].unit⟩) = (cols.set i ⟨x.c, cols[i].type, cols[i].unit⟩).map Col.av := set_map _ _ _
  have c7 : ∀ (σ : Nat → AB) (r : Nat), σ r = .vec ((cols.map Col.av).set i (Col.av ⟨x.c, cols[i].type, cols[i].unit⟩)) 53 3 → _ := fun σ r hσ => del_acC ((cols.map Col.av).set i (Col.av ⟨x.c, cols[i].type, cols[i].unit⟩)) k cols.length hk2 (by simp) (by rw [hset]; exact raw_cols _) (by rw [hset]; exact wid_cols _) (by omega) (fun m => by rw [hset, ← qbr]; exact Col.avs_cl _ m) (σ := σ) (r := r) hσ
  have h3 : ((k : Int)).toNat = k := by omega
  unfold nextP at hR
  rw [if_neg (by omega), if_neg (by omega), if_neg (by omega), if_pos ho, hci, e2] at hR
  refine qh Tryz.func18 Tryz.ntmps18 fun σ n0 hcl hft => ?_
  repeat' (first | ((first | ((with_reducible refine qf (fun hg => ?_) (fun hg => ?_)) <;> (try simp only [hg]) <;> (try simp only [gS] at hg) <;> (try (first | simp only [eq_false hg, gI] | simp only [eq_true hg, gI]))) | refine Stp.m ?_ | refine qw c3 ?_ | refine qfp (n0 + 1) _ (c7 _ _ (by simp; rfl)) (by simp) ?_ | refine qi ?_ | refine agH ?_) <;> (try simp (disch := first | omega | simp) [qd, -qg, -ql, d0, d1, d2, d3, d4, d5, d6, hin, hkn, h1, h2, hi2, hk2])) | refine sideA ?_ | refine qc fun K hK => ?_ | refine qa ?_ | refine qe ?_ | refine qb ?_ | (refine hK _ ?_; clear hK K) | clear hK K)
  rw [← hR, hset]; exact qbr _ _ _
set_option maxRecDepth 4000 in
set_option maxHeartbeats 4000000 in
theorem one_op5 (x : Lens) (cols : List Col) (hx : qbq x) (hc0 : 1 ≤ cols.length) (hc : cols.length ≤ 100) (hr : qbz x = true) (ho : x.op = 5) (i : Nat) (hi1 : findP cols x.a.toList = i) (hi2 : i < cols.length) (he : qcx x cols i = 0) (R : List Col) (hR : nextP x cols i (findP cols x.b.toList).toNat = R) : Gives Tryz.prog 18 [x.av, .sl (cols.map Col.av)] (.tup [.sl (R.map Col.av), .int 0]) := by
  have c1 := qes x hx
  have c2 := qx cols x.a (by omega)
  have c3 := qgm cols hc0 hc
  have c5 := qx cols x.b (by omega)
  have c6 := qgo x cols i hi2 (by omega) (fun h => absurd h (by omega))
  rw [hr] at c1
  rw [hi1] at c2
  rw [he] at c6
  have hin : ¬ (i : Int) < 0 := by omega
  have h1 : ((i : Int)).toNat = i := by omega
  have h2 : ((i : Int) + 1).toNat = i + 1 := by omega
  have hci := qbu hi2
  have hln : (cols.map Col.av).length = cols.length := by simp
  have d0 : (x.op == 0) = false := beq_eq_false_iff_ne.2 (by omega)
  have d1 : (x.op == 1) = false := beq_eq_false_iff_ne.2 (by omega)
  have d2 : (x.op == 2) = false := beq_eq_false_iff_ne.2 (by omega)
  have d3 : (x.op == 3) = false := beq_eq_false_iff_ne.2 (by omega)
  have d4 : (x.op == 4) = false := beq_eq_false_iff_ne.2 (by omega)
  have d5 : (x.op == 5) = true := by rw [ho]; rfl
  have d6 : (x.op == 6) = false := beq_eq_false_iff_ne.2 (by omega)
  unfold nextP at hR
  rw [if_neg (by omega), if_neg (by omega), if_neg (by omega), if_neg (by omega), if_pos ho, hci] at hR
  have hcv : cols[i].av = .agg [.str cols[i].name, .int cols[i].type, .str cols[i].unit] := rfl
  refine qh Tryz.func18 Tryz.ntmps18 fun σ n0 hcl hft => ?_
  repeat' (first | ((first | with_reducible refine qs ?_ | ((with_reducible refine qf (fun hg => ?_) (fun hg => ?_)) <;> (try simp only [hg]) <;> (try simp only [gS] at hg) <;> (try (first | simp only [eq_false hg, gI] | simp only [eq_true hg, gI]))) | refine Stp.m ?_ | refine qw c3 ?_ | refine qi ?_ | refine agH ?_) <;> (try simp (disch := first | omega | simp) [qd, -qg, -ql, d0, d1, d2, d3, d4, d5, d6, hin, h1, h2, hi2, hcv, -Col.av_fold])) | refine sideA ?_ | refine qc fun K hK => ?_ | refine qa ?_ | refine qe ?_ | refine qb ?_ | (refine hK _ ?_; clear hK K) | clear hK K)
  refine ⟨qq 4 1 (k := cols.length) (by simp) (by rfl) (by simp) ?_⟩
  repeat' (first | ((first | ((with_reducible refine qf (fun hg => ?_) (fun hg => ?_)) <;> (try simp only [hg]) <;> (try simp only [gS] at hg) <;> (try (first | simp only [eq_false hg, gI] | simp only [eq_true hg, gI]))) | refine Stp.m ?_) <;> (try simp (disch := first | omega | simp) [qd, -qg, -ql])) | refine sideA ?_ | refine qc fun K hK => ?_ | refine qa ?_ | refine qe ?_ | refine qb ?_ | (refine hK _ ?_; clear hK K) | clear hK K)
  rw [← hR]; exact set_map cols i ⟨cols[i].name, x.n, ⟨#[]⟩⟩
set_option maxRecDepth 4000 in
set_option maxHeartbeats 4000000 in
theorem one_op6 (x : Lens) (cols : List Col) (hx : qbq x) (hc0 : 1 ≤ cols.length) (hc : cols.length ≤ 100) (hr : qbz x = true) (ho : x.op = 6) (i : Nat) (hi1 : findP cols x.a.toList = i) (hi2 : i < cols.length) (he : qcx x cols i = 0) (R : List Col) (hR : nextP x cols i (findP cols x.b.toList).toNat = R) : Gives Tryz.prog 18 [x.av, .sl (cols.map Col.av)] (.tup [.sl (R.map Col.av), .int 0]) := by
  have c1 := qes x hx
  have c2 := qx cols x.a (by omega)
  have c3 := qgm cols hc0 hc
  have c5 := qx cols x.b (by omega)
  have c6 := qgo x cols i hi2 (by omega) (fun h => absurd h (by omega))
  rw [hr] at c1
  rw [hi1] at c2
  rw [he] at c6
  have hin : ¬ (i : Int) < 0 := by omega
  have h1 : ((i : Int)).toNat = i := by omega
  have h2 : ((i : Int) + 1).toNat = i + 1 := by omega
  have hci := qbu hi2
  have hln : (cols.map Col.av).length = cols.length := by simp
  have d0 : (x.op == 0) = false := beq_eq_false_iff_ne.2 (by omega)
  have d1 : (x.op == 1) = false := beq_eq_false_iff_ne.2 (by omega)
  have d2 : (x.op == 2) = false := beq_eq_false_iff_ne.2 (by omega)
  have d3 : (x.op == 3) = false := beq_eq_false_iff_ne.2 (by omega)
  have d4 : (x.op == 4) = false := beq_eq_false_iff_ne.2 (by omega)
  have d5 : (x.op == 5) = false := beq_eq_false_iff_ne.2 (by omega)
  have d6 : (x.op == 6) = true := by rw [ho]; rfl
  unfold nextP at hR
  rw [if_neg (by omega), if_neg (by omega), if_neg (by omega), if_neg (by omega), if_neg (by omega), if_pos ho, hci] at hR
  refine qh Tryz.func18 Tryz.ntmps18 fun σ n0 hcl hft => ?_
  repeat' (first | ((first | with_reducible refine qs ?_ | ((with_reducible refine qf (fun hg => ?_) (fun hg => ?_)) <;> (try simp only [hg]) <;> (try simp only [gS] at hg) <;> (try (first | simp only [eq_false hg, gI] | simp only [eq_true hg, gI]))) | refine Stp.m ?_ | refine qw c3 ?_ | refine qi ?_ | refine agH ?_) <;> (try simp (disch := first | omega | simp) [qd, -qg, -ql, d0, d1, d2, d3, d4, d5, d6, hin, h1, h2, hi2])) | refine sideA ?_ | refine qc fun K hK => ?_ | refine qa ?_ | refine qe ?_ | refine qb ?_ | (refine hK _ ?_; clear hK K) | clear hK K)
  refine ⟨qq 4 1 (k := cols.length) (by simp) (by rfl) (by simp) ?_⟩
  repeat' (first | ((first | ((with_reducible refine qf (fun hg => ?_) (fun hg => ?_)) <;> (try simp only [hg]) <;> (try simp only [gS] at hg) <;> (try (first | simp only [eq_false hg, gI] | simp only [eq_true hg, gI]))) | refine Stp.m ?_) <;> (try simp (disch := first | omega | simp) [qd, -qg, -ql])) | refine sideA ?_ | refine qc fun K hK => ?_ | refine qa ?_ | refine qe ?_ | refine qb ?_ | (refine hK _ ?_; clear hK K) | clear hK K)
  rw [← hR]; exact set_map cols i ⟨cols[i].name, cols[i].type, x.b⟩
theorem right_op {x : Lens} (h : qbz x = true) : x.op = 0 ∨ x.op = 1 ∨ x.op = 2 ∨ x.op = 3 ∨ x.op = 4 ∨ x.op = 5 ∨ x.op = 6 := by
  refine Classical.byContradiction fun hn => ?_
  unfold qbz at h
  rw [if_neg (by omega), if_neg (by omega), if_neg (by omega), if_neg (by omega), if_neg (by omega), if_neg (by omega), if_neg (by omega), Bool.and_false] at h
  cases h
theorem oneP_ok {x : Lens} {cols : List Col} (hr : qbz x = true) (h0 : x.op ≠ 0) (h : (oneP x cols).2 = 0) : ∃ i : Nat, findP cols x.a.toList = i ∧ ∃ hi : i < cols.length, cols[i].name.toList = x.a.toList ∧ (x.op = 4 → 0 ≤ findP cols x.b.toList) ∧ qcx x cols i = 0 ∧ (oneP x cols).1 = nextP x cols i (findP cols x.b.toList).toNat := by
  unfold oneP at h ⊢
  rw [if_neg (by simp [hr]), if_neg h0] at h ⊢
  by_cases hn : findP cols x.a.toList < 0 ∨ x.op = 4 ∧ findP cols x.b.toList < 0
  · rw [if_pos hn] at h; cases h
  · rw [if_neg hn] at h ⊢
    obtain ⟨i, h1, h2, h3⟩ := findI (L := cols) (s := x.a.toList) (by omega)
    have e : (findP cols x.a.toList).toNat = i := by omega
    rw [e] at h ⊢
    refine ⟨i, h1, h2, h3, fun h4 => by by_cases hh : 0 ≤ findP cols x.b.toList; exact hh; exact absurd (.inr ⟨h4, by omega⟩) hn, ?_⟩
    by_cases hf : qcx x cols i = 0
    · exact ⟨hf, by rw [if_neg (by simp [hf])]⟩
    · rw [if_pos hf] at h; exact absurd h hf
theorem one_g (x : Lens) (cols : List Col) (hx : qbq x) (hc0 : 1 ≤ cols.length) (hc : cols.length ≤ 100) : Gives Tryz.prog 18 [x.av, .sl (cols.map Col.av)] (.tup [.sl ((oneP x cols).1.map Col.av), .int (oneP x cols).2]) := by
  by_cases h : qbz x = false ∨ x.op = 0 ∨ (oneP x cols).2 ≠ 0
  · exact one_g1 x cols hx hc0 hc h
  · have hr : qbz x = true := by cases hh : qbz x; exact absurd (.inl hh) h; rfl
    have h0 : x.op ≠ 0 := fun e => h (.inr (.inl e))
    have h2 : (oneP x cols).2 = 0 := Classical.byContradiction fun e => h (.inr (.inr e))
    obtain ⟨i, hi1, hi2, -, hb, he, hR⟩ := oneP_ok hr h0 h2
    rw [hR, h2]
    rcases right_op hr with ho | ho | ho | ho | ho | ho | ho
    · exact absurd ho h0
    · exact one_op1 x cols hx hc0 hc hr ho i hi1 hi2 he _ rfl
    · exact one_op2 x cols hx hc0 hc hr ho i hi1 hi2 he _ rfl
    · exact one_op3 x cols hx hc0 hc hr ho i hi1 hi2 he _ rfl
    · exact one_op4 x cols hx hc0 hc hr ho i hi1 hi2 he (hb ho) _ rfl
    · exact one_op5 x cols hx hc0 hc hr ho i hi1 hi2 he _ rfl
    · exact one_op6 x cols hx hc0 hc hr ho i hi1 hi2 he _ rfl
end Go.Proofs.YtbkkjlcclddpdaaGreatDoor

/- Walk of lens.Print. -/
namespace Go.Proofs.YtbkkjlcclddpdaaGreatDoor
open Go.RowKit Go.Lib
def qcc (l : List Lens) : List UInt8 := l.flatMap fun x => lineL x ++ [10]
def lprintP (l : List Lens) : List UInt8 := if l.all qbz = true then qcc l else []
structure PrintX (x : Lens) : Prop where
  l : qbq x
  n : i64 x.n
  v : i64 x.value.n
  s : x.value.s.size ≤ 1000000
theorem bA_lf (l : List UInt8) : qk l ++ ⟨#[10]⟩ = qk (l ++ [10]) := by apply bA_eq; simp
theorem linesL_take {l : List Lens} {k : Nat} (h : k < l.length) : qcc (l.take (k + 1)) = qcc (l.take k) ++ (lineL l[k] ++ [10]) := by
  unfold qcc; rw [List.take_succ_eq_append_getElem h, List.flatMap_append]; simp
theorem linesL_le (l : List Lens) (k : Nat) : (qcc (l.take k)).length ≤ (qcc l).length := by
  have h : qcc l = qcc (l.take k) ++ qcc (l.drop k) := by unfold qcc; rw [← List.flatMap_append, List.take_append_drop]
  rw [h, List.length_append]; omega
set_option maxHeartbeats 4000000 in
theorem lprint_g (l : List Lens) (hl : ∀ x ∈ l, PrintX x) (hL : l.length ≤ 1000000) (hs : (qcc l).length ≤ 1000000000) : Gives Tryz.prog 12 [.sl (l.map Lens.av)] (.str (qk (lprintP l))) := by
  obtain ⟨R, hR⟩ : ∃ R, lprintP l = R := ⟨_, rfl⟩
  rw [hR]
  unfold lprintP at hR
  refine qh Tryz.func12 Tryz.ntmps12 fun σ n0 hcl hft => ?_
  repeat' (first | ((first | ((with_reducible refine qf (fun hg => ?_) (fun hg => ?_)) <;> (try simp only [hg]) <;> (try simp only [gS] at hg) <;> (try (first | simp only [eq_false hg, gI] | simp only [eq_true hg, gI]))) | refine Stp.m ?_) <;> (try simp (disch := first | omega | simp) [qd, -qg, -ql])) | refine sideA ?_ | refine qc fun K hK => ?_ | refine qa ?_ | refine qe ?_ | refine qb ?_ | (refine hK _ ?_; clear hK K) | clear hK K)
  refine qbo 0 1 5 1 (by rfl) (by rfl) ?_
  refine qt hcl (fun k : Nat => [(3, .ptr n0 0), (6, .sl (l.map Lens.av)), (7, .int l.length), (8, .int k)]) (fun k => [.cells [if k = 0 then .v (.pointer none) else .ptr n0 0, .gs (n0 + 1) ((qcc (l.take k)).map AV.byte)] 61, .tail (qcc (l.take k)).length 5 1])
    (fun k => k ≤ l.length ∧ ∀ j (h : j < l.length), j < k → qbz l[j] = true) (fun k => l.length - k) 0 ⟨by omega, fun _ _ h => absurd h (by omega)⟩ (by simp [qcc]) fun k ⟨hk, he⟩ => ?_
  have hle := linesL_le l k
  by_cases hlt : k < l.length
  · have hx := hl _ (List.getElem_mem hlt)
    have c1 := qes l[k] hx.l
    by_cases hr : qbz l[k] = true
    · rw [hr] at c1
      have c2 := line_g l[k] hx.l hx.n hx.v hx.s (right_op hr)
      have hzl := qm (lineL l[k] ++ [10])
      have hle2 := linesL_le l (k + 1)
      have ht := linesL_take hlt
      have hlen := congrArg List.length ht
      rw [List.length_append] at hlen
      have hzn := qm (lineL l[k])
      have hln2 : (qcc (l.take (k + 1))).length = (qcc (l.take k)).length + ((lineL l[k]).length + 1) := by rw [hlen, List.length_append]; rfl
      rw [List.length_append] at hzl
      have hzl : (qk (lineL l[k] ++ [10])).size = (lineL l[k]).length + 1 := hzl
      clear hlen
      have hib := AV.isBs_bytes (qcc (l.take k))
      have hl0 : qcc [] = [] := rfl
      have hle3 : (qcc (l.take k)).length ≤ 1000000000 := by omega
      by_cases hk0 : k = 0
      · subst hk0
        repeat' (first | ((first | refine qbo 0 1 5 1 (by rfl) (by rfl) ?_ | ((with_reducible refine qf (fun hg => ?_) (fun hg => ?_)) <;> (try simp only [hg]) <;> (try simp only [gS] at hg) <;> (try (first | simp only [eq_false hg, gI] | simp only [eq_true hg, gI]))) | refine Stp.m ?_ | refine qcz (i := 0) (j := 1) _ (by rfl) (by rfl) (by first | rfl | (simp; done) | omega | (simp; omega)) (by first | (simp; done) | assumption) (by first | (simp; done) | assumption) (by first | omega | (simp; done) | (simp; omega)) ?_ | refine qbw (i := 0) (j := 1) _ (by rfl) (by rfl) (by first | rfl | (simp; done) | omega | (simp; omega)) (by first | (simp; done) | assumption) (by first | (simp; done) | assumption) (by first | omega | (simp; done) | (simp; omega)) ?_ | refine qi ?_ | refine agH ?_ | refine qdj (c1) ?_ | refine qdj (c2) ?_) <;> (try simp (disch := first | omega | simp) [qd, -qg, -ql, hlt, hzn, bA_lf, hl0])) | refine sideA ?_ | refine qc fun K hK => ?_ | refine qa ?_ | refine qe ?_ | refine qb ?_ | (refine hK _ ?_; clear hK K) | clear hK K)
        have ht' : qcc (l.take 1) = lineL l[0] ++ [10] := ht
        refine ⟨1, ⟨by omega, fun j h hj => ?_⟩, by omega, ⟨by rw [ht']; simp, by rw [ht', hzl]; simp⟩, by simp⟩
        obtain rfl : j = 0 := by omega
        exact hr
      · repeat' (first | ((first | refine qbo 0 1 5 1 (by rfl) (by rfl) ?_ | ((with_reducible refine qf (fun hg => ?_) (fun hg => ?_)) <;> (try simp only [hg]) <;> (try simp only [gS] at hg) <;> (try (first | simp only [eq_false hg, gI] | simp only [eq_true hg, gI]))) | refine Stp.m ?_ | refine qcz (i := 0) (j := 1) _ (by rfl) (by rfl) (by first | rfl | (simp; done) | omega | (simp; omega)) (by first | (simp; done) | assumption) (by first | (simp; done) | assumption) (by first | omega | (simp; done) | (simp; omega)) ?_ | refine qbw (i := 0) (j := 1) _ (by rfl) (by rfl) (by first | rfl | (simp; done) | omega | (simp; omega)) (by first | (simp; done) | assumption) (by first | (simp; done) | assumption) (by first | omega | (simp; done) | (simp; omega)) ?_ | refine qi ?_ | refine agH ?_ | refine qdj (c1) ?_ | refine qdj (c2) ?_) <;> (try simp (disch := first | omega | simp) [qd, -qg, -ql, hlt, hk0, hzn, bA_lf])) | refine sideA ?_ | refine qc fun K hK => ?_ | refine qa ?_ | refine qe ?_ | refine qb ?_ | (refine hK _ ?_; clear hK K) | clear hK K)
        refine ⟨k + 1, ⟨by omega, fun j h hj => ?_⟩, by omega, ⟨by rw [ht]; simp, by rw [hln2, hzl]⟩, by simp⟩
        by_cases hjk : j = k
        · subst hjk; exact hr
        · exact he j h (by omega)
    · have hr' : qbz l[k] = false := by simpa using hr
      rw [hr'] at c1
      have hall : ¬ l.all qbz = true := fun h => hr (List.all_eq_true.1 h _ (List.getElem_mem hlt))
      rw [if_neg hall] at hR
      subst hR
      repeat' (first | ((first | ((with_reducible refine qf (fun hg => ?_) (fun hg => ?_)) <;> (try simp only [hg]) <;> (try simp only [gS] at hg) <;> (try (first | simp only [eq_false hg, gI] | simp only [eq_true hg, gI]))) | refine Stp.m ?_ | refine qi ?_ | refine agH ?_ | refine qdj (c1) ?_) <;> (try simp (disch := first | omega | simp) [qd, -qg, -ql, hlt])) | refine sideA ?_ | refine qc fun K hK => ?_ | refine qa ?_ | refine qe ?_ | refine qb ?_ | (refine hK _ ?_; clear hK K) | clear hK K)
      rfl
  · obtain rfl : k = l.length := by omega
    have hall : l.all qbz = true := List.all_eq_true.2 fun x hx => by
      obtain ⟨j, hj, rfl⟩ := List.mem_iff_getElem.1 hx
      exact he j hj hj
    rw [if_pos hall] at hR
    rw [List.take_length]
    repeat' (first | ((first | ((with_reducible refine qf (fun hg => ?_) (fun hg => ?_)) <;> (try simp only [hg]) <;> (try simp only [gS] at hg) <;> (try (first | simp only [eq_false hg, gI] | simp only [eq_true hg, gI]))) | refine Stp.m ?_ | refine acall (qdg (i := 0) (j := 1) (qcc l) (by rfl) (by rfl) (by simp) (by simp)) ?_ | refine qo (qdg (i := 0) (j := 1) (qcc l) (by rfl) (by rfl) (by simp) (by simp)) ?_ | refine qdj (qdg (i := 0) (j := 1) (qcc l) (by rfl) (by rfl) (by simp) (by simp)) ?_) <;> (try simp (disch := first | omega | simp) [qd, -qg, -ql, hlt])) | refine sideA ?_ | refine qc fun K hK => ?_ | refine qa ?_ | refine qe ?_ | refine qb ?_ | (refine hK _ ?_; clear hK K) | clear hK K)
    rw [hR]; rfl
end Go.Proofs.YtbkkjlcclddpdaaGreatDoor

/- Walks of the reference: right values and rows, comparing, right shapes, Fits, Default. -/
namespace Go.Proofs.YtbkkjlcclddpdaaGreatDoor
open Go.RowKit Go.Lib
theorem rightV_eq (v : Val) : qbh v = if v.k = 0 then decide (v.s.toList = []) else if v.k = 1 then decide (v.n = 0) && decide (v.s.size ≤ 200) else decide (v.k = 2) && (decide (v.n = 0) || decide (v.n = 1)) && decide (v.s.toList = []) := by
  obtain ⟨k, n, s⟩ := v
  have e : (⟨#[]⟩ : ByteArray).toList = [] := by rw [ByteArray.toList_eq]
  unfold qbh
  dsimp only
  by_cases h0 : k = 0
  · subst h0
    rw [if_pos rfl, if_pos rfl]
    rw [Bool.eq_iff_iff]
    simp [Val.eqB, e]
  · rw [if_neg h0, if_neg h0]
    by_cases h1 : k = 1
    · subst h1
      rw [if_pos rfl, if_pos rfl]
      rw [Bool.eq_iff_iff]
      simp [Val.eqB]
    · rw [if_neg h1, if_neg h1]
      rw [Bool.eq_iff_iff]
      simp only [Val.eqB, e, Bool.or_eq_true, Bool.and_eq_true, beq_iff_eq, decide_eq_true_eq]
      constructor
      · rintro (⟨a, b, c⟩ | ⟨a, b, c⟩)
        · exact ⟨⟨a, .inl b⟩, c⟩
        · exact ⟨⟨a, .inr b⟩, c⟩
      · rintro ⟨⟨a, b | b⟩, c⟩
        · exact .inl ⟨a, b, c⟩
        · exact .inr ⟨a, b, c⟩
theorem rvright_g (v : Val) : Gives Tryz.prog 54 [v.av] (.bool (qbh v)) := by
  have hR := rightV_eq v
  obtain ⟨R, hR2⟩ : ∃ R, R = qbh v := ⟨_, rfl⟩
  rw [← hR2] at hR ⊢
  clear hR2
  refine qh Tryz.func54 Tryz.ntmps54 fun σ n0 hcl hft => ?_
  repeat' (first | ((first | ((with_reducible refine qf (fun hg => ?_) (fun hg => ?_)) <;> (try simp only [hg]) <;> (try simp only [gS] at hg) <;> (try (first | simp only [eq_false hg, gI] | simp only [eq_true hg, gI]))) | refine Stp.m ?_) <;> (try simp (disch := first | omega | simp) [qd, -qg, -ql])) | refine sideA ?_ | refine qc fun K hK => ?_ | refine qa ?_ | refine qe ?_ | refine qb ?_ | (refine hK _ ?_; clear hK K) | clear hK K)
  all_goals (rw [hR, Bool.eq_iff_iff]; simp_all)
  all_goals first | omega | skip
theorem rsame_g13 (a b : List Col) (hL : a.length ≤ 1000000) : Gives Tryz.prog 20 [.sl (a.map Col.av), .sl (b.map Col.av)] (.bool (sameC a b)) := by
  obtain ⟨R, hR⟩ : ∃ R, R = sameC a b := ⟨_, rfl⟩
  rw [← hR]
  by_cases hlen : a.length = b.length
  · have hlen' : (a.length : Int) = b.length := by omega
    refine qh Tryz.func20 Tryz.ntmps20 fun σ n0 hcl hft => ?_
    repeat' (first | ((first | ((with_reducible refine qf (fun hg => ?_) (fun hg => ?_)) <;> (try simp only [hg]) <;> (try simp only [gS] at hg) <;> (try (first | simp only [eq_false hg, gI] | simp only [eq_true hg, gI]))) | refine Stp.m ?_) <;> (try simp (disch := first | omega | simp) [qd, -qg, -ql, hlen'])) | refine sideA ?_ | refine qc fun K hK => ?_ | refine qa ?_ | refine qe ?_ | refine qb ?_ | (refine hK _ ?_; clear hK K) | clear hK K)
    refine qt hcl (fun k : Nat => [(0, .sl (a.map Col.av)), (1, .sl (b.map Col.av)), (5, .int k)]) (fun _ => [])
      (fun k => k ≤ a.length ∧ a.take k = b.take k) (fun k => a.length - k) 0 (by simp [hlen]) (by simp [hlen']) fun k ⟨hk, he⟩ => ?_
    by_cases hlt : k < a.length
    · have hlt2 : k < b.length := by omega
      repeat' (first | ((first | ((with_reducible refine qf (fun hg => ?_) (fun hg => ?_)) <;> (try simp only [hg]) <;> (try simp only [gS] at hg) <;> (try (first | simp only [eq_false hg, gI] | simp only [eq_true hg, gI]))) | refine Stp.m ?_) <;> (try simp (disch := first | omega | simp) [qd, -qg, -ql, hlt, hlt2])) | refine sideA ?_ | refine qc fun K hK => ?_ | refine qa ?_ | refine qe ?_ | refine qb ?_ | (refine hK _ ?_; clear hK K) | clear hK K)
      all_goals first
        | (have hab : a[k] = b[k] := (Col.eqB_iff _ _).1 hg
           refine ⟨k + 1, ⟨by omega, ?_⟩, by omega, by simp [hlen', qd]⟩
           rw [List.take_succ_eq_append_getElem hlt, List.take_succ_eq_append_getElem hlt2, he, hab])
        | (have hab : a ≠ b := fun e => by subst e; rw [← Bool.not_eq_true, Col.eqB_iff] at hg; exact hg rfl
           rw [hR, ← Bool.not_eq_true, sameC_iff]
           exact hab)
    · have hlt3 : ¬ k < b.length := by omega
      repeat' (first | ((first | ((with_reducible refine qf (fun hg => ?_) (fun hg => ?_)) <;> (try simp only [hg]) <;> (try simp only [gS] at hg) <;> (try (first | simp only [eq_false hg, gI] | simp only [eq_true hg, gI]))) | refine Stp.m ?_) <;> (try simp (disch := first | omega | simp) [qd, -qg, -ql, hlt, hlt3])) | refine sideA ?_ | refine qc fun K hK => ?_ | refine qa ?_ | refine qe ?_ | refine qb ?_ | (refine hK _ ?_; clear hK K) | clear hK K)
      rw [hR, sameC_iff]
      have h1 : k = a.length := by omega
      subst h1
      rw [List.take_length, hlen, List.take_length] at he
      exact he
  · have hlen' : ¬ (a.length : Int) = b.length := by omega
    have : sameC a b = false := by rw [← Bool.not_eq_true, sameC_iff]; exact fun e => hlen (by rw [e])
    rw [this] at hR; subst hR
    refine qh Tryz.func20 Tryz.ntmps20 fun σ n0 hcl hft => ?_
    repeat' (first | ((first | ((with_reducible refine qf (fun hg => ?_) (fun hg => ?_)) <;> (try simp only [hg]) <;> (try simp only [gS] at hg) <;> (try (first | simp only [eq_false hg, gI] | simp only [eq_true hg, gI]))) | refine Stp.m ?_) <;> (try simp (disch := first | omega | simp) [qd, -qg, -ql, hlen'])) | refine sideA ?_ | refine qc fun K hK => ?_ | refine qa ?_ | refine qe ?_ | refine qb ?_ | (refine hK _ ?_; clear hK K) | clear hK K)
    omega
theorem less_self : ∀ l : List UInt8, Op.bytesLess l l = false
  | [] => rfl
  | c :: l => by simp [Op.bytesLess, less_self l]
theorem rcmp_g (v : Val) : Gives Tryz.prog 119 [v.av, v.av] (.int 0) := by
  have hl := less_self v.s.toList
  refine qh Tryz.func119 Tryz.ntmps119 fun σ n0 hcl hft => ?_
  repeat' (first | ((first | ((with_reducible refine qf (fun hg => ?_) (fun hg => ?_)) <;> (try simp only [hg]) <;> (try simp only [gS] at hg) <;> (try (first | simp only [eq_false hg, gI] | simp only [eq_true hg, gI]))) | refine Stp.m ?_) <;> (try simp (disch := first | omega | simp) [qd, -qg, -ql, hl])) | refine sideA ?_ | refine qc fun K hK => ?_ | refine qa ?_ | refine qe ?_ | refine qb ?_ | (refine hK _ ?_; clear hK K) | clear hK K)
  all_goals first | omega | skip
theorem rcmps_g (L : List Val) (hL : L.length ≤ 1000000) : Gives Tryz.prog 63 [.sl (L.map Val.av), .sl (L.map Val.av)] (.int 0) := by
  refine qh Tryz.func63 Tryz.ntmps63 fun σ n0 hcl hft => ?_
  repeat' (first | ((first | ((with_reducible refine qf (fun hg => ?_) (fun hg => ?_)) <;> (try simp only [hg]) <;> (try simp only [gS] at hg) <;> (try (first | simp only [eq_false hg, gI] | simp only [eq_true hg, gI]))) | refine Stp.m ?_) <;> (try simp (disch := first | omega | simp) [qd, -qg, -ql])) | refine sideA ?_ | refine qc fun K hK => ?_ | refine qa ?_ | refine qe ?_ | refine qb ?_ | (refine hK _ ?_; clear hK K) | clear hK K)
  refine qt hcl (fun k : Nat => [(0, .sl (L.map Val.av)), (1, .sl (L.map Val.av)), (5, .int k)]) (fun _ => [])
    (fun k => k ≤ L.length) (fun k => L.length - k) 0 (by simp) (by simp) fun k hk => ?_
  by_cases hlt : k < L.length
  · repeat' (first | ((first | ((with_reducible refine qf (fun hg => ?_) (fun hg => ?_)) <;> (try simp only [hg]) <;> (try simp only [gS] at hg) <;> (try (first | simp only [eq_false hg, gI] | simp only [eq_true hg, gI]))) | refine Stp.m ?_ | refine acall (rcmp_g _) ?_ | refine qo (rcmp_g _) ?_) <;> (try simp (disch := first | omega | simp) [qd, -qg, -ql, hlt])) | refine sideA ?_ | refine qc fun K hK => ?_ | refine qa ?_ | refine qe ?_ | refine qb ?_ | (refine hK _ ?_; clear hK K) | clear hK K)
    exact ⟨k + 1, by omega, by omega, by simp⟩
  · repeat' (first | ((first | ((with_reducible refine qf (fun hg => ?_) (fun hg => ?_)) <;> (try simp only [hg]) <;> (try simp only [gS] at hg) <;> (try (first | simp only [eq_false hg, gI] | simp only [eq_true hg, gI]))) | refine Stp.m ?_) <;> (try simp (disch := first | omega | simp) [qd, -qg, -ql, hlt])) | refine sideA ?_ | refine qc fun K hK => ?_ | refine qa ?_ | refine qe ?_ | refine qb ?_ | (refine hK _ ?_; clear hK K) | clear hK K)
    all_goals omega
theorem rsame03_g (L : List Val) (hL : L.length ≤ 1000000) : Gives Tryz.prog 29 [.sl (L.map Val.av), .sl (L.map Val.av)] (.bool true) := by
  refine qh Tryz.func29 Tryz.ntmps29 fun σ n0 hcl hft => ?_
  repeat' (first | ((first | ((with_reducible refine qf (fun hg => ?_) (fun hg => ?_)) <;> (try simp only [hg]) <;> (try simp only [gS] at hg) <;> (try (first | simp only [eq_false hg, gI] | simp only [eq_true hg, gI]))) | refine Stp.m ?_ | refine acall (rcmps_g L hL) ?_ | refine qo (rcmps_g L hL) ?_) <;> (try simp (disch := first | omega | simp) [qd, -qg, -ql])) | refine sideA ?_ | refine qc fun K hK => ?_ | refine qa ?_ | refine qe ?_ | refine qb ?_ | (refine hK _ ?_; clear hK K) | clear hK K)
end Go.Proofs.YtbkkjlcclddpdaaGreatDoor
