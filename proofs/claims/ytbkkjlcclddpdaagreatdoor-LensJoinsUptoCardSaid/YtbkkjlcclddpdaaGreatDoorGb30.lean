/- Walk of lens.read, an operation each (printed by gen_rd.py). -/
import Derived.Test.YtbkkjlcclddpdaaGreatDoorGb11
import Derived.Test.YtbkkjlcclddpdaaGreatDoorGb14
import Derived.Test.YtbkkjlcclddpdaaGreatDoorGb19
import Derived.Test.YtbkkjlcclddpdaaGreatDoorGb29
set_option linter.unusedSimpArgs false
set_option linter.unusedVariables false
namespace Go.Proofs.YtbkkjlcclddpdaaGreatDoor
open Go.RowKit Go.Lib
theorem ba_list (l : List UInt8) : (qs l).data.toList = l := rfl
theorem qco (l : List UInt8) : (qs l).toList = l := bytesA_list l
set_option maxRecDepth 4000 in
set_option maxHeartbeats 4000000 in
theorem read_0 (s : ByteArray) (hs : s.size ≤ 1000000) (a b c d e : List UInt8) (r : List (List UInt8)) (hw : qfg s.data.toList = a :: b :: c :: d :: e :: r) (ho : opL a = 0) (hc : c.length ≤ 1000000) (hd : d.length ≤ 1000000) (R : Lens) (hR : readW a b c d e = R) : Gives Tryz.prog 40 [.str s] R.av := by
  have c1 := words_g s hs
  rw [hw] at c1
  simp only [qfm] at c1
  have c2 := idxS_g (qfo.map qs) (qs a) (by decide)
  rw [op_idx, qco, ho] at c2
  have c3 := fun x : List UInt8 => qbb (qs x)
  have c4 := qcq (qs c) (by rw [qt]; exact hc)
  have c5 := qcq (qs d) (by rw [qt]; exact hd)
  have c6 := qbb (qs c) (by rw [qt]; exact hc)
  have c7 := qbb (qs d) (by rw [qt]; exact hd)
  have c8 := qdo (qs c)
  have c9 := int_g (qs c) (by rw [qt]; exact hc)
  rw [ba_list] at c4 c5 c6 c7 c9
  rw [qco] at c8
  unfold readW at hR
  simp only [ho, if_pos, if_neg, reduceIte, Int.reduceEq] at hR
  refine qm Tryz.func40 Tryz.ntmps40 rfl rfl (by decide) rfl (by intro n; simp) fun σ n0 hcl hft => ?_
  repeat' (first | ((first | ((with_reducible refine qp (fun hg => ?_) (fun hg => ?_)) <;> (try simp only [hg]) <;> (try simp only [gS] at hg) <;> (try (first | simp only [eq_false hg, gI] | simp only [eq_true hg, gI]))) | (with_reducible first | refine qc ?_ | refine qb ?_ | refine qj ?_ | refine qi ?_) | refine acall (c1) ?_ | refine qn (c1) ?_ | refine acall (c2) ?_ | refine qn (c2) ?_ | refine acall (c4) ?_ | refine qn (c4) ?_ | refine acall (c5) ?_ | refine qn (c5) ?_ | refine acall (c6) ?_ | refine qn (c6) ?_ | refine acall (c7) ?_ | refine qn (c7) ?_ | refine acall (c8) ?_ | refine qn (c8) ?_ | refine acall (c9) ?_ | refine qn (c9) ?_ | refine qe ?_ | refine qk ?_ | refine qh ?_ | refine qo ?_) <;> (try simp (disch := first | omega | simp) [qg, -qq, -qu])) | ((with_reducible refine sideT ?_ ?_); first | omega | assumption | (simp; done)) | (refine qf fun K hK => ?_) | (refine qa ?_) | refine ql ?_ | ((first | refine hK _ ?_ | (clear hK K; refine hK _ ?_) | (clear hK K; clear hK K; refine hK _ ?_)); clear hK K) | refine qd ?_)
  rw [← hR]; rfl
set_option maxRecDepth 4000 in
set_option maxHeartbeats 4000000 in
theorem read_1 (s : ByteArray) (hs : s.size ≤ 1000000) (a b c d e : List UInt8) (r : List (List UInt8)) (hw : qfg s.data.toList = a :: b :: c :: d :: e :: r) (ho : opL a = 1) (hc : c.length ≤ 1000000) (hd : d.length ≤ 1000000) (R : Lens) (hR : readW a b c d e = R) : Gives Tryz.prog 40 [.str s] R.av := by
  have c1 := words_g s hs
  rw [hw] at c1
  simp only [qfm] at c1
  have c2 := idxS_g (qfo.map qs) (qs a) (by decide)
  rw [op_idx, qco, ho] at c2
  have c3 := fun x : List UInt8 => qbb (qs x)
  have c4 := qcq (qs c) (by rw [qt]; exact hc)
  have c5 := qcq (qs d) (by rw [qt]; exact hd)
  have c6 := qbb (qs c) (by rw [qt]; exact hc)
  have c7 := qbb (qs d) (by rw [qt]; exact hd)
  have c8 := qdo (qs c)
  have c9 := int_g (qs c) (by rw [qt]; exact hc)
  rw [ba_list] at c4 c5 c6 c7 c9
  rw [qco] at c8
  unfold readW at hR
  simp only [ho, if_pos, if_neg, reduceIte, Int.reduceEq] at hR
  refine qm Tryz.func40 Tryz.ntmps40 rfl rfl (by decide) rfl (by intro n; simp) fun σ n0 hcl hft => ?_
  repeat' (first | ((first | ((with_reducible refine qp (fun hg => ?_) (fun hg => ?_)) <;> (try simp only [hg]) <;> (try simp only [gS] at hg) <;> (try (first | simp only [eq_false hg, gI] | simp only [eq_true hg, gI]))) | (with_reducible first | refine qc ?_ | refine qb ?_ | refine qj ?_ | refine qi ?_) | refine acall (c1) ?_ | refine qn (c1) ?_ | refine acall (c2) ?_ | refine qn (c2) ?_ | refine acall (c4) ?_ | refine qn (c4) ?_ | refine acall (c5) ?_ | refine qn (c5) ?_ | refine acall (c6) ?_ | refine qn (c6) ?_ | refine acall (c7) ?_ | refine qn (c7) ?_ | refine acall (c8) ?_ | refine qn (c8) ?_ | refine acall (c9) ?_ | refine qn (c9) ?_ | refine qe ?_ | refine qk ?_ | refine qh ?_ | refine qo ?_) <;> (try simp (disch := first | omega | simp) [qg, -qq, -qu])) | ((with_reducible refine sideT ?_ ?_); first | omega | assumption | (simp; done)) | (refine qf fun K hK => ?_) | (refine qa ?_) | refine ql ?_ | ((first | refine hK _ ?_ | (clear hK K; refine hK _ ?_) | (clear hK K; clear hK K; refine hK _ ?_)); clear hK K) | refine qd ?_)
  rw [← hR]; rfl
set_option maxRecDepth 4000 in
set_option maxHeartbeats 4000000 in
theorem read_2 (s : ByteArray) (hs : s.size ≤ 1000000) (a b c d e : List UInt8) (r : List (List UInt8)) (hw : qfg s.data.toList = a :: b :: c :: d :: e :: r) (ho : opL a = 2) (hc : c.length ≤ 1000000) (hd : d.length ≤ 1000000) (R : Lens) (hR : readW a b c d e = R) : Gives Tryz.prog 40 [.str s] R.av := by
  have c1 := words_g s hs
  rw [hw] at c1
  simp only [qfm] at c1
  have c2 := idxS_g (qfo.map qs) (qs a) (by decide)
  rw [op_idx, qco, ho] at c2
  have c3 := fun x : List UInt8 => qbb (qs x)
  have c4 := qcq (qs c) (by rw [qt]; exact hc)
  have c5 := qcq (qs d) (by rw [qt]; exact hd)
  have c6 := qbb (qs c) (by rw [qt]; exact hc)
  have c7 := qbb (qs d) (by rw [qt]; exact hd)
  have c8 := qdo (qs c)
  have c9 := int_g (qs c) (by rw [qt]; exact hc)
  rw [ba_list] at c4 c5 c6 c7 c9
  rw [qco] at c8
  unfold readW at hR
  simp only [ho, if_pos, if_neg, reduceIte, Int.reduceEq] at hR
  refine qm Tryz.func40 Tryz.ntmps40 rfl rfl (by decide) rfl (by intro n; simp) fun σ n0 hcl hft => ?_
  repeat' (first | ((first | ((with_reducible refine qp (fun hg => ?_) (fun hg => ?_)) <;> (try simp only [hg]) <;> (try simp only [gS] at hg) <;> (try (first | simp only [eq_false hg, gI] | simp only [eq_true hg, gI]))) | (with_reducible first | refine qc ?_ | refine qb ?_ | refine qj ?_ | refine qi ?_) | refine acall (c1) ?_ | refine qn (c1) ?_ | refine acall (c2) ?_ | refine qn (c2) ?_ | refine acall (c4) ?_ | refine qn (c4) ?_ | refine acall (c5) ?_ | refine qn (c5) ?_ | refine acall (c6) ?_ | refine qn (c6) ?_ | refine acall (c7) ?_ | refine qn (c7) ?_ | refine acall (c8) ?_ | refine qn (c8) ?_ | refine acall (c9) ?_ | refine qn (c9) ?_ | refine qe ?_ | refine qk ?_ | refine qh ?_ | refine qo ?_) <;> (try simp (disch := first | omega | simp) [qg, -qq, -qu])) | ((with_reducible refine sideT ?_ ?_); first | omega | assumption | (simp; done)) | (refine qf fun K hK => ?_) | (refine qa ?_) | refine ql ?_ | ((first | refine hK _ ?_ | (clear hK K; refine hK _ ?_) | (clear hK K; clear hK K; refine hK _ ?_)); clear hK K) | refine qd ?_)
  rw [← hR]; rfl
set_option maxRecDepth 4000 in
set_option maxHeartbeats 4000000 in
theorem read_3 (s : ByteArray) (hs : s.size ≤ 1000000) (a b c d e : List UInt8) (r : List (List UInt8)) (hw : qfg s.data.toList = a :: b :: c :: d :: e :: r) (ho : opL a = 3) (hc : c.length ≤ 1000000) (hd : d.length ≤ 1000000) (R : Lens) (hR : readW a b c d e = R) : Gives Tryz.prog 40 [.str s] R.av := by
  have c1 := words_g s hs
  rw [hw] at c1
  simp only [qfm] at c1
  have c2 := idxS_g (qfo.map qs) (qs a) (by decide)
  rw [op_idx, qco, ho] at c2
  have c3 := fun x : List UInt8 => qbb (qs x)
  have c4 := qcq (qs c) (by rw [qt]; exact hc)
  have c5 := qcq (qs d) (by rw [qt]; exact hd)
  have c6 := qbb (qs c) (by rw [qt]; exact hc)
  have c7 := qbb (qs d) (by rw [qt]; exact hd)
  have c8 := qdo (qs c)
  have c9 := int_g (qs c) (by rw [qt]; exact hc)
  rw [ba_list] at c4 c5 c6 c7 c9
  rw [qco] at c8
  unfold readW at hR
  simp only [ho, if_pos, if_neg, reduceIte, Int.reduceEq] at hR
  refine qm Tryz.func40 Tryz.ntmps40 rfl rfl (by decide) rfl (by intro n; simp) fun σ n0 hcl hft => ?_
  repeat' (first | ((first | ((with_reducible refine qp (fun hg => ?_) (fun hg => ?_)) <;> (try simp only [hg]) <;> (try simp only [gS] at hg) <;> (try (first | simp only [eq_false hg, gI] | simp only [eq_true hg, gI]))) | (with_reducible first | refine qc ?_ | refine qb ?_ | refine qj ?_ | refine qi ?_ | refine qbn ?_ | refine qbw ?_) | refine acall (c1) ?_ | refine qn (c1) ?_ | refine acall (c2) ?_ | refine qn (c2) ?_ | refine acall (c4) ?_ | refine qn (c4) ?_ | refine acall (c5) ?_ | refine qn (c5) ?_ | refine acall (c6) ?_ | refine qn (c6) ?_ | refine acall (c7) ?_ | refine qn (c7) ?_ | refine acall (c8) ?_ | refine qn (c8) ?_ | refine acall (c9) ?_ | refine qn (c9) ?_ | refine qe ?_ | refine qk ?_ | refine qh ?_ | refine qo ?_) <;> (try simp (disch := first | omega | simp) [qg, -qq, -qu])) | (with_reducible refine qbx (id := 13) [.unborn] [.R, .R, .R, .R, .R, .R, .R, .W, .R, .W] (by kernel_rfl) (by kernel_rfl) (by simp) ?_) | ((with_reducible refine sideT ?_ ?_); first | omega | assumption | (simp; done)) | (refine qf fun K hK => ?_) | (refine qa ?_) | refine ql ?_ | ((first | refine hK _ ?_ | (clear hK K; refine hK _ ?_) | (clear hK K; clear hK K; refine hK _ ?_)); clear hK K) | refine qd ?_)
  rw [← hR]; rfl
set_option maxRecDepth 4000 in
set_option maxHeartbeats 4000000 in
theorem read_4 (s : ByteArray) (hs : s.size ≤ 1000000) (a b c d e : List UInt8) (r : List (List UInt8)) (hw : qfg s.data.toList = a :: b :: c :: d :: e :: r) (ho : opL a = 4) (hc : c.length ≤ 1000000) (hd : d.length ≤ 1000000) (R : Lens) (hR : readW a b c d e = R) : Gives Tryz.prog 40 [.str s] R.av := by
  have c1 := words_g s hs
  rw [hw] at c1
  simp only [qfm] at c1
  have c2 := idxS_g (qfo.map qs) (qs a) (by decide)
  rw [op_idx, qco, ho] at c2
  have c3 := fun x : List UInt8 => qbb (qs x)
  have c4 := qcq (qs c) (by rw [qt]; exact hc)
  have c5 := qcq (qs d) (by rw [qt]; exact hd)
  have c6 := qbb (qs c) (by rw [qt]; exact hc)
  have c7 := qbb (qs d) (by rw [qt]; exact hd)
  have c8 := qdo (qs c)
  have c9 := int_g (qs c) (by rw [qt]; exact hc)
  rw [ba_list] at c4 c5 c6 c7 c9
  rw [qco] at c8
  unfold readW at hR
  simp only [ho, if_pos, if_neg, reduceIte, Int.reduceEq] at hR
  refine qm Tryz.func40 Tryz.ntmps40 rfl rfl (by decide) rfl (by intro n; simp) fun σ n0 hcl hft => ?_
  repeat' (first | ((first | ((with_reducible refine qp (fun hg => ?_) (fun hg => ?_)) <;> (try simp only [hg]) <;> (try simp only [gS] at hg) <;> (try (first | simp only [eq_false hg, gI] | simp only [eq_true hg, gI]))) | (with_reducible first | refine qc ?_ | refine qb ?_ | refine qj ?_ | refine qi ?_ | refine qbn ?_ | refine qbw ?_) | refine acall (c1) ?_ | refine qn (c1) ?_ | refine acall (c2) ?_ | refine qn (c2) ?_ | refine acall (c4) ?_ | refine qn (c4) ?_ | refine acall (c5) ?_ | refine qn (c5) ?_ | refine acall (c6) ?_ | refine qn (c6) ?_ | refine acall (c7) ?_ | refine qn (c7) ?_ | refine acall (c8) ?_ | refine qn (c8) ?_ | refine acall (c9) ?_ | refine qn (c9) ?_ | refine qe ?_ | refine qk ?_ | refine qh ?_ | refine qo ?_) <;> (try simp (disch := first | omega | simp) [qg, -qq, -qu])) | (with_reducible refine qbx (id := 16) [.unborn] [.R, .R, .R, .R, .R, .R, .R, .W, .R, .W] (by kernel_rfl) (by kernel_rfl) (by simp) ?_) | ((with_reducible refine sideT ?_ ?_); first | omega | assumption | (simp; done)) | (refine qf fun K hK => ?_) | (refine qa ?_) | refine ql ?_ | ((first | refine hK _ ?_ | (clear hK K; refine hK _ ?_) | (clear hK K; clear hK K; refine hK _ ?_)); clear hK K) | refine qd ?_)
  rw [← hR]; rfl
set_option maxRecDepth 4000 in
set_option maxHeartbeats 4000000 in
theorem read_5 (s : ByteArray) (hs : s.size ≤ 1000000) (a b c d e : List UInt8) (r : List (List UInt8)) (hw : qfg s.data.toList = a :: b :: c :: d :: e :: r) (ho : opL a = 5) (hc : c.length ≤ 1000000) (hd : d.length ≤ 1000000) (R : Lens) (hR : readW a b c d e = R) : Gives Tryz.prog 40 [.str s] R.av := by
  have c1 := words_g s hs
  rw [hw] at c1
  simp only [qfm] at c1
  have c2 := idxS_g (qfo.map qs) (qs a) (by decide)
  rw [op_idx, qco, ho] at c2
  have c3 := fun x : List UInt8 => qbb (qs x)
  have c4 := qcq (qs c) (by rw [qt]; exact hc)
  have c5 := qcq (qs d) (by rw [qt]; exact hd)
  have c6 := qbb (qs c) (by rw [qt]; exact hc)
  have c7 := qbb (qs d) (by rw [qt]; exact hd)
  have c8 := qdo (qs c)
  have c9 := int_g (qs c) (by rw [qt]; exact hc)
  rw [ba_list] at c4 c5 c6 c7 c9
  rw [qco] at c8
  unfold readW at hR
  simp only [ho, if_pos, if_neg, reduceIte, Int.reduceEq] at hR
  refine qm Tryz.func40 Tryz.ntmps40 rfl rfl (by decide) rfl (by intro n; simp) fun σ n0 hcl hft => ?_
  repeat' (first | ((first | ((with_reducible refine qp (fun hg => ?_) (fun hg => ?_)) <;> (try simp only [hg]) <;> (try simp only [gS] at hg) <;> (try (first | simp only [eq_false hg, gI] | simp only [eq_true hg, gI]))) | (with_reducible first | refine qc ?_ | refine qb ?_ | refine qj ?_ | refine qi ?_) | refine acall (c1) ?_ | refine qn (c1) ?_ | refine acall (c2) ?_ | refine qn (c2) ?_ | refine acall (c4) ?_ | refine qn (c4) ?_ | refine acall (c5) ?_ | refine qn (c5) ?_ | refine acall (c6) ?_ | refine qn (c6) ?_ | refine acall (c7) ?_ | refine qn (c7) ?_ | refine acall (c8) ?_ | refine qn (c8) ?_ | refine acall (c9) ?_ | refine qn (c9) ?_ | refine qe ?_ | refine qk ?_ | refine qh ?_ | refine qo ?_) <;> (try simp (disch := first | omega | simp) [qg, -qq, -qu])) | ((with_reducible refine sideT ?_ ?_); first | omega | assumption | (simp; done)) | (refine qf fun K hK => ?_) | (refine qa ?_) | refine ql ?_ | ((first | refine hK _ ?_ | (clear hK K; refine hK _ ?_) | (clear hK K; clear hK K; refine hK _ ?_)); clear hK K) | refine qd ?_)
  rw [← hR]; rfl
set_option maxRecDepth 4000 in
set_option maxHeartbeats 4000000 in
theorem read_6 (s : ByteArray) (hs : s.size ≤ 1000000) (a b c d e : List UInt8) (r : List (List UInt8)) (hw : qfg s.data.toList = a :: b :: c :: d :: e :: r) (ho : opL a = 6) (hc : c.length ≤ 1000000) (hd : d.length ≤ 1000000) (R : Lens) (hR : readW a b c d e = R) : Gives Tryz.prog 40 [.str s] R.av := by
  have c1 := words_g s hs
  rw [hw] at c1
  simp only [qfm] at c1
  have c2 := idxS_g (qfo.map qs) (qs a) (by decide)
  rw [op_idx, qco, ho] at c2
  have c3 := fun x : List UInt8 => qbb (qs x)
  have c4 := qcq (qs c) (by rw [qt]; exact hc)
  have c5 := qcq (qs d) (by rw [qt]; exact hd)
  have c6 := qbb (qs c) (by rw [qt]; exact hc)
  have c7 := qbb (qs d) (by rw [qt]; exact hd)
  have c8 := qdo (qs c)
  have c9 := int_g (qs c) (by rw [qt]; exact hc)
  rw [ba_list] at c4 c5 c6 c7 c9
  rw [qco] at c8
  unfold readW at hR
  simp only [ho, if_pos, if_neg, reduceIte, Int.reduceEq] at hR
  refine qm Tryz.func40 Tryz.ntmps40 rfl rfl (by decide) rfl (by intro n; simp) fun σ n0 hcl hft => ?_
  repeat' (first | ((first | ((with_reducible refine qp (fun hg => ?_) (fun hg => ?_)) <;> (try simp only [hg]) <;> (try simp only [gS] at hg) <;> (try (first | simp only [eq_false hg, gI] | simp only [eq_true hg, gI]))) | (with_reducible first | refine qc ?_ | refine qb ?_ | refine qj ?_ | refine qi ?_) | refine acall (c1) ?_ | refine qn (c1) ?_ | refine acall (c2) ?_ | refine qn (c2) ?_ | refine acall (c4) ?_ | refine qn (c4) ?_ | refine acall (c5) ?_ | refine qn (c5) ?_ | refine acall (c6) ?_ | refine qn (c6) ?_ | refine acall (c7) ?_ | refine qn (c7) ?_ | refine acall (c8) ?_ | refine qn (c8) ?_ | refine acall (c9) ?_ | refine qn (c9) ?_ | refine qe ?_ | refine qk ?_ | refine qh ?_ | refine qo ?_) <;> (try simp (disch := first | omega | simp) [qg, -qq, -qu])) | ((with_reducible refine sideT ?_ ?_); first | omega | assumption | (simp; done)) | (refine qf fun K hK => ?_) | (refine qa ?_) | refine ql ?_ | ((first | refine hK _ ?_ | (clear hK K; refine hK _ ?_) | (clear hK K; clear hK K; refine hK _ ?_)); clear hK K) | refine qd ?_)
  rw [← hR]; rfl
set_option maxRecDepth 4000 in
set_option maxHeartbeats 4000000 in
theorem read_n (s : ByteArray) (hs : s.size ≤ 1000000) (a b c d e : List UInt8) (r : List (List UInt8)) (hw : qfg s.data.toList = a :: b :: c :: d :: e :: r) (ho : opL a = -1) (hc : c.length ≤ 1000000) (hd : d.length ≤ 1000000) (R : Lens) (hR : readW a b c d e = R) : Gives Tryz.prog 40 [.str s] R.av := by
  have c1 := words_g s hs
  rw [hw] at c1
  simp only [qfm] at c1
  have c2 := idxS_g (qfo.map qs) (qs a) (by decide)
  rw [op_idx, qco, ho] at c2
  have c3 := fun x : List UInt8 => qbb (qs x)
  have c4 := qcq (qs c) (by rw [qt]; exact hc)
  have c5 := qcq (qs d) (by rw [qt]; exact hd)
  have c6 := qbb (qs c) (by rw [qt]; exact hc)
  have c7 := qbb (qs d) (by rw [qt]; exact hd)
  have c8 := qdo (qs c)
  have c9 := int_g (qs c) (by rw [qt]; exact hc)
  rw [ba_list] at c4 c5 c6 c7 c9
  rw [qco] at c8
  unfold readW at hR
  simp only [ho, if_pos, if_neg, reduceIte, Int.reduceEq] at hR
  refine qm Tryz.func40 Tryz.ntmps40 rfl rfl (by decide) rfl (by intro n; simp) fun σ n0 hcl hft => ?_
  repeat' (first | ((first | ((with_reducible refine qp (fun hg => ?_) (fun hg => ?_)) <;> (try simp only [hg]) <;> (try simp only [gS] at hg) <;> (try (first | simp only [eq_false hg, gI] | simp only [eq_true hg, gI]))) | (with_reducible first | refine qc ?_ | refine qb ?_ | refine qj ?_ | refine qi ?_) | refine acall (c1) ?_ | refine qn (c1) ?_ | refine acall (c2) ?_ | refine qn (c2) ?_ | refine acall (c4) ?_ | refine qn (c4) ?_ | refine acall (c5) ?_ | refine qn (c5) ?_ | refine acall (c6) ?_ | refine qn (c6) ?_ | refine acall (c7) ?_ | refine qn (c7) ?_ | refine acall (c8) ?_ | refine qn (c8) ?_ | refine acall (c9) ?_ | refine qn (c9) ?_ | refine qe ?_ | refine qk ?_ | refine qh ?_ | refine qo ?_) <;> (try simp (disch := first | omega | simp) [qg, -qq, -qu])) | ((with_reducible refine sideT ?_ ?_); first | omega | assumption | (simp; done)) | (refine qf fun K hK => ?_) | (refine qa ?_) | refine ql ?_ | ((first | refine hK _ ?_ | (clear hK K; refine hK _ ?_) | (clear hK K; clear hK K; refine hK _ ?_)); clear hK K) | refine qd ?_)
  rw [← hR]; rfl
theorem read_g (s : ByteArray) (hs : s.size ≤ 1000000) : Gives Tryz.prog 40 [.str s] (readP s.data.toList).av := by
  obtain ⟨a, b, c, d, e, r, hw⟩ := words_five s.data.toList
  have hle := words_le s.data.toList
  rw [hw, qdr] at hle
  have hc := hle c (by simp)
  have hd := hle d (by simp)
  unfold readP
  rw [hw]
  show Gives _ _ _ (readW a b c d e).av
  rcases opL_cases a with h | h | h | h | h | h | h | h
  · exact read_0 s hs a b c d e r hw h (by omega) (by omega) _ rfl
  · exact read_1 s hs a b c d e r hw h (by omega) (by omega) _ rfl
  · exact read_2 s hs a b c d e r hw h (by omega) (by omega) _ rfl
  · exact read_3 s hs a b c d e r hw h (by omega) (by omega) _ rfl
  · exact read_4 s hs a b c d e r hw h (by omega) (by omega) _ rfl
  · exact read_5 s hs a b c d e r hw h (by omega) (by omega) _ rfl
  · exact read_6 s hs a b c d e r hw h (by omega) (by omega) _ rfl
  · exact read_n s hs a b c d e r hw h (by omega) (by omega) _ rfl
end Go.Proofs.YtbkkjlcclddpdaaGreatDoor

/- strings.Lines as an iterator. -/
namespace Go.Proofs.YtbkkjlcclddpdaaGreatDoor
open Go.RowKit Go.Lib
def lnK : List UInt8 → List (List UInt8)
  | [] => []
  | b :: l => if b = 10 then [10] :: lnK l else match lnK l with
    | [] => [[b]]
    | x :: xs => (b :: x) :: xs
theorem qfi : ∀ l, (lnK l).flatten = l
  | [] => rfl
  | b :: l => by
    have ih := qfi l
    rw [lnK]
    split
    · rename_i h; rw [List.flatten_cons, ih, h]; rfl
    · split
      · rename_i h; rw [h] at ih; rw [← ih]; rfl
      · rename_i h; rw [h] at ih; rw [← ih]; rfl
theorem lnK_some : ∀ {l : List UInt8} {i : Nat}, Lib.indexByte l 10 = i → i < l.length ∧ lnK l = l.take (i + 1) :: lnK (l.drop (i + 1))
  | [], i, h => by
    rw [Lib.indexByte] at h
    omega
  | b :: l, i, h => by
    rw [Lib.indexByte] at h
    by_cases hb : b = 10
    · subst hb
      simp at h
      obtain rfl : i = 0 := by omega
      exact ⟨by simp, by rw [lnK]; simp⟩
    · rw [if_neg (by simpa using hb)] at h
      split at h
      · omega
      · have hge := Lib.indexByte_ge l 10
        rename_i hne
        have hne' : Lib.indexByte l 10 ≠ -1 := by simpa using hne
        obtain ⟨j, hj⟩ : ∃ j : Nat, Lib.indexByte l 10 = j := ⟨(Lib.indexByte l 10).toNat, by omega⟩
        obtain ⟨h1, h2⟩ := lnK_some hj
        obtain rfl : i = j + 1 := by omega
        refine ⟨by simpa using h1, ?_⟩
        rw [lnK, if_neg hb, h2]
        rfl
theorem lnK_none : ∀ {l : List UInt8}, l ≠ [] → Lib.indexByte l 10 = -1 → lnK l = [l]
  | [], h, _ => absurd rfl h
  | b :: l, _, h => by
    rw [Lib.indexByte] at h
    have hb : ¬ b = 10 := fun e => by subst e; simp at h
    rw [if_neg (by simpa using hb)] at h
    have h2 : Lib.indexByte l 10 = -1 := by
      by_cases hh : Lib.indexByte l 10 = -1
      · exact hh
      · have := Lib.indexByte_ge l 10
        rw [if_neg (by simpa using hh)] at h; omega
    rw [lnK, if_neg hb]
    cases l with
    | nil => rfl
    | cons c l => rw [lnK_none (by simp) h2]
theorem lnK_tail {l x : List UInt8} {xs : List (List UInt8)} (h : lnK l = x :: xs) : lnK xs.flatten = xs := by
  have hne : l ≠ [] := fun e => by subst e; cases h
  by_cases hi : Lib.indexByte l 10 = -1
  · rw [lnK_none hne hi] at h
    cases h; rfl
  · have := Lib.indexByte_ge l 10
    obtain ⟨j, hj⟩ : ∃ j : Nat, Lib.indexByte l 10 = j := ⟨(Lib.indexByte l 10).toNat, by omega⟩
    rw [(lnK_some hj).2] at h
    cases h
    rw [qfi]
theorem lnK_drop (l : List UInt8) : ∀ k, lnK (((lnK l).drop k).flatten) = (lnK l).drop k
  | 0 => by rw [List.drop_zero, qfi]
  | k + 1 => by
    have ih := lnK_drop l k
    by_cases h : k < (lnK l).length
    · rw [List.drop_eq_getElem_cons h] at ih
      exact lnK_tail ih
    · rw [List.drop_eq_nil_of_le (by omega)]; rfl
def restK (s : ByteArray) (k : Nat) : List UInt8 := ((lnK s.data.toList).drop k).flatten
theorem restK_len (s : ByteArray) (k : Nat) : (restK s k).length ≤ s.size := by
    have h : (lnK s.data.toList).flatten = s.data.toList := qfi _
    have h2 : (lnK s.data.toList).flatten = ((lnK s.data.toList).take k).flatten ++ restK s k := by
      unfold restK; rw [← List.flatten_append, List.take_append_drop]
    have := congrArg List.length h2
    rw [h, List.length_append, Array.length_toList] at this
    show _ ≤ s.data.size
    omega
def linesX (s : ByteArray) : List (List AV) := (lnK s.data.toList).map fun x => [AV.str (qs x)]
theorem lines_b (s : ByteArray) : GivesB Tryz.prog 39 [.str s] (fun r => .fn 76 [.ptr r 0]) (.cells [.str s] 9) := by
  refine qgf 0 Tryz.func39 Tryz.ntmps39 rfl rfl (by decide) rfl (by intro m; simp) fun σ n0 hcl hft => ?_
  repeat' (first | ((first | ((with_reducible refine qp (fun hg => ?_) (fun hg => ?_)) <;> (try simp only [hg]) <;> (try simp only [gS] at hg) <;> (try (first | simp only [eq_false hg, gI] | simp only [eq_true hg, gI]))) | (with_reducible first | refine qc ?_ | refine qb ?_ | refine qj ?_ | refine qi ?_) | refine qe ?_ | refine qk ?_ | refine qh ?_ | refine qo ?_) <;> (try simp (disch := first | omega | simp) [qg, -qq, -qu])) | ((with_reducible refine sideT ?_ ?_); first | omega | assumption | (simp; done)) | (refine qf fun K hK => ?_) | (refine qa ?_) | refine ql ?_ | ((first | refine hK _ ?_ | (clear hK K; refine hK _ ?_) | (clear hK K; clear hK K; refine hK _ ?_)); clear hK K) | refine qd ?_)
set_option maxHeartbeats 2000000 in
theorem lines_it (r0 : Nat) (s : ByteArray) (hs : s.size ≤ 1000000) : Iter Tryz.prog 76 [.ptr r0 0] (linesX s) (fun k σ => σ r0 = .cells [.str (qs (restK s k))] 9) (fun k σ => upd σ r0 (.cells [.str (qs (restK s (k + 1)))] 9)) := by
  refine iter_of_awp Tryz.func76 Tryz.ntmps76 rfl rfl rfl fun l S m stop n0 hm hs0 hs1 hI hSc hSf hft hcc hy => ?_
  have hr0 : r0 < n0 := by simpa using hcc
  have hl : ∀ k, k ≤ m → ∀ L', loc (S k) n0 L' r0 = .cells [.str (qs (restK s k))] 9 := fun k hk L' => by rw [qdb _ _ _ _ hr0]; exact hI k hk
  have hnl : (linesX s).length = (lnK s.data.toList).length := by simp [linesX]
  rw [hnl] at hm
  repeat' (first | ((first | ((with_reducible refine qp (fun hg => ?_) (fun hg => ?_)) <;> (try simp only [hg]) <;> (try simp only [gS] at hg) <;> (try (first | simp only [eq_false hg, gI] | simp only [eq_true hg, gI]))) | (with_reducible first | refine qc ?_ | refine qb ?_ | refine qj ?_ | refine qi ?_) | refine qe ?_ | refine qk ?_ | refine qh ?_ | refine qo ?_) <;> (try simp (disch := first | omega | simp) [qg, -qq, -qu])) | ((with_reducible refine sideT ?_ ?_); first | omega | assumption | (simp; done)) | (refine qf fun K hK => ?_) | (refine qa ?_) | refine ql ?_ | ((first | refine hK _ ?_ | (clear hK K; refine hK _ ?_) | (clear hK K; clear hK K; refine hK _ ?_)); clear hK K) | refine qd ?_)
  refine awp_loopS (fun k => S k) (fun k => [(0, .v (.func (.yield l) #[] #[])), (1, .ptr r0 0)]) (fun _ => [])
    (fun k => k ≤ (lnK s.data.toList).length ∧ k ≤ m ∧ (stop = true → k < m)) (fun k => (lnK s.data.toList).length - k) 0 (fun k hk r => hSc _ hk.2.1 r) ⟨by omega, by omega, fun h => hs1 h⟩ (by simp [leS, hr0]) (hSc 0 (by omega)) fun k ⟨hk, hkm, hks⟩ => ?_
  have hlk := hl _ hkm
  have hlen := restK_len s k
  have hz := qt (restK s k)
  by_cases hlt : k < (lnK s.data.toList).length
  · have hd := lnK_drop s.data.toList k
    have hd2 : restK s k = (lnK s.data.toList)[k] ++ restK s (k + 1) := by
      unfold restK; rw [List.drop_eq_getElem_cons hlt, List.flatten_cons]
    have hm2 : k < m := by
      cases stop with
      | true => exact hks rfl
      | false => have := hs0 rfl; rw [hnl] at this; omega
    have hyk := fun L' => hy k hm2 (by rw [hnl]; exact hlt) L'
    have hxk : (linesX s)[k]'(by rw [hnl]; exact hlt) = [AV.str (qs (lnK s.data.toList)[k])] := by simp [linesX]
    rw [hxk] at hyk
    have hne : restK s k ≠ [] := fun e => by
      have hd' : lnK (restK s k) = (lnK s.data.toList).drop k := hd
      rw [e, List.drop_eq_getElem_cons hlt] at hd'; cases hd'
    have hpos : 0 < (restK s k).length := by rw [List.length_pos_iff]; exact hne
    have hd' : lnK (restK s k) = (lnK s.data.toList)[k] :: (lnK s.data.toList).drop (k + 1) := by rw [← List.drop_eq_getElem_cons hlt]; exact hd
    have c1 := indexByte_g (qs (restK s k)) 10
    have hge := Lib.indexByte_ge (restK s k) 10
    have e0 : (qs (restK s k)).data.toList = restK s k := rfl
    rw [e0] at c1
    have e1 : ((10 : Int).toNat.toUInt8) = (10 : UInt8) := rfl
    rw [e1] at c1
    have hfin : stop = false ∨ k + 1 < m ∨ k + 1 = m := by omega
    have hst : ∀ b, (stop && decide (k + 1 = m)) = b → (b = true → k + 1 = m) ∧ (b = false → stop = true → k + 1 < m) := fun b h => by
      subst h
      refine ⟨fun h => by simp at h; exact h.2, fun h h2 => by rw [h2, Bool.true_and, decide_eq_false_iff_not] at h; omega⟩
    by_cases hi : Lib.indexByte (restK s k) 10 = -1
    · have hone := lnK_none hne hi
      rw [hd'] at hone
      have hx : (lnK s.data.toList)[k] = restK s k := (List.cons.inj hone).1
      have hr1 : restK s (k + 1) = [] := by rw [hx] at hd2; exact List.append_right_eq_self.1 hd2.symm
      have hb1 : qs (restK s (k + 1)) = ⟨#[]⟩ := by rw [hr1]; rfl
      rw [hb1, hx] at hyk
      rw [hi] at c1
      generalize hbb : (stop && decide (k + 1 = m)) = bb at hyk
      obtain ⟨g1, g2⟩ := hst _ hbb
      cases bb with
      | true =>
        repeat' (first | ((first | ((with_reducible refine qp (fun hg => ?_) (fun hg => ?_)) <;> (try simp only [hg]) <;> (try simp only [gS] at hg) <;> (try (first | simp only [eq_false hg, gI] | simp only [eq_true hg, gI]))) | (with_reducible first | refine qc ?_ | refine qb ?_ | refine qj ?_ | refine qi ?_) | refine acall (c1) ?_ | refine qn (c1) ?_ | refine qdc (id := 6) 2 (by rfl) ?_ | refine ayield _ (hyk _) ?_ | refine qe ?_ | refine qk ?_ | refine qh ?_ | refine qo ?_) <;> (try simp (disch := first | omega | simp) [qg, -qq, -qu, hlk, hr0, hz, hpos, List.take_succ_cons, List.drop_succ_cons])) | ((with_reducible refine sideT ?_ ?_); first | omega | assumption | (simp; done)) | (refine qf fun K hK => ?_) | (refine qa ?_) | refine ql ?_ | ((first | refine hK _ ?_ | (clear hK K; refine hK _ ?_) | (clear hK K; clear hK K; refine hK _ ?_)); clear hK K) | refine qd ?_)
        exact congrArg S (g1 rfl)
      | false =>
        repeat' (first | ((first | ((with_reducible refine qp (fun hg => ?_) (fun hg => ?_)) <;> (try simp only [hg]) <;> (try simp only [gS] at hg) <;> (try (first | simp only [eq_false hg, gI] | simp only [eq_true hg, gI]))) | (with_reducible first | refine qc ?_ | refine qb ?_ | refine qj ?_ | refine qi ?_) | refine acall (c1) ?_ | refine qn (c1) ?_ | refine qdc (id := 6) 2 (by rfl) ?_ | refine ayield _ (hyk _) ?_ | refine qe ?_ | refine qk ?_ | refine qh ?_ | refine qo ?_) <;> (try simp (disch := first | omega | simp) [qg, -qq, -qu, hlk, hr0, hz, hpos, List.take_succ_cons, List.drop_succ_cons])) | ((with_reducible refine sideT ?_ ?_); first | omega | assumption | (simp; done)) | (refine qf fun K hK => ?_) | (refine qa ?_) | refine ql ?_ | ((first | refine hK _ ?_ | (clear hK K; refine hK _ ?_) | (clear hK K; clear hK K; refine hK _ ?_)); clear hK K) | refine qd ?_)
        exact ⟨hSc _ (by omega), k + 1, ⟨by omega, by omega, g2 rfl⟩, by omega, by simp [leS, hr0, qg]⟩
    · obtain ⟨i, hi⟩ : ∃ i : Nat, Lib.indexByte (restK s k) 10 = i := ⟨(Lib.indexByte (restK s k) 10).toNat, by omega⟩
      obtain ⟨hil, hsome⟩ := lnK_some hi
      rw [hd'] at hsome
      have hx : (lnK s.data.toList)[k] = (restK s k).take (i + 1) := (List.cons.inj hsome).1
      have hr1 : restK s (k + 1) = (restK s k).drop (i + 1) := by
        have h := congrArg (List.drop (i + 1)) hd2
        rw [h, hx, List.drop_left' (by rw [List.length_take]; omega)]
      rw [hi] at c1
      have h3 : ((i : Int) + 1).toNat = i + 1 := by omega
      have h4 : (0 ≤ (i : Int) + 1) = True := eq_true (by omega)
      have hil2 : i + 1 ≤ (restK s k).length := hil
      have hlo : loc (only r0 (loc (S k) n0 [])) n0 [] r0 = .cells [.str (qs (restK s k))] 9 := by
        rw [qdb _ _ _ _ hr0]; unfold only; rw [if_pos rfl]; exact hlk []
      have hx1 := ext_tk (restK s k) (i + 1)
      have hx2 := ext_drop (restK s k) (i + 1)
      rw [← hx] at hx1
      rw [← hr1] at hx2
      generalize hbb : (stop && decide (k + 1 = m)) = bb at hyk
      obtain ⟨g1, g2⟩ := hst _ hbb
      cases bb with
      | true =>
        repeat' (first | ((first | ((with_reducible refine qp (fun hg => ?_) (fun hg => ?_)) <;> (try simp only [hg]) <;> (try simp only [gS] at hg) <;> (try (first | simp only [eq_false hg, gI] | simp only [eq_true hg, gI]))) | (with_reducible first | refine qc ?_ | refine qb ?_ | refine qj ?_ | refine qi ?_) | refine acall (c1) ?_ | refine qn (c1) ?_ | refine qdc (id := 6) 2 (by rfl) ?_ | refine ayield _ (hyk _) ?_ | refine qe ?_ | refine qk ?_ | refine qh ?_ | refine qo ?_) <;> (try simp (disch := first | omega | simp) [qg, -qq, -qu, hlk, hr0, hz, hpos, h3, hx1, hx2, hil, hil2, hlo, h4, List.take_succ_cons, List.drop_succ_cons])) | (with_reducible refine awp_anyQ (id := 4) [] r0 [.N, .R, .R, .R, .N, .R, .R, .R, .R, .W] (by kernel_rfl) (by kernel_rfl) (by simp) ?_) | ((with_reducible refine sideT ?_ ?_); first | omega | assumption | (simp; done)) | (refine qf fun K hK => ?_) | (refine qa ?_) | refine ql ?_ | ((first | refine hK _ ?_ | (clear hK K; refine hK _ ?_) | (clear hK K; clear hK K; refine hK _ ?_)); clear hK K) | refine qd ?_)
        exact congrArg S (g1 rfl)
      | false =>
        repeat' (first | ((first | ((with_reducible refine qp (fun hg => ?_) (fun hg => ?_)) <;> (try simp only [hg]) <;> (try simp only [gS] at hg) <;> (try (first | simp only [eq_false hg, gI] | simp only [eq_true hg, gI]))) | (with_reducible first | refine qc ?_ | refine qb ?_ | refine qj ?_ | refine qi ?_) | refine acall (c1) ?_ | refine qn (c1) ?_ | refine qdc (id := 6) 2 (by rfl) ?_ | refine ayield _ (hyk _) ?_ | refine qe ?_ | refine qk ?_ | refine qh ?_ | refine qo ?_) <;> (try simp (disch := first | omega | simp) [qg, -qq, -qu, hlk, hr0, hz, hpos, h3, hx1, hx2, hil, hil2, hlo, h4, List.take_succ_cons, List.drop_succ_cons])) | (with_reducible refine awp_anyQ (id := 4) [] r0 [.N, .R, .R, .R, .N, .R, .R, .R, .R, .W] (by kernel_rfl) (by kernel_rfl) (by simp) ?_) | ((with_reducible refine sideT ?_ ?_); first | omega | assumption | (simp; done)) | (refine qf fun K hK => ?_) | (refine qa ?_) | refine ql ?_ | ((first | refine hK _ ?_ | (clear hK K; refine hK _ ?_) | (clear hK K; clear hK K; refine hK _ ?_)); clear hK K) | refine qd ?_)
        exact ⟨hSc _ (by omega), k + 1, ⟨by omega, by omega, g2 rfl⟩, by omega, by simp [leS, hr0, qg]⟩
  · have hr : restK s k = [] := by unfold restK; rw [List.drop_eq_nil_of_le (by omega)]; rfl
    rw [hr] at hz hlk
    repeat' (first | ((first | ((with_reducible refine qp (fun hg => ?_) (fun hg => ?_)) <;> (try simp only [hg]) <;> (try simp only [gS] at hg) <;> (try (first | simp only [eq_false hg, gI] | simp only [eq_true hg, gI]))) | (with_reducible first | refine qc ?_ | refine qb ?_ | refine qj ?_ | refine qi ?_) | refine qe ?_ | refine qk ?_ | refine qh ?_ | refine qo ?_) <;> (try simp (disch := first | omega | simp) [qg, -qq, -qu, hlk, hr0, hz])) | ((with_reducible refine sideT ?_ ?_); first | omega | assumption | (simp; done)) | (refine qf fun K hK => ?_) | (refine qa ?_) | refine ql ?_ | ((first | refine hK _ ?_ | (clear hK K; refine hK _ ?_) | (clear hK K; clear hK K; refine hK _ ?_)); clear hK K) | refine qd ?_)
    have hme : k = m := by
      cases stop with
      | true => have := hks rfl; omega
      | false => have := hs0 rfl; rw [hnl] at this; omega
    exact congrArg S hme
end Go.Proofs.YtbkkjlcclddpdaaGreatDoor

/- Walk of lens.Parse. -/
namespace Go.Proofs.YtbkkjlcclddpdaaGreatDoor
open Go.RowKit Go.Lib
def lnR (x : List UInt8) : Lens := readP (Lib.trimSuffix x [10])
def qdz (s : List UInt8) : List Lens := (lnK s).map lnR
def lparseP (s : List UInt8) : List Lens × Bool := if lprintP (qdz s) = s then (qdz s, true) else ([], false)
theorem qmid_ge : ∀ l : List UInt8, l.length ≤ (qmid l).length
  | [] => Nat.le_refl _
  | c :: l => by
    have := qmid_ge l
    have h : 1 ≤ (qB c).length := by
      unfold qB
      repeat' split
      all_goals simp
    rw [qmid_cons, List.length_append, List.length_cons]; omega
theorem unqP_len (l : List UInt8) : ((unqP hxP l).getD []).length ≤ l.length := by
  unfold unqP
  split
  · rename_i h
    have := qmid_ge (decM hxP (mid l))
    have h2 := congrArg List.length h
    unfold qP at h2
    simp at h2 ⊢
    omega
  · simp
theorem intP_get (l : List UInt8) : i64 ((intP l).getD 0) := by
  cases h : intP l with
  | none => exact ⟨by decide, by decide⟩
  | some n => exact (intP_iff.1 h).1
theorem qfw (l : List UInt8) : i64 (qgm l).1.n ∧ (qgm l).1.s.size ≤ 200 := by
  unfold qgm
  repeat' split
  · unfold bitV; refine ⟨by split <;> exact ⟨by decide, by decide⟩, by show 0 ≤ 200; omega⟩
  · rename_i n h; exact ⟨(intP_iff.1 h).1, by show 0 ≤ 200; omega⟩
  · rename_i h; exact ⟨⟨by show (-9223372036854775808 : Int) ≤ 0; decide, by show (0 : Int) ≤ _; decide⟩, by rw [qt]; exact h⟩
  · exact ⟨⟨by decide, by decide⟩, by show 0 ≤ 200; omega⟩
  · exact ⟨⟨by decide, by decide⟩, by show 0 ≤ 200; omega⟩
structure RdOk (x : Lens) (m : Nat) : Prop where
  a : x.a.size ≤ m
  b : x.b.size ≤ m
  c : x.c.size ≤ m
  sep : x.sep.size ≤ m
  n : i64 x.n
  v : i64 x.value.n
  s : x.value.s.size ≤ 200
theorem readP_ok (s : List UInt8) : RdOk (readP s) s.length := by
  obtain ⟨a, b, c, d, e, r, hw⟩ := words_five s
  have hle := words_le s
  rw [hw] at hle
  have hb := hle b (by simp)
  have hc := hle c (by simp)
  have hd := hle d (by simp)
  have he := hle e (by simp)
  have z : ∀ l : List UInt8, l.length ≤ s.length → (qs l).size ≤ s.length := fun l h => by rw [qt]; exact h
  have z0 : (⟨#[]⟩ : ByteArray).size ≤ s.length := Nat.zero_le _
  have i0 : i64 0 := ⟨by decide, by decide⟩
  have v0 : i64 val0.n ∧ val0.s.size ≤ 200 := ⟨i0, by show 0 ≤ 200; omega⟩
  have u : ∀ l : List UInt8, l.length ≤ s.length → (qs ((unqP hxP l).getD [])).size ≤ s.length := fun l h => by rw [qt]; have := unqP_len l; omega
  have t := typeOfP_nn c
  unfold readP
  rw [hw]
  show RdOk (readW a b c d e) _
  unfold readW
  rcases opL_cases a with h | h | h | h | h | h | h | h <;> simp only [h, reduceIte, Int.reduceEq]
  · exact ⟨z _ hb, z _ hd, z0, z0, i0, (qfw c).1, (qfw c).2⟩
  · exact ⟨z _ hb, z0, z0, z0, i0, (qfw c).1, (qfw c).2⟩
  · exact ⟨z _ hb, z _ hc, z0, z0, i0, v0.1, v0.2⟩
  · exact ⟨z _ hb, z _ hd, z _ he, u _ hc, i0, v0.1, v0.2⟩
  · exact ⟨z _ hb, z _ hc, z _ he, u _ hd, i0, v0.1, v0.2⟩
  · exact ⟨z _ hb, z0, z0, z0, ⟨by have := t.1; show -9223372036854775808 ≤ (qdt c).1; omega, by have := t.2.1; show (qdt c).1 ≤ 9223372036854775807; omega⟩, (qfw d).1, (qfw d).2⟩
  · exact ⟨z _ hb, z _ hd, z0, z0, intP_get _, v0.1, v0.2⟩
  · exact ⟨z _ hb, z0, z0, z0, i0, v0.1, v0.2⟩
theorem trim_len (x : List UInt8) : (Lib.trimSuffix x [10]).length ≤ x.length := by
  unfold Lib.trimSuffix
  split <;> simp
theorem lnK_le (s : List UInt8) : ∀ x ∈ lnK s, 1 ≤ x.length := by
  induction s with
  | nil => intro x hx; cases hx
  | cons b l ih =>
    intro x hx
    rw [lnK] at hx
    split at hx
    · rcases List.mem_cons.1 hx with rfl | hx
      · simp
      · exact ih x hx
    · split at hx
      · simp at hx; subst hx; simp
      · rename_i y ys h
        rcases List.mem_cons.1 hx with rfl | hx
        · simp
        · exact ih x (by rw [h]; simp [hx])
theorem lnK_num (s : List UInt8) : (lnK s).length ≤ s.length := by
  have h1 := lnK_le s
  have h2 : (lnK s).flatten.length = s.length := by rw [qfi]
  rw [List.length_flatten] at h2
  have : ∀ l : List (List UInt8), (∀ x ∈ l, 1 ≤ x.length) → l.length ≤ (l.map List.length).sum := fun l => by
    induction l with
    | nil => intro _; simp
    | cons a l ih =>
      intro h
      have := ih fun x hx => h x (by simp [hx])
      have := h a (by simp)
      simp; omega
  have := this _ h1
  omega
theorem lnK_one (s : List UInt8) : ∀ x ∈ lnK s, x.length ≤ s.length := fun x hx => by
  have h2 : (lnK s).flatten.length = s.length := by rw [qfi]
  rw [List.length_flatten] at h2
  have : ∀ l : List (List UInt8), x ∈ l → x.length ≤ (l.map List.length).sum := fun l => by
    induction l with
    | nil => intro h; cases h
    | cons a l ih =>
      intro h
      rw [List.map_cons, List.sum_cons]
      rcases List.mem_cons.1 h with rfl | h
      · omega
      · have := ih h; omega
  have := this _ hx
  omega
theorem steps_ok {s : List UInt8} : ∀ x ∈ qdz s, RdOk x s.length := fun x hx => by
  unfold qdz at hx
  obtain ⟨y, hy, rfl⟩ := List.mem_map.1 hx
  have h1 := lnK_one s y hy
  have h2 := trim_len y
  have h3 := readP_ok (Lib.trimSuffix y [10])
  exact ⟨by have := h3.a; show (lnR y).a.size ≤ _; unfold lnR; omega, by have := h3.b; show (lnR y).b.size ≤ _; unfold lnR; omega, by have := h3.c; show (lnR y).c.size ≤ _; unfold lnR; omega, by have := h3.sep; show (lnR y).sep.size ≤ _; unfold lnR; omega, h3.n, h3.v, h3.s⟩
theorem linesL_bound : ∀ L : List (List UInt8), (qce (L.map lnR)).length ≤ 7 * (L.map List.length).sum + 1000 * L.length
  | [] => by simp [qce]
  | y :: l => by
    have h0 := readP_ok (Lib.trimSuffix y [10])
    have h9 := trim_len y
    have h2 := linesL_bound l
    have h3 := lineL_len (lnR y) h0.n h0.v
    have h4 : (lnR y).a.size ≤ _ := h0.a
    have h5 : (lnR y).b.size ≤ _ := h0.b
    have h6 : (lnR y).c.size ≤ _ := h0.c
    have h7 : (lnR y).sep.size ≤ _ := h0.sep
    have h8 : (lnR y).value.s.size ≤ _ := h0.s
    have e : qce ((y :: l).map lnR) = lineL (lnR y) ++ [10] ++ qce (l.map lnR) := by unfold qce; rw [List.map_cons, List.flatMap_cons]
    have e3 : ([10] : List UInt8).length = 1 := rfl
    rw [e, List.length_append, List.length_append, e3, List.map_cons, List.sum_cons, List.length_cons]
    omega
theorem steps_bytes (S : List UInt8) : (qce (qdz S)).length ≤ 1007 * S.length := by
  have h1 := linesL_bound (lnK S)
  have h2 := lnK_num S
  have h3 : ((lnK S).map List.length).sum = S.length := by rw [← List.length_flatten, qfi]
  unfold qdz
  omega
theorem updB_at {σ : Nat → AB} {n0 : Nat} {Bs : List AB} (j : Nat) (b : AB) (h : Bs[j]? = some b) : updB σ n0 Bs (n0 + j) = b := by
  unfold updB
  rw [if_neg (by omega), Nat.add_sub_cancel_left, h]
theorem updB_two {σ : Nat → AB} {n0 : Nat} {Bs Cs : List AB} (h : Cs.length = Bs.length) : updB (updB σ n0 Bs) n0 Cs = updB σ n0 Cs := by
  funext r
  unfold updB
  by_cases hr : r < n0
  · rw [if_pos hr, if_pos hr, if_pos hr]
  · rw [if_neg hr, if_neg hr, if_neg hr]
    cases hc : Cs[r - n0]? with
    | some c => rfl
    | none =>
      have : Bs[r - n0]? = none := by
        rw [List.getElem?_eq_none_iff] at hc ⊢; omega
      rw [this]
theorem updB_set2 {σ : Nat → AB} {n0 : Nat} {Bs : List AB} (h : ∀ j b, Bs[j]? = some b → σ (n0 + j) = b) (i j : Nat) (x y : AB) (hi : i < Bs.length) (hj : j < Bs.length) : upd (upd σ (n0 + i) x) (n0 + j) y = updB σ n0 ((Bs.set i x).set j y) := by
  rw [updB_set h i x hi, updB_set (fun j b hb => updB_at j b hb) j y (by simpa using hj), updB_two (by simp)]
theorem upd_locP {σ : Nat → AB} {n0 : Nat} {L : List AB} (i : Nat) (x : AB) (hi : i < L.length) : upd (loc σ n0 L) (n0 + i) x = loc σ n0 (L.set i x) := by
  funext r
  unfold upd loc
  by_cases h : r = n0 + i
  · subst h
    rw [if_pos rfl, if_neg (by omega), Nat.add_sub_cancel_left, List.getD_eq_getElem?_getD, List.getElem?_set_self hi]; rfl
  · rw [if_neg h]
    by_cases h2 : r < n0
    · rw [if_pos h2, if_pos h2]
    · rw [if_neg h2, if_neg h2, List.getD_eq_getElem?_getD, List.getD_eq_getElem?_getD, List.getElem?_set_ne (by omega)]
set_option maxHeartbeats 4000000 in
theorem lparse_g (s : ByteArray) (hs : s.size ≤ 50000) : Gives Tryz.prog 13 [.str s] (.tup [.sl ((lparseP s.data.toList).1.map Lens.av), .bool (lparseP s.data.toList).2]) := by
  obtain ⟨S, hS⟩ : ∃ S, s.data.toList = S := ⟨_, rfl⟩
  have hsz : S.length = s.size := by rw [← hS, qdr]
  obtain ⟨R, hR⟩ : ∃ R, lparseP S = R := ⟨_, rfl⟩
  rw [hS, hR]
  have hok := steps_ok (s := S)
  have hnum := lnK_num S
  have hsl : (qdz S).length = (lnK S).length := by unfold qdz; simp
  have hb2 : (qce (qdz S)).length ≤ 1000000000 := by
    have := steps_bytes S
    omega
  have c9 := lprint_g (qdz S) (fun x hx => by
    have h := hok x hx
    have := h.a; have := h.b; have := h.c; have := h.sep; have := h.s
    exact ⟨⟨by omega, by omega, by omega, by omega⟩, h.n, h.v, by omega⟩) (by omega) hb2
  refine gives_of_fwp Tryz.func13 Tryz.ntmps13 rfl rfl (by decide) rfl (by intro n; simp) fun σ n0 hcl hft => ?_
  refine qcw fun K hK => qer ?_
  repeat' (first | ((first | ((with_reducible refine qp (fun hg => ?_) (fun hg => ?_)) <;> (try simp only [hg]) <;> (try simp only [gS] at hg) <;> (try (first | simp only [eq_false hg, gI] | simp only [eq_true hg, gI]))) | (with_reducible first | refine qc ?_ | refine qb ?_ | refine qj ?_ | refine qi ?_) | refine qe ?_ | refine qk ?_ | refine qh ?_ | refine qo ?_) <;> (try simp (disch := first | omega | simp) [qg, -qq, -qu])) | ((with_reducible refine sideT ?_ ?_); first | omega | assumption | (simp; done)) | (refine qf fun K hK => ?_) | (refine qa ?_) | refine ql ?_ | ((first | refine hK _ ?_ | (clear hK K; refine hK _ ?_) | (clear hK K; clear hK K; refine hK _ ?_)); clear hK K) | refine qd ?_)
  refine hK _ _ ?_
  clear hK K
  refine qcw fun K hK => qer ?_
  repeat' (first | ((first | ((with_reducible refine qp (fun hg => ?_) (fun hg => ?_)) <;> (try simp only [hg]) <;> (try simp only [gS] at hg) <;> (try (first | simp only [eq_false hg, gI] | simp only [eq_true hg, gI]))) | (with_reducible first | refine qc ?_ | refine qb ?_ | refine qj ?_ | refine qi ?_) | refine qe ?_ | refine qk ?_ | refine qh ?_ | refine qo ?_) <;> (try simp (disch := first | omega | simp) [qg, -qq, -qu])) | ((with_reducible refine sideT ?_ ?_); first | omega | assumption | (simp; done)) | (refine qf fun K hK => ?_) | (refine qa ?_) | refine ql ?_ | ((first | refine hK _ ?_ | (clear hK K; refine hK _ ?_) | (clear hK K; clear hK K; refine hK _ ?_)); clear hK K) | refine qd ?_)
  refine hK _ _ ?_
  clear hK K
  refine qcw fun K hK => ?_
  refine qcw fun K2 hK2 => qer ?_
  refine qbs 0 0 29 9 (by rfl) (by rfl) ?_
  repeat' (first | ((first | ((with_reducible refine qp (fun hg => ?_) (fun hg => ?_)) <;> (try simp only [hg]) <;> (try simp only [gS] at hg) <;> (try (first | simp only [eq_false hg, gI] | simp only [eq_true hg, gI]))) | (with_reducible first | refine qc ?_ | refine qb ?_ | refine qj ?_ | refine qi ?_) | refine acallB (lines_b s) ?_ | refine qe ?_ | refine qk ?_ | refine qh ?_ | refine qo ?_) <;> (try simp (disch := first | omega | simp) [qg, -qq, -qu])) | ((with_reducible refine sideT ?_ ?_); first | omega | assumption | (simp; done)) | (refine qf fun K hK => ?_) | (refine qa ?_) | refine ql ?_ | ((first | refine hK _ ?_ | (clear hK K; refine hK _ ?_) | (clear hK K; clear hK K; refine hK _ ?_)); clear hK K) | refine qd ?_)
  refine hK2 _ _ ?_
  clear hK2 K2
  refine fwp_block ?_
  have hw := lines_it (n0 + 2) s (by omega)
  have hxl : (linesX s).length = (lnK S).length := by unfold linesX; rw [hS]; simp
  obtain ⟨PL, hPL⟩ : ∃ PL : Nat → List AV, PL = fun k => ((qdz S).take k).map Lens.av := ⟨_, rfl⟩
  have hPlen : ∀ k, k ≤ (lnK S).length → (PL k).length = k := fun k hk => by rw [hPL]; simp; omega
  have hPw : ∀ k, AV.wid (PL k) 9 := fun k => by rw [hPL]; exact Lens.avs_wid _
  have hPc : ∀ k m, AV.cls m (PL k) := fun k m => by rw [hPL]; exact Lens.avs_cl _ m
  have hP0 : PL 0 = [] := by rw [hPL]; rfl
  have hPe : PL (lnK S).length = (qdz S).map Lens.av := by rw [hPL, ← hsl]; simp
  have hr0 : qs (restK s 0) = s := by
    unfold restK
    rw [List.drop_zero, qfi]; exact (bA_eq rfl).symm
  refine fwp_range (psl := [8]) (by rfl) (by kernel_rfl) hw (fun k => [.cells [.gs (n0 + 1) (PL k)] 22, .tail k 29 9, .cells [.str (qs (restK s k))] 9]) (fun k => [.cells [.gs (n0 + 1) (PL k)] 22, .tail k 29 9, .cells [.str (qs (restK s (k + 1)))] 9]) (lnK S).length false .ret (.inl rfl) (by rw [hP0, hr0]) (by omega) (by simp [hxl]) (by simp) hcl (fun _ _ => rfl) (fun _ _ => rfl) (fun k _ => by simp [hPc]) (fun k _ Z => by simp) (fun k _ Z => upd_locP 2 _ (by simp)) (by decide) (by unfold linesX; intro x hx; obtain ⟨y, -, rfl⟩ := List.mem_map.1 hx; rfl) (fun k hk hx σ' σb nx h1 h2 hxc => ?_) ?_
  · have hxk : (linesX s)[k] = [AV.str (qs (lnK S)[k])] := by simp [linesX, hS]
    rw [hxk]
    have hks : k < (qdz S).length := by omega
    have hl1 := lnK_one S _ (List.getElem_mem hk)
    have hl2 := trim_len (lnK S)[k]
    have c1 := trimSuffix_g (qs (lnK S)[k]) ⟨#[10]⟩ (by rw [qt]; omega)
    have c2 := read_g (qs (Lib.trimSuffix (lnK S)[k] [10])) (by rw [qt]; omega)
    rw [bA_data] at c1 c2
    have e1 : readP (Lib.trimSuffix (lnK S)[k] [10]) = (qdz S)[k] := by simp only [qdz, List.getElem_map]; rfl
    rw [e1] at c2
    have e2 : (⟨#[10]⟩ : ByteArray).data.toList = [10] := rfl
    rw [e2] at c1
    have hPs : PL (k + 1) = PL k ++ [(qdz S)[k].av] := by rw [hPL]; simp only; rw [List.take_succ_eq_append_getElem hks, List.map_append]; rfl
    have a0 := h2.at' 0 _ rfl
    have a1 := h2.at' 1 _ rfl
    have a3 := h2.lt
    simp at a0 a1 a3
    have g3' : n0 < nx := by omega
    have g4' : n0 + 1 < nx := by omega
    have f0 : ∀ L', loc σb nx L' n0 = .cells [.gs (n0 + 1) (PL k)] 22 := fun L' => by rw [qdb _ _ _ _ g3']; exact a0
    have f1 : ∀ L', loc σb nx L' (n0 + 1) = .tail k 29 9 := fun L' => by rw [qdb _ _ _ _ g4']; exact a1
    have hpk := hPlen k (by omega)
    have hpw := hPw k
    have hkb : k ≤ 50000 := by omega
    have f2 : ∀ x L', loc (upd σb (n0 + 1) x) nx L' n0 = .cells [.gs (n0 + 1) (PL k)] 22 := fun x L' => by
      rw [qdb _ _ _ _ g3']; unfold upd; rw [if_neg (by omega)]; exact a0
    repeat' (first | ((first | ((with_reducible refine qp (fun hg => ?_) (fun hg => ?_)) <;> (try simp only [hg]) <;> (try simp only [gS] at hg) <;> (try (first | simp only [eq_false hg, gI] | simp only [eq_true hg, gI]))) | (with_reducible first | refine qc ?_ | refine qb ?_ | refine qj ?_ | refine qi ?_) | refine acall (c1) ?_ | refine qn (c1) ?_ | refine acall (c2) ?_ | refine qn (c2) ?_ | refine qe ?_ | refine qk ?_ | refine qh ?_ | refine qo ?_) <;> (try simp (disch := first | omega | simp) [qg, -qq, -qu, f0, f1, f2, g3', g4', hpk, hpw])) | ((with_reducible refine sideT ?_ ?_); first | omega | assumption | (simp; done)) | (refine qf fun K hK => ?_) | (refine qa ?_) | refine ql ?_ | ((first | refine hK _ ?_ | (clear hK K; refine hK _ ?_) | (clear hK K; clear hK K; refine hK _ ?_)); clear hK K) | refine qd ?_)
    rw [hPs]
    exact updB_set2 h2.at' 1 0 _ _ (by simp) (by simp)
  · intro D
    simp only [Bool.false_eq_true, if_false, FBlock, FThen]
    refine hK _ _ ?_
    clear hK K
    refine qer ?_
    unfold lparseP at hR
    by_cases hp : lprintP (qdz S) = S
    · rw [if_pos hp] at hR
      have hb : qs (lprintP (qdz S)) = s := by rw [hp]; exact (bA_eq hS).symm
      rw [hb] at c9
      repeat' (first | ((first | ((with_reducible refine qp (fun hg => ?_) (fun hg => ?_)) <;> (try simp only [hg]) <;> (try simp only [gS] at hg) <;> (try (first | simp only [eq_false hg, gI] | simp only [eq_true hg, gI]))) | (with_reducible first | refine qc ?_ | refine qb ?_ | refine qj ?_ | refine qi ?_) | refine acall (c9) ?_ | refine qn (c9) ?_ | refine qe ?_ | refine qk ?_ | refine qh ?_ | refine qo ?_) <;> (try simp (disch := first | omega | simp) [qg, -qq, -qu, hPe])) | ((with_reducible refine sideT ?_ ?_); first | omega | assumption | (simp; done)) | (refine qf fun K hK => ?_) | (refine qa ?_) | refine ql ?_ | ((first | refine hK _ ?_ | (clear hK K; refine hK _ ?_) | (clear hK K; clear hK K; refine hK _ ?_)); clear hK K) | refine qd ?_)
      subst hR
      refine fend_mark 3 (.inr rfl) (by rfl) ?_
      simp
    · rw [if_neg hp] at hR
      have hb : (lprintP (qdz S) == s.toList) = false := by
        rw [beq_eq_false_iff_ne, ByteArray.toList_eq, hS]
        exact hp
      repeat' (first | ((first | ((with_reducible refine qp (fun hg => ?_) (fun hg => ?_)) <;> (try simp only [hg]) <;> (try simp only [gS] at hg) <;> (try (first | simp only [eq_false hg, gI] | simp only [eq_true hg, gI]))) | (with_reducible first | refine qc ?_ | refine qb ?_ | refine qj ?_ | refine qi ?_) | refine acall (c9) ?_ | refine qn (c9) ?_ | refine qe ?_ | refine qk ?_ | refine qh ?_ | refine qo ?_) <;> (try simp (disch := first | omega | simp) [qg, -qq, -qu, hPe, hb])) | ((with_reducible refine sideT ?_ ?_); first | omega | assumption | (simp; done)) | (refine qf fun K hK => ?_) | (refine qa ?_) | refine ql ?_ | ((first | refine hK _ ?_ | (clear hK K; refine hK _ ?_) | (clear hK K; clear hK K; refine hK _ ?_)); clear hK K) | refine qd ?_)
      subst hR
      refine fend_mark 3 (.inr rfl) (by rfl) ?_
      simp
end Go.Proofs.YtbkkjlcclddpdaaGreatDoor

/- slices.Backward at steps, as an iterator. -/
namespace Go.Proofs.YtbkkjlcclddpdaaGreatDoor
open Go.RowKit Go.Lib
def backL (L : List Lens) : List (List AV) := (List.range L.length).map fun k => match L[L.length - 1 - k]? with
  | some x => [.int ((L.length - 1 - k : Nat) : Int), x.av]
  | none => []
theorem backL_len (L : List Lens) : (backL L).length = L.length := by simp [backL]
theorem backL_get (L : List Lens) {q : Nat} (hq : q < L.length) (h : L.length - (q + 1) < (backL L).length) : (backL L)[L.length - (q + 1)] = [.int (q : Int), L[q].av] := by
  have e : L.length - 1 - (L.length - (q + 1)) = q := by omega
  simp only [backL, List.getElem_map, List.getElem_range, e, List.getElem?_eq_getElem hq]
theorem back_b (L : List Lens) : GivesB Tryz.prog 64 [.sl (L.map Lens.av)] (fun r => .fn 120 [.ptr r 0]) (.cells [.sl (L.map Lens.av)] 22) := by
  refine qgf 0 Tryz.func64 Tryz.ntmps64 rfl rfl (by decide) rfl (by intro m; simp) fun σ n0 hcl hft => ?_
  repeat' (first | ((first | ((with_reducible refine qp (fun hg => ?_) (fun hg => ?_)) <;> (try simp only [hg]) <;> (try simp only [gS] at hg) <;> (try (first | simp only [eq_false hg, gI] | simp only [eq_true hg, gI]))) | (with_reducible first | refine qc ?_ | refine qb ?_ | refine qj ?_ | refine qi ?_) | refine qe ?_ | refine qk ?_ | refine qh ?_ | refine qo ?_) <;> (try simp (disch := first | omega | simp) [qg, -qq, -qu])) | ((with_reducible refine sideT ?_ ?_); first | omega | assumption | (simp; done)) | (refine qf fun K hK => ?_) | (refine qa ?_) | refine ql ?_ | ((first | refine hK _ ?_ | (clear hK K; refine hK _ ?_) | (clear hK K; clear hK K; refine hK _ ?_)); clear hK K) | refine qd ?_)
set_option maxHeartbeats 2000000 in
theorem back_it (r0 : Nat) (L : List Lens) (hL : L.length ≤ 1000000) : Iter Tryz.prog 120 [.ptr r0 0] (backL L) (fun _ σ => σ r0 = .cells [.sl (L.map Lens.av)] 22) (fun _ σ => σ) := by
  refine iter_of_awp Tryz.func120 Tryz.ntmps120 rfl rfl rfl fun l S m stop n0 hm hs0 hs1 hI hSc hSf hft hcc hy => ?_
  have hr0 : r0 < n0 := by simpa using hcc
  have hl : ∀ k, k ≤ m → ∀ L', loc (S k) n0 L' r0 = .cells [.sl (L.map Lens.av)] 22 := fun k hk L' => by rw [qdb _ _ _ _ hr0]; exact hI k hk
  rw [backL_len] at hm
  have hl0 := hl 0 (by omega)
  repeat' (first | ((first | ((with_reducible refine qp (fun hg => ?_) (fun hg => ?_)) <;> (try simp only [hg]) <;> (try simp only [gS] at hg) <;> (try (first | simp only [eq_false hg, gI] | simp only [eq_true hg, gI]))) | (with_reducible first | refine qc ?_ | refine qb ?_ | refine qj ?_ | refine qi ?_) | refine qe ?_ | refine qk ?_ | refine qh ?_ | refine qo ?_) <;> (try simp (disch := first | omega | simp) [qg, -qq, -qu, hl0, hr0])) | ((with_reducible refine sideT ?_ ?_); first | omega | assumption | (simp; done)) | (refine qf fun K hK => ?_) | (refine qa ?_) | refine ql ?_ | ((first | refine hK _ ?_ | (clear hK K; refine hK _ ?_) | (clear hK K; clear hK K; refine hK _ ?_)); clear hK K) | refine qd ?_)
  refine awp_loopS (fun b => S (L.length - b)) (fun b => [(0, .v (.func (.yield l) #[] #[])), (1, .ptr r0 0), (3, .int ((b : Int) - 1))]) (fun _ => [])
    (fun b => b ≤ L.length ∧ L.length - b ≤ m ∧ (stop = true → L.length - b < m)) (fun b => b) L.length (fun b hb r => hSc _ hb.2.1 r) ⟨by omega, by omega, fun h => by have := hs1 h; omega⟩ (by simp [leS, hr0]) (hSc 0 (by omega)) fun b ⟨hb, hbm, hbs⟩ => ?_
  have hlk := hl _ hbm
  cases b with
  | zero =>
    repeat' (first | ((first | ((with_reducible refine qp (fun hg => ?_) (fun hg => ?_)) <;> (try simp only [hg]) <;> (try simp only [gS] at hg) <;> (try (first | simp only [eq_false hg, gI] | simp only [eq_true hg, gI]))) | (with_reducible first | refine qc ?_ | refine qb ?_ | refine qj ?_ | refine qi ?_) | refine qe ?_ | refine qk ?_ | refine qh ?_ | refine qo ?_) <;> (try simp (disch := first | omega | simp) [qg, -qq, -qu])) | ((with_reducible refine sideT ?_ ?_); first | omega | assumption | (simp; done)) | (refine qf fun K hK => ?_) | (refine qa ?_) | refine ql ?_ | ((first | refine hK _ ?_ | (clear hK K; refine hK _ ?_) | (clear hK K; clear hK K; refine hK _ ?_)); clear hK K) | refine qd ?_)
    have hme : L.length = m := by
      cases stop with
      | true => have := hbs rfl; omega
      | false => have := hs0 rfl; rw [backL_len] at this; exact this.symm
    exact congrArg S hme
  | succ q =>
    have hq : q < L.length := by omega
    have hkm : L.length - (q + 1) < m := by
      cases stop with
      | true => exact hbs rfl
      | false => have := hs0 rfl; rw [backL_len] at this; omega
    have hyk := fun L' => hy (L.length - (q + 1)) hkm (by rw [backL_len]; omega) L'
    rw [backL_get L hq] at hyk
    have e1 : L.length - (q + 1) + 1 = L.length - q := by omega
    rw [e1] at hyk
    cases hst : (stop && decide (L.length - q = m)) with
    | true =>
      rw [hst] at hyk
      have hjm3 : L.length - q = m := by simp at hst; exact hst.2
      repeat' (first | ((first | ((with_reducible refine qp (fun hg => ?_) (fun hg => ?_)) <;> (try simp only [hg]) <;> (try simp only [gS] at hg) <;> (try (first | simp only [eq_false hg, gI] | simp only [eq_true hg, gI]))) | (with_reducible first | refine qc ?_ | refine qb ?_ | refine qj ?_ | refine qi ?_) | refine qdc (id := 3) 6 (by rfl) ?_ | refine ayield _ (hyk _) ?_ | refine qe ?_ | refine qk ?_ | refine qh ?_ | refine qo ?_) <;> (try simp (disch := first | omega | simp) [qg, -qq, -qu, hlk, hr0, hq, List.take_succ_cons, List.drop_succ_cons])) | ((with_reducible refine sideT ?_ ?_); first | omega | assumption | (simp; done)) | (refine qf fun K hK => ?_) | (refine qa ?_) | refine ql ?_ | ((first | refine hK _ ?_ | (clear hK K; refine hK _ ?_) | (clear hK K; clear hK K; refine hK _ ?_)); clear hK K) | refine qd ?_)
      exact congrArg S hjm3
    | false =>
      rw [hst] at hyk
      have hjm3 : stop = true → L.length - q < m := fun h => by
        rw [h, Bool.true_and, decide_eq_false_iff_not] at hst; omega
      repeat' (first | ((first | ((with_reducible refine qp (fun hg => ?_) (fun hg => ?_)) <;> (try simp only [hg]) <;> (try simp only [gS] at hg) <;> (try (first | simp only [eq_false hg, gI] | simp only [eq_true hg, gI]))) | (with_reducible first | refine qc ?_ | refine qb ?_ | refine qj ?_ | refine qi ?_) | refine qdc (id := 3) 6 (by rfl) ?_ | refine ayield _ (hyk _) ?_ | refine qe ?_ | refine qk ?_ | refine qh ?_ | refine qo ?_) <;> (try simp (disch := first | omega | simp) [qg, -qq, -qu, hlk, hr0, hq, List.take_succ_cons, List.drop_succ_cons])) | ((with_reducible refine sideT ?_ ?_); first | omega | assumption | (simp; done)) | (refine qf fun K hK => ?_) | (refine qa ?_) | refine ql ?_ | ((first | refine hK _ ?_ | (clear hK K; refine hK _ ?_) | (clear hK K; clear hK K; refine hK _ ?_)); clear hK K) | refine qd ?_)
      exact ⟨hSc _ (by omega), q, ⟨by omega, by omega, hjm3⟩, by omega, by simp [leS, hr0, qg]⟩
end Go.Proofs.YtbkkjlcclddpdaaGreatDoor
