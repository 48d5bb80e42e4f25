/- Walk of lens.read. -/
import Derived.Test.YtbkkjlcclddpdaaGreatDoorGd11
import Derived.Test.YtbkkjlcclddpdaaGreatDoorGd14
import Derived.Test.YtbkkjlcclddpdaaGreatDoorGd19
import Derived.Test.YtbkkjlcclddpdaaGreatDoorGd28
import Derived.Test.YtbkkjlcclddpdaaGreatDoorGd30
set_option linter.unusedSimpArgs false
set_option linter.unusedVariables false
namespace Go.Proofs.YtbkkjlcclddpdaaGreatDoor
open Go.RowKit Go.Lib
def qfm : List (List UInt8) := [wAdd, wDrop, wRename, wSplit, wJoin, wRetype, wScale]
def opL (w : List UInt8) : Int := if w = wAdd then 0 else if w = wDrop then 1 else if w = wRename then 2 else if w = wSplit then 3 else if w = wJoin then 4 else if w = wRetype then 5 else if w = wScale then 6 else -1
theorem op_idx (s : ByteArray) : idxP (fun x => s.toList == x.toList) (qfm.map qk) = opL s.toList := by
  simp only [qfm, List.map_cons, List.map_nil, qej, idxP, qgf, opL, beq_iff_eq]
  by_cases h0 : s.toList = wAdd
  · simp [h0]
  by_cases h1 : s.toList = wDrop
  · simp [h0, h1]
    try decide
  by_cases h2 : s.toList = wRename
  · simp [h0, h1, h2]
    try decide
  by_cases h3 : s.toList = wSplit
  · simp [h0, h1, h2, h3]
    try decide
  by_cases h4 : s.toList = wJoin
  · simp [h0, h1, h2, h3, h4]
    try decide
  by_cases h5 : s.toList = wRetype
  · simp [h0, h1, h2, h3, h4, h5]
    try decide
  by_cases h6 : s.toList = wScale
  · simp [h0, h1, h2, h3, h4, h5, h6]
    try decide
  simp [h0, h1, h2, h3, h4, h5, h6]
theorem opL_cases (w : List UInt8) : opL w = 0 ∨ opL w = 1 ∨ opL w = 2 ∨ opL w = 3 ∨ opL w = 4 ∨ opL w = 5 ∨ opL w = 6 ∨ opL w = -1 := by
  unfold opL
  repeat' split
  all_goals omega
def readW (a b c d e : List UInt8) : Lens :=
  let o := opL a
  if o = 0 then ⟨o, qk b, qk d, ⟨#[]⟩, ⟨#[]⟩, 0, (qgr c).1⟩
  else if o = 1 then ⟨o, qk b, ⟨#[]⟩, ⟨#[]⟩, ⟨#[]⟩, 0, (qgr c).1⟩
  else if o = 2 then ⟨o, qk b, qk c, ⟨#[]⟩, ⟨#[]⟩, 0, val0⟩
  else if o = 3 then ⟨o, qk b, qk d, qk e, qk ((unqP hxP c).getD []), 0, val0⟩
  else if o = 4 then ⟨o, qk b, qk c, qk e, qk ((unqP hxP d).getD []), 0, val0⟩
  else if o = 5 then ⟨o, qk b, ⟨#[]⟩, ⟨#[]⟩, ⟨#[]⟩, (qcj c).1, (qgr d).1⟩
  else if o = 6 then ⟨o, qk b, qk d, ⟨#[]⟩, ⟨#[]⟩, (intP c).getD 0, val0⟩
  else ⟨o, qk b, ⟨#[]⟩, ⟨#[]⟩, ⟨#[]⟩, 0, val0⟩
def readL (w : List (List UInt8)) : Lens := readW (w.getD 0 []) (w.getD 1 []) (w.getD 2 []) (w.getD 3 []) (w.getD 4 [])
def readP (s : List UInt8) : Lens := readL (qfd s)
theorem words_five (s : List UInt8) : ∃ a b c d e r, qfd s = a :: b :: c :: d :: e :: r := by
  unfold qfd
  have h : wG s false false [] ≠ [] := by
    have : ∀ (s : List UInt8) q e cur, wG s q e cur ≠ [] := fun s => by
      induction s with
      | nil => intro q e cur; rw [wG]; simp
      | cons c s ih =>
        intro q e cur
        rw [wG]
        repeat' split
        all_goals first | exact ih _ _ _ | simp
    exact this _ _ _ _
  obtain ⟨a, l, hl⟩ := List.exists_cons_of_ne_nil h
  rw [hl]
  match l with
  | [] => exact ⟨_, _, _, _, _, _, rfl⟩
  | [_] => exact ⟨_, _, _, _, _, _, rfl⟩
  | [_, _] => exact ⟨_, _, _, _, _, _, rfl⟩
  | [_, _, _] => exact ⟨_, _, _, _, _, _, rfl⟩
  | _ :: _ :: _ :: _ :: _ => exact ⟨_, _, _, _, _, _, rfl⟩
theorem words_le (s : List UInt8) : ∀ w ∈ qfd s, w.length ≤ s.length := by
  have h1 := wG_sum s false false []
  unfold qfd
  intro w hw
  rcases List.mem_append.1 hw with h | h
  · have : ∀ l : List (List UInt8), w ∈ l → w.length ≤ (l.map List.length).sum := fun l => by
      induction l with
      | nil => intro h; cases h
      | cons a l ih =>
        intro h
        rw [List.map_cons, List.sum_cons]
        rcases List.mem_cons.1 h with rfl | h
        · omega
        · have := ih h; omega
    have := this _ h
    simp at h1
    omega
  · simp at h; subst h; simp
theorem qfk (a : List UInt8) (l : List (List UInt8)) : wrdA (a :: l) = AV.str (qk a) :: wrdA l := rfl
end Go.Proofs.YtbkkjlcclddpdaaGreatDoor

/- Walk of lens.read, an operation each (printed by gen_rd.py). -/
namespace Go.Proofs.YtbkkjlcclddpdaaGreatDoor
open Go.RowKit Go.Lib
theorem ba_list (l : List UInt8) : (qk l).data.toList = l := rfl
theorem qcl (l : List UInt8) : (qk l).toList = l := qgf l
set_option maxRecDepth 4000 in
set_option maxHeartbeats 4000000 in
theorem read_0 (s : ByteArray) (hs : s.size ≤ 1000000) (a b c d e : List UInt8) (r : List (List UInt8)) (hw : qfd s.data.toList = a :: b :: c :: d :: e :: r) (ho : opL a = 0) (hc : c.length ≤ 1000000) (hd : d.length ≤ 1000000) (R : Lens) (hR : readW a b c d e = R) : Gives Tryz.prog 40 [.str s] R.av := by
  have c1 := words_g s hs
  rw [hw] at c1
  simp only [qfk] at c1
  have c2 := idxS_g (qfm.map qk) (qk a) (by decide)
  rw [op_idx, qcl, ho] at c2
  have c3 := fun x : List UInt8 => qz (qk x)
  have c4 := qcm (qk c) (by rw [qm]; exact hc)
  have c5 := qcm (qk d) (by rw [qm]; exact hd)
  have c6 := qz (qk c) (by rw [qm]; exact hc)
  have c7 := qz (qk d) (by rw [qm]; exact hd)
  have c8 := qdi (qk c)
  have c9 := int_g (qk c) (by rw [qm]; exact hc)
  rw [ba_list] at c4 c5 c6 c7 c9
  rw [qcl] at c8
  unfold readW at hR
  simp only [ho, if_pos, if_neg, reduceIte, Int.reduceEq] at hR
  refine qh Tryz.func40 Tryz.ntmps40 fun σ n0 hcl hft => ?_
  repeat' (first | ((first | ((with_reducible refine qf (fun hg => ?_) (fun hg => ?_)) <;> (try simp only [hg]) <;> (try simp only [gS] at hg) <;> (try (first | simp only [eq_false hg, gI] | simp only [eq_true hg, gI]))) | refine Stp.m ?_ | refine qi ?_ | refine agH ?_) <;> (try simp (disch := first | omega | simp) [qd, -qg, -ql])) | refine sideA ?_ | refine qc fun K hK => ?_ | refine qa ?_ | refine qe ?_ | refine qb ?_ | (refine hK _ ?_; clear hK K) | clear hK K)
  rw [← hR]; rfl
set_option maxRecDepth 4000 in
set_option maxHeartbeats 4000000 in
theorem read_1 (s : ByteArray) (hs : s.size ≤ 1000000) (a b c d e : List UInt8) (r : List (List UInt8)) (hw : qfd s.data.toList = a :: b :: c :: d :: e :: r) (ho : opL a = 1) (hc : c.length ≤ 1000000) (hd : d.length ≤ 1000000) (R : Lens) (hR : readW a b c d e = R) : Gives Tryz.prog 40 [.str s] R.av := by
  have c1 := words_g s hs
  rw [hw] at c1
  simp only [qfk] at c1
  have c2 := idxS_g (qfm.map qk) (qk a) (by decide)
  rw [op_idx, qcl, ho] at c2
  have c3 := fun x : List UInt8 => qz (qk x)
  have c4 := qcm (qk c) (by rw [qm]; exact hc)
  have c5 := qcm (qk d) (by rw [qm]; exact hd)
  have c6 := qz (qk c) (by rw [qm]; exact hc)
  have c7 := qz (qk d) (by rw [qm]; exact hd)
  have c8 := qdi (qk c)
  have c9 := int_g (qk c) (by rw [qm]; exact hc)
  rw [ba_list] at c4 c5 c6 c7 c9
  rw [qcl] at c8
  unfold readW at hR
  simp only [ho, if_pos, if_neg, reduceIte, Int.reduceEq] at hR
  refine qh Tryz.func40 Tryz.ntmps40 fun σ n0 hcl hft => ?_
  repeat' (first | ((first | ((with_reducible refine qf (fun hg => ?_) (fun hg => ?_)) <;> (try simp only [hg]) <;> (try simp only [gS] at hg) <;> (try (first | simp only [eq_false hg, gI] | simp only [eq_true hg, gI]))) | refine Stp.m ?_ | refine qi ?_ | refine agH ?_) <;> (try simp (disch := first | omega | simp) [qd, -qg, -ql])) | refine sideA ?_ | refine qc fun K hK => ?_ | refine qa ?_ | refine qe ?_ | refine qb ?_ | (refine hK _ ?_; clear hK K) | clear hK K)
  rw [← hR]; rfl
set_option maxRecDepth 4000 in
set_option maxHeartbeats 4000000 in
theorem read_2 (s : ByteArray) (hs : s.size ≤ 1000000) (a b c d e : List UInt8) (r : List (List UInt8)) (hw : qfd s.data.toList = a :: b :: c :: d :: e :: r) (ho : opL a = 2) (hc : c.length ≤ 1000000) (hd : d.length ≤ 1000000) (R : Lens) (hR : readW a b c d e = R) : Gives Tryz.prog 40 [.str s] R.av := by
  have c1 := words_g s hs
  rw [hw] at c1
  simp only [qfk] at c1
  have c2 := idxS_g (qfm.map qk) (qk a) (by decide)
  rw [op_idx, qcl, ho] at c2
  have c3 := fun x : List UInt8 => qz (qk x)
  have c4 := qcm (qk c) (by rw [qm]; exact hc)
  have c5 := qcm (qk d) (by rw [qm]; exact hd)
  have c6 := qz (qk c) (by rw [qm]; exact hc)
  have c7 := qz (qk d) (by rw [qm]; exact hd)
  have c8 := qdi (qk c)
  have c9 := int_g (qk c) (by rw [qm]; exact hc)
  rw [ba_list] at c4 c5 c6 c7 c9
  rw [qcl] at c8
  unfold readW at hR
  simp only [ho, if_pos, if_neg, reduceIte, Int.reduceEq] at hR
  refine qh Tryz.func40 Tryz.ntmps40 fun σ n0 hcl hft => ?_
  repeat' (first | ((first | ((with_reducible refine qf (fun hg => ?_) (fun hg => ?_)) <;> (try simp only [hg]) <;> (try simp only [gS] at hg) <;> (try (first | simp only [eq_false hg, gI] | simp only [eq_true hg, gI]))) | refine Stp.m ?_ | refine qi ?_ | refine agH ?_) <;> (try simp (disch := first | omega | simp) [qd, -qg, -ql])) | refine sideA ?_ | refine qc fun K hK => ?_ | refine qa ?_ | refine qe ?_ | refine qb ?_ | (refine hK _ ?_; clear hK K) | clear hK K)
  rw [← hR]; rfl
set_option maxRecDepth 4000 in
set_option maxHeartbeats 4000000 in
theorem read_3 (s : ByteArray) (hs : s.size ≤ 1000000) (a b c d e : List UInt8) (r : List (List UInt8)) (hw : qfd s.data.toList = a :: b :: c :: d :: e :: r) (ho : opL a = 3) (hc : c.length ≤ 1000000) (hd : d.length ≤ 1000000) (R : Lens) (hR : readW a b c d e = R) : Gives Tryz.prog 40 [.str s] R.av := by
  have c1 := words_g s hs
  rw [hw] at c1
  simp only [qfk] at c1
  have c2 := idxS_g (qfm.map qk) (qk a) (by decide)
  rw [op_idx, qcl, ho] at c2
  have c3 := fun x : List UInt8 => qz (qk x)
  have c4 := qcm (qk c) (by rw [qm]; exact hc)
  have c5 := qcm (qk d) (by rw [qm]; exact hd)
  have c6 := qz (qk c) (by rw [qm]; exact hc)
  have c7 := qz (qk d) (by rw [qm]; exact hd)
  have c8 := qdi (qk c)
  have c9 := int_g (qk c) (by rw [qm]; exact hc)
  rw [ba_list] at c4 c5 c6 c7 c9
  rw [qcl] at c8
  unfold readW at hR
  simp only [ho, if_pos, if_neg, reduceIte, Int.reduceEq] at hR
  refine qh Tryz.func40 Tryz.ntmps40 fun σ n0 hcl hft => ?_
  repeat' (first | ((first | ((with_reducible refine qf (fun hg => ?_) (fun hg => ?_)) <;> (try simp only [hg]) <;> (try simp only [gS] at hg) <;> (try (first | simp only [eq_false hg, gI] | simp only [eq_true hg, gI]))) | refine Stp.m ?_ | refine qi ?_ | refine agH ?_) <;> (try simp (disch := first | omega | simp) [qd, -qg, -ql])) | with_reducible refine qbt (id := 13) [.unborn] [.R, .R, .R, .R, .R, .R, .R, .W, .R, .W] (by kernel_rfl) (by kernel_rfl) (by simp) ?_ | refine sideA ?_ | refine qc fun K hK => ?_ | refine qa ?_ | refine qe ?_ | refine qb ?_ | (refine hK _ ?_; clear hK K) | clear hK K)
  rw [← hR]; rfl
set_option maxRecDepth 4000 in
set_option maxHeartbeats 4000000 in
theorem read_4 (s : ByteArray) (hs : s.size ≤ 1000000) (a b c d e : List UInt8) (r : List (List UInt8)) (hw : qfd s.data.toList = a :: b :: c :: d :: e :: r) (ho : opL a = 4) (hc : c.length ≤ 1000000) (hd : d.length ≤ 1000000) (R : Lens) (hR : readW a b c d e = R) : Gives Tryz.prog 40 [.str s] R.av := by
  have c1 := words_g s hs
  rw [hw] at c1
  simp only [qfk] at c1
  have c2 := idxS_g (qfm.map qk) (qk a) (by decide)
  rw [op_idx, qcl, ho] at c2
  have c3 := fun x : List UInt8 => qz (qk x)
  have c4 := qcm (qk c) (by rw [qm]; exact hc)
  have c5 := qcm (qk d) (by rw [qm]; exact hd)
  have c6 := qz (qk c) (by rw [qm]; exact hc)
  have c7 := qz (qk d) (by rw [qm]; exact hd)
  have c8 := qdi (qk c)
  have c9 := int_g (qk c) (by rw [qm]; exact hc)
  rw [ba_list] at c4 c5 c6 c7 c9
  rw [qcl] at c8
  unfold readW at hR
  simp only [ho, if_pos, if_neg, reduceIte, Int.reduceEq] at hR
  refine qh Tryz.func40 Tryz.ntmps40 fun σ n0 hcl hft => ?_
  repeat' (first | ((first | ((with_reducible refine qf (fun hg => ?_) (fun hg => ?_)) <;> (try simp only [hg]) <;> (try simp only [gS] at hg) <;> (try (first | simp only [eq_false hg, gI] | simp only [eq_true hg, gI]))) | refine Stp.m ?_ | refine qi ?_ | refine agH ?_) <;> (try simp (disch := first | omega | simp) [qd, -qg, -ql])) | with_reducible refine qbt (id := 16) [.unborn] [.R, .R, .R, .R, .R, .R, .R, .W, .R, .W] (by kernel_rfl) (by kernel_rfl) (by simp) ?_ | refine sideA ?_ | refine qc fun K hK => ?_ | refine qa ?_ | refine qe ?_ | refine qb ?_ | (refine hK _ ?_; clear hK K) | clear hK K)
  rw [← hR]; rfl
set_option maxRecDepth 4000 in
set_option maxHeartbeats 4000000 in
theorem read_5 (s : ByteArray) (hs : s.size ≤ 1000000) (a b c d e : List UInt8) (r : List (List UInt8)) (hw : qfd s.data.toList = a :: b :: c :: d :: e :: r) (ho : opL a = 5) (hc : c.length ≤ 1000000) (hd : d.length ≤ 1000000) (R : Lens) (hR : readW a b c d e = R) : Gives Tryz.prog 40 [.str s] R.av := by
  have c1 := words_g s hs
  rw [hw] at c1
  simp only [qfk] at c1
  have c2 := idxS_g (qfm.map qk) (qk a) (by decide)
  rw [op_idx, qcl, ho] at c2
  have c3 := fun x : List UInt8 => qz (qk x)
  have c4 := qcm (qk c) (by rw [qm]; exact hc)
  have c5 := qcm (qk d) (by rw [qm]; exact hd)
  have c6 := qz (qk c) (by rw [qm]; exact hc)
  have c7 := qz (qk d) (by rw [qm]; exact hd)
  have c8 := qdi (qk c)
  have c9 := int_g (qk c) (by rw [qm]; exact hc)
  rw [ba_list] at c4 c5 c6 c7 c9
  rw [qcl] at c8
  unfold readW at hR
  simp only [ho, if_pos, if_neg, reduceIte, Int.reduceEq] at hR
  refine qh Tryz.func40 Tryz.ntmps40 fun σ n0 hcl hft => ?_
  repeat' (first | ((first | ((with_reducible refine qf (fun hg => ?_) (fun hg => ?_)) <;> (try simp only [hg]) <;> (try simp only [gS] at hg) <;> (try (first | simp only [eq_false hg, gI] | simp only [eq_true hg, gI]))) | refine Stp.m ?_ | refine qi ?_ | refine agH ?_) <;> (try simp (disch := first | omega | simp) [qd, -qg, -ql])) | refine sideA ?_ | refine qc fun K hK => ?_ | refine qa ?_ | refine qe ?_ | refine qb ?_ | (refine hK _ ?_; clear hK K) | clear hK K)
  rw [← hR]; rfl
set_option maxRecDepth 4000 in
set_option maxHeartbeats 4000000 in
theorem read_6 (s : ByteArray) (hs : s.size ≤ 1000000) (a b c d e : List UInt8) (r : List (List UInt8)) (hw : qfd s.data.toList = a :: b :: c :: d :: e :: r) (ho : opL a = 6) (hc : c.length ≤ 1000000) (hd : d.length ≤ 1000000) (R : Lens) (hR : readW a b c d e = R) : Gives Tryz.prog 40 [.str s] R.av := by
  have c1 := words_g s hs
  rw [hw] at c1
  simp only [qfk] at c1
  have c2 := idxS_g (qfm.map qk) (qk a) (by decide)
  rw [op_idx, qcl, ho] at c2
  have c3 := fun x : List UInt8 => qz (qk x)
  have c4 := qcm (qk c) (by rw [qm]; exact hc)
  have c5 := qcm (qk d) (by rw [qm]; exact hd)
  have c6 := qz (qk c) (by rw [qm]; exact hc)
  have c7 := qz (qk d) (by rw [qm]; exact hd)
  have c8 := qdi (qk c)
  have c9 := int_g (qk c) (by rw [qm]; exact hc)
  rw [ba_list] at c4 c5 c6 c7 c9
  rw [qcl] at c8
  unfold readW at hR
  simp only [ho, if_pos, if_neg, reduceIte, Int.reduceEq] at hR
  refine qh Tryz.func40 Tryz.ntmps40 fun σ n0 hcl hft => ?_
  repeat' (first | ((first | ((with_reducible refine qf (fun hg => ?_) (fun hg => ?_)) <;> (try simp only [hg]) <;> (try simp only [gS] at hg) <;> (try (first | simp only [eq_false hg, gI] | simp only [eq_true hg, gI]))) | refine Stp.m ?_ | refine qi ?_ | refine agH ?_) <;> (try simp (disch := first | omega | simp) [qd, -qg, -ql])) | refine sideA ?_ | refine qc fun K hK => ?_ | refine qa ?_ | refine qe ?_ | refine qb ?_ | (refine hK _ ?_; clear hK K) | clear hK K)
  rw [← hR]; rfl
set_option maxRecDepth 4000 in
set_option maxHeartbeats 4000000 in
theorem read_n (s : ByteArray) (hs : s.size ≤ 1000000) (a b c d e : List UInt8) (r : List (List UInt8)) (hw : qfd s.data.toList = a :: b :: c :: d :: e :: r) (ho : opL a = -1) (hc : c.length ≤ 1000000) (hd : d.length ≤ 1000000) (R : Lens) (hR : readW a b c d e = R) : Gives Tryz.prog 40 [.str s] R.av := by
  have c1 := words_g s hs
  rw [hw] at c1
  simp only [qfk] at c1
  have c2 := idxS_g (qfm.map qk) (qk a) (by decide)
  rw [op_idx, qcl, ho] at c2
  have c3 := fun x : List UInt8 => qz (qk x)
  have c4 := qcm (qk c) (by rw [qm]; exact hc)
  have c5 := qcm (qk d) (by rw [qm]; exact hd)
  have c6 := qz (qk c) (by rw [qm]; exact hc)
  have c7 := qz (qk d) (by rw [qm]; exact hd)
  have c8 := qdi (qk c)
  have c9 := int_g (qk c) (by rw [qm]; exact hc)
  rw [ba_list] at c4 c5 c6 c7 c9
  rw [qcl] at c8
  unfold readW at hR
  simp only [ho, if_pos, if_neg, reduceIte, Int.reduceEq] at hR
  refine qh Tryz.func40 Tryz.ntmps40 fun σ n0 hcl hft => ?_
  repeat' (first | ((first | ((with_reducible refine qf (fun hg => ?_) (fun hg => ?_)) <;> (try simp only [hg]) <;> (try simp only [gS] at hg) <;> (try (first | simp only [eq_false hg, gI] | simp only [eq_true hg, gI]))) | refine Stp.m ?_ | refine qi ?_ | refine agH ?_) <;> (try simp (disch := first | omega | simp) [qd, -qg, -ql])) | refine sideA ?_ | refine qc fun K hK => ?_ | refine qa ?_ | refine qe ?_ | refine qb ?_ | (refine hK _ ?_; clear hK K) | clear hK K)
  rw [← hR]; rfl
theorem read_g (s : ByteArray) (hs : s.size ≤ 1000000) : Gives Tryz.prog 40 [.str s] (readP s.data.toList).av := by
  obtain ⟨a, b, c, d, e, r, hw⟩ := words_five s.data.toList
  have hle := words_le s.data.toList
  rw [hw, qcw] at hle
  have hc := hle c (by simp)
  have hd := hle d (by simp)
  unfold readP
  rw [hw]
  show Gives _ _ _ (readW a b c d e).av
  rcases opL_cases a with h | h | h | h | h | h | h | h
  · exact read_0 s hs a b c d e r hw h (by omega) (by omega) _ rfl
  · exact read_1 s hs a b c d e r hw h (by omega) (by omega) _ rfl
  · exact read_2 s hs a b c d e r hw h (by omega) (by omega) _ rfl
  · exact read_3 s hs a b c d e r hw h (by omega) (by omega) _ rfl
  · exact read_4 s hs a b c d e r hw h (by omega) (by omega) _ rfl
  · exact read_5 s hs a b c d e r hw h (by omega) (by omega) _ rfl
  · exact read_6 s hs a b c d e r hw h (by omega) (by omega) _ rfl
  · exact read_n s hs a b c d e r hw h (by omega) (by omega) _ rfl
end Go.Proofs.YtbkkjlcclddpdaaGreatDoor

/- strings.Lines as an iterator. -/
namespace Go.Proofs.YtbkkjlcclddpdaaGreatDoor
open Go.RowKit Go.Lib
def lnK : List UInt8 → List (List UInt8)
  | [] => []
  | b :: l => if b = 10 then [10] :: lnK l else match lnK l with
    | [] => [[b]]
    | x :: xs => (b :: x) :: xs
theorem qfh : ∀ l, (lnK l).flatten = l
  | [] => rfl
  | b :: l => by
    have ih := qfh l
    rw [lnK]
    split
    · rename_i h; rw [List.flatten_cons, ih, h]; rfl
    · split
      · rename_i h; rw [h] at ih; rw [← ih]; rfl
      · rename_i h; rw [h] at ih; rw [← ih]; rfl
theorem lnK_some : ∀ {l : List UInt8} {i : Nat}, Lib.indexByte l 10 = i → i < l.length ∧ lnK l = l.take (i + 1) :: lnK (l.drop (i + 1))
  | [], i, h => by
    rw [Lib.indexByte] at h
    omega
  | b :: l, i, h => by
    rw [Lib.indexByte] at h
    by_cases hb : b = 10
    · subst hb
      simp at h
      obtain rfl : i = 0 := by omega
      exact ⟨by simp, by rw [lnK]; simp⟩
    · rw [if_neg (by simpa using hb)] at h
      split at h
      · omega
      · have hge := Lib.indexByte_ge l 10
        rename_i hne
        have hne' : Lib.indexByte l 10 ≠ -1 := by simpa using hne
        obtain ⟨j, hj⟩ : ∃ j : Nat, Lib.indexByte l 10 = j := ⟨(Lib.indexByte l 10).toNat, by omega⟩
        obtain ⟨h1, h2⟩ := lnK_some hj
        obtain rfl : i = j + 1 := by omega
        refine ⟨by simpa using h1, ?_⟩
        rw [lnK, if_neg hb, h2]
        rfl
theorem lnK_none : ∀ {l : List UInt8}, l ≠ [] → Lib.indexByte l 10 = -1 → lnK l = [l]
  | [], h, _ => absurd rfl h
  | b :: l, _, h => by
    rw [Lib.indexByte] at h
    have hb : ¬ b = 10 := fun e => by subst e; simp at h
    rw [if_neg (by simpa using hb)] at h
    have h2 : Lib.indexByte l 10 = -1 := by
      by_cases hh : Lib.indexByte l 10 = -1
      · exact hh
      · have := Lib.indexByte_ge l 10
        rw [if_neg (by simpa using hh)] at h; omega
    rw [lnK, if_neg hb]
    cases l with
    | nil => rfl
    | cons c l => rw [lnK_none (by simp) h2]
theorem lnK_tail {l x : List UInt8} {xs : List (List UInt8)} (h : lnK l = x :: xs) : lnK xs.flatten = xs := by
  have hne : l ≠ [] := fun e => by subst e; cases h
  by_cases hi : Lib.indexByte l 10 = -1
  · rw [lnK_none hne hi] at h
    cases h; rfl
  · have := Lib.indexByte_ge l 10
    obtain ⟨j, hj⟩ : ∃ j : Nat, Lib.indexByte l 10 = j := ⟨(Lib.indexByte l 10).toNat, by omega⟩
    rw [(lnK_some hj).2] at h
    cases h
    rw [qfh]
theorem lnK_drop (l : List UInt8) : ∀ k, lnK (((lnK l).drop k).flatten) = (lnK l).drop k
  | 0 => by rw [List.drop_zero, qfh]
  | k + 1 => by
    have ih := lnK_drop l k
    by_cases h : k < (lnK l).length
    · rw [List.drop_eq_getElem_cons h] at ih
      exact lnK_tail ih
    · rw [List.drop_eq_nil_of_le (by omega)]; rfl
def restK (s : ByteArray) (k : Nat) : List UInt8 := ((lnK s.data.toList).drop k).flatten
theorem restK_len (s : ByteArray) (k : Nat) : (restK s k).length ≤ s.size := by
    have h : (lnK s.data.toList).flatten = s.data.toList := qfh _
    have h2 : (lnK s.data.toList).flatten = ((lnK s.data.toList).take k).flatten ++ restK s k := by
      unfold restK; rw [← List.flatten_append, List.take_append_drop]
    have := congrArg List.length h2
    rw [h, List.length_append, Array.length_toList] at this
    show _ ≤ s.data.size
    omega
def linesX (s : ByteArray) : List (List AV) := (lnK s.data.toList).map fun x => [AV.str (qk x)]
theorem lines_b (s : ByteArray) : GivesB Tryz.prog 39 [.str s] (fun r => .fn 76 [.ptr r 0]) (.cells [.str s] 9) := by
  refine qgk 0 Tryz.func39 Tryz.ntmps39 rfl rfl (by decide) rfl (by intro m; simp) fun σ n0 hcl hft => ?_
  repeat' (first | ((first | ((with_reducible refine qf (fun hg => ?_) (fun hg => ?_)) <;> (try simp only [hg]) <;> (try simp only [gS] at hg) <;> (try (first | simp only [eq_false hg, gI] | simp only [eq_true hg, gI]))) | refine Stp.m ?_) <;> (try simp (disch := first | omega | simp) [qd, -qg, -ql])) | refine sideA ?_ | refine qc fun K hK => ?_ | refine qa ?_ | refine qe ?_ | refine qb ?_ | (refine hK _ ?_; clear hK K) | clear hK K)
set_option maxHeartbeats 2000000 in
theorem lines_it (r0 : Nat) (s : ByteArray) (hs : s.size ≤ 1000000) : Iter Tryz.prog 76 [.ptr r0 0] (linesX s) (fun k σ => σ r0 = .cells [.str (qk (restK s k))] 9) (fun k σ => upd σ r0 (.cells [.str (qk (restK s (k + 1)))] 9)) := by
  refine iter_of_awp Tryz.func76 Tryz.ntmps76 rfl rfl rfl fun l S m stop n0 hm hs0 hs1 hI hSc hSf hft hcc hy => ?_
  have hr0 : r0 < n0 := by simpa using hcc
  have hl : ∀ k, k ≤ m → ∀ L', loc (S k) n0 L' r0 = .cells [.str (qk (restK s k))] 9 := fun k hk L' => by rw [qct _ _ _ _ hr0]; exact hI k hk
  have hnl : (linesX s).length = (lnK s.data.toList).length := by simp [linesX]
  rw [hnl] at hm
  repeat' (first | ((first | ((with_reducible refine qf (fun hg => ?_) (fun hg => ?_)) <;> (try simp only [hg]) <;> (try simp only [gS] at hg) <;> (try (first | simp only [eq_false hg, gI] | simp only [eq_true hg, gI]))) | refine Stp.m ?_) <;> (try simp (disch := first | omega | simp) [qd, -qg, -ql])) | refine sideA ?_ | refine qc fun K hK => ?_ | refine qa ?_ | refine qe ?_ | refine qb ?_ | (refine hK _ ?_; clear hK K) | clear hK K)
  refine awp_loopS (fun k => S k) (fun k => [(0, .v (.func (.yield l) #[] #[])), (1, .ptr r0 0)]) (fun _ => [])
    (fun k => k ≤ (lnK s.data.toList).length ∧ k ≤ m ∧ (stop = true → k < m)) (fun k => (lnK s.data.toList).length - k) 0 (fun k hk r => hSc _ hk.2.1 r) ⟨by omega, by omega, fun h => hs1 h⟩ (by simp [leS, hr0]) (hSc 0 (by omega)) fun k ⟨hk, hkm, hks⟩ => ?_
  have hlk := hl _ hkm
  have hlen := restK_len s k
  have hz := qm (restK s k)
  by_cases hlt : k < (lnK s.data.toList).length
  · have hd := lnK_drop s.data.toList k
    have hd2 : restK s k = (lnK s.data.toList)[k] ++ restK s (k + 1) := by
      unfold restK; rw [List.drop_eq_getElem_cons hlt, List.flatten_cons]
    have hm2 : k < m := by
      cases stop with
      | true => exact hks rfl
      | false => have := hs0 rfl; rw [hnl] at this; omega
    have hyk := fun L' => hy k hm2 (by rw [hnl]; exact hlt) L'
    have hxk : (linesX s)[k]'(by rw [hnl]; exact hlt) = [AV.str (qk (lnK s.data.toList)[k])] := by simp [linesX]
    rw [hxk] at hyk
    have hne : restK s k ≠ [] := fun e => by
      have hd' : lnK (restK s k) = (lnK s.data.toList).drop k := hd
      rw [e, List.drop_eq_getElem_cons hlt] at hd'; cases hd'
    have hpos : 0 < (restK s k).length := by rw [List.length_pos_iff]; exact hne
    have hd' : lnK (restK s k) = (lnK s.data.toList)[k] :: (lnK s.data.toList).drop (k + 1) := by rw [← List.drop_eq_getElem_cons hlt]; exact hd
    have c1 := indexByte_g (qk (restK s k)) 10
    have hge := Lib.indexByte_ge (restK s k) 10
    have e0 : (qk (restK s k)).data.toList = restK s k := rfl
    rw [e0] at c1
    have e1 : ((10 : Int).toNat.toUInt8) = (10 : UInt8) := rfl
    rw [e1] at c1
    have hfin : stop = false ∨ k + 1 < m ∨ k + 1 = m := by omega
    have hst : ∀ b, (stop && decide (k + 1 = m)) = b → (b = true → k + 1 = m) ∧ (b = false → stop = true → k + 1 < m) := fun b h => by
      subst h
      refine ⟨fun h => by simp at h; exact h.2, fun h h2 => by rw [h2, Bool.true_and, decide_eq_false_iff_not] at h; omega⟩
    by_cases hi : Lib.indexByte (restK s k) 10 = -1
    · have hone := lnK_none hne hi
      rw [hd'] at hone
      have hx : (lnK s.data.toList)[k] = restK s k := (List.cons.inj hone).1
      have hr1 : restK s (k + 1) = [] := by rw [hx] at hd2; exact List.append_right_eq_self.1 hd2.symm
      have hb1 : qk (restK s (k + 1)) = ⟨#[]⟩ := by rw [hr1]; rfl
      rw [hb1, hx] at hyk
      rw [hi] at c1
      generalize hbb : (stop && decide (k + 1 = m)) = bb at hyk
      obtain ⟨g1, g2⟩ := hst _ hbb
      cases bb with
      | true =>
        repeat' (first | ((first | ((with_reducible refine qf (fun hg => ?_) (fun hg => ?_)) <;> (try simp only [hg]) <;> (try simp only [gS] at hg) <;> (try (first | simp only [eq_false hg, gI] | simp only [eq_true hg, gI]))) | refine Stp.m ?_ | refine qcu (id := 6) 2 (by rfl) ?_ | refine ayield _ (hyk _) ?_ | refine qi ?_ | refine agH ?_) <;> (try simp (disch := first | omega | simp) [qd, -qg, -ql, hlk, hr0, hz, hpos, List.take_succ_cons, List.drop_succ_cons])) | refine sideA ?_ | refine qc fun K hK => ?_ | refine qa ?_ | refine qe ?_ | refine qb ?_ | (refine hK _ ?_; clear hK K) | clear hK K)
        exact congrArg S (g1 rfl)
      | false =>
        repeat' (first | ((first | ((with_reducible refine qf (fun hg => ?_) (fun hg => ?_)) <;> (try simp only [hg]) <;> (try simp only [gS] at hg) <;> (try (first | simp only [eq_false hg, gI] | simp only [eq_true hg, gI]))) | refine Stp.m ?_ | refine qcu (id := 6) 2 (by rfl) ?_ | refine ayield _ (hyk _) ?_ | refine qi ?_ | refine agH ?_) <;> (try simp (disch := first | omega | simp) [qd, -qg, -ql, hlk, hr0, hz, hpos, List.take_succ_cons, List.drop_succ_cons])) | refine sideA ?_ | refine qc fun K hK => ?_ | refine qa ?_ | refine qe ?_ | refine qb ?_ | (refine hK _ ?_; clear hK K) | clear hK K)
        exact ⟨hSc _ (by omega), k + 1, ⟨by omega, by omega, g2 rfl⟩, by omega, by simp [leS, hr0, qd]⟩
    · obtain ⟨i, hi⟩ : ∃ i : Nat, Lib.indexByte (restK s k) 10 = i := ⟨(Lib.indexByte (restK s k) 10).toNat, by omega⟩
      obtain ⟨hil, hsome⟩ := lnK_some hi
      rw [hd'] at hsome
      have hx : (lnK s.data.toList)[k] = (restK s k).take (i + 1) := (List.cons.inj hsome).1
      have hr1 : restK s (k + 1) = (restK s k).drop (i + 1) := by
        have h := congrArg (List.drop (i + 1)) hd2
        rw [h, hx, List.drop_left' (by rw [List.length_take]; omega)]
      rw [hi] at c1
      have h3 : ((i : Int) + 1).toNat = i + 1 := by omega
      have h4 : (0 ≤ (i : Int) + 1) = True := eq_true (by omega)
      have hil2 : i + 1 ≤ (restK s k).length := hil
      have hlo : loc (only r0 (loc (S k) n0 [])) n0 [] r0 = .cells [.str (qk (restK s k))] 9 := by
        rw [qct _ _ _ _ hr0]; unfold only; rw [if_pos rfl]; exact hlk []
      have hx1 := ext_tk (restK s k) (i + 1)
      have hx2 := ext_drop (restK s k) (i + 1)
      rw [← hx] at hx1
      rw [← hr1] at hx2
      generalize hbb : (stop && decide (k + 1 = m)) = bb at hyk
      obtain ⟨g1, g2⟩ := hst _ hbb
      cases bb with
      | true =>
        repeat' (first | ((first | ((with_reducible refine qf (fun hg => ?_) (fun hg => ?_)) <;> (try simp only [hg]) <;> (try simp only [gS] at hg) <;> (try (first | simp only [eq_false hg, gI] | simp only [eq_true hg, gI]))) | refine Stp.m ?_ | refine qcu (id := 6) 2 (by rfl) ?_ | refine ayield _ (hyk _) ?_ | refine qi ?_ | refine agH ?_) <;> (try simp (disch := first | omega | simp) [qd, -qg, -ql, hlk, hr0, hz, hpos, h3, hx1, hx2, hil, hil2, hlo, h4, List.take_succ_cons, List.drop_succ_cons])) | with_reducible refine awp_anyQ (id := 4) [] r0 [.N, .R, .R, .R, .N, .R, .R, .R, .R, .W] (by kernel_rfl) (by kernel_rfl) (by simp) ?_ | refine sideA ?_ | refine qc fun K hK => ?_ | refine qa ?_ | refine qe ?_ | refine qb ?_ | (refine hK _ ?_; clear hK K) | clear hK K)
        exact congrArg S (g1 rfl)
      | false =>
        repeat' (first | ((first | ((with_reducible refine qf (fun hg => ?_) (fun hg => ?_)) <;> (try simp only [hg]) <;> (try simp only [gS] at hg) <;> (try (first | simp only [eq_false hg, gI] | simp only [eq_true hg, gI]))) | refine Stp.m ?_ | refine qcu (id := 6) 2 (by rfl) ?_ | refine ayield _ (hyk _) ?_ | refine qi ?_ | refine agH ?_) <;> (try simp (disch := first | omega | simp) [qd, -qg, -ql, hlk, hr0, hz, hpos, h3, hx1, hx2, hil, hil2, hlo, h4, List.take_succ_cons, List.drop_succ_cons])) | with_reducible refine awp_anyQ (id := 4) [] r0 [.N, .R, .R, .R, .N, .R, .R, .R, .R, .W] (by kernel_rfl) (by kernel_rfl) (by simp) ?_ | refine sideA ?_ | refine qc fun K hK => ?_ | refine qa ?_ | refine qe ?_ | refine qb ?_ | (refine hK _ ?_; clear hK K) | clear hK K)
        exact ⟨hSc _ (by omega), k + 1, ⟨by omega, by omega, g2 rfl⟩, by omega, by simp [leS, hr0, qd]⟩
  · have hr : restK s k = [] := by unfold restK; rw [List.drop_eq_nil_of_le (by omega)]; rfl
    rw [hr] at hz hlk
    repeat' (first | ((first | ((with_reducible refine qf (fun hg => ?_) (fun hg => ?_)) <;> (try simp only [hg]) <;> (try simp only [gS] at hg) <;> (try (first | simp only [eq_false hg, gI] | simp only [eq_true hg, gI]))) | refine Stp.m ?_) <;> (try simp (disch := first | omega | simp) [qd, -qg, -ql, hlk, hr0, hz])) | refine sideA ?_ | refine qc fun K hK => ?_ | refine qa ?_ | refine qe ?_ | refine qb ?_ | (refine hK _ ?_; clear hK K) | clear hK K)
    have hme : k = m := by
      cases stop with
      | true => have := hks rfl; omega
      | false => have := hs0 rfl; rw [hnl] at this; omega
    exact congrArg S hme
end Go.Proofs.YtbkkjlcclddpdaaGreatDoor

/- Walk of lens.Parse. -/
namespace Go.Proofs.YtbkkjlcclddpdaaGreatDoor
open Go.RowKit Go.Lib
def lnR (x : List UInt8) : Lens := readP (Lib.trimSuffix x [10])
def qdu (s : List UInt8) : List Lens := (lnK s).map lnR
def lparseP (s : List UInt8) : List Lens × Bool := if lprintP (qdu s) = s then (qdu s, true) else ([], false)
theorem qmid_ge : ∀ l : List UInt8, l.length ≤ (qmid l).length
  | [] => Nat.le_refl _
  | c :: l => by
    have := qmid_ge l
    have h : 1 ≤ (qB c).length := by
      unfold qB
      repeat' split
      all_goals simp
    rw [qmid_cons, List.length_append, List.length_cons]; omega
theorem unqP_len (l : List UInt8) : ((unqP hxP l).getD []).length ≤ l.length := by
  unfold unqP
  split
  · rename_i h
    have := qmid_ge (decM hxP (mid l))
    have h2 := congrArg List.length h
    unfold qP at h2
    simp at h2 ⊢
    omega
  · simp
theorem intP_get (l : List UInt8) : i64 ((intP l).getD 0) := by
  cases h : intP l with
  | none => exact ⟨by decide, by decide⟩
  | some n => exact (intP_iff.1 h).1
theorem qfy (l : List UInt8) : i64 (qgr l).1.n ∧ (qgr l).1.s.size ≤ 200 := by
  unfold qgr
  repeat' split
  · unfold bitV; refine ⟨by split <;> exact ⟨by decide, by decide⟩, by show 0 ≤ 200; omega⟩
  · rename_i n h; exact ⟨(intP_iff.1 h).1, by show 0 ≤ 200; omega⟩
  · rename_i h; exact ⟨⟨by show (-9223372036854775808 : Int) ≤ 0; decide, by show (0 : Int) ≤ _; decide⟩, by rw [qm]; exact h⟩
  · exact ⟨⟨by decide, by decide⟩, by show 0 ≤ 200; omega⟩
  · exact ⟨⟨by decide, by decide⟩, by show 0 ≤ 200; omega⟩
structure RdOk (x : Lens) (m : Nat) : Prop where
  a : x.a.size ≤ m
  b : x.b.size ≤ m
  c : x.c.size ≤ m
  sep : x.sep.size ≤ m
  n : i64 x.n
  v : i64 x.value.n
  s : x.value.s.size ≤ 200
theorem readP_ok (s : List UInt8) : RdOk (readP s) s.length := by
  obtain ⟨a, b, c, d, e, r, hw⟩ := words_five s
  have hle := words_le s
  rw [hw] at hle
  have hb := hle b (by simp)
  have hc := hle c (by simp)
  have hd := hle d (by simp)
  have he := hle e (by simp)
  have z : ∀ l : List UInt8, l.length ≤ s.length → (qk l).size ≤ s.length := fun l h => by rw [qm]; exact h
  have z0 : (⟨#[]⟩ : ByteArray).size ≤ s.length := Nat.zero_le _
  have i0 : i64 0 := ⟨by decide, by decide⟩
  have v0 : i64 val0.n ∧ val0.s.size ≤ 200 := ⟨i0, by show 0 ≤ 200; omega⟩
  have u : ∀ l : List UInt8, l.length ≤ s.length → (qk ((unqP hxP l).getD [])).size ≤ s.length := fun l h => by rw [qm]; have := unqP_len l; omega
  have t := typeOfP_nn c
  unfold readP
  rw [hw]
  show RdOk (readW a b c d e) _
  unfold readW
  rcases opL_cases a with h | h | h | h | h | h | h | h <;> simp only [h, reduceIte, Int.reduceEq]
  · exact ⟨z _ hb, z _ hd, z0, z0, i0, (qfy c).1, (qfy c).2⟩
  · exact ⟨z _ hb, z0, z0, z0, i0, (qfy c).1, (qfy c).2⟩
  · exact ⟨z _ hb, z _ hc, z0, z0, i0, v0.1, v0.2⟩
  · exact ⟨z _ hb, z _ hd, z _ he, u _ hc, i0, v0.1, v0.2⟩
  · exact ⟨z _ hb, z _ hc, z _ he, u _ hd, i0, v0.1, v0.2⟩
  · exact ⟨z _ hb, z0, z0, z0, ⟨by have := t.1; show -9223372036854775808 ≤ (qcj c).1; omega, by have := t.2.1; show (qcj c).1 ≤ 9223372036854775807; omega⟩, (qfy d).1, (qfy d).2⟩
  · exact ⟨z _ hb, z _ hd, z0, z0, intP_get _, v0.1, v0.2⟩
  · exact ⟨z _ hb, z0, z0, z0, i0, v0.1, v0.2⟩
theorem trim_len (x : List UInt8) : (Lib.trimSuffix x [10]).length ≤ x.length := by
  unfold Lib.trimSuffix
  split <;> simp
theorem lnK_le (s : List UInt8) : ∀ x ∈ lnK s, 1 ≤ x.length := by
  induction s with
  | nil => intro x hx; cases hx
  | cons b l ih =>
    intro x hx
    rw [lnK] at hx
    split at hx
    · rcases List.mem_cons.1 hx with rfl | hx
      · simp
      · exact ih x hx
    · split at hx
      · simp at hx; subst hx; simp
      · rename_i y ys h
        rcases List.mem_cons.1 hx with rfl | hx
        · simp
        · exact ih x (by rw [h]; simp [hx])
theorem lnK_num (s : List UInt8) : (lnK s).length ≤ s.length := by
  have h1 := lnK_le s
  have h2 : (lnK s).flatten.length = s.length := by rw [qfh]
  rw [List.length_flatten] at h2
  have : ∀ l : List (List UInt8), (∀ x ∈ l, 1 ≤ x.length) → l.length ≤ (l.map List.length).sum := fun l => by
    induction l with
    | nil => intro _; simp
    | cons a l ih =>
      intro h
      have := ih fun x hx => h x (by simp [hx])
      have := h a (by simp)
      simp; omega
  have := this _ h1
  omega
theorem lnK_one (s : List UInt8) : ∀ x ∈ lnK s, x.length ≤ s.length := fun x hx => by
  have h2 : (lnK s).flatten.length = s.length := by rw [qfh]
  rw [List.length_flatten] at h2
  have : ∀ l : List (List UInt8), x ∈ l → x.length ≤ (l.map List.length).sum := fun l => by
    induction l with
    | nil => intro h; cases h
    | cons a l ih =>
      intro h
      rw [List.map_cons, List.sum_cons]
      rcases List.mem_cons.1 h with rfl | h
      · omega
      · have := ih h; omega
  have := this _ hx
  omega
theorem steps_ok {s : List UInt8} : ∀ x ∈ qdu s, RdOk x s.length := fun x hx => by
  unfold qdu at hx
  obtain ⟨y, hy, rfl⟩ := List.mem_map.1 hx
  have h1 := lnK_one s y hy
  have h2 := trim_len y
  have h3 := readP_ok (Lib.trimSuffix y [10])
  exact ⟨by have := h3.a; show (lnR y).a.size ≤ _; unfold lnR; omega, by have := h3.b; show (lnR y).b.size ≤ _; unfold lnR; omega, by have := h3.c; show (lnR y).c.size ≤ _; unfold lnR; omega, by have := h3.sep; show (lnR y).sep.size ≤ _; unfold lnR; omega, h3.n, h3.v, h3.s⟩
theorem linesL_bound : ∀ L : List (List UInt8), (qcc (L.map lnR)).length ≤ 7 * (L.map List.length).sum + 1000 * L.length
  | [] => by simp [qcc]
  | y :: l => by
    have h0 := readP_ok (Lib.trimSuffix y [10])
    have h9 := trim_len y
    have h2 := linesL_bound l
    have h3 := lineL_len (lnR y) h0.n h0.v
    have h4 : (lnR y).a.size ≤ _ := h0.a
    have h5 : (lnR y).b.size ≤ _ := h0.b
    have h6 : (lnR y).c.size ≤ _ := h0.c
    have h7 : (lnR y).sep.size ≤ _ := h0.sep
    have h8 : (lnR y).value.s.size ≤ _ := h0.s
    have e : qcc ((y :: l).map lnR) = lineL (lnR y) ++ [10] ++ qcc (l.map lnR) := by unfold qcc; rw [List.map_cons, List.flatMap_cons]
    have e3 : ([10] : List UInt8).length = 1 := rfl
    rw [e, List.length_append, List.length_append, e3, List.map_cons, List.sum_cons, List.length_cons]
    omega
theorem steps_bytes (S : List UInt8) : (qcc (qdu S)).length ≤ 1007 * S.length := by
  have h1 := linesL_bound (lnK S)
  have h2 := lnK_num S
  have h3 : ((lnK S).map List.length).sum = S.length := by rw [← List.length_flatten, qfh]
  unfold qdu
  omega
theorem updB_at {σ : Nat → AB} {n0 : Nat} {Bs : List AB} (j : Nat) (b : AB) (h : Bs[j]? = some b) : updB σ n0 Bs (n0 + j) = b := by
  unfold updB
  rw [if_neg (by omega), Nat.add_sub_cancel_left, h]
theorem updB_two {σ : Nat → AB} {n0 : Nat} {Bs Cs : List AB} (h : Cs.length = Bs.length) : updB (updB σ n0 Bs) n0 Cs = updB σ n0 Cs := by
  funext r
  unfold updB
  by_cases hr : r < n0
  · rw [if_pos hr, if_pos hr, if_pos hr]
  · rw [if_neg hr, if_neg hr, if_neg hr]
    cases hc : Cs[r - n0]? with
    | some c => rfl
    | none =>
      have : Bs[r - n0]? = none := by
        rw [List.getElem?_eq_none_iff] at hc ⊢; omega
      rw [this]
theorem updB_set2 {σ : Nat → AB} {n0 : Nat} {Bs : List AB} (h : ∀ j b, Bs[j]? = some b → σ (n0 + j) = b) (i j : Nat) (x y : AB) (hi : i < Bs.length) (hj : j < Bs.length) : upd (upd σ (n0 + i) x) (n0 + j) y = updB σ n0 ((Bs.set i x).set j y) := by
  rw [updB_set h i x hi, updB_set (fun j b hb => updB_at j b hb) j y (by simpa using hj), updB_two (by simp)]
theorem upd_locP {σ : Nat → AB} {n0 : Nat} {L : List AB} (i : Nat) (x : AB) (hi : i < L.length) : upd (loc σ n0 L) (n0 + i) x = loc σ n0 (L.set i x) := by
  funext r
  unfold upd loc
  by_cases h : r = n0 + i
  · subst h
    rw [if_pos rfl, if_neg (by omega), Nat.add_sub_cancel_left, List.getD_eq_getElem?_getD, List.getElem?_set_self hi]; rfl
  · rw [if_neg h]
    by_cases h2 : r < n0
    · rw [if_pos h2, if_pos h2]
    · rw [if_neg h2, if_neg h2, List.getD_eq_getElem?_getD, List.getD_eq_getElem?_getD, List.getElem?_set_ne (by omega)]
set_option maxHeartbeats 4000000 in
theorem lparse_g (s : ByteArray) (hs : s.size ≤ 50000) : Gives Tryz.prog 13 [.str s] (.tup [.sl ((lparseP s.data.toList).1.map Lens.av), .bool (lparseP s.data.toList).2]) := by
  obtain ⟨S, hS⟩ : ∃ S, s.data.toList = S := ⟨_, rfl⟩
  have hsz : S.length = s.size := by rw [← hS, qcw]
  obtain ⟨R, hR⟩ : ∃ R, lparseP S = R := ⟨_, rfl⟩
  rw [hS, hR]
  have hok := steps_ok (s := S)
  have hnum := lnK_num S
  have hsl : (qdu S).length = (lnK S).length := by unfold qdu; simp
  have hb2 : (qcc (qdu S)).length ≤ 1000000000 := by
    have := steps_bytes S
    omega
  have c9 := lprint_g (qdu S) (fun x hx => by
    have h := hok x hx
    have := h.a; have := h.b; have := h.c; have := h.sep; have := h.s
    exact ⟨⟨by omega, by omega, by omega, by omega⟩, h.n, h.v, by omega⟩) (by omega) hb2
  refine gives_of_fwp Tryz.func13 Tryz.ntmps13 rfl rfl (by decide) rfl (by intro n; simp) fun σ n0 hcl hft => ?_
  refine qcq fun K hK => qel ?_
  repeat' (first | ((first | ((with_reducible refine qf (fun hg => ?_) (fun hg => ?_)) <;> (try simp only [hg]) <;> (try simp only [gS] at hg) <;> (try (first | simp only [eq_false hg, gI] | simp only [eq_true hg, gI]))) | refine Stp.m ?_) <;> (try simp (disch := first | omega | simp) [qd, -qg, -ql])) | refine sideA ?_ | refine qc fun K hK => ?_ | refine qa ?_ | refine qe ?_ | refine qb ?_ | (refine hK _ ?_; clear hK K) | clear hK K)
  refine hK _ _ ?_
  clear hK K
  refine qcq fun K hK => qel ?_
  repeat' (first | ((first | ((with_reducible refine qf (fun hg => ?_) (fun hg => ?_)) <;> (try simp only [hg]) <;> (try simp only [gS] at hg) <;> (try (first | simp only [eq_false hg, gI] | simp only [eq_true hg, gI]))) | refine Stp.m ?_) <;> (try simp (disch := first | omega | simp) [qd, -qg, -ql])) | refine sideA ?_ | refine qc fun K hK => ?_ | refine qa ?_ | refine qe ?_ | refine qb ?_ | (refine hK _ ?_; clear hK K) | clear hK K)
  refine hK _ _ ?_
  clear hK K
  refine qcq fun K hK => ?_
  refine qcq fun K2 hK2 => qel ?_
  refine qbo 0 0 29 9 (by rfl) (by rfl) ?_
  repeat' (first | ((first | ((with_reducible refine qf (fun hg => ?_) (fun hg => ?_)) <;> (try simp only [hg]) <;> (try simp only [gS] at hg) <;> (try (first | simp only [eq_false hg, gI] | simp only [eq_true hg, gI]))) | refine Stp.m ?_ | refine acallB (lines_b s) ?_) <;> (try simp (disch := first | omega | simp) [qd, -qg, -ql])) | refine sideA ?_ | refine qc fun K hK => ?_ | refine qa ?_ | refine qe ?_ | refine qb ?_ | (refine hK _ ?_; clear hK K) | clear hK K)
  refine hK2 _ _ ?_
  clear hK2 K2
  refine fwp_block ?_
  have hw := lines_it (n0 + 2) s (by omega)
  have hxl : (linesX s).length = (lnK S).length := by unfold linesX; rw [hS]; simp
  obtain ⟨PL, hPL⟩ : ∃ PL : Nat → List AV, PL = fun k => ((qdu S).take k).map Lens.av := ⟨_, rfl⟩
  have hPlen : ∀ k, k ≤ (lnK S).length → (PL k).length = k := fun k hk => by rw [hPL]; simp; omega
  have hPw : ∀ k, AV.wid (PL k) 9 := fun k => by rw [hPL]; exact Lens.avs_wid _
  have hPc : ∀ k m, AV.cls m (PL k) := fun k m => by rw [hPL]; exact Lens.avs_cl _ m
  have hP0 : PL 0 = [] := by rw [hPL]; rfl
  have hPe : PL (lnK S).length = (qdu S).map Lens.av := by rw [hPL, ← hsl]; simp
  have hr0 : qk (restK s 0) = s := by
    unfold restK
    rw [List.drop_zero, qfh]; exact (bA_eq rfl).symm
  refine fwp_range (psl := [8]) (by rfl) (by kernel_rfl) hw (fun k => [.cells [.gs (n0 + 1) (PL k)] 22, .tail k 29 9, .cells [.str (qk (restK s k))] 9]) (fun k => [.cells [.gs (n0 + 1) (PL k)] 22, .tail k 29 9, .cells [.str (qk (restK s (k + 1)))] 9]) (lnK S).length false .ret (.inl rfl) (by rw [hP0, hr0]) (by omega) (by simp [hxl]) (by simp) hcl (fun _ _ => rfl) (fun _ _ => rfl) (fun k _ => by simp [hPc]) (fun k _ Z => by simp) (fun k _ Z => upd_locP 2 _ (by simp)) (by decide) (by unfold linesX; intro x hx; obtain ⟨y, -, rfl⟩ := List.mem_map.1 hx; rfl) (fun k hk hx σ' σb nx h1 h2 hxc => ?_) ?_
  · have hxk : (linesX s)[k] = [AV.str (qk (lnK S)[k])] := by simp [linesX, hS]
    rw [hxk]
    have hks : k < (qdu S).length := by omega
    have hl1 := lnK_one S _ (List.getElem_mem hk)
    have hl2 := trim_len (lnK S)[k]
    have c1 := trimSuffix_g (qk (lnK S)[k]) ⟨#[10]⟩ (by rw [qm]; omega)
    have c2 := read_g (qk (Lib.trimSuffix (lnK S)[k] [10])) (by rw [qm]; omega)
    rw [bA_data] at c1 c2
    have e1 : readP (Lib.trimSuffix (lnK S)[k] [10]) = (qdu S)[k] := by simp only [qdu, List.getElem_map]; rfl
    rw [e1] at c2
    have e2 : (⟨#[10]⟩ : ByteArray).data.toList = [10] := rfl
    rw [e2] at c1
    have hPs : PL (k + 1) = PL k ++ [(qdu S)[k].av] := by rw [hPL]; simp only; rw [List.take_succ_eq_append_getElem hks, List.map_append]; rfl
    have a0 := h2.at' 0 _ rfl
    have a1 := h2.at' 1 _ rfl
    have a3 := h2.lt
    simp at a0 a1 a3
    have g3' : n0 < nx := by omega
    have g4' : n0 + 1 < nx := by omega
    have f0 : ∀ L', loc σb nx L' n0 = .cells [.gs (n0 + 1) (PL k)] 22 := fun L' => by rw [qct _ _ _ _ g3']; exact a0
    have f1 : ∀ L', loc σb nx L' (n0 + 1) = .tail k 29 9 := fun L' => by rw [qct _ _ _ _ g4']; exact a1
    have hpk := hPlen k (by omega)
    have hpw := hPw k
    have hkb : k ≤ 50000 := by omega
    have f2 : ∀ x L', loc (upd σb (n0 + 1) x) nx L' n0 = .cells [.gs (n0 + 1) (PL k)] 22 := fun x L' => by
      rw [qct _ _ _ _ g3']; unfold upd; rw [if_neg (by omega)]; exact a0
    repeat' (first | ((first | ((with_reducible refine qf (fun hg => ?_) (fun hg => ?_)) <;> (try simp only [hg]) <;> (try simp only [gS] at hg) <;> (try (first | simp only [eq_false hg, gI] | simp only [eq_true hg, gI]))) | refine Stp.m ?_ | refine qi ?_ | refine agH ?_) <;> (try simp (disch := first | omega | simp) [qd, -qg, -ql, f0, f1, f2, g3', g4', hpk, hpw])) | refine sideA ?_ | refine qc fun K hK => ?_ | refine qa ?_ | refine qe ?_ | refine qb ?_ | (refine hK _ ?_; clear hK K) | clear hK K)
    rw [hPs]
    exact updB_set2 h2.at' 1 0 _ _ (by simp) (by simp)
  · intro D
    simp only [Bool.false_eq_true, if_false, FBlock, FThen]
    refine hK _ _ ?_
    clear hK K
    refine qel ?_
    unfold lparseP at hR
    by_cases hp : lprintP (qdu S) = S
    · rw [if_pos hp] at hR
      have hb : qk (lprintP (qdu S)) = s := by rw [hp]; exact (bA_eq hS).symm
      rw [hb] at c9
      repeat' (first | ((first | ((with_reducible refine qf (fun hg => ?_) (fun hg => ?_)) <;> (try simp only [hg]) <;> (try simp only [gS] at hg) <;> (try (first | simp only [eq_false hg, gI] | simp only [eq_true hg, gI]))) | refine Stp.m ?_ | refine qi ?_ | refine agH ?_) <;> (try simp (disch := first | omega | simp) [qd, -qg, -ql, hPe])) | refine sideA ?_ | refine qc fun K hK => ?_ | refine qa ?_ | refine qe ?_ | refine qb ?_ | (refine hK _ ?_; clear hK K) | clear hK K)
      subst hR
      refine fend_mark 3 (.inr rfl) (by rfl) ?_
      simp
    · rw [if_neg hp] at hR
      have hb : (lprintP (qdu S) == s.toList) = false := by
        rw [beq_eq_false_iff_ne, ByteArray.toList_eq, hS]
        exact hp
      repeat' (first | ((first | ((with_reducible refine qf (fun hg => ?_) (fun hg => ?_)) <;> (try simp only [hg]) <;> (try simp only [gS] at hg) <;> (try (first | simp only [eq_false hg, gI] | simp only [eq_true hg, gI]))) | refine Stp.m ?_ | refine qi ?_ | refine agH ?_) <;> (try simp (disch := first | omega | simp) [qd, -qg, -ql, hPe, hb])) | refine sideA ?_ | refine qc fun K hK => ?_ | refine qa ?_ | refine qe ?_ | refine qb ?_ | (refine hK _ ?_; clear hK K) | clear hK K)
      subst hR
      refine fend_mark 3 (.inr rfl) (by rfl) ?_
      simp
end Go.Proofs.YtbkkjlcclddpdaaGreatDoor

/- slices.Backward at steps, as an iterator. -/
namespace Go.Proofs.YtbkkjlcclddpdaaGreatDoor
open Go.RowKit Go.Lib
def backL (L : List Lens) : List (List AV) := (List.range L.length).map fun k => match L[L.length - 1 - k]? with
  | some x => [.int ((L.length - 1 - k : Nat) : Int), x.av]
  | none => []
theorem backL_len (L : List Lens) : (backL L).length = L.length := by simp [backL]
theorem backL_get (L : List Lens) {q : Nat} (hq : q < L.length) (h : L.length - (q + 1) < (backL L).length) : (backL L)[L.length - (q + 1)] = [.int (q : Int), L[q].av] := by
  have e : L.length - 1 - (L.length - (q + 1)) = q := by omega
  simp only [backL, List.getElem_map, List.getElem_range, e, List.getElem?_eq_getElem hq]
theorem back_b (L : List Lens) : GivesB Tryz.prog 64 [.sl (L.map Lens.av)] (fun r => .fn 120 [.ptr r 0]) (.cells [.sl (L.map Lens.av)] 22) := by
  refine qgk 0 Tryz.func64 Tryz.ntmps64 rfl rfl (by decide) rfl (by intro m; simp) fun σ n0 hcl hft => ?_
  repeat' (first | ((first | ((with_reducible refine qf (fun hg => ?_) (fun hg => ?_)) <;> (try simp only [hg]) <;> (try simp only [gS] at hg) <;> (try (first | simp only [eq_false hg, gI] | simp only [eq_true hg, gI]))) | refine Stp.m ?_) <;> (try simp (disch := first | omega | simp) [qd, -qg, -ql])) | refine sideA ?_ | refine qc fun K hK => ?_ | refine qa ?_ | refine qe ?_ | refine qb ?_ | (refine hK _ ?_; clear hK K) | clear hK K)
set_option maxHeartbeats 2000000 in
theorem back_it (r0 : Nat) (L : List Lens) (hL : L.length ≤ 1000000) : Iter Tryz.prog 120 [.ptr r0 0] (backL L) (fun _ σ => σ r0 = .cells [.sl (L.map Lens.av)] 22) (fun _ σ => σ) := by
  refine iter_of_awp Tryz.func120 Tryz.ntmps120 rfl rfl rfl fun l S m stop n0 hm hs0 hs1 hI hSc hSf hft hcc hy => ?_
  have hr0 : r0 < n0 := by simpa using hcc
  have hl : ∀ k, k ≤ m → ∀ L', loc (S k) n0 L' r0 = .cells [.sl (L.map Lens.av)] 22 := fun k hk L' => by rw [qct _ _ _ _ hr0]; exact hI k hk
  rw [backL_len] at hm
  have hl0 := hl 0 (by omega)
  repeat' (first | ((first | ((with_reducible refine qf (fun hg => ?_) (fun hg => ?_)) <;> (try simp only [hg]) <;> (try simp only [gS] at hg) <;> (try (first | simp only [eq_false hg, gI] | simp only [eq_true hg, gI]))) | refine Stp.m ?_) <;> (try simp (disch := first | omega | simp) [qd, -qg, -ql, hl0, hr0])) | refine sideA ?_ | refine qc fun K hK => ?_ | refine qa ?_ | refine qe ?_ | refine qb ?_ | (refine hK _ ?_; clear hK K) | clear hK K)
  refine awp_loopS (fun b => S (L.length - b)) (fun b => [(0, .v (.func (.yield l) #[] #[])), (1, .ptr r0 0), (3, .int ((b : Int) - 1))]) (fun _ => [])
    (fun b => b ≤ L.length ∧ L.length - b ≤ m ∧ (stop = true → L.length - b < m)) (fun b => b) L.length (fun b hb r => hSc _ hb.2.1 r) ⟨by omega, by omega, fun h => by have := hs1 h; omega⟩ (by simp [leS, hr0]) (hSc 0 (by omega)) fun b ⟨hb, hbm, hbs⟩ => ?_
  have hlk := hl _ hbm
  cases b with
  | zero =>
    repeat' (first | ((first | ((with_reducible refine qf (fun hg => ?_) (fun hg => ?_)) <;> (try simp only [hg]) <;> (try simp only [gS] at hg) <;> (try (first | simp only [eq_false hg, gI] | simp only [eq_true hg, gI]))) | refine Stp.m ?_) <;> (try simp (disch := first | omega | simp) [qd, -qg, -ql])) | refine sideA ?_ | refine qc fun K hK => ?_ | refine qa ?_ | refine qe ?_ | refine qb ?_ | (refine hK _ ?_; clear hK K) | clear hK K)
    have hme : L.length = m := by
      cases stop with
      | true => have := hbs rfl; omega
      | false => have := hs0 rfl; rw [backL_len] at this; exact this.symm
    exact congrArg S hme
  | succ q =>
    have hq : q < L.length := by omega
    have hkm : L.length - (q + 1) < m := by
      cases stop with
      | true => exact hbs rfl
      | false => have := hs0 rfl; rw [backL_len] at this; omega
    have hyk := fun L' => hy (L.length - (q + 1)) hkm (by rw [backL_len]; omega) L'
    rw [backL_get L hq] at hyk
    have e1 : L.length - (q + 1) + 1 = L.length - q := by omega
    rw [e1] at hyk
    cases hst : (stop && decide (L.length - q = m)) with
    | true =>
      rw [hst] at hyk
      have hjm3 : L.length - q = m := by simp at hst; exact hst.2
      repeat' (first | ((first | ((with_reducible refine qf (fun hg => ?_) (fun hg => ?_)) <;> (try simp only [hg]) <;> (try simp only [gS] at hg) <;> (try (first | simp only [eq_false hg, gI] | simp only [eq_true hg, gI]))) | refine Stp.m ?_ | refine qcu (id := 3) 6 (by rfl) ?_ | refine ayield _ (hyk _) ?_) <;> (try simp (disch := first | omega | simp) [qd, -qg, -ql, hlk, hr0, hq, List.take_succ_cons, List.drop_succ_cons])) | refine sideA ?_ | refine qc fun K hK => ?_ | refine qa ?_ | refine qe ?_ | refine qb ?_ | (refine hK _ ?_; clear hK K) | clear hK K)
      exact congrArg S hjm3
    | false =>
      rw [hst] at hyk
      have hjm3 : stop = true → L.length - q < m := fun h => by
        rw [h, Bool.true_and, decide_eq_false_iff_not] at hst; omega
      repeat' (first | ((first | ((with_reducible refine qf (fun hg => ?_) (fun hg => ?_)) <;> (try simp only [hg]) <;> (try simp only [gS] at hg) <;> (try (first | simp only [eq_false hg, gI] | simp only [eq_true hg, gI]))) | refine Stp.m ?_ | refine qcu (id := 3) 6 (by rfl) ?_ | refine ayield _ (hyk _) ?_) <;> (try simp (disch := first | omega | simp) [qd, -qg, -ql, hlk, hr0, hq, List.take_succ_cons, List.drop_succ_cons])) | refine sideA ?_ | refine qc fun K hK => ?_ | refine qa ?_ | refine qe ?_ | refine qb ?_ | (refine hK _ ?_; clear hK K) | clear hK K)
      exact ⟨hSc _ (by omega), q, ⟨by omega, by omega, hjm3⟩, by omega, by simp [leS, hr0, qd]⟩
end Go.Proofs.YtbkkjlcclddpdaaGreatDoor

/- Walk of lens.Back. -/
namespace Go.Proofs.YtbkkjlcclddpdaaGreatDoor
open Go.RowKit Go.Lib
theorem backL_two (L : List Lens) : ∀ x ∈ backL L, x.length = 2 := fun x hx => by
  unfold backL at hx
  obtain ⟨a, ha, rfl⟩ := List.mem_map.1 hx
  rw [List.mem_range] at ha
  rw [List.getElem?_eq_getElem (by omega)]
  rfl
set_option maxHeartbeats 4000000 in
theorem back_g {l : List Lens} {cols : List Col} {ss : List (List Col)} {row : List Val} (hs : qbe l cols = (ss, 0)) (hl : ∀ x ∈ l, qdv x) (h0 : 1 ≤ cols.length) (h1 : cols.length ≤ 12) (hr : qbv row) (hlen : row.length = (shAt ss l.length).length) (R : List Val) (hR : bckAll l ss row = R) :
    Gives Tryz.prog 30 [.sl (l.map Lens.av), .sl (cols.map Col.av), .sl (row.map Val.av)] (.sl (R.map Val.av)) := by
  have hL : l.length ≤ 60 := by
    unfold qbe at hs
    by_cases h : 60 < l.length
    · rw [if_pos h] at hs; exact absurd (Prod.mk.inj hs).2 (by decide)
    · omega
  have hs' : qn l cols = (ss, 0) := by rw [qbe, if_neg (by omega)] at hs; exact hs
  obtain ⟨hc, hc0⟩ := chain_of hs' h0 h1
  have hbk := bckK_ok hc hl hr hlen
  have c1 := shapes_g l cols (fun x hx => (hl x hx).l) (by omega) h0 h1
  rw [hs] at c1
  have hrl := hc.sz l.length (by omega)
  have c2 := cloR row (by omega) (by omega)
  have hsl := hc.len
  refine gives_of_fwp Tryz.func30 Tryz.ntmps30 rfl rfl (by decide) rfl (by intro n; simp) fun σ n0 hcl hft => ?_
  refine qcq fun K hK => qel ?_
  repeat' (first | ((first | ((with_reducible refine qf (fun hg => ?_) (fun hg => ?_)) <;> (try simp only [hg]) <;> (try simp only [gS] at hg) <;> (try (first | simp only [eq_false hg, gI] | simp only [eq_true hg, gI]))) | refine Stp.m ?_) <;> (try simp (disch := first | omega | simp) [qd, -qg, -ql])) | refine sideA ?_ | refine qc fun K hK => ?_ | refine qa ?_ | refine qe ?_ | refine qb ?_ | (refine hK _ ?_; clear hK K) | clear hK K)
  refine hK _ _ ?_
  clear hK K
  refine qcq fun K hK => qel ?_
  repeat' (first | ((first | ((with_reducible refine qf (fun hg => ?_) (fun hg => ?_)) <;> (try simp only [hg]) <;> (try simp only [gS] at hg) <;> (try (first | simp only [eq_false hg, gI] | simp only [eq_true hg, gI]))) | refine Stp.m ?_ | refine qi ?_ | refine agH ?_) <;> (try simp (disch := first | omega | simp) [qd, -qg, -ql])) | refine sideA ?_ | refine qc fun K hK => ?_ | refine qa ?_ | refine qe ?_ | refine qb ?_ | (refine hK _ ?_; clear hK K) | clear hK K)
  refine hK _ _ ?_
  clear hK K
  refine qcq fun K hK => qel ?_
  repeat' (first | ((first | ((with_reducible refine qf (fun hg => ?_) (fun hg => ?_)) <;> (try simp only [hg]) <;> (try simp only [gS] at hg) <;> (try (first | simp only [eq_false hg, gI] | simp only [eq_true hg, gI]))) | refine Stp.m ?_ | refine qi ?_ | refine agH ?_) <;> (try simp (disch := first | omega | simp) [qd, -qg, -ql])) | refine sideA ?_ | refine qc fun K hK => ?_ | refine qa ?_ | refine qe ?_ | refine qb ?_ | (refine hK _ ?_; clear hK K) | clear hK K)
  refine hK _ _ ?_
  clear hK K
  refine qcq fun K hK => ?_
  refine qcq fun K2 hK2 => qel ?_
  repeat' (first | ((first | ((with_reducible refine qf (fun hg => ?_) (fun hg => ?_)) <;> (try simp only [hg]) <;> (try simp only [gS] at hg) <;> (try (first | simp only [eq_false hg, gI] | simp only [eq_true hg, gI]))) | refine Stp.m ?_ | refine acallB (back_b l) ?_) <;> (try simp (disch := first | omega | simp) [qd, -qg, -ql])) | refine sideA ?_ | refine qc fun K hK => ?_ | refine qa ?_ | refine qe ?_ | refine qb ?_ | (refine hK _ ?_; clear hK K) | clear hK K)
  refine hK2 _ _ ?_
  clear hK2 K2
  refine fwp_block ?_
  have hw := back_it (n0 + 2) l (by omega)
  have hbl := backL_len l
  have hb0 : bckK l ss row (l.length - 0) = row := bckK_end l ss row
  refine fwp_range (psl := [22, 23]) (by rfl) (by kernel_rfl) hw (fun k => [.cells [.sl (ss.map qdc)] 85, .cells [.sl ((bckK l ss row (l.length - k)).map Val.av)] 36, .cells [.sl (l.map Lens.av)] 22]) (fun k => [.cells [.sl (ss.map qdc)] 85, .cells [.sl ((bckK l ss row (l.length - k)).map Val.av)] 36, .cells [.sl (l.map Lens.av)] 22]) l.length false .ret (.inl rfl) (by rw [hb0]) (by omega) (by simp [hbl]) (by simp) hcl (fun _ _ => rfl) (fun _ _ => rfl) (fun _ _ => by simp) (fun _ _ _ => by simp) (fun _ _ _ => rfl) (by decide) (backL_two l) (fun k hk hx σ' σb nx h1 h2 hxc => ?_) ?_
  · obtain ⟨q, hq, rfl⟩ : ∃ q, q < l.length ∧ k = l.length - (q + 1) := ⟨l.length - (k + 1), by omega, by omega⟩
    have e1 : l.length - (l.length - (q + 1)) = q + 1 := by omega
    have e2 : l.length - (l.length - (q + 1) + 1) = q := by omega
    have e3 : (false && decide (l.length - (q + 1) + 1 = l.length)) = false := rfl
    rw [e1] at h1 h2
    rw [e2]
    simp only [backL_get l hq]
    obtain ⟨g3, g4⟩ := hc.ok q hq
    obtain ⟨g1, g2⟩ := hbk (l.length - (q + 1)) (q + 1) (by omega)
    obtain ⟨g5, g6⟩ := hc.sz q (by omega)
    have hqs : q < ss.length := by omega
    have c3 := bck_g (hl _ (List.getElem_mem hq)) g5 g6 g3 (g1.trans (by rw [g4])) g2
    rw [← bckK_pred hq, shAt_eq hqs] at c3
    have a0 := h2.at' 0 _ rfl
    have a1 := h2.at' 1 _ rfl
    have a3 := h2.lt
    simp at a0 a1 a3
    have g3' : n0 < nx := by omega
    have g4' : n0 + 1 < nx := by omega
    have f0 : ∀ L', loc σb nx L' n0 = .cells [.sl (ss.map qdc)] 85 := fun L' => by rw [qct _ _ _ _ g3']; exact a0
    have f1 : ∀ L', loc σb nx L' (n0 + 1) = .cells [.sl ((bckK l ss row (q + 1)).map Val.av)] 36 := fun L' => by rw [qct _ _ _ _ g4']; exact a1
    repeat' (first | ((first | ((with_reducible refine qf (fun hg => ?_) (fun hg => ?_)) <;> (try simp only [hg]) <;> (try simp only [gS] at hg) <;> (try (first | simp only [eq_false hg, gI] | simp only [eq_true hg, gI]))) | refine Stp.m ?_ | refine qi ?_ | refine agH ?_) <;> (try simp (disch := first | omega | simp) [qd, -qg, -ql, f0, f1, g3', g4', hqs, qdc])) | refine sideA ?_ | refine qc fun K hK => ?_ | refine qa ?_ | refine qe ?_ | refine qb ?_ | (refine hK _ ?_; clear hK K) | clear hK K)
    exact updB_set h2.at' 1 _ (by simp)
  · intro D
    simp only [Bool.false_eq_true, if_false, FBlock, FThen]
    refine hK _ _ ?_
    clear hK K
    refine qel ?_
    have hend : bckK l ss row 0 = R := hR
    repeat' (first | ((first | ((with_reducible refine qf (fun hg => ?_) (fun hg => ?_)) <;> (try simp only [hg]) <;> (try simp only [gS] at hg) <;> (try (first | simp only [eq_false hg, gI] | simp only [eq_true hg, gI]))) | refine Stp.m ?_) <;> (try simp (disch := first | omega | simp) [qd, -qg, -ql])) | refine sideA ?_ | refine qc fun K hK => ?_ | refine qa ?_ | refine qe ?_ | refine qb ?_ | (refine hK _ ?_; clear hK K) | clear hK K)
    refine fend_mark 3 (.inr rfl) (by rfl) ?_
    simp [hend]
end Go.Proofs.YtbkkjlcclddpdaaGreatDoor
