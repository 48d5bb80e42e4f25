/- The text of values and steps: plain, and the walks of value.Show, value.Parse, lens.line. -/
import Derived.Test.YtbkkjlcclddpdaaGreatDoorGb16
import Derived.Test.YtbkkjlcclddpdaaGreatDoorGb17
import Derived.Test.YtbkkjlcclddpdaaGreatDoorGb22
import Derived.Test.YtbkkjlcclddpdaaGreatDoorGb23
import Derived.Test.YtbkkjlcclddpdaaGreatDoorGb28
set_option linter.unusedSimpArgs false
set_option linter.unusedVariables false
namespace Go.Proofs.YtbkkjlcclddpdaaGreatDoor
open Go.RowKit Go.Lib
def showL (v : Val) : List UInt8 :=
  if qbl v = true then (if v.k = 0 then itoa v.n else if v.k = 1 then qP v.s.data.toList else if v.n = 1 then wTrue else qfx) else []
def qgm (s : List UInt8) : Val × Bool :=
  if s = wTrue ∨ s = qfx then (bitV (decide (s = wTrue)), true)
  else match intP s with
    | some n => (⟨0, n, ⟨#[]⟩⟩, true)
    | none => match unqP hxP s with
      | some t => if t.length ≤ 200 then (⟨1, 0, qs t⟩, true) else (⟨0, 0, ⟨#[]⟩⟩, false)
      | none => (⟨0, 0, ⟨#[]⟩⟩, false)
def wAdd : List UInt8 := [97, 100, 100]
def wDrop : List UInt8 := [100, 114, 111, 112]
def wRename : List UInt8 := [114, 101, 110, 97, 109, 101]
def wSplit : List UInt8 := [115, 112, 108, 105, 116]
def wJoin : List UInt8 := [106, 111, 105, 110]
def wRetype : List UInt8 := [114, 101, 116, 121, 112, 101]
def wScale : List UInt8 := [115, 99, 97, 108, 101]
def unitL (x : Lens) : List UInt8 := if strE x.b = true then [] else 32 :: x.b.data.toList
def sepL (x : Lens) : List UInt8 := qP x.sep.data.toList
def lineL (x : Lens) : List UInt8 :=
  if x.op = 0 then wAdd ++ 32 :: x.a.data.toList ++ 32 :: showL x.value ++ unitL x
  else if x.op = 1 then wDrop ++ 32 :: x.a.data.toList ++ 32 :: showL x.value
  else if x.op = 2 then wRename ++ 32 :: x.a.data.toList ++ unitL x
  else if x.op = 3 then wSplit ++ 32 :: x.a.data.toList ++ 32 :: sepL x ++ unitL x ++ 32 :: x.c.data.toList
  else if x.op = 4 then wJoin ++ 32 :: x.a.data.toList ++ unitL x ++ 32 :: sepL x ++ 32 :: x.c.data.toList
  else if x.op = 5 then wRetype ++ 32 :: x.a.data.toList ++ 32 :: qcx x.n ++ 32 :: showL x.value
  else wScale ++ 32 :: x.a.data.toList ++ 32 :: itoa x.n ++ unitL x
theorem qP_len (l : List UInt8) : (qP l).length ≤ 4 * l.length + 2 := by
  have := qmid_len l
  unfold qP; simp; omega
theorem showL_len (v : Val) (hn : i64 v.n) : (showL v).length ≤ 4 * v.s.size + 30 := by
  have h1 := itoa_length_le v.n hn.1 hn.2
  have h2 := qP_len v.s.data.toList
  rw [qdr] at h2
  unfold showL
  repeat' split
  all_goals (first | omega | (simp [wTrue, qfx]))
set_option maxHeartbeats 2000000 in
theorem show_g (v : Val) (hn : i64 v.n) (hs : v.s.size ≤ 1000000) : Gives Tryz.prog 72 [v.av] (.str (qs (showL v))) := by
  have c1 := vright_g v
  have c2 := decimal_g v.n hn
  have c3 := quote_g v.s hs
  have e1 : qs wTrue = ⟨#[116, 114, 117, 101]⟩ := rfl
  have e2 : qs qfx = ⟨#[102, 97, 108, 115, 101]⟩ := rfl
  have e3 : qs [] = ⟨#[]⟩ := rfl
  unfold showL
  cases hr : qbl v with
  | false =>
    rw [hr] at c1
    refine qm Tryz.func72 Tryz.ntmps72 rfl rfl (by decide) rfl (by intro n; simp) fun σ n0 hcl hft => ?_
    repeat' (first | ((first | ((with_reducible refine qp (fun hg => ?_) (fun hg => ?_)) <;> (try simp only [hg]) <;> (try simp only [gS] at hg) <;> (try (first | simp only [eq_false hg, gI] | simp only [eq_true hg, gI]))) | (with_reducible first | refine qc ?_ | refine qb ?_ | refine qj ?_ | refine qi ?_) | refine acall (c1) ?_ | refine qn (c1) ?_ | refine acall (c2) ?_ | refine qn (c2) ?_ | refine acall (c3) ?_ | refine qn (c3) ?_ | refine qe ?_ | refine qk ?_ | refine qh ?_ | refine qo ?_) <;> (try simp (disch := first | omega | simp) [qg, -qq, -qu])) | ((with_reducible refine sideT ?_ ?_); first | omega | assumption | (simp; done)) | (refine qf fun K hK => ?_) | (refine qa ?_) | refine ql ?_ | ((first | refine hK _ ?_ | (clear hK K; refine hK _ ?_) | (clear hK K; clear hK K; refine hK _ ?_)); clear hK K) | refine qd ?_)
    all_goals (first | rfl | (simp; rfl))
  | true =>
    rw [hr] at c1
    rw [if_pos rfl]
    refine qm Tryz.func72 Tryz.ntmps72 rfl rfl (by decide) rfl (by intro n; simp) fun σ n0 hcl hft => ?_
    repeat' (first | ((first | ((with_reducible refine qp (fun hg => ?_) (fun hg => ?_)) <;> (try simp only [hg]) <;> (try simp only [gS] at hg) <;> (try (first | simp only [eq_false hg, gI] | simp only [eq_true hg, gI]))) | (with_reducible first | refine qc ?_ | refine qb ?_ | refine qj ?_ | refine qi ?_) | refine acall (c1) ?_ | refine qn (c1) ?_ | refine acall (c2) ?_ | refine qn (c2) ?_ | refine acall (c3) ?_ | refine qn (c3) ?_ | refine qe ?_ | refine qk ?_ | refine qh ?_ | refine qo ?_) <;> (try simp (disch := first | omega | simp) [qg, -qq, -qu])) | ((with_reducible refine sideT ?_ ?_); first | omega | assumption | (simp; done)) | (refine qf fun K hK => ?_) | (refine qa ?_) | refine ql ?_ | ((first | refine hK _ ?_ | (clear hK K; refine hK _ ?_) | (clear hK K; clear hK K; refine hK _ ?_)); clear hK K) | refine qd ?_)
    all_goals (clear c1 c2 c3 hcl hft; first | rfl | (simp_all; done) | (simp_all [e1, e2]; done))
theorem beq_data (s : ByteArray) (l : List UInt8) : (s.toList == l) = decide (s.data.toList = l) := by rw [ByteArray.toList_eq]; by_cases h : s.data.toList = l <;> simp [h]
set_option maxHeartbeats 2000000 in
theorem qcq (s : ByteArray) (hs : s.size ≤ 1000000) : Gives Tryz.prog 80 [.str s] (.tup [(qgm s.data.toList).1.av, .bool (qgm s.data.toList).2]) := by
  have c1 := vbit_g (decide (s.data.toList = wTrue))
  have c2 := int_g s hs
  have c3 := qbb s hs
  have b1 : (s.toList == [116, 114, 117, 101]) = decide (s.data.toList = wTrue) := beq_data s wTrue
  have b2 : (s.toList == [102, 97, 108, 115, 101]) = decide (s.data.toList = qfx) := beq_data s qfx
  unfold qgm
  by_cases h1 : s.data.toList = wTrue
  · have h2 : ¬ wTrue = qfx := by decide
    rw [h1, decide_eq_true (p := wTrue = wTrue) rfl] at c1
    rw [if_pos (.inl h1), decide_eq_true h1]
    refine qm Tryz.func80 Tryz.ntmps80 rfl rfl (by decide) rfl (by intro n; simp) fun σ n0 hcl hft => ?_
    repeat' (first | ((first | ((with_reducible refine qp (fun hg => ?_) (fun hg => ?_)) <;> (try simp only [hg]) <;> (try simp only [gS] at hg) <;> (try (first | simp only [eq_false hg, gI] | simp only [eq_true hg, gI]))) | (with_reducible first | refine qc ?_ | refine qb ?_ | refine qj ?_ | refine qi ?_) | refine acall (c1) ?_ | refine qn (c1) ?_ | refine qe ?_ | refine qk ?_ | refine qh ?_ | refine qo ?_) <;> (try simp (disch := first | omega | simp) [qg, -qq, -qu, b1, b2, h1, h2])) | ((with_reducible refine sideT ?_ ?_); first | omega | assumption | (simp; done)) | (refine qf fun K hK => ?_) | (refine qa ?_) | refine ql ?_ | ((first | refine hK _ ?_ | (clear hK K; refine hK _ ?_) | (clear hK K; clear hK K; refine hK _ ?_)); clear hK K) | refine qd ?_)
  · rw [decide_eq_false h1] at c1
    by_cases h2 : s.data.toList = qfx
    · rw [if_pos (.inr h2), decide_eq_false h1]
      refine qm Tryz.func80 Tryz.ntmps80 rfl rfl (by decide) rfl (by intro n; simp) fun σ n0 hcl hft => ?_
      repeat' (first | ((first | ((with_reducible refine qp (fun hg => ?_) (fun hg => ?_)) <;> (try simp only [hg]) <;> (try simp only [gS] at hg) <;> (try (first | simp only [eq_false hg, gI] | simp only [eq_true hg, gI]))) | (with_reducible first | refine qc ?_ | refine qb ?_ | refine qj ?_ | refine qi ?_) | refine acall (c1) ?_ | refine qn (c1) ?_ | refine qe ?_ | refine qk ?_ | refine qh ?_ | refine qo ?_) <;> (try simp (disch := first | omega | simp) [qg, -qq, -qu, b1, b2, h1, h2])) | ((with_reducible refine sideT ?_ ?_); first | omega | assumption | (simp; done)) | (refine qf fun K hK => ?_) | (refine qa ?_) | refine ql ?_ | ((first | refine hK _ ?_ | (clear hK K; refine hK _ ?_) | (clear hK K; clear hK K; refine hK _ ?_)); clear hK K) | refine qd ?_)
    · rw [if_neg (by simp [h1, h2])]
      cases hi : intP s.data.toList with
      | some n =>
        rw [hi] at c2
        have c4 := qdi n
        refine qm Tryz.func80 Tryz.ntmps80 rfl rfl (by decide) rfl (by intro n; simp) fun σ n0 hcl hft => ?_
        repeat' (first | ((first | ((with_reducible refine qp (fun hg => ?_) (fun hg => ?_)) <;> (try simp only [hg]) <;> (try simp only [gS] at hg) <;> (try (first | simp only [eq_false hg, gI] | simp only [eq_true hg, gI]))) | (with_reducible first | refine qc ?_ | refine qb ?_ | refine qj ?_ | refine qi ?_) | refine acall (c2) ?_ | refine qn (c2) ?_ | refine acall (c4) ?_ | refine qn (c4) ?_ | refine qe ?_ | refine qk ?_ | refine qh ?_ | refine qo ?_) <;> (try simp (disch := first | omega | simp) [qg, -qq, -qu, b1, b2, h1, h2])) | ((with_reducible refine sideT ?_ ?_); first | omega | assumption | (simp; done)) | (refine qf fun K hK => ?_) | (refine qa ?_) | refine ql ?_ | ((first | refine hK _ ?_ | (clear hK K; refine hK _ ?_) | (clear hK K; clear hK K; refine hK _ ?_)); clear hK K) | refine qd ?_)
        all_goals rfl
      | none =>
        rw [hi] at c2
        cases hu : unqP hxP s.data.toList with
        | some t =>
          rw [hu] at c3
          have c4 := qde (qs t)
          have hz := qt t
          by_cases ht : t.length ≤ 200
          · have ht' : (t.length : Int) ≤ 200 := by omega
            dsimp only
            rw [if_pos ht]
            refine qm Tryz.func80 Tryz.ntmps80 rfl rfl (by decide) rfl (by intro n; simp) fun σ n0 hcl hft => ?_
            repeat' (first | ((first | ((with_reducible refine qp (fun hg => ?_) (fun hg => ?_)) <;> (try simp only [hg]) <;> (try simp only [gS] at hg) <;> (try (first | simp only [eq_false hg, gI] | simp only [eq_true hg, gI]))) | (with_reducible first | refine qc ?_ | refine qb ?_ | refine qj ?_ | refine qi ?_) | refine acall (c2) ?_ | refine qn (c2) ?_ | refine acall (c3) ?_ | refine qn (c3) ?_ | refine acall (c4) ?_ | refine qn (c4) ?_ | refine qe ?_ | refine qk ?_ | refine qh ?_ | refine qo ?_) <;> (try simp (disch := first | omega | simp) [qg, -qq, -qu, b1, b2, h1, h2, hz, ht, ht'])) | ((with_reducible refine sideT ?_ ?_); first | omega | assumption | (simp; done)) | (refine qf fun K hK => ?_) | (refine qa ?_) | refine ql ?_ | ((first | refine hK _ ?_ | (clear hK K; refine hK _ ?_) | (clear hK K; clear hK K; refine hK _ ?_)); clear hK K) | refine qd ?_)
            all_goals rfl
          · have ht' : ¬ (t.length : Int) ≤ 200 := by omega
            dsimp only
            rw [if_neg ht]
            refine qm Tryz.func80 Tryz.ntmps80 rfl rfl (by decide) rfl (by intro n; simp) fun σ n0 hcl hft => ?_
            repeat' (first | ((first | ((with_reducible refine qp (fun hg => ?_) (fun hg => ?_)) <;> (try simp only [hg]) <;> (try simp only [gS] at hg) <;> (try (first | simp only [eq_false hg, gI] | simp only [eq_true hg, gI]))) | (with_reducible first | refine qc ?_ | refine qb ?_ | refine qj ?_ | refine qi ?_) | refine acall (c2) ?_ | refine qn (c2) ?_ | refine acall (c3) ?_ | refine qn (c3) ?_ | refine acall (c4) ?_ | refine qn (c4) ?_ | refine qe ?_ | refine qk ?_ | refine qh ?_ | refine qo ?_) <;> (try simp (disch := first | omega | simp) [qg, -qq, -qu, b1, b2, h1, h2, hz, ht, ht'])) | ((with_reducible refine sideT ?_ ?_); first | omega | assumption | (simp; done)) | (refine qf fun K hK => ?_) | (refine qa ?_) | refine ql ?_ | ((first | refine hK _ ?_ | (clear hK K; refine hK _ ?_) | (clear hK K; clear hK K; refine hK _ ?_)); clear hK K) | refine qd ?_)
            all_goals rfl
        | none =>
          rw [hu] at c3
          refine qm Tryz.func80 Tryz.ntmps80 rfl rfl (by decide) rfl (by intro n; simp) fun σ n0 hcl hft => ?_
          repeat' (first | ((first | ((with_reducible refine qp (fun hg => ?_) (fun hg => ?_)) <;> (try simp only [hg]) <;> (try simp only [gS] at hg) <;> (try (first | simp only [eq_false hg, gI] | simp only [eq_true hg, gI]))) | (with_reducible first | refine qc ?_ | refine qb ?_ | refine qj ?_ | refine qi ?_) | refine acall (c2) ?_ | refine qn (c2) ?_ | refine acall (c3) ?_ | refine qn (c3) ?_ | refine qe ?_ | refine qk ?_ | refine qh ?_ | refine qo ?_) <;> (try simp (disch := first | omega | simp) [qg, -qq, -qu, b1, b2, h1, h2])) | ((with_reducible refine sideT ?_ ?_); first | omega | assumption | (simp; done)) | (refine qf fun K hK => ?_) | (refine qa ?_) | refine ql ?_ | ((first | refine hK _ ?_ | (clear hK K; refine hK _ ?_) | (clear hK K; clear hK K; refine hK _ ?_)); clear hK K) | refine qd ?_)
          all_goals rfl
theorem lineL_len (x : Lens) (hn : i64 x.n) (hv : i64 x.value.n) : (lineL x).length ≤ x.a.size + x.b.size + x.c.size + 4 * x.sep.size + 4 * x.value.s.size + 100 := by
  have h1 := itoa_length_le x.n hn.1 hn.2
  have h2 := qP_len x.sep.data.toList
  have h3 := showL_len x.value hv
  have h4 : (qcx x.n).length ≤ 4 := by
    unfold qcx
    split
    · rename_i h
      have : x.n = 0 ∨ x.n = 1 ∨ x.n = 2 := by omega
      rcases this with h | h | h <;> rw [h] <;> decide
    · simp
  have h5 : (unitL x).length ≤ 1 + x.b.size := by unfold unitL; split <;> simp [qdr]; omega
  have ha := qdr x.a
  have hc := qdr x.c
  rw [qdr] at h2
  unfold lineL sepL
  repeat' split
  all_goals (simp [wAdd, wDrop, wRename, wSplit, wJoin, wRetype, wScale]; omega)
end Go.Proofs.YtbkkjlcclddpdaaGreatDoor

/- Walk of lens.line. -/
namespace Go.Proofs.YtbkkjlcclddpdaaGreatDoor
open Go.RowKit Go.Lib
theorem bA_eq {a : ByteArray} {l : List UInt8} (h : a.data.toList = l) : a = qs l := by
  apply ByteArray.ext
  apply Array.ext'
  rw [h]; rfl
@[simp] theorem bA_data (l : List UInt8) : (qs l).data.toList = l := rfl
set_option maxRecDepth 4000 in
set_option maxHeartbeats 4000000 in
theorem line_g (x : Lens) (hx : qcc x) (hn : i64 x.n) (hv : i64 x.value.n) (hs : x.value.s.size ≤ 1000000) (ho : x.op = 0 ∨ x.op = 1 ∨ x.op = 2 ∨ x.op = 3 ∨ x.op = 4 ∨ x.op = 5 ∨ x.op = 6) : Gives Tryz.prog 37 [x.av] (.str (qs (lineL x))) := by
  have c1 := show_g x.value hv hs
  have c2 := quote_g x.sep hx.sep
  have c3 := qek x.n
  have c4 := decimal_g x.n hn
  have z1 := qt (showL x.value)
  have z2 := qt (qP x.sep.data.toList)
  have z3 := qt (qcx x.n)
  have z4 := qt (itoa x.n)
  have y1 := showL_len x.value hv
  have y2 := qP_len x.sep.data.toList
  rw [qdr] at y2
  have y3 : (qcx x.n).length ≤ 4 := by
    unfold qcx
    split
    · rename_i h
      have : x.n = 0 ∨ x.n = 1 ∨ x.n = 2 := by omega
      rcases this with h | h | h <;> rw [h] <;> decide
    · simp
  have y4 := itoa_length_le x.n hn.1 hn.2
  have hxa := hx.a
  have hxb := hx.b
  have hxc := hx.c
  have hxs := hx.sep
  have hst := qcl x.b
  obtain ⟨R, hR⟩ : ∃ R, lineL x = R := ⟨_, rfl⟩
  rw [hR]
  unfold lineL unitL sepL at hR
  generalize showL x.value = V at *
  generalize qP x.sep.data.toList = Q at *
  generalize qcx x.n = T at *
  generalize itoa x.n = D at *
  cases hb : strE x.b with
  | true =>
    have hb' : x.b.toList.isEmpty = true := hst.trans hb
    rw [hb, if_pos rfl] at hR
    rcases ho with ho | ho | ho | ho | ho | ho | ho <;> simp only [ho, if_pos, if_neg, reduceIte, Int.reduceEq] at hR
    all_goals
      refine qm Tryz.func37 Tryz.ntmps37 rfl rfl (by decide) rfl (by intro n; simp) fun σ n0 hcl hft => ?_
      repeat' (first | ((first | ((with_reducible refine qp (fun hg => ?_) (fun hg => ?_)) <;> (try simp only [hg]) <;> (try simp only [gS] at hg) <;> (try (first | simp only [eq_false hg, gI] | simp only [eq_true hg, gI]))) | (with_reducible first | refine qc ?_ | refine qb ?_ | refine qj ?_ | refine qi ?_) | refine acall (c1) ?_ | refine qn (c1) ?_ | refine acall (c2) ?_ | refine qn (c2) ?_ | refine acall (c3) ?_ | refine qn (c3) ?_ | refine acall (c4) ?_ | refine qn (c4) ?_ | refine qe ?_ | refine qk ?_ | refine qh ?_ | refine qo ?_) <;> (try simp (disch := first | omega | simp) [qg, -qq, -qu, ho, hb', z1, z2, z3, z4])) | ((with_reducible refine sideT ?_ ?_); first | omega | assumption | (simp; done)) | (refine qf fun K hK => ?_) | (refine qa ?_) | refine ql ?_ | ((first | refine hK _ ?_ | (clear hK K; refine hK _ ?_) | (clear hK K; clear hK K; refine hK _ ?_)); clear hK K) | refine qd ?_)
      all_goals (rw [← hR]; apply bA_eq; simp [wAdd, wDrop, wRename, wSplit, wJoin, wRetype, wScale])
  | false =>
    have hb' : x.b.toList.isEmpty = false := hst.trans hb
    simp only [hb, Bool.false_eq_true, if_false] at hR
    rcases ho with ho | ho | ho | ho | ho | ho | ho <;> simp only [ho, if_pos, if_neg, reduceIte, Int.reduceEq] at hR
    all_goals
      refine qm Tryz.func37 Tryz.ntmps37 rfl rfl (by decide) rfl (by intro n; simp) fun σ n0 hcl hft => ?_
      repeat' (first | ((first | ((with_reducible refine qp (fun hg => ?_) (fun hg => ?_)) <;> (try simp only [hg]) <;> (try simp only [gS] at hg) <;> (try (first | simp only [eq_false hg, gI] | simp only [eq_true hg, gI]))) | (with_reducible first | refine qc ?_ | refine qb ?_ | refine qj ?_ | refine qi ?_) | refine acall (c1) ?_ | refine qn (c1) ?_ | refine acall (c2) ?_ | refine qn (c2) ?_ | refine acall (c3) ?_ | refine qn (c3) ?_ | refine acall (c4) ?_ | refine qn (c4) ?_ | refine qe ?_ | refine qk ?_ | refine qh ?_ | refine qo ?_) <;> (try simp (disch := first | omega | simp) [qg, -qq, -qu, ho, hb', z1, z2, z3, z4])) | ((with_reducible refine sideT ?_ ?_); first | omega | assumption | (simp; done)) | (refine qf fun K hK => ?_) | (refine qa ?_) | refine ql ?_ | ((first | refine hK _ ?_ | (clear hK K; refine hK _ ?_) | (clear hK K; clear hK K; refine hK _ ?_)); clear hK K) | refine qd ?_)
      all_goals (rw [← hR]; apply bA_eq; simp [wAdd, wDrop, wRename, wSplit, wJoin, wRetype, wScale])
end Go.Proofs.YtbkkjlcclddpdaaGreatDoor

/- Walk of lens.Print. -/
namespace Go.Proofs.YtbkkjlcclddpdaaGreatDoor
open Go.RowKit Go.Lib
def qce (l : List Lens) : List UInt8 := l.flatMap fun x => lineL x ++ [10]
def lprintP (l : List Lens) : List UInt8 := if l.all qct = true then qce l else []
structure PrintX (x : Lens) : Prop where
  l : qcc x
  n : i64 x.n
  v : i64 x.value.n
  s : x.value.s.size ≤ 1000000
theorem bA_lf (l : List UInt8) : qs l ++ ⟨#[10]⟩ = qs (l ++ [10]) := by apply bA_eq; simp
theorem linesL_take {l : List Lens} {k : Nat} (h : k < l.length) : qce (l.take (k + 1)) = qce (l.take k) ++ (lineL l[k] ++ [10]) := by
  unfold qce; rw [List.take_succ_eq_append_getElem h, List.flatMap_append]; simp
theorem linesL_le (l : List Lens) (k : Nat) : (qce (l.take k)).length ≤ (qce l).length := by
  have h : qce l = qce (l.take k) ++ qce (l.drop k) := by unfold qce; rw [← List.flatMap_append, List.take_append_drop]
  rw [h, List.length_append]; omega
set_option maxHeartbeats 4000000 in
theorem lprint_g (l : List Lens) (hl : ∀ x ∈ l, PrintX x) (hL : l.length ≤ 1000000) (hs : (qce l).length ≤ 1000000000) : Gives Tryz.prog 12 [.sl (l.map Lens.av)] (.str (qs (lprintP l))) := by
  obtain ⟨R, hR⟩ : ∃ R, lprintP l = R := ⟨_, rfl⟩
  rw [hR]
  unfold lprintP at hR
  refine qm Tryz.func12 Tryz.ntmps12 rfl rfl (by decide) rfl (by intro n; simp) fun σ n0 hcl hft => ?_
  repeat' (first | ((first | ((with_reducible refine qp (fun hg => ?_) (fun hg => ?_)) <;> (try simp only [hg]) <;> (try simp only [gS] at hg) <;> (try (first | simp only [eq_false hg, gI] | simp only [eq_true hg, gI]))) | (with_reducible first | refine qc ?_ | refine qb ?_ | refine qj ?_ | refine qi ?_) | refine qe ?_ | refine qk ?_ | refine qh ?_ | refine qo ?_) <;> (try simp (disch := first | omega | simp) [qg, -qq, -qu])) | ((with_reducible refine sideT ?_ ?_); first | omega | assumption | (simp; done)) | (refine qf fun K hK => ?_) | (refine qa ?_) | refine ql ?_ | ((first | refine hK _ ?_ | (clear hK K; refine hK _ ?_) | (clear hK K; clear hK K; refine hK _ ?_)); clear hK K) | refine qd ?_)
  refine qbs 0 1 5 1 (by rfl) (by rfl) ?_
  refine qbq hcl (fun k : Nat => [(3, .ptr n0 0), (6, .sl (l.map Lens.av)), (7, .int l.length), (8, .int k)]) (fun k => [.cells [if k = 0 then .v (.pointer none) else .ptr n0 0, .gs (n0 + 1) ((qce (l.take k)).map AV.byte)] 61, .tail (qce (l.take k)).length 5 1])
    (fun k => k ≤ l.length ∧ ∀ j (h : j < l.length), j < k → qct l[j] = true) (fun k => l.length - k) 0 ⟨by omega, fun _ _ h => absurd h (by omega)⟩ (by simp [qce]) fun k ⟨hk, he⟩ => ?_
  have hle := linesL_le l k
  by_cases hlt : k < l.length
  · have hx := hl _ (List.getElem_mem hlt)
    have c1 := qfk l[k] hx.l
    by_cases hr : qct l[k] = true
    · rw [hr] at c1
      have c2 := line_g l[k] hx.l hx.n hx.v hx.s (right_op hr)
      have hzl := qt (lineL l[k] ++ [10])
      have hle2 := linesL_le l (k + 1)
      have ht := linesL_take hlt
      have hlen := congrArg List.length ht
      rw [List.length_append] at hlen
      have hzn := qt (lineL l[k])
      have hln2 : (qce (l.take (k + 1))).length = (qce (l.take k)).length + ((lineL l[k]).length + 1) := by rw [hlen, List.length_append]; rfl
      rw [List.length_append] at hzl
      have hzl : (qs (lineL l[k] ++ [10])).size = (lineL l[k]).length + 1 := hzl
      clear hlen
      have hib := AV.isBs_bytes (qce (l.take k))
      have hl0 : qce [] = [] := rfl
      have hle3 : (qce (l.take k)).length ≤ 1000000000 := by omega
      by_cases hk0 : k = 0
      · subst hk0
        repeat' (first | ((first | refine qbs 0 1 5 1 (by rfl) (by rfl) ?_ | ((with_reducible refine qp (fun hg => ?_) (fun hg => ?_)) <;> (try simp only [hg]) <;> (try simp only [gS] at hg) <;> (try (first | simp only [eq_false hg, gI] | simp only [eq_true hg, gI]))) | (with_reducible first | refine qc ?_ | refine qb ?_ | refine qj ?_ | refine qi ?_) | refine acall (c1) ?_ | refine qn (c1) ?_ | refine qdp (c1) ?_ | refine acall (c2) ?_ | refine qn (c2) ?_ | refine qdp (c2) ?_ | (refine qdf (i := 0) (j := 1) _ (by rfl) (by rfl) (by first | rfl | (simp; done) | omega | (simp; omega)) (by first | (simp; done) | assumption) (by first | (simp; done) | assumption) (by first | omega | (simp; done) | (simp; omega)) ?_) | (refine qbz (i := 0) (j := 1) _ (by rfl) (by rfl) (by first | rfl | (simp; done) | omega | (simp; omega)) (by first | (simp; done) | assumption) (by first | (simp; done) | assumption) (by first | omega | (simp; done) | (simp; omega)) ?_) | refine qe ?_ | refine qk ?_ | refine qh ?_ | refine qo ?_) <;> (try simp (disch := first | omega | simp) [qg, -qq, -qu, hlt, hzn, bA_lf, hl0])) | ((with_reducible refine sideT ?_ ?_); first | omega | assumption | (simp; done)) | (refine qf fun K hK => ?_) | (refine qa ?_) | refine ql ?_ | ((first | refine hK _ ?_ | (clear hK K; refine hK _ ?_) | (clear hK K; clear hK K; refine hK _ ?_)); clear hK K) | refine qd ?_)
        have ht' : qce (l.take 1) = lineL l[0] ++ [10] := ht
        refine ⟨1, ⟨by omega, fun j h hj => ?_⟩, by omega, ⟨by rw [ht']; simp, by rw [ht', hzl]; simp⟩, by simp⟩
        obtain rfl : j = 0 := by omega
        exact hr
      · repeat' (first | ((first | refine qbs 0 1 5 1 (by rfl) (by rfl) ?_ | ((with_reducible refine qp (fun hg => ?_) (fun hg => ?_)) <;> (try simp only [hg]) <;> (try simp only [gS] at hg) <;> (try (first | simp only [eq_false hg, gI] | simp only [eq_true hg, gI]))) | (with_reducible first | refine qc ?_ | refine qb ?_ | refine qj ?_ | refine qi ?_) | refine acall (c1) ?_ | refine qn (c1) ?_ | refine qdp (c1) ?_ | refine acall (c2) ?_ | refine qn (c2) ?_ | refine qdp (c2) ?_ | (refine qdf (i := 0) (j := 1) _ (by rfl) (by rfl) (by first | rfl | (simp; done) | omega | (simp; omega)) (by first | (simp; done) | assumption) (by first | (simp; done) | assumption) (by first | omega | (simp; done) | (simp; omega)) ?_) | (refine qbz (i := 0) (j := 1) _ (by rfl) (by rfl) (by first | rfl | (simp; done) | omega | (simp; omega)) (by first | (simp; done) | assumption) (by first | (simp; done) | assumption) (by first | omega | (simp; done) | (simp; omega)) ?_) | refine qe ?_ | refine qk ?_ | refine qh ?_ | refine qo ?_) <;> (try simp (disch := first | omega | simp) [qg, -qq, -qu, hlt, hk0, hzn, bA_lf])) | ((with_reducible refine sideT ?_ ?_); first | omega | assumption | (simp; done)) | (refine qf fun K hK => ?_) | (refine qa ?_) | refine ql ?_ | ((first | refine hK _ ?_ | (clear hK K; refine hK _ ?_) | (clear hK K; clear hK K; refine hK _ ?_)); clear hK K) | refine qd ?_)
        refine ⟨k + 1, ⟨by omega, fun j h hj => ?_⟩, by omega, ⟨by rw [ht]; simp, by rw [hln2, hzl]⟩, by simp⟩
        by_cases hjk : j = k
        · subst hjk; exact hr
        · exact he j h (by omega)
    · have hr' : qct l[k] = false := by simpa using hr
      rw [hr'] at c1
      have hall : ¬ l.all qct = true := fun h => hr (List.all_eq_true.1 h _ (List.getElem_mem hlt))
      rw [if_neg hall] at hR
      subst hR
      repeat' (first | ((first | ((with_reducible refine qp (fun hg => ?_) (fun hg => ?_)) <;> (try simp only [hg]) <;> (try simp only [gS] at hg) <;> (try (first | simp only [eq_false hg, gI] | simp only [eq_true hg, gI]))) | (with_reducible first | refine qc ?_ | refine qb ?_ | refine qj ?_ | refine qi ?_) | refine acall (c1) ?_ | refine qn (c1) ?_ | refine qdp (c1) ?_ | refine qe ?_ | refine qk ?_ | refine qh ?_ | refine qo ?_) <;> (try simp (disch := first | omega | simp) [qg, -qq, -qu, hlt])) | ((with_reducible refine sideT ?_ ?_); first | omega | assumption | (simp; done)) | (refine qf fun K hK => ?_) | (refine qa ?_) | refine ql ?_ | ((first | refine hK _ ?_ | (clear hK K; refine hK _ ?_) | (clear hK K; clear hK K; refine hK _ ?_)); clear hK K) | refine qd ?_)
      rfl
  · obtain rfl : k = l.length := by omega
    have hall : l.all qct = true := List.all_eq_true.2 fun x hx => by
      obtain ⟨j, hj, rfl⟩ := List.mem_iff_getElem.1 hx
      exact he j hj hj
    rw [if_pos hall] at hR
    rw [List.take_length]
    repeat' (first | ((first | ((with_reducible refine qp (fun hg => ?_) (fun hg => ?_)) <;> (try simp only [hg]) <;> (try simp only [gS] at hg) <;> (try (first | simp only [eq_false hg, gI] | simp only [eq_true hg, gI]))) | (with_reducible first | refine qc ?_ | refine qb ?_ | refine qj ?_ | refine qi ?_) | refine acall (qdm (i := 0) (j := 1) (qce l) (by rfl) (by rfl) (by simp) (by simp)) ?_ | refine qn (qdm (i := 0) (j := 1) (qce l) (by rfl) (by rfl) (by simp) (by simp)) ?_ | refine qdp (qdm (i := 0) (j := 1) (qce l) (by rfl) (by rfl) (by simp) (by simp)) ?_ | refine qe ?_ | refine qk ?_ | refine qh ?_ | refine qo ?_) <;> (try simp (disch := first | omega | simp) [qg, -qq, -qu, hlt])) | ((with_reducible refine sideT ?_ ?_); first | omega | assumption | (simp; done)) | (refine qf fun K hK => ?_) | (refine qa ?_) | refine ql ?_ | ((first | refine hK _ ?_ | (clear hK K; refine hK _ ?_) | (clear hK K; clear hK K; refine hK _ ?_)); clear hK K) | refine qd ?_)
    rw [hR]; rfl
end Go.Proofs.YtbkkjlcclddpdaaGreatDoor

/- Walk of lens.words. -/
namespace Go.Proofs.YtbkkjlcclddpdaaGreatDoor
open Go.RowKit Go.Lib
def wG : List UInt8 → Bool → Bool → List UInt8 → List (List UInt8)
  | [], _, _, cur => [cur]
  | c :: s, q, e, cur =>
    if e = true then wG s q false (cur ++ [c])
    else if c = 92 ∧ q = true then wG s q true (cur ++ [c])
    else if c = 34 then wG s (!q) false (cur ++ [c])
    else if c = 32 ∧ q = false then cur :: wG s q false []
    else wG s q false (cur ++ [c])
def qfg (s : List UInt8) : List (List UInt8) := wG s false false [] ++ [[], [], [], []]
def wrdA (l : List (List UInt8)) : List AV := l.map fun x => AV.str (qs x)
@[simp] theorem wrdA_cls (l : List (List UInt8)) (m : Nat) : AV.cls m (wrdA l) := AV.cls_map (f := fun x => AV.str (qs x)) (fun _ => by simp) l
@[simp] theorem wrdA_wid (l : List (List UInt8)) : AV.wid (wrdA l) 1 := AV.wid_map (f := fun x => AV.str (qs x)) (fun _ => rfl) l
@[simp] theorem wrdA_elms (l : List (List UInt8)) : AV.elms (wrdA l) := AV.elms_map (f := fun x => AV.str (qs x)) (fun _ => rfl) l
@[simp] theorem wrdA_len (l : List (List UInt8)) : (wrdA l).length = l.length := by simp [wrdA]
theorem ext_sub (s : ByteArray) (a b : Nat) (hb : b ≤ s.size) : s.extract a b = qs ((s.data.toList.drop a).take (b - a)) := by
  apply bA_eq
  rw [ByteArray.data_extract, Array.toList_extract]
theorem wG_len : ∀ (s : List UInt8) (q e : Bool) (cur : List UInt8), (wG s q e cur).length ≤ s.length + 1
  | [], _, _, _ => by rw [wG]; simp
  | c :: s, q, e, cur => by
    rw [wG]
    repeat' split
    all_goals (try rw [List.length_cons]); (first | (have := wG_len s q false (cur ++ [c]); simp; omega) | (have := wG_len s q true (cur ++ [c]); simp; omega) | (have := wG_len s (!q) false (cur ++ [c]); simp; omega) | (have := wG_len s q false []; simp; omega))
theorem wG_sum : ∀ (s : List UInt8) (q e : Bool) (cur : List UInt8), ((wG s q e cur).map List.length).sum ≤ s.length + cur.length
  | [], _, _, _ => by rw [wG]; simp
  | c :: s, q, e, cur => by
    rw [wG]
    repeat' split
    all_goals first
      | (have := wG_sum s q false (cur ++ [c]); simp at this ⊢; omega)
      | (have := wG_sum s q true (cur ++ [c]); simp at this ⊢; omega)
      | (have := wG_sum s (!q) false (cur ++ [c]); simp at this ⊢; omega)
      | (have := wG_sum s q false []; simp at this ⊢; omega)
theorem take_more {S : List UInt8} {fr i : Nat} (h : fr ≤ i) (hi : i < S.length) : (S.drop fr).take (i + 1 - fr) = (S.drop fr).take (i - fr) ++ [S[i]] := by
  have e : i + 1 - fr = i - fr + 1 := by omega
  have h2 : i - fr < (S.drop fr).length := by rw [List.length_drop]; omega
  rw [e, List.take_succ_eq_append_getElem h2, List.getElem_drop]
  congr 3
  omega
theorem u8_iff (c d : UInt8) : c = d ↔ (c.toNat : Int) = (d.toNat : Int) := ⟨fun h => by rw [h], fun h => UInt8.toNat_inj.1 (by omega)⟩
structure WSt where
  i : Nat
  fr : Nat
  q : Bool
  out : List (List UInt8)
set_option maxHeartbeats 4000000 in
theorem words_g (s : ByteArray) (hs : s.size ≤ 1000000) : Gives Tryz.prog 78 [.str s] (.sl (wrdA (qfg s.data.toList))) := by
  obtain ⟨S, hS⟩ : ∃ S, s.data.toList = S := ⟨_, rfl⟩
  have hsz : S.length = s.size := by rw [← hS, qdr]
  rw [hS]
  unfold qfg
  obtain ⟨W, hW⟩ : ∃ W, wG S false false [] = W := ⟨_, rfl⟩
  have hWl := wG_len S false false []
  rw [hW] at hWl ⊢
  refine qm Tryz.func78 Tryz.ntmps78 rfl rfl (by decide) rfl (by intro n; simp) fun σ n0 hcl hft => ?_
  repeat' (first | ((first | ((with_reducible refine qp (fun hg => ?_) (fun hg => ?_)) <;> (try simp only [hg]) <;> (try simp only [gS] at hg) <;> (try (first | simp only [eq_false hg, gI] | simp only [eq_true hg, gI]))) | (with_reducible first | refine qc ?_ | refine qb ?_ | refine qj ?_ | refine qi ?_) | refine qe ?_ | refine qk ?_ | refine qh ?_ | refine qo ?_) <;> (try simp (disch := first | omega | simp) [qg, -qq, -qu])) | ((with_reducible refine sideT ?_ ?_); first | omega | assumption | (simp; done)) | (refine qf fun K hK => ?_) | (refine qa ?_) | refine ql ?_ | ((first | refine hK _ ?_ | (clear hK K; refine hK _ ?_) | (clear hK K; clear hK K; refine hK _ ?_)); clear hK K) | refine qd ?_)
  refine awp_adoptR 3 9 1 (by simp) ?_
  refine qbq hcl (fun x : WSt => [(0, .str s), (3, .gs n0 (wrdA x.out)), (4, .bool x.q), (5, .int x.fr), (6, .int x.i)]) (fun x => [.tail x.out.length 9 1])
    (fun x => x.i ≤ s.size + 1 ∧ x.fr ≤ s.size ∧ x.fr ≤ x.i ∧ x.out.length ≤ x.i ∧ x.out ++ wG (S.drop x.i) x.q false ((S.drop x.fr).take (x.i - x.fr)) = W) (fun x => s.size + 1 - x.i) ⟨0, 0, false, []⟩ ⟨Nat.zero_le _, Nat.zero_le _, Nat.le_refl _, by simp, by simpa using hW⟩ (by simp [wrdA]) fun ⟨i, fr, q, out⟩ ⟨hi, hfr, hfi, hol, hin⟩ => ?_
  dsimp only at hi hfr hfi hol hin ⊢
  have hol2 : out.length ≤ 1000001 := by omega
  by_cases hlt : i < s.size
  · have hlS : i < S.length := by omega
    have hlt2 : i < s.data.size := hlt
    have hget : s.data[i] = S[i] := by simp [← hS]
    have hd : S.drop i = S[i] :: S.drop (i + 1) := List.drop_eq_getElem_cons hlS
    have htk : (S.drop fr).take (i + 1 - fr) = (S.drop fr).take (i - fr) ++ [S[i]] := take_more hfi hlS
    have hx := ext_sub s fr i (by omega)
    rw [hS] at hx
    rw [hd, wG, if_neg (by simp)] at hin
    obtain ⟨c, hc⟩ : ∃ c, S[i] = c := ⟨_, rfl⟩
    rw [hc] at hget htk hin
    have n92 : c = 92 ↔ (c.toNat : Int) = 92 := u8_iff c 92
    have n34 : c = 34 ↔ (c.toNat : Int) = 34 := u8_iff c 34
    have n32 : c = 32 ↔ (c.toNat : Int) = 32 := u8_iff c 32
    by_cases hA : c = 92 ∧ q = true
    · rw [if_pos hA] at hin
      obtain ⟨h1, rfl⟩ := hA
      have g92 := n92.1 h1
      repeat' (first | ((first | ((with_reducible refine qp (fun hg => ?_) (fun hg => ?_)) <;> (try simp only [hg]) <;> (try simp only [gS] at hg) <;> (try (first | simp only [eq_false hg, gI] | simp only [eq_true hg, gI]))) | (with_reducible first | refine qc ?_ | refine qb ?_ | refine qj ?_ | refine qi ?_) | refine qe ?_ | refine qk ?_ | refine qh ?_ | refine qo ?_) <;> (try simp (disch := first | omega | simp) [qg, -qq, -qu, hlt, hlt2, hget, g92])) | ((with_reducible refine sideT ?_ ?_); first | omega | assumption | (simp; done)) | (refine qf fun K hK => ?_) | (refine qa ?_) | refine ql ?_ | ((first | refine hK _ ?_ | (clear hK K; refine hK _ ?_) | (clear hK K; clear hK K; refine hK _ ?_)); clear hK K) | refine qd ?_)
      refine ⟨⟨i + 2, fr, true, out⟩, ⟨by show i + 2 ≤ _; omega, hfr, by show fr ≤ i + 2; omega, by show out.length ≤ i + 2; omega, ?_⟩, by show s.size + 1 - (i + 2) < _; omega, rfl, rfl, rfl, rfl, by show (i : Int) + 1 + 1 = ((i + 2 : Nat) : Int); omega⟩
      show out ++ wG (S.drop (i + 2)) true false ((S.drop fr).take (i + 2 - fr)) = W
      rw [← hin, ← htk]
      congr 1
      by_cases h2 : i + 1 < S.length
      · rw [take_more (by omega) h2, List.drop_eq_getElem_cons h2, wG, if_pos rfl]
      · have z1 : S.drop (i + 1) = [] := List.drop_eq_nil_of_le (by omega)
        have z2 : S.drop (i + 2) = [] := List.drop_eq_nil_of_le (by omega)
        have z3 : (S.drop fr).take (i + 2 - fr) = S.drop fr := List.take_of_length_le (by rw [List.length_drop]; omega)
        have z4 : (S.drop fr).take (i + 1 - fr) = S.drop fr := List.take_of_length_le (by rw [List.length_drop]; omega)
        rw [z1, z2, z3, z4]; rfl
    · rw [if_neg hA] at hin
      have hA2 : ((c.toNat : Int) = 92) → q = false := fun h => by cases q; rfl; exact absurd ⟨n92.2 h, rfl⟩ hA
      by_cases h34 : c = 34
      · rw [if_pos h34] at hin
        have g34 := n34.1 h34
        have g92 : ¬ (c.toNat : Int) = 92 := by omega
        repeat' (first | ((first | ((with_reducible refine qp (fun hg => ?_) (fun hg => ?_)) <;> (try simp only [hg]) <;> (try simp only [gS] at hg) <;> (try (first | simp only [eq_false hg, gI] | simp only [eq_true hg, gI]))) | (with_reducible first | refine qc ?_ | refine qb ?_ | refine qj ?_ | refine qi ?_) | refine qe ?_ | refine qk ?_ | refine qh ?_ | refine qo ?_) <;> (try simp (disch := first | omega | simp) [qg, -qq, -qu, hlt, hlt2, hget, g92, g34])) | ((with_reducible refine sideT ?_ ?_); first | omega | assumption | (simp; done)) | (refine qf fun K hK => ?_) | (refine qa ?_) | refine ql ?_ | ((first | refine hK _ ?_ | (clear hK K; refine hK _ ?_) | (clear hK K; clear hK K; refine hK _ ?_)); clear hK K) | refine qd ?_)
        exact ⟨⟨i + 1, fr, (!q), out⟩, ⟨by show i + 1 ≤ _; omega, hfr, by show fr ≤ i + 1; omega, by show out.length ≤ i + 1; omega, by show out ++ wG (S.drop (i + 1)) (!q) false ((S.drop fr).take (i + 1 - fr)) = W; rw [← hin, htk]⟩, by show s.size + 1 - (i + 1) < _; omega, rfl, rfl, by simp, rfl, rfl⟩
      · rw [if_neg h34] at hin
        have g34 : ¬ (c.toNat : Int) = 34 := fun h => h34 (n34.2 h)
        by_cases hC : c = 32 ∧ q = false
        · rw [if_pos hC] at hin
          obtain ⟨h1, rfl⟩ := hC
          have g32 := n32.1 h1
          have g92 : ¬ (c.toNat : Int) = 92 := by omega
          repeat' (first | ((first | ((with_reducible refine qp (fun hg => ?_) (fun hg => ?_)) <;> (try simp only [hg]) <;> (try simp only [gS] at hg) <;> (try (first | simp only [eq_false hg, gI] | simp only [eq_true hg, gI]))) | (with_reducible first | refine qc ?_ | refine qb ?_ | refine qj ?_ | refine qi ?_) | refine qe ?_ | refine qk ?_ | refine qh ?_ | refine qo ?_) <;> (try simp (disch := first | omega | simp) [qg, -qq, -qu, hlt, hlt2, hget, g92, g34, g32, hx, hfi, hfr])) | ((with_reducible refine sideT ?_ ?_); first | omega | assumption | (simp; done)) | (refine qf fun K hK => ?_) | (refine qa ?_) | refine ql ?_ | ((first | refine hK _ ?_ | (clear hK K; refine hK _ ?_) | (clear hK K; clear hK K; refine hK _ ?_)); clear hK K) | refine qd ?_)
          exact ⟨⟨i + 1, i + 1, false, out ++ [(S.drop fr).take (i - fr)]⟩, ⟨by show i + 1 ≤ _; omega, by show i + 1 ≤ _; omega, Nat.le_refl _, by show (out ++ [_]).length ≤ i + 1; simp; omega, by show (out ++ [_]) ++ wG (S.drop (i + 1)) false false ((S.drop (i + 1)).take (i + 1 - (i + 1))) = W; rw [← hin, Nat.sub_self]; simp⟩, by show s.size + 1 - (i + 1) < _; omega, by simp, by simp [wrdA], rfl, rfl, rfl⟩
        · rw [if_neg hC] at hin
          have hC2 : ((c.toNat : Int) = 32) → q = true := fun h => by cases q; exact absurd ⟨n32.2 h, rfl⟩ hC; rfl
          by_cases g92 : (c.toNat : Int) = 92
          · obtain rfl := hA2 g92
            have g32 : ¬ (c.toNat : Int) = 32 := by omega
            repeat' (first | ((first | ((with_reducible refine qp (fun hg => ?_) (fun hg => ?_)) <;> (try simp only [hg]) <;> (try simp only [gS] at hg) <;> (try (first | simp only [eq_false hg, gI] | simp only [eq_true hg, gI]))) | (with_reducible first | refine qc ?_ | refine qb ?_ | refine qj ?_ | refine qi ?_) | refine qe ?_ | refine qk ?_ | refine qh ?_ | refine qo ?_) <;> (try simp (disch := first | omega | simp) [qg, -qq, -qu, hlt, hlt2, hget, g92, g34, g32])) | ((with_reducible refine sideT ?_ ?_); first | omega | assumption | (simp; done)) | (refine qf fun K hK => ?_) | (refine qa ?_) | refine ql ?_ | ((first | refine hK _ ?_ | (clear hK K; refine hK _ ?_) | (clear hK K; clear hK K; refine hK _ ?_)); clear hK K) | refine qd ?_)
            exact ⟨⟨i + 1, fr, false, out⟩, ⟨by show i + 1 ≤ _; omega, hfr, by show fr ≤ i + 1; omega, by show out.length ≤ i + 1; omega, by show out ++ wG (S.drop (i + 1)) false false ((S.drop fr).take (i + 1 - fr)) = W; rw [← hin, htk]⟩, by show s.size + 1 - (i + 1) < _; omega, rfl, rfl, rfl, rfl, rfl⟩
          · by_cases g32 : (c.toNat : Int) = 32
            · obtain rfl := hC2 g32
              repeat' (first | ((first | ((with_reducible refine qp (fun hg => ?_) (fun hg => ?_)) <;> (try simp only [hg]) <;> (try simp only [gS] at hg) <;> (try (first | simp only [eq_false hg, gI] | simp only [eq_true hg, gI]))) | (with_reducible first | refine qc ?_ | refine qb ?_ | refine qj ?_ | refine qi ?_) | refine qe ?_ | refine qk ?_ | refine qh ?_ | refine qo ?_) <;> (try simp (disch := first | omega | simp) [qg, -qq, -qu, hlt, hlt2, hget, g92, g34, g32])) | ((with_reducible refine sideT ?_ ?_); first | omega | assumption | (simp; done)) | (refine qf fun K hK => ?_) | (refine qa ?_) | refine ql ?_ | ((first | refine hK _ ?_ | (clear hK K; refine hK _ ?_) | (clear hK K; clear hK K; refine hK _ ?_)); clear hK K) | refine qd ?_)
              exact ⟨⟨i + 1, fr, true, out⟩, ⟨by show i + 1 ≤ _; omega, hfr, by show fr ≤ i + 1; omega, by show out.length ≤ i + 1; omega, by show out ++ wG (S.drop (i + 1)) true false ((S.drop fr).take (i + 1 - fr)) = W; rw [← hin, htk]⟩, by show s.size + 1 - (i + 1) < _; omega, rfl, rfl, rfl, rfl, rfl⟩
            · have b92 : ((c.toNat : Int) == 92) = false := by simpa using g92
              have b34 : ((c.toNat : Int) == 34) = false := by simpa using g34
              have b32 : ((c.toNat : Int) == 32) = false := by simpa using g32
              cases q with
              | false =>
                repeat' (first | ((first | ((with_reducible refine qp (fun hg => ?_) (fun hg => ?_)) <;> (try simp only [hg]) <;> (try simp only [gS] at hg) <;> (try (first | simp only [eq_false hg, gI] | simp only [eq_true hg, gI]))) | (with_reducible first | refine qc ?_ | refine qb ?_ | refine qj ?_ | refine qi ?_) | refine qe ?_ | refine qk ?_ | refine qh ?_ | refine qo ?_) <;> (try simp (disch := first | omega | simp) [qg, -qq, -qu, hlt, hlt2, hget, b92, b34, b32])) | ((with_reducible refine sideT ?_ ?_); first | omega | assumption | (simp; done)) | (refine qf fun K hK => ?_) | (refine qa ?_) | refine ql ?_ | ((first | refine hK _ ?_ | (clear hK K; refine hK _ ?_) | (clear hK K; clear hK K; refine hK _ ?_)); clear hK K) | refine qd ?_)
                exact ⟨⟨i + 1, fr, false, out⟩, ⟨by show i + 1 ≤ _; omega, hfr, by show fr ≤ i + 1; omega, by show out.length ≤ i + 1; omega, by show out ++ wG (S.drop (i + 1)) false false ((S.drop fr).take (i + 1 - fr)) = W; rw [← hin, htk]⟩, by show s.size + 1 - (i + 1) < _; omega, rfl, rfl, rfl, rfl, rfl⟩
              | true =>
                repeat' (first | ((first | ((with_reducible refine qp (fun hg => ?_) (fun hg => ?_)) <;> (try simp only [hg]) <;> (try simp only [gS] at hg) <;> (try (first | simp only [eq_false hg, gI] | simp only [eq_true hg, gI]))) | (with_reducible first | refine qc ?_ | refine qb ?_ | refine qj ?_ | refine qi ?_) | refine qe ?_ | refine qk ?_ | refine qh ?_ | refine qo ?_) <;> (try simp (disch := first | omega | simp) [qg, -qq, -qu, hlt, hlt2, hget, b92, b34, b32])) | ((with_reducible refine sideT ?_ ?_); first | omega | assumption | (simp; done)) | (refine qf fun K hK => ?_) | (refine qa ?_) | refine ql ?_ | ((first | refine hK _ ?_ | (clear hK K; refine hK _ ?_) | (clear hK K; clear hK K; refine hK _ ?_)); clear hK K) | refine qd ?_)
                exact ⟨⟨i + 1, fr, true, out⟩, ⟨by show i + 1 ≤ _; omega, hfr, by show fr ≤ i + 1; omega, by show out.length ≤ i + 1; omega, by show out ++ wG (S.drop (i + 1)) true false ((S.drop fr).take (i + 1 - fr)) = W; rw [← hin, htk]⟩, by show s.size + 1 - (i + 1) < _; omega, rfl, rfl, rfl, rfl, rfl⟩
  · have hd : S.drop i = [] := List.drop_eq_nil_of_le (by omega)
    rw [hd, wG, List.take_of_length_le (by rw [List.length_drop]; omega)] at hin
    have hx := ext_sub s fr s.size (Nat.le_refl _)
    rw [hS, List.take_of_length_le (by rw [List.length_drop]; omega)] at hx
    repeat' (first | ((first | ((with_reducible refine qp (fun hg => ?_) (fun hg => ?_)) <;> (try simp only [hg]) <;> (try simp only [gS] at hg) <;> (try (first | simp only [eq_false hg, gI] | simp only [eq_true hg, gI]))) | (with_reducible first | refine qc ?_ | refine qb ?_ | refine qj ?_ | refine qi ?_) | refine qe ?_ | refine qk ?_ | refine qh ?_ | refine qo ?_) <;> (try simp (disch := first | omega | simp) [qg, -qq, -qu, hlt, hx, hfr])) | ((with_reducible refine sideT ?_ ?_); first | omega | assumption | (simp; done)) | (refine qf fun K hK => ?_) | (refine qa ?_) | refine ql ?_ | ((first | refine hK _ ?_ | (clear hK K; refine hK _ ?_) | (clear hK K; clear hK K; refine hK _ ?_)); clear hK K) | refine qd ?_)
    rw [← hin]; simp [wrdA]; rfl
end Go.Proofs.YtbkkjlcclddpdaaGreatDoor

/- Walk of lens.read. -/
namespace Go.Proofs.YtbkkjlcclddpdaaGreatDoor
open Go.RowKit Go.Lib
def qfo : List (List UInt8) := [wAdd, wDrop, wRename, wSplit, wJoin, wRetype, wScale]
def opL (w : List UInt8) : Int := if w = wAdd then 0 else if w = wDrop then 1 else if w = wRename then 2 else if w = wSplit then 3 else if w = wJoin then 4 else if w = wRetype then 5 else if w = wScale then 6 else -1
theorem op_idx (s : ByteArray) : idxP (fun x => s.toList == x.toList) (qfo.map qs) = opL s.toList := by
  simp only [qfo, List.map_cons, List.map_nil, qep, idxP, bytesA_list, opL, beq_iff_eq]
  by_cases h0 : s.toList = wAdd
  · simp [h0]
  by_cases h1 : s.toList = wDrop
  · simp [h0, h1]
    try decide
  by_cases h2 : s.toList = wRename
  · simp [h0, h1, h2]
    try decide
  by_cases h3 : s.toList = wSplit
  · simp [h0, h1, h2, h3]
    try decide
  by_cases h4 : s.toList = wJoin
  · simp [h0, h1, h2, h3, h4]
    try decide
  by_cases h5 : s.toList = wRetype
  · simp [h0, h1, h2, h3, h4, h5]
    try decide
  by_cases h6 : s.toList = wScale
  · simp [h0, h1, h2, h3, h4, h5, h6]
    try decide
  simp [h0, h1, h2, h3, h4, h5, h6]
theorem opL_cases (w : List UInt8) : opL w = 0 ∨ opL w = 1 ∨ opL w = 2 ∨ opL w = 3 ∨ opL w = 4 ∨ opL w = 5 ∨ opL w = 6 ∨ opL w = -1 := by
  unfold opL
  repeat' split
  all_goals omega
def readW (a b c d e : List UInt8) : Lens :=
  let o := opL a
  if o = 0 then ⟨o, qs b, qs d, ⟨#[]⟩, ⟨#[]⟩, 0, (qgm c).1⟩
  else if o = 1 then ⟨o, qs b, ⟨#[]⟩, ⟨#[]⟩, ⟨#[]⟩, 0, (qgm c).1⟩
  else if o = 2 then ⟨o, qs b, qs c, ⟨#[]⟩, ⟨#[]⟩, 0, val0⟩
  else if o = 3 then ⟨o, qs b, qs d, qs e, qs ((unqP hxP c).getD []), 0, val0⟩
  else if o = 4 then ⟨o, qs b, qs c, qs e, qs ((unqP hxP d).getD []), 0, val0⟩
  else if o = 5 then ⟨o, qs b, ⟨#[]⟩, ⟨#[]⟩, ⟨#[]⟩, (qdt c).1, (qgm d).1⟩
  else if o = 6 then ⟨o, qs b, qs d, ⟨#[]⟩, ⟨#[]⟩, (intP c).getD 0, val0⟩
  else ⟨o, qs b, ⟨#[]⟩, ⟨#[]⟩, ⟨#[]⟩, 0, val0⟩
def readL (w : List (List UInt8)) : Lens := readW (w.getD 0 []) (w.getD 1 []) (w.getD 2 []) (w.getD 3 []) (w.getD 4 [])
def readP (s : List UInt8) : Lens := readL (qfg s)
theorem words_five (s : List UInt8) : ∃ a b c d e r, qfg s = a :: b :: c :: d :: e :: r := by
  unfold qfg
  have h : wG s false false [] ≠ [] := by
    have : ∀ (s : List UInt8) q e cur, wG s q e cur ≠ [] := fun s => by
      induction s with
      | nil => intro q e cur; rw [wG]; simp
      | cons c s ih =>
        intro q e cur
        rw [wG]
        repeat' split
        all_goals first | exact ih _ _ _ | simp
    exact this _ _ _ _
  obtain ⟨a, l, hl⟩ := List.exists_cons_of_ne_nil h
  rw [hl]
  match l with
  | [] => exact ⟨_, _, _, _, _, _, rfl⟩
  | [_] => exact ⟨_, _, _, _, _, _, rfl⟩
  | [_, _] => exact ⟨_, _, _, _, _, _, rfl⟩
  | [_, _, _] => exact ⟨_, _, _, _, _, _, rfl⟩
  | _ :: _ :: _ :: _ :: _ => exact ⟨_, _, _, _, _, _, rfl⟩
theorem words_le (s : List UInt8) : ∀ w ∈ qfg s, w.length ≤ s.length := by
  have h1 := wG_sum s false false []
  unfold qfg
  intro w hw
  rcases List.mem_append.1 hw with h | h
  · have : ∀ l : List (List UInt8), w ∈ l → w.length ≤ (l.map List.length).sum := fun l => by
      induction l with
      | nil => intro h; cases h
      | cons a l ih =>
        intro h
        rw [List.map_cons, List.sum_cons]
        rcases List.mem_cons.1 h with rfl | h
        · omega
        · have := ih h; omega
    have := this _ h
    simp at h1
    omega
  · simp at h; subst h; simp
theorem qfm (a : List UInt8) (l : List (List UInt8)) : wrdA (a :: l) = AV.str (qs a) :: wrdA l := rfl
end Go.Proofs.YtbkkjlcclddpdaaGreatDoor
