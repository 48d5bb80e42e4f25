/- The text of values and steps: plain, and the walks of value.Show, value.Parse, lens.line. -/
import Derived.Test.YtbkkjlcclddpdaaGreatDoorGd10
import Derived.Test.YtbkkjlcclddpdaaGreatDoorGd11
import Derived.Test.YtbkkjlcclddpdaaGreatDoorGd12
import Derived.Test.YtbkkjlcclddpdaaGreatDoorGd17
import Derived.Test.YtbkkjlcclddpdaaGreatDoorGd19
import Derived.Test.YtbkkjlcclddpdaaGreatDoorGd21
import Derived.Test.YtbkkjlcclddpdaaGreatDoorGd22
set_option linter.unusedSimpArgs false
set_option linter.unusedVariables false
namespace Go.Proofs.YtbkkjlcclddpdaaGreatDoor
open Go.RowKit Go.Lib
def showL (v : Val) : List UInt8 :=
  if qbh v = true then (if v.k = 0 then itoa v.n else if v.k = 1 then qP v.s.data.toList else if v.n = 1 then wTrue else qdx) else []
def qgr (s : List UInt8) : Val × Bool :=
  if s = wTrue ∨ s = qdx then (bitV (decide (s = wTrue)), true)
  else match intP s with
    | some n => (⟨0, n, ⟨#[]⟩⟩, true)
    | none => match unqP hxP s with
      | some t => if t.length ≤ 200 then (⟨1, 0, qk t⟩, true) else (⟨0, 0, ⟨#[]⟩⟩, false)
      | none => (⟨0, 0, ⟨#[]⟩⟩, false)
def wAdd : List UInt8 := [97, 100, 100]
def wDrop : List UInt8 := [100, 114, 111, 112]
def wRename : List UInt8 := [114, 101, 110, 97, 109, 101]
def wSplit : List UInt8 := [115, 112, 108, 105, 116]
def wJoin : List UInt8 := [106, 111, 105, 110]
def wRetype : List UInt8 := [114, 101, 116, 121, 112, 101]
def wScale : List UInt8 := [115, 99, 97, 108, 101]
def unitL (x : Lens) : List UInt8 := if strE x.b = true then [] else 32 :: x.b.data.toList
def sepL (x : Lens) : List UInt8 := qP x.sep.data.toList
def lineL (x : Lens) : List UInt8 :=
  if x.op = 0 then wAdd ++ 32 :: x.a.data.toList ++ 32 :: showL x.value ++ unitL x
  else if x.op = 1 then wDrop ++ 32 :: x.a.data.toList ++ 32 :: showL x.value
  else if x.op = 2 then wRename ++ 32 :: x.a.data.toList ++ unitL x
  else if x.op = 3 then wSplit ++ 32 :: x.a.data.toList ++ 32 :: sepL x ++ unitL x ++ 32 :: x.c.data.toList
  else if x.op = 4 then wJoin ++ 32 :: x.a.data.toList ++ unitL x ++ 32 :: sepL x ++ 32 :: x.c.data.toList
  else if x.op = 5 then wRetype ++ 32 :: x.a.data.toList ++ 32 :: qch x.n ++ 32 :: showL x.value
  else wScale ++ 32 :: x.a.data.toList ++ 32 :: itoa x.n ++ unitL x
theorem qP_len (l : List UInt8) : (qP l).length ≤ 4 * l.length + 2 := by
  have := qmid_len l
  unfold qP; simp; omega
theorem showL_len (v : Val) (hn : i64 v.n) : (showL v).length ≤ 4 * v.s.size + 30 := by
  have h1 := itoa_length_le v.n hn.1 hn.2
  have h2 := qP_len v.s.data.toList
  rw [qcw] at h2
  unfold showL
  repeat' split
  all_goals (first | omega | (simp [wTrue, qdx]))
set_option maxHeartbeats 2000000 in
theorem show_g (v : Val) (hn : i64 v.n) (hs : v.s.size ≤ 1000000) : Gives Tryz.prog 72 [v.av] (.str (qk (showL v))) := by
  have c1 := vright_g v
  have c2 := decimal_g v.n hn
  have c3 := quote_g v.s hs
  have e1 : qk wTrue = ⟨#[116, 114, 117, 101]⟩ := rfl
  have e2 : qk qdx = ⟨#[102, 97, 108, 115, 101]⟩ := rfl
  have e3 : qk [] = ⟨#[]⟩ := rfl
  unfold showL
  cases hr : qbh v with
  | false =>
    rw [hr] at c1
    refine qh Tryz.func72 Tryz.ntmps72 fun σ n0 hcl hft => ?_
    repeat' (first | ((first | ((with_reducible refine qf (fun hg => ?_) (fun hg => ?_)) <;> (try simp only [hg]) <;> (try simp only [gS] at hg) <;> (try (first | simp only [eq_false hg, gI] | simp only [eq_true hg, gI]))) | refine Stp.m ?_ | refine qi ?_ | refine agH ?_) <;> (try simp (disch := first | omega | simp) [qd, -qg, -ql])) | refine sideA ?_ | refine qc fun K hK => ?_ | refine qa ?_ | refine qe ?_ | refine qb ?_ | (refine hK _ ?_; clear hK K) | clear hK K)
    all_goals (first | rfl | (simp; rfl))
  | true =>
    rw [hr] at c1
    rw [if_pos rfl]
    refine qh Tryz.func72 Tryz.ntmps72 fun σ n0 hcl hft => ?_
    repeat' (first | ((first | ((with_reducible refine qf (fun hg => ?_) (fun hg => ?_)) <;> (try simp only [hg]) <;> (try simp only [gS] at hg) <;> (try (first | simp only [eq_false hg, gI] | simp only [eq_true hg, gI]))) | refine Stp.m ?_ | refine qi ?_ | refine agH ?_) <;> (try simp (disch := first | omega | simp) [qd, -qg, -ql])) | refine sideA ?_ | refine qc fun K hK => ?_ | refine qa ?_ | refine qe ?_ | refine qb ?_ | (refine hK _ ?_; clear hK K) | clear hK K)
    all_goals (clear c1 c2 c3 hcl hft; first | rfl | (simp_all; done) | (simp_all [e1, e2]; done))
theorem beq_data (s : ByteArray) (l : List UInt8) : (s.toList == l) = decide (s.data.toList = l) := by rw [ByteArray.toList_eq]; by_cases h : s.data.toList = l <;> simp [h]
set_option maxHeartbeats 2000000 in
theorem qcm (s : ByteArray) (hs : s.size ≤ 1000000) : Gives Tryz.prog 80 [.str s] (.tup [(qgr s.data.toList).1.av, .bool (qgr s.data.toList).2]) := by
  have c1 := vbit_g (decide (s.data.toList = wTrue))
  have c2 := int_g s hs
  have c3 := qz s hs
  have b1 : (s.toList == [116, 114, 117, 101]) = decide (s.data.toList = wTrue) := beq_data s wTrue
  have b2 : (s.toList == [102, 97, 108, 115, 101]) = decide (s.data.toList = qdx) := beq_data s qdx
  unfold qgr
  by_cases h1 : s.data.toList = wTrue
  · have h2 : ¬ wTrue = qdx := by decide
    rw [h1, decide_eq_true (p := wTrue = wTrue) rfl] at c1
    rw [if_pos (.inl h1), decide_eq_true h1]
    refine qh Tryz.func80 Tryz.ntmps80 fun σ n0 hcl hft => ?_
    repeat' (first | ((first | ((with_reducible refine qf (fun hg => ?_) (fun hg => ?_)) <;> (try simp only [hg]) <;> (try simp only [gS] at hg) <;> (try (first | simp only [eq_false hg, gI] | simp only [eq_true hg, gI]))) | refine Stp.m ?_ | refine qi ?_ | refine agH ?_) <;> (try simp (disch := first | omega | simp) [qd, -qg, -ql, b1, b2, h1, h2])) | refine sideA ?_ | refine qc fun K hK => ?_ | refine qa ?_ | refine qe ?_ | refine qb ?_ | (refine hK _ ?_; clear hK K) | clear hK K)
  · rw [decide_eq_false h1] at c1
    by_cases h2 : s.data.toList = qdx
    · rw [if_pos (.inr h2), decide_eq_false h1]
      refine qh Tryz.func80 Tryz.ntmps80 fun σ n0 hcl hft => ?_
      repeat' (first | ((first | ((with_reducible refine qf (fun hg => ?_) (fun hg => ?_)) <;> (try simp only [hg]) <;> (try simp only [gS] at hg) <;> (try (first | simp only [eq_false hg, gI] | simp only [eq_true hg, gI]))) | refine Stp.m ?_ | refine qi ?_ | refine agH ?_) <;> (try simp (disch := first | omega | simp) [qd, -qg, -ql, b1, b2, h1, h2])) | refine sideA ?_ | refine qc fun K hK => ?_ | refine qa ?_ | refine qe ?_ | refine qb ?_ | (refine hK _ ?_; clear hK K) | clear hK K)
    · rw [if_neg (by simp [h1, h2])]
      cases hi : intP s.data.toList with
      | some n =>
        rw [hi] at c2
        have c4 := qdd n
        refine qh Tryz.func80 Tryz.ntmps80 fun σ n0 hcl hft => ?_
        repeat' (first | ((first | ((with_reducible refine qf (fun hg => ?_) (fun hg => ?_)) <;> (try simp only [hg]) <;> (try simp only [gS] at hg) <;> (try (first | simp only [eq_false hg, gI] | simp only [eq_true hg, gI]))) | refine Stp.m ?_ | refine qi ?_ | refine agH ?_) <;> (try simp (disch := first | omega | simp) [qd, -qg, -ql, b1, b2, h1, h2])) | refine sideA ?_ | refine qc fun K hK => ?_ | refine qa ?_ | refine qe ?_ | refine qb ?_ | (refine hK _ ?_; clear hK K) | clear hK K)
        all_goals rfl
      | none =>
        rw [hi] at c2
        cases hu : unqP hxP s.data.toList with
        | some t =>
          rw [hu] at c3
          have c4 := qcy (qk t)
          have hz := qm t
          by_cases ht : t.length ≤ 200
          · have ht' : (t.length : Int) ≤ 200 := by omega
            dsimp only
            rw [if_pos ht]
            refine qh Tryz.func80 Tryz.ntmps80 fun σ n0 hcl hft => ?_
            repeat' (first | ((first | ((with_reducible refine qf (fun hg => ?_) (fun hg => ?_)) <;> (try simp only [hg]) <;> (try simp only [gS] at hg) <;> (try (first | simp only [eq_false hg, gI] | simp only [eq_true hg, gI]))) | refine Stp.m ?_ | refine qi ?_ | refine agH ?_) <;> (try simp (disch := first | omega | simp) [qd, -qg, -ql, b1, b2, h1, h2, hz, ht, ht'])) | refine sideA ?_ | refine qc fun K hK => ?_ | refine qa ?_ | refine qe ?_ | refine qb ?_ | (refine hK _ ?_; clear hK K) | clear hK K)
            all_goals rfl
          · have ht' : ¬ (t.length : Int) ≤ 200 := by omega
            dsimp only
            rw [if_neg ht]
            refine qh Tryz.func80 Tryz.ntmps80 fun σ n0 hcl hft => ?_
            repeat' (first | ((first | ((with_reducible refine qf (fun hg => ?_) (fun hg => ?_)) <;> (try simp only [hg]) <;> (try simp only [gS] at hg) <;> (try (first | simp only [eq_false hg, gI] | simp only [eq_true hg, gI]))) | refine Stp.m ?_ | refine qi ?_ | refine agH ?_) <;> (try simp (disch := first | omega | simp) [qd, -qg, -ql, b1, b2, h1, h2, hz, ht, ht'])) | refine sideA ?_ | refine qc fun K hK => ?_ | refine qa ?_ | refine qe ?_ | refine qb ?_ | (refine hK _ ?_; clear hK K) | clear hK K)
            all_goals rfl
        | none =>
          rw [hu] at c3
          refine qh Tryz.func80 Tryz.ntmps80 fun σ n0 hcl hft => ?_
          repeat' (first | ((first | ((with_reducible refine qf (fun hg => ?_) (fun hg => ?_)) <;> (try simp only [hg]) <;> (try simp only [gS] at hg) <;> (try (first | simp only [eq_false hg, gI] | simp only [eq_true hg, gI]))) | refine Stp.m ?_ | refine qi ?_ | refine agH ?_) <;> (try simp (disch := first | omega | simp) [qd, -qg, -ql, b1, b2, h1, h2])) | refine sideA ?_ | refine qc fun K hK => ?_ | refine qa ?_ | refine qe ?_ | refine qb ?_ | (refine hK _ ?_; clear hK K) | clear hK K)
          all_goals rfl
theorem lineL_len (x : Lens) (hn : i64 x.n) (hv : i64 x.value.n) : (lineL x).length ≤ x.a.size + x.b.size + x.c.size + 4 * x.sep.size + 4 * x.value.s.size + 100 := by
  have h1 := itoa_length_le x.n hn.1 hn.2
  have h2 := qP_len x.sep.data.toList
  have h3 := showL_len x.value hv
  have h4 : (qch x.n).length ≤ 4 := by
    unfold qch
    split
    · rename_i h
      have : x.n = 0 ∨ x.n = 1 ∨ x.n = 2 := by omega
      rcases this with h | h | h <;> rw [h] <;> decide
    · simp
  have h5 : (unitL x).length ≤ 1 + x.b.size := by unfold unitL; split <;> simp [qcw]; omega
  have ha := qcw x.a
  have hc := qcw x.c
  rw [qcw] at h2
  unfold lineL sepL
  repeat' split
  all_goals (simp [wAdd, wDrop, wRename, wSplit, wJoin, wRetype, wScale]; omega)
end Go.Proofs.YtbkkjlcclddpdaaGreatDoor

/- Walk of lens.line. -/
namespace Go.Proofs.YtbkkjlcclddpdaaGreatDoor
open Go.RowKit Go.Lib
theorem bA_eq {a : ByteArray} {l : List UInt8} (h : a.data.toList = l) : a = qk l := by
  apply ByteArray.ext
  apply Array.ext'
  rw [h]; rfl
@[simp] theorem bA_data (l : List UInt8) : (qk l).data.toList = l := rfl
set_option maxRecDepth 4000 in
set_option maxHeartbeats 4000000 in
theorem line_g (x : Lens) (hx : qbq x) (hn : i64 x.n) (hv : i64 x.value.n) (hs : x.value.s.size ≤ 1000000) (ho : x.op = 0 ∨ x.op = 1 ∨ x.op = 2 ∨ x.op = 3 ∨ x.op = 4 ∨ x.op = 5 ∨ x.op = 6) : Gives Tryz.prog 37 [x.av] (.str (qk (lineL x))) := by
  have c1 := show_g x.value hv hs
  have c2 := quote_g x.sep hx.sep
  have c3 := qeg x.n
  have c4 := decimal_g x.n hn
  have z1 := qm (showL x.value)
  have z2 := qm (qP x.sep.data.toList)
  have z3 := qm (qch x.n)
  have z4 := qm (itoa x.n)
  have y1 := showL_len x.value hv
  have y2 := qP_len x.sep.data.toList
  rw [qcw] at y2
  have y3 : (qch x.n).length ≤ 4 := by
    unfold qch
    split
    · rename_i h
      have : x.n = 0 ∨ x.n = 1 ∨ x.n = 2 := by omega
      rcases this with h | h | h <;> rw [h] <;> decide
    · simp
  have y4 := itoa_length_le x.n hn.1 hn.2
  have hxa := hx.a
  have hxb := hx.b
  have hxc := hx.c
  have hxs := hx.sep
  have hst := qbs x.b
  obtain ⟨R, hR⟩ : ∃ R, lineL x = R := ⟨_, rfl⟩
  rw [hR]
  unfold lineL unitL sepL at hR
  generalize showL x.value = V at *
  generalize qP x.sep.data.toList = Q at *
  generalize qch x.n = T at *
  generalize itoa x.n = D at *
  cases hb : strE x.b with
  | true =>
    have hb' : x.b.toList.isEmpty = true := hst.trans hb
    rw [hb, if_pos rfl] at hR
    rcases ho with ho | ho | ho | ho | ho | ho | ho <;> simp only [ho, if_pos, if_neg, reduceIte, Int.reduceEq] at hR
    all_goals
      refine qh Tryz.func37 Tryz.ntmps37 fun σ n0 hcl hft => ?_
      repeat' (first | ((first | ((with_reducible refine qf (fun hg => ?_) (fun hg => ?_)) <;> (try simp only [hg]) <;> (try simp only [gS] at hg) <;> (try (first | simp only [eq_false hg, gI] | simp only [eq_true hg, gI]))) | refine Stp.m ?_ | refine qi ?_ | refine agH ?_) <;> (try simp (disch := first | omega | simp) [qd, -qg, -ql, ho, hb', z1, z2, z3, z4])) | refine sideA ?_ | refine qc fun K hK => ?_ | refine qa ?_ | refine qe ?_ | refine qb ?_ | (refine hK _ ?_; clear hK K) | clear hK K)
      all_goals (rw [← hR]; apply bA_eq; simp [wAdd, wDrop, wRename, wSplit, wJoin, wRetype, wScale])
  | false =>
    have hb' : x.b.toList.isEmpty = false := hst.trans hb
    simp only [hb, Bool.false_eq_true, if_false] at hR
    rcases ho with ho | ho | ho | ho | ho | ho | ho <;> simp only [ho, if_pos, if_neg, reduceIte, Int.reduceEq] at hR
    all_goals
      refine qh Tryz.func37 Tryz.ntmps37 fun σ n0 hcl hft => ?_
      repeat' (first | ((first | ((with_reducible refine qf (fun hg => ?_) (fun hg => ?_)) <;> (try simp only [hg]) <;> (try simp only [gS] at hg) <;> (try (first | simp only [eq_false hg, gI] | simp only [eq_true hg, gI]))) | refine Stp.m ?_ | refine qi ?_ | refine agH ?_) <;> (try simp (disch := first | omega | simp) [qd, -qg, -ql, ho, hb', z1, z2, z3, z4])) | refine sideA ?_ | refine qc fun K hK => ?_ | refine qa ?_ | refine qe ?_ | refine qb ?_ | (refine hK _ ?_; clear hK K) | clear hK K)
      all_goals (rw [← hR]; apply bA_eq; simp [wAdd, wDrop, wRename, wSplit, wJoin, wRetype, wScale])
end Go.Proofs.YtbkkjlcclddpdaaGreatDoor

/- Walk of lens.refuse. -/
namespace Go.Proofs.YtbkkjlcclddpdaaGreatDoor
open Go.RowKit Go.Lib
theorem qbu {L : List Col} {i : Nat} (h : i < L.length) : colAt L i = L[i] := by unfold colAt; rw [List.getD_eq_getElem?_getD, List.getElem?_eq_getElem h]; rfl
set_option maxRecDepth 4000 in
set_option maxHeartbeats 4000000 in
theorem qgo (x : Lens) (cols : List Col) (i : Nat) (hi : i < cols.length) (hc : cols.length ≤ 1000000) (hj : x.op = 4 → 0 ≤ findP cols x.b.toList) : Gives Tryz.prog 47 [x.av, .sl (cols.map Col.av), .int i] (.int (qcx x cols i)) := by
  have c0 := taken_g cols x.b [] hc (by decide)
  have c1 := taken_g cols x.b [x.a] hc (by simp)
  have c2 := taken_g cols x.c [x.a] hc (by simp)
  have c3 := taken_g cols x.c [x.a, x.b] hc (by simp)
  have c4 := qx cols x.b hc
  simp only [List.map_nil, List.map_cons] at c0 c1 c2 c3
  have hci := qbu hi
  have q1 : (cols.length < 2) = ((cols.length : Int) < 2) := propext (by omega)
  have q2 : (12 ≤ cols.length) = (12 ≤ (cols.length : Int)) := propext (by omega)
  unfold qcx
  rw [hci]
  simp only [q1, q2]
  clear q1 q2
  by_cases h4 : x.op = 4
  · obtain ⟨k, hk, hk2, -⟩ := findI (hj h4)
    have hck := qbu hk2
    rw [hk] at c4
    have e1 : (findP cols x.b.toList).toNat = k := by omega
    rw [e1, hck]
    refine qh Tryz.func47 Tryz.ntmps47 fun σ n0 hcl hft => ?_
    repeat' (first | ((first | ((with_reducible refine qf (fun hg => ?_) (fun hg => ?_)) <;> (try simp only [hg]) <;> (try simp only [gS] at hg) <;> (try (first | simp only [eq_false hg, gI] | simp only [eq_true hg, gI]))) | refine Stp.m ?_ | refine qi ?_ | refine agH ?_) <;> (try simp (disch := first | omega | simp) [qd, -qg, -ql, hi, h4, hk2])) | refine sideA ?_ | refine qc fun K hK => ?_ | refine qa ?_ | refine qe ?_ | refine qb ?_ | (refine hK _ ?_; clear hK K) | clear hK K)
    all_goals (clear c0 c1 c2 c3 c4 hcl hft; first | (exfalso; omega) | (simp_all; done) | (exfalso; simp_all; done))
  · refine qh Tryz.func47 Tryz.ntmps47 fun σ n0 hcl hft => ?_
    repeat' (first | ((first | ((with_reducible refine qf (fun hg => ?_) (fun hg => ?_)) <;> (try simp only [hg]) <;> (try simp only [gS] at hg) <;> (try (first | simp only [eq_false hg, gI] | simp only [eq_true hg, gI]))) | refine Stp.m ?_ | refine qi ?_ | refine agH ?_) <;> (try simp (disch := first | omega | simp) [qd, -qg, -ql, hi, h4])) | refine sideA ?_ | refine qc fun K hK => ?_ | refine qa ?_ | refine qe ?_ | refine qb ?_ | (refine hK _ ?_; clear hK K) | clear hK K)
    all_goals (clear c0 c1 c2 c3 c4 hcl hft; first | (exfalso; omega) | (simp_all; done) | (exfalso; simp_all; done))
end Go.Proofs.YtbkkjlcclddpdaaGreatDoor

/- A slice beside nil: what is not empty is not nil; what is empty may be. -/
namespace Go.Proofs.YtbkkjlcclddpdaaGreatDoor
open Go.RowKit Go.Lib
theorem eop_nil {P : Program} {s : AS} {op : BinOp} {t u : TypeId} {x y : Operand} {l : List AV} {K : AV → AS → Prop} (hop : op = .eql ∨ op = .neq) (ht : (einfo P t).isSome = true) (hx : (s.eval x).list = some l) (hy : s.eval y = .v (.slice none 0 0)) (hK : ∀ b : Bool, (b = true → l = []) → K (.v (.bool (if op = .eql then b else !b))) s) :
    EOp P s (.binOp op t x y u) K := by
  intro X0 a w X oper ho hc Q
  have hw := hc.w
  subst hw
  have h1 := hc.eval x
  have h2 := hc.eval y
  rw [hy, RR.v] at h2
  obtain ⟨e, he⟩ : ∃ e, P.underlying t = some (.slice e) := by
    unfold einfo at ht
    split at ht
    · exact ⟨_, ‹_›⟩
    · cases ht
  have key : ∃ A n cap, a.eval x = .slice A n cap ∧ (0 < l.length → A.isNone = false) := by
    cases hev : s.eval x <;> rw [hev] at hx <;> try (cases hx; done)
    · cases hx
      rw [hev] at h1
      have h3 : RC X (.sl l) [a.eval x] := h1
      rw [RC] at h3
      obtain ⟨A, cap, b, off, e1, -, -, h4, -⟩ := h3
      simp at e1
      exact ⟨A, _, cap, e1, fun h => by rw [h4 h]; rfl⟩
    · rename_i r _
      cases hx
      rw [hev] at h1
      have h3 : RC X (.gs r l) [a.eval x] := h1
      rw [RC] at h3
      obtain ⟨A, cap, b, off, e1, -, -, h4, -⟩ := h3
      simp at e1
      exact ⟨A, _, cap, e1, fun h => by rw [h4 h]; rfl⟩
  obtain ⟨A, n, cap, hA, hn⟩ := key
  have hrun : (execOp a.eval oper).run P X.w = .ok (.value (.bool (if op = .eql then A.isNone else !A.isNone))) X.w := by
    have hq : ∀ w, (Op.equal t (.slice A n cap) (.slice none 0 0)).run P w = .ok A.isNone w := fun w => by
      unfold Op.equal
      rw [show Op.maxDepth = 9999 + 1 from rfl, Op.equalIn]
      cases A <;> simp [underlying, he]
    rcases hop with rfl | rfl
    · simp [execOp, ho, hA, h2, eqGuard, binOp, hq]
    · simp [execOp, ho, hA, h2, eqGuard, binOp, hq]
  refine qbb hrun ⟨_, _, s, X, rfl, hK A.isNone fun h => ?_, hc, RR.v.2 rfl⟩
  cases l with
  | nil => rfl
  | cons z zs => rw [hn (by simp)] at h; cases h
def aevN (P : Program) (s : AS) (o : Op) (K : AV → AS → Prop) : Prop :=
  match o with
  | .binOp op t x y u => match (s.eval x).list, s.eval y with
    | some l, .v (.slice none 0 0) => (op = .eql ∨ op = .neq) ∧ (einfo P t).isSome = true ∧ ∀ b : Bool, (b = true → l = []) → K (.v (.bool (if op = .eql then b else !b))) s
    | _, _ => aev P s (.binOp op t x y u) K
  | o => aev P s o K
theorem aevN_sound {P : Program} {s : AS} {o : Op} {K : AV → AS → Prop} (h : aevN P s o K) : EOp P s o K := by
  unfold aevN at h
  split at h
  · split at h
    · exact eop_nil h.1 h.2.1 ‹_› ‹_› h.2.2
    · exact qce h
  · exact qce h
def aseqN (P : Program) (ops : Array Oper) (K : AS → Prop) : List Oper → AS → Prop
  | [], s => K s
  | o :: l, s => match awant ops o s.t with
    | some b => qcb b (aevN P s o.op (fun x s1 => dstOk o.dst s1.n ∧ aseqN P ops K l (s1.put o.dst x))) (dstOk o.dst s.n ∧ aseqN P ops K l (s.put o.dst (.v undef)))
    | none => False
theorem aseqN_sound {P : Program} {ops : Array Oper} {K : AS → Prop} : ∀ {l : List Oper} {s : AS}, aseqN P ops K l s → aseq P ops K l s
  | [], _, h => h
  | o :: l, s, h => by
    rw [aseqN] at h
    rw [aseq]
    split at h
    · rename_i b hb
      cases b with
      | true => exact ⟨true, hb, (aevN_sound (h.1 rfl)).mono fun x s1 ⟨h1, h2⟩ => ⟨h1, aseqN_sound h2⟩⟩
      | false => exact ⟨false, hb, (h.2 rfl).1, aseqN_sound (h.2 rfl).2⟩
    · exact h.elim
theorem qgc {P : Program} {s : AS} {id : Nat} {l : List Oper} {Q : Exit → AS → Prop} (h : aseqN P l.toArray (Q .normal) l s) : awp P (.region id l.toArray false) Q s := qea (aseqN_sound h)
instance {P : Program} {ops : Array Oper} {K : AS → Prop} {o : Oper} {l : List Oper} {s : AS} : Stp (aseqN P ops K (o :: l) s) (match awant ops o s.t with
    | some b => qcb b (aevN P s o.op (fun x s1 => dstOk o.dst s1.n ∧ aseqN P ops K l (s1.put o.dst x))) (dstOk o.dst s.n ∧ aseqN P ops K l (s.put o.dst (.v undef)))
    | none => False) := ⟨fun h => h⟩
instance {P : Program} {ops : Array Oper} {K : AS → Prop} {s : AS} : Stp (aseqN P ops K [] s) (K s) := ⟨fun h => h⟩
theorem nil_split {P : Program} {ops : Array Oper} {K : AS → Prop} {l : List Oper} {s s' : AS} {C : Prop} (h1 : aseqN P ops K l s) (h2 : C → aseqN P ops K l s') : aseqN P ops K l s ∧ (C → aseqN P ops K l s') := ⟨h1, h2⟩
attribute [simp] aevN
end Go.Proofs.YtbkkjlcclddpdaaGreatDoor

/- The library's Clone at columns and values. -/
namespace Go.Proofs.YtbkkjlcclddpdaaGreatDoor
open Go.RowKit Go.Lib
theorem cloC (l : List AV) (n : Nat) (hn : l.length = n) (h0 : 0 < n) (hL : n ≤ 1000000) (hw : AV.wid l 3) (he : AV.elms l) (hcl' : ∀ m, AV.cls m l) : GivesV Tryz.prog 46 [.sl l] n (.vec l 53 3) := by
  subst hn
  refine qeq 1 Tryz.func46 Tryz.ntmps46 rfl rfl (by decide) rfl hcl' fun σ n0 hcl hft => ?_
  have hne : l ≠ [] := fun h => by rw [h] at h0; simp at h0
  repeat' (first | ((first | ((with_reducible refine qf (fun hg => ?_) (fun hg => ?_)) <;> (try simp only [hg]) <;> (try simp only [gS] at hg) <;> (try (first | simp only [eq_false hg, gI] | simp only [eq_true hg, gI]))) | refine Stp.m ?_ | (with_reducible refine nil_split ?_ (fun hnil => ?_); try simp only [hnil])) <;> (try simp (disch := first | omega | simp) [qd, -qg, -ql, hw, he, h0])) | with_reducible refine qgc (id := 1) ?_ | refine sideA ?_ | refine qc fun K hK => ?_ | refine awp_regionV4 (by rfl) ?_ | refine qa ?_ | refine qb ?_ | (refine hK _ ?_; clear hK K) | clear hK K)
  exact absurd (by assumption) hne
theorem cloV (l : List AV) (n : Nat) (hn : l.length = n) (h0 : 0 < n) (hL : n ≤ 1000000) (hw : AV.wid l 3) (he : AV.elms l) (hcl' : ∀ m, AV.cls m l) : GivesV Tryz.prog 58 [.sl l] n (.vec l 27 3) := by
  subst hn
  refine qeq 1 Tryz.func58 Tryz.ntmps58 rfl rfl (by decide) rfl hcl' fun σ n0 hcl hft => ?_
  have hne : l ≠ [] := fun h => by rw [h] at h0; simp at h0
  repeat' (first | ((first | ((with_reducible refine qf (fun hg => ?_) (fun hg => ?_)) <;> (try simp only [hg]) <;> (try simp only [gS] at hg) <;> (try (first | simp only [eq_false hg, gI] | simp only [eq_true hg, gI]))) | refine Stp.m ?_ | (with_reducible refine nil_split ?_ (fun hnil => ?_); try simp only [hnil])) <;> (try simp (disch := first | omega | simp) [qd, -qg, -ql, hw, he, h0])) | with_reducible refine qgc (id := 1) ?_ | refine sideA ?_ | refine qc fun K hK => ?_ | refine awp_regionV4 (by rfl) ?_ | refine qa ?_ | refine qb ?_ | (refine hK _ ?_; clear hK K) | clear hK K)
  exact absurd (by assumption) hne
end Go.Proofs.YtbkkjlcclddpdaaGreatDoor

/- The library's Replace at columns. -/
namespace Go.Proofs.YtbkkjlcclddpdaaGreatDoor
open Go.RowKit Go.Lib
set_option maxHeartbeats 4000000 in
theorem rep_bC (l v : List AV) (i j n m tot c : Nat) (bs : List Value) (hij : i < j) (hj : j ≤ n) (hm0 : 0 < m) (hn : l.length = n) (hm : v.length = m) (htot : tot = i + m + (n - j)) (hraw : l.all rawOk = true) (hw : AV.wid l 3) (hrv : v.all rawOk = true) (hwv : AV.wid v 3) (hL : n ≤ 1000000) (hM : m ≤ 1000000) (hc : n ≤ c) (hcm : c ≤ 9223372036854775807) (hlen : bs.length = c * 3) (hbs : bs.take (n * 3) = rawsL l) (hcl' : ∀ k, AV.cls k (l.take i ++ v ++ l.drop j)) {τ : Nat → AB} {r : Nat} (hτ : τ r = .buf bs 53) :
    AC Tryz.prog 49 [.sub r 0 n c 3, .int (i : Int), .int (j : Int), .sl v] τ fun y τ' => y = .sl (l.take i ++ v ++ l.drop j) ∧ τ' = upd τ r .dead := by
  refine qfo Tryz.func49 Tryz.ntmps49 rfl rfl (by decide) rfl (by intro n; first | (simp; done) | exact hcl' n | (simp; exact hcl' n)) (by intro n; simp) ?_ fun n0 hrn hcl hft => ?_
  · rw [hτ]; simp
  have h4 : ((i : Int) = (j : Int)) = False := eq_false (by omega)
  have hI : Tryz.prog.underlying 3 = some (.int .i64) := by kernel_rfl
  have q3 : ((i : Int) + (m : Int)).toNat = i + m := by omega
  have q4 : (i : Int) + (m : Int) + ((n - j : Nat) : Int) = (tot : Int) := by omega
  have q5 : (0 ≤ (i : Int) + (m : Int)) = True := eq_true (by omega)
  have hone : OneC (bs.take (n * 3)) := by rw [hbs]; exact raw_one hraw
  have ho : OneC ((bs.drop (j * 3)).take ((n - j) * 3)) := one_mid hone (by omega)
  have hl : ∀ (σ : Nat → AB) (L : List AB), loc σ n0 L r = σ r := fun σ L => qct σ n0 r L hrn
  have hv1 : (rawsL v).length = m * 3 := qde hrv hwv hm
  have hv2 : (rawsL v).take (m * 3) = rawsL v := List.take_of_length_le (by omega)
  have hO := ovlC
  have hov : OneC (rawsL v) := raw_one hrv
  have ho' : OneC (((bs.drop (j * 3)).take ((n - j) * 3)).take ((n - j) * 3)) := by rw [List.take_take, Nat.min_self]; exact ho
  have hb0 : ¬ bs = [] := fun h => by rw [h] at hlen; simp at hlen; omega
  have hra : (l.take i ++ v ++ l.drop j).all rawOk = true := by
    rw [List.all_append, List.all_append, hrv, qgn hraw fun x hx => List.mem_of_mem_take hx, qgn hraw fun x hx => List.mem_of_mem_drop hx]; rfl
  have hwa : AV.wid (l.take i ++ v ++ l.drop j) 3 := fun x hx => by
    rcases List.mem_append.1 hx with hx | hx
    · rcases List.mem_append.1 hx with hx | hx
      · exact hw x (List.mem_of_mem_take hx)
      · exact hwv x hx
    · exact hw x (List.mem_of_mem_drop hx)
  have hla : (l.take i ++ v ++ l.drop j).length = tot := by
    rw [List.length_append, List.length_append, List.length_take, List.length_drop]; omega
  have ex : bs.take (i * 3) = rawsL (l.take i) := row_take hraw hw hn hbs (by omega)
  have ez : (bs.drop (j * 3)).take ((n - j) * 3) = rawsL (l.drop j) := by
    rw [row_mid hraw hw hn hbs (by omega), List.take_of_length_le (by rw [List.length_drop]; omega)]
  have lx : (rawsL (l.take i)).length = i * 3 := by rw [← ex, List.length_take, hlen]; omega
  have lz : (rawsL (l.drop j)).length = (n - j) * 3 := by rw [← ez, List.length_take, List.length_drop, hlen]; omega
  have tx : ∀ T, (rawsL (l.take i) ++ T).take (i * 3) = rawsL (l.take i) := fun T => by rw [← lx, List.take_left]
  have ty : ∀ T, (rawsL (l.take i) ++ (rawsL v ++ T)).take ((i + m) * 3) = rawsL (l.take i) ++ rawsL v := fun T => by
    rw [← List.append_assoc, show (i + m) * 3 = (rawsL (l.take i) ++ rawsL v).length by rw [List.length_append, lx, hv1]; omega, List.take_left]
  have tz : ∀ T, (rawsL (l.take i) ++ (rawsL v ++ (rawsL (l.drop j) ++ T))).take (tot * 3) = rawsL (l.take i) ++ (rawsL v ++ rawsL (l.drop j)) := fun T => by
    rw [← List.append_assoc, ← List.append_assoc, show tot * 3 = (rawsL (l.take i) ++ rawsL v ++ rawsL (l.drop j)).length by rw [List.length_append, List.length_append, lx, hv1, lz]; omega, List.take_left, List.append_assoc]
  have zz : (rawsL (l.drop j)).take ((n - j) * 3) = rawsL (l.drop j) := List.take_of_length_le (by omega)
  have dI : ∀ T, (bs.take ((i + m) * 3) ++ T).take (i * 3) = rawsL (l.take i) ∨ c < i + m := fun T => by
    by_cases hg : c < i + m
    · exact .inr hg
    · rw [List.take_append_of_le_length (by rw [List.length_take, hlen]; omega), List.take_take, Nat.min_eq_left (by omega), ex]; exact .inl rfl
  have hz : ∀ z : AV, z ∈ v → 0 < z.width := fun z h => by rw [hwv z h]; omega
  repeat' (first | ((first | ((with_reducible refine qf (fun hg => ?_) (fun hg => ?_)) <;> (try simp only [hg]) <;> (try simp only [gS] at hg) <;> (try (first | simp only [eq_false hg, gI] | simp only [eq_true hg, gI]))) | refine Stp.m ?_) <;> (try simp (disch := first | omega | simp) [qd, -qg, -ql, hlen, hτ, ho, hl, hrn, hI, hm, hrv, hwv, h4, q3, q4, q5, hv1, hv2, hO, hov, ho', hb0])) | with_reducible refine qj (id := 1) ?_ | with_reducible refine qj (id := 4) ?_ | with_reducible refine qj (id := 5) ?_ | with_reducible refine qj (id := 6) ?_ | with_reducible refine qj (id := 7) ?_ | with_reducible refine qbg (id := 8) ?_ | with_reducible refine qcf (id := 9) [.R, .R, .M, .M, .R, .R, .R, .R, .R, .M, .M, .R, .R] (by kernel_rfl) (by kernel_rfl) ?_ | with_reducible refine qj (id := 10) ?_ | with_reducible refine qj (id := 11) ?_ | with_reducible refine qj (id := 12) ?_ | with_reducible refine qcf (id := 13) [.R, .R, .R, .R, .R, .M, .R, .R, .M, .W] (by kernel_rfl) (by kernel_rfl) ?_ | with_reducible refine qbg (id := 14) ?_ | with_reducible refine qj (id := 15) ?_ | with_reducible refine qj (id := 17) ?_ | with_reducible refine qcf (id := 18) [.R, .R, .R, .R, .R, .M, .R, .R, .M, .W] (by kernel_rfl) (by kernel_rfl) ?_ | with_reducible refine qj (id := 19) ?_ | with_reducible refine qbg (id := 20) ?_ | with_reducible refine qj (id := 21) ?_ | with_reducible refine qcf (id := 22) [.R, .R, .R, .R, .R, .M, .R, .R, .M, .W] (by kernel_rfl) (by kernel_rfl) ?_ | with_reducible refine qj (id := 23) ?_ | with_reducible refine qbg (id := 24) ?_ | refine sideA ?_ | refine qc fun K hK => ?_ | refine qa ?_ | refine qe ?_ | refine qb ?_ | (refine hK _ ?_; clear hK K) | clear hK K)
  · exact absurd (by assumption : (i : Int) = (j : Int)) (by omega)
  · have hjn : j = n := by omega
    have htot' : tot = i + m := by omega
    have e0 : rawsL (l.drop j) = [] := List.eq_nil_of_length_eq_zero (by omega)
    have tm : ∀ T, (rawsL (l.take i) ++ rawsL v ++ T).take ((i + m) * 3) = rawsL (l.take i) ++ rawsL v := fun T => by rw [List.append_assoc, ty]
    have tm2 : ((rawsL (l.take i) ++ rawsL v)).take ((i + m) * 3) = rawsL (l.take i) ++ rawsL v := by have := tm []; rwa [List.append_nil] at this
    refine ⟨fun hroom => ?_, fun hgrow c' zs h1 h2 h3 => ?_⟩
    · repeat' (first | ((first | ((with_reducible refine qf (fun hg => ?_) (fun hg => ?_)) <;> (try simp only [hg]) <;> (try simp only [gS] at hg) <;> (try (first | simp only [eq_false hg, gI] | simp only [eq_true hg, gI]))) | refine Stp.m ?_) <;> (try simp (disch := first | omega | simp) [qd, -qg, -ql, hlen, hτ, ho, hl, hrn, hI, hm, hrv, hwv, h4, q3, q4, q5, hv1, hv2, hO, hov, ho', hb0])) | with_reducible refine qj (id := 5) ?_ | with_reducible refine qj (id := 6) ?_ | with_reducible refine qj (id := 7) ?_ | with_reducible refine qbg (id := 8) ?_ | refine sideA ?_ | refine qc fun K hK => ?_ | refine qa ?_ | refine qe ?_ | refine qb ?_ | (refine hK _ ?_; clear hK K) | clear hK K)
      · intro zs hzs
        repeat' (first | ((first | ((with_reducible refine qf (fun hg => ?_) (fun hg => ?_)) <;> (try simp only [hg]) <;> (try simp only [gS] at hg) <;> (try (first | simp only [eq_false hg, gI] | simp only [eq_true hg, gI]))) | refine Stp.m ?_) <;> (try simp (disch := first | omega | simp) [qd, -qg, -ql, hlen, hτ, ho, hl, hrn, hI, hm, hrv, hwv, h4, q3, q4, q5, hv1, hv2, hO, hov, ho', hb0, hzs])) | with_reducible refine qj (id := 7) ?_ | with_reducible refine qbg (id := 8) ?_ | refine sideA ?_ | refine qc fun K hK => ?_ | refine qa ?_ | refine qe ?_ | refine qb ?_ | (refine hK _ ?_; clear hK K) | clear hK K)
        refine ⟨qr (r := r) (n := i + m) 9 (l.take i ++ v ++ l.drop j) (by simp) (by simp [hl]; exact ⟨rfl, rfl⟩) hra hwa (by rw [hla, htot']) (by omega) hcm ?_ ?_⟩
        · rw [ex, ty, tm, qy, qy, e0, List.append_nil]
        repeat' (first | ((first | ((with_reducible refine qf (fun hg => ?_) (fun hg => ?_)) <;> (try simp only [hg]) <;> (try simp only [gS] at hg) <;> (try (first | simp only [eq_false hg, gI] | simp only [eq_true hg, gI]))) | refine Stp.m ?_) <;> (try simp (disch := first | omega | simp) [qd, -qg, -ql, hl, hrn])) | refine sideA ?_ | refine qc fun K hK => ?_ | refine qa ?_ | refine qe ?_ | refine qb ?_ | (refine hK _ ?_; clear hK K) | clear hK K)
      · refine ⟨qr (r := r) (n := i + m) 9 (l.take i ++ v ++ l.drop j) (by simp) (by simp [hl]; exact ⟨rfl, rfl⟩) hra hwa (by rw [hla, htot']) (by omega) hcm ?_ ?_⟩
        · rw [ex, ty, qy, qy, e0, List.append_nil]
        repeat' (first | ((first | ((with_reducible refine qf (fun hg => ?_) (fun hg => ?_)) <;> (try simp only [hg]) <;> (try simp only [gS] at hg) <;> (try (first | simp only [eq_false hg, gI] | simp only [eq_true hg, gI]))) | refine Stp.m ?_) <;> (try simp (disch := first | omega | simp) [qd, -qg, -ql, hl, hrn])) | refine sideA ?_ | refine qc fun K hK => ?_ | refine qa ?_ | refine qe ?_ | refine qb ?_ | (refine hK _ ?_; clear hK K) | clear hK K)
    · repeat' (first | ((first | ((with_reducible refine qf (fun hg => ?_) (fun hg => ?_)) <;> (try simp only [hg]) <;> (try simp only [gS] at hg) <;> (try (first | simp only [eq_false hg, gI] | simp only [eq_true hg, gI]))) | refine Stp.m ?_) <;> (try simp (disch := first | omega | simp) [qd, -qg, -ql, hlen, hτ, ho, hl, hrn, hI, hm, hrv, hwv, h4, q3, q4, q5, hv1, hv2, hO, hov, ho', hb0, h3])) | with_reducible refine qj (id := 5) ?_ | with_reducible refine qj (id := 6) ?_ | with_reducible refine qj (id := 7) ?_ | with_reducible refine qbg (id := 8) ?_ | refine sideA ?_ | refine qc fun K hK => ?_ | refine qa ?_ | refine qe ?_ | refine qb ?_ | (refine hK _ ?_; clear hK K) | clear hK K)
      · omega
      · refine ⟨qr (r := n0) (n := i + m) 9 (l.take i ++ v ++ l.drop j) (by simp) (by simp [hl]; exact ⟨rfl, rfl⟩) hra hwa (by rw [hla, htot']) (by omega) h2 ?_ ?_⟩
        · rw [ex, ty, qy, qy, e0, List.append_nil]
        · refine qr (r := r) (n := n) 0 l (by simp) (by simp [hl, hτ]; first | rfl | exact ⟨rfl, rfl⟩) hraw hw hn hc hcm hbs ?_
          repeat' (first | ((first | ((with_reducible refine qf (fun hg => ?_) (fun hg => ?_)) <;> (try simp only [hg]) <;> (try simp only [gS] at hg) <;> (try (first | simp only [eq_false hg, gI] | simp only [eq_true hg, gI]))) | refine Stp.m ?_) <;> (try simp (disch := first | omega | simp) [qd, -qg, -ql, hl, hrn])) | refine sideA ?_ | refine qc fun K hK => ?_ | refine qa ?_ | refine qe ?_ | refine qb ?_ | (refine hK _ ?_; clear hK K) | clear hK K)
  · intro c' zs h1 h2 h3
    repeat' (first | ((first | ((with_reducible refine qf (fun hg => ?_) (fun hg => ?_)) <;> (try simp only [hg]) <;> (try simp only [gS] at hg) <;> (try (first | simp only [eq_false hg, gI] | simp only [eq_true hg, gI]))) | refine Stp.m ?_) <;> (try simp (disch := first | omega | simp) [qd, -qg, -ql, hlen, hτ, ho, hl, hrn, hI, hm, hrv, hwv, h4, q3, q4, q5, hv1, hv2, hO, hov, ho', hb0, h3])) | with_reducible refine qj (id := 11) ?_ | with_reducible refine qj (id := 12) ?_ | with_reducible refine qcf (id := 13) [.R, .R, .R, .R, .R, .M, .R, .R, .M, .W] (by kernel_rfl) (by kernel_rfl) ?_ | with_reducible refine qbg (id := 14) ?_ | refine sideA ?_ | refine qc fun K hK => ?_ | refine qa ?_ | refine qe ?_ | refine qb ?_ | (refine hK _ ?_; clear hK K) | clear hK K)
    refine ⟨qr (r := n0) (n := tot) 11 (l.take i ++ v ++ l.drop j) (by simp) (by simp [hl]; exact ⟨rfl, rfl⟩) hra hwa hla (by omega) h2 ?_ ?_⟩
    · simp only [ex, ez, tx, ty, tz, zz, qy, List.append_assoc]
    · refine qr (r := r) (n := n) 0 l (by simp) (by simp [hl, hτ]; first | rfl | exact ⟨rfl, rfl⟩) hraw hw hn hc hcm hbs ?_
      repeat' (first | ((first | ((with_reducible refine qf (fun hg => ?_) (fun hg => ?_)) <;> (try simp only [hg]) <;> (try simp only [gS] at hg) <;> (try (first | simp only [eq_false hg, gI] | simp only [eq_true hg, gI]))) | refine Stp.m ?_) <;> (try simp (disch := first | omega | simp) [qd, -qg, -ql, hl, hrn])) | refine sideA ?_ | refine qc fun K hK => ?_ | refine qa ?_ | refine qe ?_ | refine qb ?_ | (refine hK _ ?_; clear hK K) | clear hK K)
  · have dC : List.drop (j * 3) (rawsL (l.take i) ++ (rawsL v ++ List.drop ((i + m) * 3) bs)) = List.drop (j * 3) bs := by
      rw [← List.append_assoc]; exact drop_far (by rw [List.length_append, lx, hv1]; omega) (by omega)
    have ho2 : OneC (List.take ((n - j) * 3) (List.take ((n - j) * 3) (List.drop (j * 3) (List.take (i * 3) bs ++ (rawsL v ++ List.drop ((i + m) * 3) bs))))) := by
      rw [ex, dC]; exact ho'
    repeat' (first | ((first | ((with_reducible refine qf (fun hg => ?_) (fun hg => ?_)) <;> (try simp only [hg]) <;> (try simp only [gS] at hg) <;> (try (first | simp only [eq_false hg, gI] | simp only [eq_true hg, gI]))) | refine Stp.m ?_) <;> (try simp (disch := first | omega | simp) [qd, -qg, -ql, hlen, hτ, ho, hl, hrn, hI, hm, hrv, hwv, h4, q3, q4, q5, hv1, hv2, hO, hov, ho', hb0, ho2])) | with_reducible refine qcf (id := 18) [.R, .R, .R, .R, .R, .M, .R, .R, .M, .W] (by kernel_rfl) (by kernel_rfl) ?_ | with_reducible refine qj (id := 19) ?_ | with_reducible refine qbg (id := 20) ?_ | refine sideA ?_ | refine qc fun K hK => ?_ | refine qa ?_ | refine qe ?_ | refine qb ?_ | (refine hK _ ?_; clear hK K) | clear hK K)
    · intro zs hzs
      repeat' (first | ((first | ((with_reducible refine qf (fun hg => ?_) (fun hg => ?_)) <;> (try simp only [hg]) <;> (try simp only [gS] at hg) <;> (try (first | simp only [eq_false hg, gI] | simp only [eq_true hg, gI]))) | refine Stp.m ?_) <;> (try simp (disch := first | omega | simp) [qd, -qg, -ql, hlen, hτ, ho, hl, hrn, hI, hm, hrv, hwv, h4, q3, q4, q5, hv1, hv2, hO, hov, ho', hb0, hzs])) | with_reducible refine qj (id := 19) ?_ | with_reducible refine qbg (id := 20) ?_ | refine sideA ?_ | refine qc fun K hK => ?_ | refine qa ?_ | refine qe ?_ | refine qb ?_ | (refine hK _ ?_; clear hK K) | clear hK K)
      refine ⟨qr (r := r) (n := tot) 12 (l.take i ++ v ++ l.drop j) (by simp) (by simp [hl]; exact ⟨rfl, rfl⟩) hra hwa hla (by omega) hcm ?_ ?_⟩
      · simp only [dC, ex, ez, tx, ty, tz, zz, qy, List.append_assoc]
      repeat' (first | ((first | ((with_reducible refine qf (fun hg => ?_) (fun hg => ?_)) <;> (try simp only [hg]) <;> (try simp only [gS] at hg) <;> (try (first | simp only [eq_false hg, gI] | simp only [eq_true hg, gI]))) | refine Stp.m ?_) <;> (try simp (disch := first | omega | simp) [qd, -qg, -ql, hl, hrn])) | refine sideA ?_ | refine qc fun K hK => ?_ | refine qa ?_ | refine qe ?_ | refine qb ?_ | (refine hK _ ?_; clear hK K) | clear hK K)
  · refine ⟨qr (r := r) (n := tot) 12 (l.take i ++ v ++ l.drop j) (by simp) (by simp [hl]; exact ⟨rfl, rfl⟩) hra hwa hla (by omega) hcm ?_ ?_⟩
    · have dI' : ∀ T, (bs.take ((i + m) * 3) ++ T).take (i * 3) = rawsL (l.take i) := fun T => (dI T).resolve_right (by omega)
      have dM : ∀ T, (bs.take ((i + m) * 3) ++ T).drop ((i + m) * 3) = T := fun T => drop_tk (by rw [List.length_take, hlen]; omega)
      simp only [dI', dM, ex, ez, tx, ty, tz, zz, qy, List.append_assoc]
    repeat' (first | ((first | ((with_reducible refine qf (fun hg => ?_) (fun hg => ?_)) <;> (try simp only [hg]) <;> (try simp only [gS] at hg) <;> (try (first | simp only [eq_false hg, gI] | simp only [eq_true hg, gI]))) | refine Stp.m ?_) <;> (try simp (disch := first | omega | simp) [qd, -qg, -ql, hl, hrn])) | refine sideA ?_ | refine qc fun K hK => ?_ | refine qa ?_ | refine qe ?_ | refine qb ?_ | (refine hK _ ?_; clear hK K) | clear hK K)
theorem rep_acC (l v : List AV) (i j n m : Nat) (hij : i < j) (hj : j ≤ n) (hm0 : 0 < m) (hn : l.length = n) (hm : v.length = m) (hraw : l.all rawOk = true) (hw : AV.wid l 3) (hrv : v.all rawOk = true) (hwv : AV.wid v 3) (hL : n ≤ 1000000) (hM : m ≤ 1000000) (hcl' : ∀ k, AV.cls k (l.take i ++ v ++ l.drop j)) {σ : Nat → AB} {r : Nat} (hσ : σ r = .vec l 53 3) :
    AC Tryz.prog 49 [.own r n, .int (i : Int), .int (j : Int), .sl v] σ fun y τ => y = .sl (l.take i ++ v ++ l.drop j) ∧ τ = upd σ r .dead := by
  refine ac_thaw hσ hn.symm (fun h => by rw [h] at hn; simp at hn; omega) (by decide) hraw hw hcl' fun r' c rest hr' hu hc hcm hrest => ?_
  have e1 := qde hraw hw hn
  exact rep_bC l v i j n m _ c (rawsL l ++ rest) hij hj hm0 hn hm rfl hraw hw hrv hwv hL hM hc hcm (by rw [List.length_append, e1, hrest, ← Nat.add_mul]; congr 1; omega) (by rw [← e1, List.take_left]) hcl' (by simp)
end Go.Proofs.YtbkkjlcclddpdaaGreatDoor

/- Walk of lens.One. -/
namespace Go.Proofs.YtbkkjlcclddpdaaGreatDoor
open Go.RowKit Go.Lib
section
variable (x : Lens) (cols : List Col)
theorem qgm (hc0 : 1 ≤ cols.length) (hc : cols.length ≤ 100) : GivesV Tryz.prog 46 [.sl (cols.map Col.av)] cols.length (.vec (cols.map Col.av) 53 3) :=
  cloC (cols.map Col.av) cols.length (by simp) (by omega) (by omega) (Col.avs_wid cols) (Col.avs_elms cols) (fun m => Col.avs_cl cols m)
end
set_option maxRecDepth 4000 in
set_option maxHeartbeats 4000000 in
theorem one_g1 (x : Lens) (cols : List Col) (hx : qbq x) (hc0 : 1 ≤ cols.length) (hc : cols.length ≤ 100) (h : qbz x = false ∨ x.op = 0 ∨ (oneP x cols).2 ≠ 0) : Gives Tryz.prog 18 [x.av, .sl (cols.map Col.av)] (.tup [.sl ((oneP x cols).1.map Col.av), .int (oneP x cols).2]) := by
  have c1 := qes x hx
  have c2 := qx cols x.a (by omega)
  have c3 := qgm cols hc0 hc
  have c5 := qx cols x.b (by omega)
  have q2 : (12 ≤ cols.length) = (12 ≤ (cols.length : Int)) := propext (by omega)
  unfold oneP at h ⊢
  simp only [q2] at h ⊢
  clear q2
  cases hr : qbz x with
  | false =>
    rw [hr] at c1
    refine qh Tryz.func18 Tryz.ntmps18 fun σ n0 hcl hft => ?_
    repeat' (first | ((first | ((with_reducible refine qf (fun hg => ?_) (fun hg => ?_)) <;> (try simp only [hg]) <;> (try simp only [gS] at hg) <;> (try (first | simp only [eq_false hg, gI] | simp only [eq_true hg, gI]))) | refine Stp.m ?_ | refine qw c3 ?_ | refine qi ?_ | refine agH ?_) <;> (try simp (disch := first | omega | simp) [qd, -qg, -ql])) | refine sideA ?_ | refine qc fun K hK => ?_ | refine qa ?_ | refine qe ?_ | refine qb ?_ | (refine hK _ ?_; clear hK K) | clear hK K)
  | true =>
    rw [hr] at c1 h
    simp only [Bool.true_eq_false, if_false, false_or] at h ⊢
    by_cases h0 : x.op = 0
    · rw [if_pos h0]
      have d0 : (x.op == 0) = true := by rw [h0]; rfl
      have d1 : (x.op == 1) = false := beq_eq_false_iff_ne.2 (by omega)
      have d2 : (x.op == 2) = false := beq_eq_false_iff_ne.2 (by omega)
      have d3 : (x.op == 3) = false := beq_eq_false_iff_ne.2 (by omega)
      have d4 : (x.op == 4) = false := beq_eq_false_iff_ne.2 (by omega)
      have d5 : (x.op == 5) = false := beq_eq_false_iff_ne.2 (by omega)
      have d6 : (x.op == 6) = false := beq_eq_false_iff_ne.2 (by omega)
      by_cases hi : 0 ≤ findP cols x.a.toList
      · refine qh Tryz.func18 Tryz.ntmps18 fun σ n0 hcl hft => ?_
        repeat' (first | ((first | ((with_reducible refine qf (fun hg => ?_) (fun hg => ?_)) <;> (try simp only [hg]) <;> (try simp only [gS] at hg) <;> (try (first | simp only [eq_false hg, gI] | simp only [eq_true hg, gI]))) | refine Stp.m ?_ | refine qw c3 ?_ | refine qi ?_ | refine agH ?_) <;> (try simp (disch := first | omega | simp) [qd, -qg, -ql, d0, d1, d2, d3, d4, d5, d6, hi])) | refine sideA ?_ | refine qc fun K hK => ?_ | refine qa ?_ | refine qe ?_ | refine qb ?_ | (refine hK _ ?_; clear hK K) | clear hK K)
      · refine qh Tryz.func18 Tryz.ntmps18 fun σ n0 hcl hft => ?_
        have hl1 : (cols.length : Int) + 1 ≤ 1000 := by omega
        repeat' (first | ((first | with_reducible refine qs ?_ | ((with_reducible refine qf (fun hg => ?_) (fun hg => ?_)) <;> (try simp only [hg]) <;> (try simp only [gS] at hg) <;> (try (first | simp only [eq_false hg, gI] | simp only [eq_true hg, gI]))) | refine Stp.m ?_ | refine qw c3 ?_ | refine awp_regionW (id := 9) 10 (by rfl) ?_ | refine qi ?_ | refine agH ?_) <;> (try simp (disch := first | omega | simp) [qd, -qg, -ql, d0, d1, d2, d3, d4, d5, d6, hi, List.take_succ_cons, List.drop_succ_cons])) | refine sideA ?_ | refine qc fun K hK => ?_ | refine qa ?_ | refine qe ?_ | refine qb ?_ | (refine hK _ ?_; clear hK K) | clear hK K)
        · refine ⟨?_⟩
          repeat' (first | ((first | ((with_reducible refine qf (fun hg => ?_) (fun hg => ?_)) <;> (try simp only [hg]) <;> (try simp only [gS] at hg) <;> (try (first | simp only [eq_false hg, gI] | simp only [eq_true hg, gI]))) | refine Stp.m ?_) <;> (try simp (disch := first | omega | simp) [qd, -qg, -ql])) | refine sideA ?_ | refine qc fun K hK => ?_ | refine qa ?_ | refine qe ?_ | refine qb ?_ | (refine hK _ ?_; clear hK K) | clear hK K)
        · refine ⟨qq 4 1 (k := cols.length + 1) (by simp) (by rfl) (by simp) ?_⟩
          repeat' (first | ((first | ((with_reducible refine qf (fun hg => ?_) (fun hg => ?_)) <;> (try simp only [hg]) <;> (try simp only [gS] at hg) <;> (try (first | simp only [eq_false hg, gI] | simp only [eq_true hg, gI]))) | refine Stp.m ?_) <;> (try simp (disch := first | omega | simp) [qd, -qg, -ql])) | refine sideA ?_ | refine qc fun K hK => ?_ | refine qa ?_ | refine qe ?_ | refine qb ?_ | (refine hK _ ?_; clear hK K) | clear hK K)
          rw [if_neg (by assumption)]
          exact ⟨by rw [List.map_append]; rfl, rfl⟩
    · rw [if_neg h0] at h ⊢
      have hn0 : (x.op == 0) = false := beq_eq_false_iff_ne.2 h0
      by_cases hi : 0 ≤ findP cols x.a.toList
      · obtain ⟨i, hi1, hi2, -⟩ := findI hi
        rw [hi1] at c2
        by_cases hb : x.op = 4 ∧ findP cols x.b.toList < 0
        · obtain ⟨hb1, hb2⟩ := hb
          have d0 : (x.op == 0) = false := beq_eq_false_iff_ne.2 (by omega)
          have d1 : (x.op == 1) = false := beq_eq_false_iff_ne.2 (by omega)
          have d2 : (x.op == 2) = false := beq_eq_false_iff_ne.2 (by omega)
          have d3 : (x.op == 3) = false := beq_eq_false_iff_ne.2 (by omega)
          have d4 : (x.op == 4) = true := by rw [hb1]; rfl
          have d5 : (x.op == 5) = false := beq_eq_false_iff_ne.2 (by omega)
          have d6 : (x.op == 6) = false := beq_eq_false_iff_ne.2 (by omega)
          have hin : ¬ (i : Int) < 0 := by omega
          rw [if_pos (.inr ⟨hb1, hb2⟩)]
          refine qh Tryz.func18 Tryz.ntmps18 fun σ n0 hcl hft => ?_
          repeat' (first | ((first | ((with_reducible refine qf (fun hg => ?_) (fun hg => ?_)) <;> (try simp only [hg]) <;> (try simp only [gS] at hg) <;> (try (first | simp only [eq_false hg, gI] | simp only [eq_true hg, gI]))) | refine Stp.m ?_ | refine qw c3 ?_ | refine qi ?_ | refine agH ?_) <;> (try simp (disch := first | omega | simp) [qd, -qg, -ql, d0, d1, d2, d3, d4, d5, d6, hb2, hin])) | refine sideA ?_ | refine qc fun K hK => ?_ | refine qa ?_ | refine qe ?_ | refine qb ?_ | (refine hK _ ?_; clear hK K) | clear hK K)
        · have e1 : (findP cols x.a.toList).toNat = i := by omega
          have hnb : ¬ (findP cols x.a.toList < 0 ∨ x.op = 4 ∧ findP cols x.b.toList < 0) := fun h => h.elim (fun h => by omega) hb
          have c6 := qgo x cols i hi2 (by omega) (fun h => by by_cases hh : 0 ≤ findP cols x.b.toList; exact hh; exact absurd ⟨h, by omega⟩ hb)
          rw [if_neg hnb, e1] at h ⊢
          by_cases he : qcx x cols i = 0
          · rw [if_neg (by simpa using he)] at h
            simp [h0] at h
          · rw [if_pos he]
            have hin : ¬ (i : Int) < 0 := by omega
            have he' : (qcx x cols i != 0) = true := by simpa using he
            refine qh Tryz.func18 Tryz.ntmps18 fun σ n0 hcl hft => ?_
            repeat' (first | ((first | ((with_reducible refine qf (fun hg => ?_) (fun hg => ?_)) <;> (try simp only [hg]) <;> (try simp only [gS] at hg) <;> (try (first | simp only [eq_false hg, gI] | simp only [eq_true hg, gI]))) | refine Stp.m ?_ | refine qw c3 ?_ | refine qi ?_ | refine agH ?_) <;> (try simp (disch := first | omega | simp) [qd, -qg, -ql, hn0, he', hin])) | refine sideA ?_ | refine qc fun K hK => ?_ | refine qa ?_ | refine qe ?_ | refine qb ?_ | (refine hK _ ?_; clear hK K) | clear hK K)
            all_goals exact absurd ⟨by assumption, by assumption⟩ hb
      · have hi' : findP cols x.a.toList < 0 := by omega
        rw [if_pos (.inl hi')]
        refine qh Tryz.func18 Tryz.ntmps18 fun σ n0 hcl hft => ?_
        repeat' (first | ((first | ((with_reducible refine qf (fun hg => ?_) (fun hg => ?_)) <;> (try simp only [hg]) <;> (try simp only [gS] at hg) <;> (try (first | simp only [eq_false hg, gI] | simp only [eq_true hg, gI]))) | refine Stp.m ?_ | refine qw c3 ?_ | refine qi ?_ | refine agH ?_) <;> (try simp (disch := first | omega | simp) [qd, -qg, -ql, hn0, hi'])) | refine sideA ?_ | refine qc fun K hK => ?_ | refine qa ?_ | refine qe ?_ | refine qb ?_ | (refine hK _ ?_; clear hK K) | clear hK K)
end Go.Proofs.YtbkkjlcclddpdaaGreatDoor

/- Stores of values into elements of own slices: what a value without slices that are nil or grow becomes. -/
namespace Go.Proofs.YtbkkjlcclddpdaaGreatDoor
open Go.RowKit Go.Lib
theorem keeps_all : ∀ {l : List AV}, (∀ z ∈ l, z.pub = z ∧ ∀ c, keep1 c z = z) → ∀ cs, keeps cs l = l
  | [], _, cs => keeps_nil
  | y :: l, h, [] => by rw [keeps_cons0, (h y (by simp)).1, keeps_all (fun z hz => h z (by simp [hz]))]
  | y :: l, h, c :: cs => by rw [keeps_cons, (h y (by simp)).2, keeps_all (fun z hz => h z (by simp [hz]))]
theorem keep_all {l : List AV} (h : ∀ z ∈ l, z.pub = z ∧ ∀ c, keep1 c z = z) (hp : (AV.agg l).pub = .agg l) (x : AV) (o : Nat) : x.keep o (.agg l) = .agg l := by
  cases x <;> first | exact hp | (rw [keep_agg, keeps_all h])
@[simp] theorem Val.av_keep (x : AV) (o : Nat) (v : Val) : x.keep o v.av = v.av := by
  have h := v.av_pub
  unfold Val.av at h ⊢
  exact keep_all (by simp) h x o
end Go.Proofs.YtbkkjlcclddpdaaGreatDoor
