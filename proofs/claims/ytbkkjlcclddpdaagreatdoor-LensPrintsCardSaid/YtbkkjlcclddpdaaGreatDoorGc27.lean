/- Walks of layer 14's reference: names, right steps, the text of values and steps. -/
import Derived.Test.YtbkkjlcclddpdaaGreatDoorGc11
import Derived.Test.YtbkkjlcclddpdaaGreatDoorGc22
import Derived.Test.YtbkkjlcclddpdaaGreatDoorGc23
import Derived.Test.YtbkkjlcclddpdaaGreatDoorGc24
import Derived.Test.YtbkkjlcclddpdaaGreatDoorGc26
set_option linter.unusedSimpArgs false
set_option linter.unusedVariables false
namespace Go.Proofs.YtbkkjlcclddpdaaGreatDoor
open Go.RowKit Go.Lib
theorem rlname_g (s : ByteArray) (hs : s.size ≤ 1000000) : Gives Tryz.prog 53 [.str s] (.bool (ownA s)) := by
  refine qj Tryz.func53 Tryz.ntmps53 fun σ n0 hcl hft => ?_
  repeat' (first | ((first | ((with_reducible refine qf (fun hg => ?_) (fun hg => ?_)) <;> (try simp only [hg]) <;> (try simp only [gS] at hg) <;> (try (first | simp only [eq_false hg, gI] | simp only [eq_true hg, gI]))) | refine Stp.m ?_ | refine acall (rtypeOf_g s) ?_ | refine qo (rtypeOf_g s) ?_ | refine acall (rname_g s hs) ?_ | refine qo (rname_g s hs) ?_) <;> (try simp (disch := first | omega | simp) [qd, -qg, -qm])) | refine sideA ?_ | refine qc fun K hK => ?_ | refine qa ?_ | refine qe ?_ | refine qb ?_ | (refine hK _ ?_; clear hK K) | clear hK K)
  all_goals (first | rfl | (simp_all [ownA, ownP]; done))
def kindB (n : Int) : Bool := decide (0 ≤ n) && decide (n < 3)
theorem rkind_g (n : Int) : Gives Tryz.prog 55 [.int n] (.bool (kindB n)) := by
  unfold kindB
  refine qj Tryz.func55 Tryz.ntmps55 fun σ n0 hcl hft => ?_
  repeat' (first | ((first | ((with_reducible refine qf (fun hg => ?_) (fun hg => ?_)) <;> (try simp only [hg]) <;> (try simp only [gS] at hg) <;> (try (first | simp only [eq_false hg, gI] | simp only [eq_true hg, gI]))) | refine Stp.m ?_) <;> (try simp (disch := first | omega | simp) [qd, -qg, -qm])) | refine sideA ?_ | refine qc fun K hK => ?_ | refine qa ?_ | refine qe ?_ | refine qb ?_ | (refine hK _ ?_; clear hK K) | clear hK K)
  all_goals first | (simp_all; done) | (simp_all; omega) | (simp_all; intro _; omega)
set_option maxRecDepth 4000 in
set_option maxHeartbeats 8000000 in
theorem rlright_g (x : Lens) (hx : qbp x) : Gives Tryz.prog 21 [x.av] (.bool (qv x)) := by
  have n1 := rlname_g x.a hx.a
  have n2 := rlname_g x.b hx.b
  have n3 := rlname_g x.c hx.c
  have n4 := rvright_g x.value
  have n5 := rkind_g x.n
  have ta : aeq Tryz.prog .eql 27 x.value.av (AV.agg [.int 0, .int 0, .str ByteArray.empty]) = some (val0B x.value) := Val.aeq x.value val0
  have sB := qbl x.b
  have sC := qbl x.c
  have sS := qbl x.sep
  have ho : x.op = 0 ∨ x.op = 1 ∨ x.op = 2 ∨ x.op = 3 ∨ x.op = 4 ∨ x.op = 5 ∨ x.op = 6 ∨ (x.op ≠ 0 ∧ x.op ≠ 1 ∧ x.op ≠ 2 ∧ x.op ≠ 3 ∧ x.op ≠ 4 ∧ x.op ≠ 5 ∧ x.op ≠ 6) := by omega
  obtain ⟨R, hR⟩ : ∃ R, qv x = R := ⟨_, rfl⟩
  rw [hR]
  unfold qv usedB sepB at hR
  rcases ho with ho | ho | ho | ho | ho | ho | ho | ⟨o0, o1, o2, o3, o4, o5, o6⟩
  rotate_right
  · simp only [if_neg o0, if_neg o1, if_neg o2, if_neg o3, if_neg o4, if_neg o5, if_neg o6] at hR
    refine qj Tryz.func21 Tryz.ntmps21 fun σ n0 hcl hft => ?_
    repeat' (first | ((first | ((with_reducible refine qf (fun hg => ?_) (fun hg => ?_)) <;> (try simp only [hg]) <;> (try simp only [gS] at hg) <;> (try (first | simp only [eq_false hg, gI] | simp only [eq_true hg, gI]))) | refine Stp.m ?_ | refine ql ?_ | refine agH ?_) <;> (try simp (disch := first | omega | simp) [qd, -qg, -qm, o0, o1, o2, o3, o4, o5, o6, ta, sB, sC, sS])) | refine sideA ?_ | refine qc fun K hK => ?_ | refine qa ?_ | refine qe ?_ | refine qb ?_ | (refine hK _ ?_; clear hK K) | clear hK K)
    all_goals (clear n1 n2 n3 n4 n5 ta hcl hft; subst hR; simp_all)
  all_goals
    simp only [ho, reduceIte, Int.reduceEq] at hR
    refine qj Tryz.func21 Tryz.ntmps21 fun σ n0 hcl hft => ?_
    repeat' (first | ((first | ((with_reducible refine qf (fun hg => ?_) (fun hg => ?_)) <;> (try simp only [hg]) <;> (try simp only [gS] at hg) <;> (try (first | simp only [eq_false hg, gI] | simp only [eq_true hg, gI]))) | refine Stp.m ?_ | refine ql ?_ | refine agH ?_) <;> (try simp (disch := first | omega | simp) [qd, -qg, -qm, ho, ta, sB, sC, sS])) | refine sideA ?_ | refine qc fun K hK => ?_ | refine qa ?_ | refine qe ?_ | refine qb ?_ | (refine hK _ ?_; clear hK K) | clear hK K)
    all_goals (clear n1 n2 n3 n4 n5 ta hcl hft; subst hR; first | (simp_all [kindB]; done) | (rw [Bool.eq_iff_iff]; simp_all [kindB]; done) | (simp_all [kindB]; omega))
end Go.Proofs.YtbkkjlcclddpdaaGreatDoor

/- Walks of layer 14's reference: the text of values and steps. -/
namespace Go.Proofs.YtbkkjlcclddpdaaGreatDoor
open Go.RowKit Go.Lib
set_option maxHeartbeats 2000000 in
theorem rshow_g (v : Val) (hn : i64 v.n) (hs : v.s.size ≤ 1000000) : Gives Tryz.prog 84 [v.av] (.str (qh (showL v))) := by
  have c1 := rvright_g v
  have c2 := rdecimal_g v.n hn
  have c3 := rquote_g v.s hs
  have e1 : qh wTrue = ⟨#[116, 114, 117, 101]⟩ := rfl
  have e2 : qh qdq = ⟨#[102, 97, 108, 115, 101]⟩ := rfl
  unfold showL
  cases hr : qdg v with
  | false =>
    rw [hr] at c1
    refine qj Tryz.func84 Tryz.ntmps84 fun σ n0 hcl hft => ?_
    repeat' (first | ((first | ((with_reducible refine qf (fun hg => ?_) (fun hg => ?_)) <;> (try simp only [hg]) <;> (try simp only [gS] at hg) <;> (try (first | simp only [eq_false hg, gI] | simp only [eq_true hg, gI]))) | refine Stp.m ?_ | refine ql ?_ | refine agH ?_) <;> (try simp (disch := first | omega | simp) [qd, -qg, -qm])) | refine sideA ?_ | refine qc fun K hK => ?_ | refine qa ?_ | refine qe ?_ | refine qb ?_ | (refine hK _ ?_; clear hK K) | clear hK K)
    all_goals (first | rfl | (simp; rfl))
  | true =>
    rw [hr] at c1
    rw [if_pos rfl]
    refine qj Tryz.func84 Tryz.ntmps84 fun σ n0 hcl hft => ?_
    repeat' (first | ((first | ((with_reducible refine qf (fun hg => ?_) (fun hg => ?_)) <;> (try simp only [hg]) <;> (try simp only [gS] at hg) <;> (try (first | simp only [eq_false hg, gI] | simp only [eq_true hg, gI]))) | refine Stp.m ?_ | refine ql ?_ | refine agH ?_) <;> (try simp (disch := first | omega | simp) [qd, -qg, -qm])) | refine sideA ?_ | refine qc fun K hK => ?_ | refine qa ?_ | refine qe ?_ | refine qb ?_ | (refine hK _ ?_; clear hK K) | clear hK K)
    all_goals (clear c1 c2 c3 hcl hft; first | rfl | (simp_all; done) | (simp_all [e1, e2]; done))
set_option maxHeartbeats 2000000 in
theorem rvparse_g (s : ByteArray) (hs : s.size ≤ 1000000) : Gives Tryz.prog 90 [.str s] (.tup [(qdn s.data.toList).1.av, .bool (qdn s.data.toList).2]) := by
  have c2 := rint_g s hs
  have c3 := runquote_g s hs
  have b1 : (s.toList == [116, 114, 117, 101]) = decide (s.data.toList = wTrue) := beq_data s wTrue
  have b2 : (s.toList == [102, 97, 108, 115, 101]) = decide (s.data.toList = qdq) := beq_data s qdq
  unfold qdn
  by_cases h1 : s.data.toList = wTrue
  · have b1' := b1.trans (decide_eq_true h1)
    rw [if_pos (.inl h1), decide_eq_true h1]
    refine qj Tryz.func90 Tryz.ntmps90 fun σ n0 hcl hft => ?_
    repeat' (first | ((first | ((with_reducible refine qf (fun hg => ?_) (fun hg => ?_)) <;> (try simp only [hg]) <;> (try simp only [gS] at hg) <;> (try (first | simp only [eq_false hg, gI] | simp only [eq_true hg, gI]))) | refine Stp.m ?_) <;> (try simp (disch := first | omega | simp) [qd, -qg, -qm, b1'])) | refine sideA ?_ | refine qc fun K hK => ?_ | refine qa ?_ | refine qe ?_ | refine qb ?_ | (refine hK _ ?_; clear hK K) | clear hK K)
    all_goals rfl
  · have b1' := b1.trans (decide_eq_false h1)
    by_cases h2 : s.data.toList = qdq
    · have b2' := b2.trans (decide_eq_true h2)
      rw [if_pos (.inr h2), decide_eq_false h1]
      refine qj Tryz.func90 Tryz.ntmps90 fun σ n0 hcl hft => ?_
      repeat' (first | ((first | ((with_reducible refine qf (fun hg => ?_) (fun hg => ?_)) <;> (try simp only [hg]) <;> (try simp only [gS] at hg) <;> (try (first | simp only [eq_false hg, gI] | simp only [eq_true hg, gI]))) | refine Stp.m ?_) <;> (try simp (disch := first | omega | simp) [qd, -qg, -qm, b1', b2'])) | refine sideA ?_ | refine qc fun K hK => ?_ | refine qa ?_ | refine qe ?_ | refine qb ?_ | (refine hK _ ?_; clear hK K) | clear hK K)
      all_goals rfl
    · have b2' := b2.trans (decide_eq_false h2)
      rw [if_neg (by simp [h1, h2])]
      cases hi : intP s.data.toList with
      | some n =>
        rw [hi] at c2
        refine qj Tryz.func90 Tryz.ntmps90 fun σ n0 hcl hft => ?_
        repeat' (first | ((first | ((with_reducible refine qf (fun hg => ?_) (fun hg => ?_)) <;> (try simp only [hg]) <;> (try simp only [gS] at hg) <;> (try (first | simp only [eq_false hg, gI] | simp only [eq_true hg, gI]))) | refine Stp.m ?_ | refine ql ?_ | refine agH ?_) <;> (try simp (disch := first | omega | simp) [qd, -qg, -qm, b1', b2'])) | refine sideA ?_ | refine qc fun K hK => ?_ | refine qa ?_ | refine qe ?_ | refine qb ?_ | (refine hK _ ?_; clear hK K) | clear hK K)
        all_goals rfl
      | none =>
        rw [hi] at c2
        cases hu : unqP hxP s.data.toList with
        | some t =>
          rw [hu] at c3
          have hz := qk t
          by_cases ht : t.length ≤ 200
          · have ht' : (t.length : Int) ≤ 200 := by omega
            dsimp only
            rw [if_pos ht]
            refine qj Tryz.func90 Tryz.ntmps90 fun σ n0 hcl hft => ?_
            repeat' (first | ((first | ((with_reducible refine qf (fun hg => ?_) (fun hg => ?_)) <;> (try simp only [hg]) <;> (try simp only [gS] at hg) <;> (try (first | simp only [eq_false hg, gI] | simp only [eq_true hg, gI]))) | refine Stp.m ?_ | refine ql ?_ | refine agH ?_) <;> (try simp (disch := first | omega | simp) [qd, -qg, -qm, b1', b2', hz, ht, ht'])) | refine sideA ?_ | refine qc fun K hK => ?_ | refine qa ?_ | refine qe ?_ | refine qb ?_ | (refine hK _ ?_; clear hK K) | clear hK K)
            all_goals rfl
          · have ht' : ¬ (t.length : Int) ≤ 200 := by omega
            dsimp only
            rw [if_neg ht]
            refine qj Tryz.func90 Tryz.ntmps90 fun σ n0 hcl hft => ?_
            repeat' (first | ((first | ((with_reducible refine qf (fun hg => ?_) (fun hg => ?_)) <;> (try simp only [hg]) <;> (try simp only [gS] at hg) <;> (try (first | simp only [eq_false hg, gI] | simp only [eq_true hg, gI]))) | refine Stp.m ?_ | refine ql ?_ | refine agH ?_) <;> (try simp (disch := first | omega | simp) [qd, -qg, -qm, b1', b2', hz, ht, ht'])) | refine sideA ?_ | refine qc fun K hK => ?_ | refine qa ?_ | refine qe ?_ | refine qb ?_ | (refine hK _ ?_; clear hK K) | clear hK K)
            all_goals rfl
        | none =>
          rw [hu] at c3
          refine qj Tryz.func90 Tryz.ntmps90 fun σ n0 hcl hft => ?_
          repeat' (first | ((first | ((with_reducible refine qf (fun hg => ?_) (fun hg => ?_)) <;> (try simp only [hg]) <;> (try simp only [gS] at hg) <;> (try (first | simp only [eq_false hg, gI] | simp only [eq_true hg, gI]))) | refine Stp.m ?_ | refine ql ?_ | refine agH ?_) <;> (try simp (disch := first | omega | simp) [qd, -qg, -qm, b1', b2'])) | refine sideA ?_ | refine qc fun K hK => ?_ | refine qa ?_ | refine qe ?_ | refine qb ?_ | (refine hK _ ?_; clear hK K) | clear hK K)
          all_goals rfl
set_option maxRecDepth 4000 in
set_option maxHeartbeats 8000000 in
theorem rline_g (x : Lens) (hx : qbp x) (hn : i64 x.n) (hv : i64 x.value.n) (hs : x.value.s.size ≤ 1000000) (hr : qv x = true) : Gives Tryz.prog 42 [x.av] (.str (qh (lineL x))) := by
  have ho := right_op hr
  have c1 := rshow_g x.value hv hs
  have c2 := rquote_g x.sep hx.sep
  have c3 := qdm x.n
  have c4 := rdecimal_g x.n hn
  have z1 := qk (showL x.value)
  have z2 := qk (qP x.sep.data.toList)
  have z3 := qk (qbc x.n)
  have z4 := qk (itoa x.n)
  have y1 := showL_len x.value hv
  have y2 := qP_len x.sep.data.toList
  rw [qcl] at y2
  have y3 : (qbc x.n).length ≤ 4 := by
    unfold qbc
    split
    · rename_i h
      have : x.n = 0 ∨ x.n = 1 ∨ x.n = 2 := by omega
      rcases this with h | h | h <;> rw [h] <;> decide
    · simp
  have y4 := itoa_length_le x.n hn.1 hn.2
  have hxa := hx.a
  have hxb := hx.b
  have hxc := hx.c
  have hxs := hx.sep
  have hst := qbl x.b
  have hbE : x.op = 2 ∨ x.op = 3 ∨ x.op = 4 → strE x.b = false := fun h => by
    unfold qv usedB at hr
    have hB : ownA x.b = true := by
      rcases h with h | h | h <;> simp only [h, reduceIte, Int.reduceEq, Bool.and_eq_true] at hr
      · exact hr.2.1.1.1.1
      · exact hr.2.1.1.1.1
      · exact hr.2.1.1.1.1.1
    cases hE : strE x.b with
    | false => rfl
    | true =>
      unfold strE at hE
      unfold ownA at hB
      rw [of_decide_eq_true hE] at hB
      revert hB; decide
  obtain ⟨R, hR⟩ : ∃ R, lineL x = R := ⟨_, rfl⟩
  rw [hR]
  unfold lineL unitL sepL at hR
  generalize showL x.value = V at *
  generalize qP x.sep.data.toList = Q at *
  generalize qbc x.n = T at *
  generalize itoa x.n = D at *
  cases hb : strE x.b with
  | true =>
    have hb' : x.b.toList.isEmpty = true := hst.trans hb
    rw [hb, if_pos rfl] at hR
    have ho : x.op = 0 ∨ x.op = 1 ∨ x.op = 5 ∨ x.op = 6 := by
      have : ¬ (x.op = 2 ∨ x.op = 3 ∨ x.op = 4) := fun h => by rw [hbE h] at hb; cases hb
      omega
    clear hbE hr
    rcases ho with ho | ho | ho | ho <;> simp only [ho, if_pos, if_neg, reduceIte, Int.reduceEq] at hR
    all_goals
      refine qj Tryz.func42 Tryz.ntmps42 fun σ n0 hcl hft => ?_
      repeat' (first | ((first | ((with_reducible refine qf (fun hg => ?_) (fun hg => ?_)) <;> (try simp only [hg]) <;> (try simp only [gS] at hg) <;> (try (first | simp only [eq_false hg, gI] | simp only [eq_true hg, gI]))) | refine Stp.m ?_ | refine ql ?_ | refine agH ?_) <;> (try simp (disch := first | omega | simp) [qd, -qg, -qm, ho, hb', z1, z2, z3, z4])) | refine sideA ?_ | refine qc fun K hK => ?_ | refine qa ?_ | refine qe ?_ | refine qb ?_ | (refine hK _ ?_; clear hK K) | clear hK K)
      all_goals (rw [← hR]; apply bA_eq; simp [wAdd, wDrop, qbx, qdc, wJoin, qby, qcu])
  | false =>
    have hb' : x.b.toList.isEmpty = false := hst.trans hb
    simp only [hb, Bool.false_eq_true, if_false] at hR
    clear hbE hr
    rcases ho with ho | ho | ho | ho | ho | ho | ho <;> simp only [ho, if_pos, if_neg, reduceIte, Int.reduceEq] at hR
    all_goals
      refine qj Tryz.func42 Tryz.ntmps42 fun σ n0 hcl hft => ?_
      repeat' (first | ((first | ((with_reducible refine qf (fun hg => ?_) (fun hg => ?_)) <;> (try simp only [hg]) <;> (try simp only [gS] at hg) <;> (try (first | simp only [eq_false hg, gI] | simp only [eq_true hg, gI]))) | refine Stp.m ?_ | refine ql ?_ | refine agH ?_) <;> (try simp (disch := first | omega | simp) [qd, -qg, -qm, ho, hb', z1, z2, z3, z4])) | refine sideA ?_ | refine qc fun K hK => ?_ | refine qa ?_ | refine qe ?_ | refine qb ?_ | (refine hK _ ?_; clear hK K) | clear hK K)
      all_goals (rw [← hR]; apply bA_eq; simp [wAdd, wDrop, qbx, qdc, wJoin, qby, qcu])
set_option maxHeartbeats 4000000 in
theorem rlprint_g (l : List Lens) (hl : ∀ x ∈ l, PrintX x) (hL : l.length ≤ 1000000) (hs : (qr l).length ≤ 1000000000) : Gives Tryz.prog 14 [.sl (l.map Lens.av)] (.str (qh (qbh l))) := by
  obtain ⟨R, hR⟩ : ∃ R, qbh l = R := ⟨_, rfl⟩
  rw [hR]
  unfold qbh at hR
  refine qj Tryz.func14 Tryz.ntmps14 fun σ n0 hcl hft => ?_
  repeat' (first | ((first | ((with_reducible refine qf (fun hg => ?_) (fun hg => ?_)) <;> (try simp only [hg]) <;> (try simp only [gS] at hg) <;> (try (first | simp only [eq_false hg, gI] | simp only [eq_true hg, gI]))) | refine Stp.m ?_) <;> (try simp (disch := first | omega | simp) [qd, -qg, -qm])) | refine sideA ?_ | refine qc fun K hK => ?_ | refine qa ?_ | refine qe ?_ | refine qb ?_ | (refine hK _ ?_; clear hK K) | clear hK K)
  refine qw hcl (fun k : Nat => [(0, .sl (l.map Lens.av)), (3, .str (qh (qr (l.take k)))), (4, .int k)]) (fun k => [])
    (fun k => k ≤ l.length ∧ ∀ j (h : j < l.length), j < k → qv l[j] = true) (fun k => l.length - k) 0 ⟨by omega, fun _ _ h => absurd h (by omega)⟩ (by simp [qr]; rfl) fun k ⟨hk, he⟩ => ?_
  have hle := linesL_le l k
  by_cases hlt : k < l.length
  · have hx := hl _ (List.getElem_mem hlt)
    have c1 := rlright_g l[k] hx.l
    by_cases hr : qv l[k] = true
    · rw [hr] at c1
      have c2 := rline_g l[k] hx.l hx.n hx.v hx.s hr
      have hle2 := linesL_le l (k + 1)
      have ht := linesL_take hlt
      have hzn := qk (lineL l[k])
      have hzp := qk (qr (l.take k))
      have hln2 : (qr (l.take (k + 1))).length = (qr (l.take k)).length + ((lineL l[k]).length + 1) := by rw [ht, List.length_append, List.length_append]; rfl
      have hle3 : (qr (l.take k)).length + (lineL l[k]).length + 1 ≤ 1000000000 := by omega
      repeat' (first | ((first | ((with_reducible refine qf (fun hg => ?_) (fun hg => ?_)) <;> (try simp only [hg]) <;> (try simp only [gS] at hg) <;> (try (first | simp only [eq_false hg, gI] | simp only [eq_true hg, gI]))) | refine Stp.m ?_ | refine ql ?_ | refine agH ?_) <;> (try simp (disch := first | omega | simp) [qd, -qg, -qm, hlt, hzn, hzp])) | refine sideA ?_ | refine qc fun K hK => ?_ | refine qa ?_ | refine qe ?_ | refine qb ?_ | (refine hK _ ?_; clear hK K) | clear hK K)
      refine ⟨k + 1, ⟨by omega, fun j h hj => ?_⟩, by omega, ?_, by simp⟩
      · by_cases hjk : j = k
        · subst hjk; exact hr
        · exact he j h (by omega)
      · rw [ht]; apply bA_eq; simp
    · have hr' : qv l[k] = false := by simpa using hr
      rw [hr'] at c1
      have hall : ¬ l.all qv = true := fun h => hr (List.all_eq_true.1 h _ (List.getElem_mem hlt))
      rw [if_neg hall] at hR
      subst hR
      repeat' (first | ((first | ((with_reducible refine qf (fun hg => ?_) (fun hg => ?_)) <;> (try simp only [hg]) <;> (try simp only [gS] at hg) <;> (try (first | simp only [eq_false hg, gI] | simp only [eq_true hg, gI]))) | refine Stp.m ?_ | refine ql ?_ | refine agH ?_) <;> (try simp (disch := first | omega | simp) [qd, -qg, -qm, hlt])) | refine sideA ?_ | refine qc fun K hK => ?_ | refine qa ?_ | refine qe ?_ | refine qb ?_ | (refine hK _ ?_; clear hK K) | clear hK K)
      rfl
  · obtain rfl : k = l.length := by omega
    have hall : l.all qv = true := List.all_eq_true.2 fun x hx => by
      obtain ⟨j, hj, rfl⟩ := List.mem_iff_getElem.1 hx
      exact he j hj hj
    rw [if_pos hall] at hR
    rw [List.take_length]
    repeat' (first | ((first | ((with_reducible refine qf (fun hg => ?_) (fun hg => ?_)) <;> (try simp only [hg]) <;> (try simp only [gS] at hg) <;> (try (first | simp only [eq_false hg, gI] | simp only [eq_true hg, gI]))) | refine Stp.m ?_) <;> (try simp (disch := first | omega | simp) [qd, -qg, -qm, hlt])) | refine sideA ?_ | refine qc fun K hK => ?_ | refine qa ?_ | refine qe ?_ | refine qb ?_ | (refine hK _ ?_; clear hK K) | clear hK K)
    rw [hR]
end Go.Proofs.YtbkkjlcclddpdaaGreatDoor

/- Walk of lens.words. -/
namespace Go.Proofs.YtbkkjlcclddpdaaGreatDoor
open Go.RowKit Go.Lib
def wG : List UInt8 → Bool → Bool → List UInt8 → List (List UInt8)
  | [], _, _, cur => [cur]
  | c :: s, q, e, cur =>
    if e = true then wG s q false (cur ++ [c])
    else if c = 92 ∧ q = true then wG s q true (cur ++ [c])
    else if c = 34 then wG s (!q) false (cur ++ [c])
    else if c = 32 ∧ q = false then cur :: wG s q false []
    else wG s q false (cur ++ [c])
def qea (s : List UInt8) : List (List UInt8) := wG s false false [] ++ [[], [], [], []]
def wrdA (l : List (List UInt8)) : List AV := l.map fun x => AV.str (qh x)
@[simp] theorem wrdA_cls (l : List (List UInt8)) (m : Nat) : AV.cls m (wrdA l) := AV.cls_map (f := fun x => AV.str (qh x)) (fun _ => by simp) l
@[simp] theorem wrdA_wid (l : List (List UInt8)) : AV.wid (wrdA l) 1 := AV.wid_map (f := fun x => AV.str (qh x)) (fun _ => rfl) l
@[simp] theorem wrdA_elms (l : List (List UInt8)) : AV.elms (wrdA l) := AV.elms_map (f := fun x => AV.str (qh x)) (fun _ => rfl) l
@[simp] theorem wrdA_len (l : List (List UInt8)) : (wrdA l).length = l.length := by simp [wrdA]
theorem ext_sub (s : ByteArray) (a b : Nat) (hb : b ≤ s.size) : s.extract a b = qh ((s.data.toList.drop a).take (b - a)) := by
  apply bA_eq
  rw [ByteArray.data_extract, Array.toList_extract]
theorem wG_len : ∀ (s : List UInt8) (q e : Bool) (cur : List UInt8), (wG s q e cur).length ≤ s.length + 1
  | [], _, _, _ => by rw [wG]; simp
  | c :: s, q, e, cur => by
    rw [wG]
    repeat' split
    all_goals (try rw [List.length_cons]); (first | (have := wG_len s q false (cur ++ [c]); simp; omega) | (have := wG_len s q true (cur ++ [c]); simp; omega) | (have := wG_len s (!q) false (cur ++ [c]); simp; omega) | (have := wG_len s q false []; simp; omega))
theorem wG_sum : ∀ (s : List UInt8) (q e : Bool) (cur : List UInt8), ((wG s q e cur).map List.length).sum ≤ s.length + cur.length
  | [], _, _, _ => by rw [wG]; simp
  | c :: s, q, e, cur => by
    rw [wG]
    repeat' split
    all_goals first
      | (have := wG_sum s q false (cur ++ [c]); simp at this ⊢; omega)
      | (have := wG_sum s q true (cur ++ [c]); simp at this ⊢; omega)
      | (have := wG_sum s (!q) false (cur ++ [c]); simp at this ⊢; omega)
      | (have := wG_sum s q false []; simp at this ⊢; omega)
theorem take_more {S : List UInt8} {fr i : Nat} (h : fr ≤ i) (hi : i < S.length) : (S.drop fr).take (i + 1 - fr) = (S.drop fr).take (i - fr) ++ [S[i]] := by
  have e : i + 1 - fr = i - fr + 1 := by omega
  have h2 : i - fr < (S.drop fr).length := by rw [List.length_drop]; omega
  rw [e, List.take_succ_eq_append_getElem h2, List.getElem_drop]
  congr 3
  omega
theorem u8_iff (c d : UInt8) : c = d ↔ (c.toNat : Int) = (d.toNat : Int) := ⟨fun h => by rw [h], fun h => UInt8.toNat_inj.1 (by omega)⟩
structure WSt where
  i : Nat
  fr : Nat
  q : Bool
  out : List (List UInt8)
set_option maxHeartbeats 4000000 in
theorem words_g (s : ByteArray) (hs : s.size ≤ 1000000) : Gives Tryz.prog 78 [.str s] (.sl (wrdA (qea s.data.toList))) := by
  obtain ⟨S, hS⟩ : ∃ S, s.data.toList = S := ⟨_, rfl⟩
  have hsz : S.length = s.size := by rw [← hS, qcl]
  rw [hS]
  unfold qea
  obtain ⟨W, hW⟩ : ∃ W, wG S false false [] = W := ⟨_, rfl⟩
  have hWl := wG_len S false false []
  rw [hW] at hWl ⊢
  refine qj Tryz.func78 Tryz.ntmps78 fun σ n0 hcl hft => ?_
  repeat' (first | ((first | ((with_reducible refine qf (fun hg => ?_) (fun hg => ?_)) <;> (try simp only [hg]) <;> (try simp only [gS] at hg) <;> (try (first | simp only [eq_false hg, gI] | simp only [eq_true hg, gI]))) | refine Stp.m ?_) <;> (try simp (disch := first | omega | simp) [qd, -qg, -qm])) | refine sideA ?_ | refine qc fun K hK => ?_ | refine qa ?_ | refine qe ?_ | refine qb ?_ | (refine hK _ ?_; clear hK K) | clear hK K)
  refine awp_adoptR 3 9 1 (by simp) ?_
  refine qw hcl (fun x : WSt => [(0, .str s), (3, .gs n0 (wrdA x.out)), (4, .bool x.q), (5, .int x.fr), (6, .int x.i)]) (fun x => [.tail x.out.length 9 1])
    (fun x => x.i ≤ s.size + 1 ∧ x.fr ≤ s.size ∧ x.fr ≤ x.i ∧ x.out.length ≤ x.i ∧ x.out ++ wG (S.drop x.i) x.q false ((S.drop x.fr).take (x.i - x.fr)) = W) (fun x => s.size + 1 - x.i) ⟨0, 0, false, []⟩ ⟨Nat.zero_le _, Nat.zero_le _, Nat.le_refl _, by simp, by simpa using hW⟩ (by simp [wrdA]) fun ⟨i, fr, q, out⟩ ⟨hi, hfr, hfi, hol, hin⟩ => ?_
  dsimp only at hi hfr hfi hol hin ⊢
  have hol2 : out.length ≤ 1000001 := by omega
  by_cases hlt : i < s.size
  · have hlS : i < S.length := by omega
    have hlt2 : i < s.data.size := hlt
    have hget : s.data[i] = S[i] := by simp [← hS]
    have hd : S.drop i = S[i] :: S.drop (i + 1) := List.drop_eq_getElem_cons hlS
    have htk : (S.drop fr).take (i + 1 - fr) = (S.drop fr).take (i - fr) ++ [S[i]] := take_more hfi hlS
    have hx := ext_sub s fr i (by omega)
    rw [hS] at hx
    rw [hd, wG, if_neg (by simp)] at hin
    obtain ⟨c, hc⟩ : ∃ c, S[i] = c := ⟨_, rfl⟩
    rw [hc] at hget htk hin
    have n92 : c = 92 ↔ (c.toNat : Int) = 92 := u8_iff c 92
    have n34 : c = 34 ↔ (c.toNat : Int) = 34 := u8_iff c 34
    have n32 : c = 32 ↔ (c.toNat : Int) = 32 := u8_iff c 32
    by_cases hA : c = 92 ∧ q = true
    · rw [if_pos hA] at hin
      obtain ⟨h1, rfl⟩ := hA
      have g92 := n92.1 h1
      repeat' (first | ((first | ((with_reducible refine qf (fun hg => ?_) (fun hg => ?_)) <;> (try simp only [hg]) <;> (try simp only [gS] at hg) <;> (try (first | simp only [eq_false hg, gI] | simp only [eq_true hg, gI]))) | refine Stp.m ?_) <;> (try simp (disch := first | omega | simp) [qd, -qg, -qm, hlt, hlt2, hget, g92])) | refine sideA ?_ | refine qc fun K hK => ?_ | refine qa ?_ | refine qe ?_ | refine qb ?_ | (refine hK _ ?_; clear hK K) | clear hK K)
      refine ⟨⟨i + 2, fr, true, out⟩, ⟨by show i + 2 ≤ _; omega, hfr, by show fr ≤ i + 2; omega, by show out.length ≤ i + 2; omega, ?_⟩, by show s.size + 1 - (i + 2) < _; omega, rfl, rfl, rfl, rfl, by show (i : Int) + 1 + 1 = ((i + 2 : Nat) : Int); omega⟩
      show out ++ wG (S.drop (i + 2)) true false ((S.drop fr).take (i + 2 - fr)) = W
      rw [← hin, ← htk]
      congr 1
      by_cases h2 : i + 1 < S.length
      · rw [take_more (by omega) h2, List.drop_eq_getElem_cons h2, wG, if_pos rfl]
      · have z1 : S.drop (i + 1) = [] := List.drop_eq_nil_of_le (by omega)
        have z2 : S.drop (i + 2) = [] := List.drop_eq_nil_of_le (by omega)
        have z3 : (S.drop fr).take (i + 2 - fr) = S.drop fr := List.take_of_length_le (by rw [List.length_drop]; omega)
        have z4 : (S.drop fr).take (i + 1 - fr) = S.drop fr := List.take_of_length_le (by rw [List.length_drop]; omega)
        rw [z1, z2, z3, z4]; rfl
    · rw [if_neg hA] at hin
      have hA2 : ((c.toNat : Int) = 92) → q = false := fun h => by cases q; rfl; exact absurd ⟨n92.2 h, rfl⟩ hA
      by_cases h34 : c = 34
      · rw [if_pos h34] at hin
        have g34 := n34.1 h34
        have g92 : ¬ (c.toNat : Int) = 92 := by omega
        repeat' (first | ((first | ((with_reducible refine qf (fun hg => ?_) (fun hg => ?_)) <;> (try simp only [hg]) <;> (try simp only [gS] at hg) <;> (try (first | simp only [eq_false hg, gI] | simp only [eq_true hg, gI]))) | refine Stp.m ?_) <;> (try simp (disch := first | omega | simp) [qd, -qg, -qm, hlt, hlt2, hget, g92, g34])) | refine sideA ?_ | refine qc fun K hK => ?_ | refine qa ?_ | refine qe ?_ | refine qb ?_ | (refine hK _ ?_; clear hK K) | clear hK K)
        exact ⟨⟨i + 1, fr, (!q), out⟩, ⟨by show i + 1 ≤ _; omega, hfr, by show fr ≤ i + 1; omega, by show out.length ≤ i + 1; omega, by show out ++ wG (S.drop (i + 1)) (!q) false ((S.drop fr).take (i + 1 - fr)) = W; rw [← hin, htk]⟩, by show s.size + 1 - (i + 1) < _; omega, rfl, rfl, by simp, rfl, rfl⟩
      · rw [if_neg h34] at hin
        have g34 : ¬ (c.toNat : Int) = 34 := fun h => h34 (n34.2 h)
        by_cases hC : c = 32 ∧ q = false
        · rw [if_pos hC] at hin
          obtain ⟨h1, rfl⟩ := hC
          have g32 := n32.1 h1
          have g92 : ¬ (c.toNat : Int) = 92 := by omega
          repeat' (first | ((first | ((with_reducible refine qf (fun hg => ?_) (fun hg => ?_)) <;> (try simp only [hg]) <;> (try simp only [gS] at hg) <;> (try (first | simp only [eq_false hg, gI] | simp only [eq_true hg, gI]))) | refine Stp.m ?_) <;> (try simp (disch := first | omega | simp) [qd, -qg, -qm, hlt, hlt2, hget, g92, g34, g32, hx, hfi, hfr])) | refine sideA ?_ | refine qc fun K hK => ?_ | refine qa ?_ | refine qe ?_ | refine qb ?_ | (refine hK _ ?_; clear hK K) | clear hK K)
          exact ⟨⟨i + 1, i + 1, false, out ++ [(S.drop fr).take (i - fr)]⟩, ⟨by show i + 1 ≤ _; omega, by show i + 1 ≤ _; omega, Nat.le_refl _, by show (out ++ [_]).length ≤ i + 1; simp; omega, by show (out ++ [_]) ++ wG (S.drop (i + 1)) false false ((S.drop (i + 1)).take (i + 1 - (i + 1))) = W; rw [← hin, Nat.sub_self]; simp⟩, by show s.size + 1 - (i + 1) < _; omega, by simp, by simp [wrdA], rfl, rfl, rfl⟩
        · rw [if_neg hC] at hin
          have hC2 : ((c.toNat : Int) = 32) → q = true := fun h => by cases q; exact absurd ⟨n32.2 h, rfl⟩ hC; rfl
          by_cases g92 : (c.toNat : Int) = 92
          · obtain rfl := hA2 g92
            have g32 : ¬ (c.toNat : Int) = 32 := by omega
            repeat' (first | ((first | ((with_reducible refine qf (fun hg => ?_) (fun hg => ?_)) <;> (try simp only [hg]) <;> (try simp only [gS] at hg) <;> (try (first | simp only [eq_false hg, gI] | simp only [eq_true hg, gI]))) | refine Stp.m ?_) <;> (try simp (disch := first | omega | simp) [qd, -qg, -qm, hlt, hlt2, hget, g92, g34, g32])) | refine sideA ?_ | refine qc fun K hK => ?_ | refine qa ?_ | refine qe ?_ | refine qb ?_ | (refine hK _ ?_; clear hK K) | clear hK K)
            exact ⟨⟨i + 1, fr, false, out⟩, ⟨by show i + 1 ≤ _; omega, hfr, by show fr ≤ i + 1; omega, by show out.length ≤ i + 1; omega, by show out ++ wG (S.drop (i + 1)) false false ((S.drop fr).take (i + 1 - fr)) = W; rw [← hin, htk]⟩, by show s.size + 1 - (i + 1) < _; omega, rfl, rfl, rfl, rfl, rfl⟩
          · by_cases g32 : (c.toNat : Int) = 32
            · obtain rfl := hC2 g32
              repeat' (first | ((first | ((with_reducible refine qf (fun hg => ?_) (fun hg => ?_)) <;> (try simp only [hg]) <;> (try simp only [gS] at hg) <;> (try (first | simp only [eq_false hg, gI] | simp only [eq_true hg, gI]))) | refine Stp.m ?_) <;> (try simp (disch := first | omega | simp) [qd, -qg, -qm, hlt, hlt2, hget, g92, g34, g32])) | refine sideA ?_ | refine qc fun K hK => ?_ | refine qa ?_ | refine qe ?_ | refine qb ?_ | (refine hK _ ?_; clear hK K) | clear hK K)
              exact ⟨⟨i + 1, fr, true, out⟩, ⟨by show i + 1 ≤ _; omega, hfr, by show fr ≤ i + 1; omega, by show out.length ≤ i + 1; omega, by show out ++ wG (S.drop (i + 1)) true false ((S.drop fr).take (i + 1 - fr)) = W; rw [← hin, htk]⟩, by show s.size + 1 - (i + 1) < _; omega, rfl, rfl, rfl, rfl, rfl⟩
            · have b92 : ((c.toNat : Int) == 92) = false := by simpa using g92
              have b34 : ((c.toNat : Int) == 34) = false := by simpa using g34
              have b32 : ((c.toNat : Int) == 32) = false := by simpa using g32
              cases q with
              | false =>
                repeat' (first | ((first | ((with_reducible refine qf (fun hg => ?_) (fun hg => ?_)) <;> (try simp only [hg]) <;> (try simp only [gS] at hg) <;> (try (first | simp only [eq_false hg, gI] | simp only [eq_true hg, gI]))) | refine Stp.m ?_) <;> (try simp (disch := first | omega | simp) [qd, -qg, -qm, hlt, hlt2, hget, b92, b34, b32])) | refine sideA ?_ | refine qc fun K hK => ?_ | refine qa ?_ | refine qe ?_ | refine qb ?_ | (refine hK _ ?_; clear hK K) | clear hK K)
                exact ⟨⟨i + 1, fr, false, out⟩, ⟨by show i + 1 ≤ _; omega, hfr, by show fr ≤ i + 1; omega, by show out.length ≤ i + 1; omega, by show out ++ wG (S.drop (i + 1)) false false ((S.drop fr).take (i + 1 - fr)) = W; rw [← hin, htk]⟩, by show s.size + 1 - (i + 1) < _; omega, rfl, rfl, rfl, rfl, rfl⟩
              | true =>
                repeat' (first | ((first | ((with_reducible refine qf (fun hg => ?_) (fun hg => ?_)) <;> (try simp only [hg]) <;> (try simp only [gS] at hg) <;> (try (first | simp only [eq_false hg, gI] | simp only [eq_true hg, gI]))) | refine Stp.m ?_) <;> (try simp (disch := first | omega | simp) [qd, -qg, -qm, hlt, hlt2, hget, b92, b34, b32])) | refine sideA ?_ | refine qc fun K hK => ?_ | refine qa ?_ | refine qe ?_ | refine qb ?_ | (refine hK _ ?_; clear hK K) | clear hK K)
                exact ⟨⟨i + 1, fr, true, out⟩, ⟨by show i + 1 ≤ _; omega, hfr, by show fr ≤ i + 1; omega, by show out.length ≤ i + 1; omega, by show out ++ wG (S.drop (i + 1)) true false ((S.drop fr).take (i + 1 - fr)) = W; rw [← hin, htk]⟩, by show s.size + 1 - (i + 1) < _; omega, rfl, rfl, rfl, rfl, rfl⟩
  · have hd : S.drop i = [] := List.drop_eq_nil_of_le (by omega)
    rw [hd, wG, List.take_of_length_le (by rw [List.length_drop]; omega)] at hin
    have hx := ext_sub s fr s.size (Nat.le_refl _)
    rw [hS, List.take_of_length_le (by rw [List.length_drop]; omega)] at hx
    repeat' (first | ((first | ((with_reducible refine qf (fun hg => ?_) (fun hg => ?_)) <;> (try simp only [hg]) <;> (try simp only [gS] at hg) <;> (try (first | simp only [eq_false hg, gI] | simp only [eq_true hg, gI]))) | refine Stp.m ?_) <;> (try simp (disch := first | omega | simp) [qd, -qg, -qm, hlt, hx, hfr])) | refine sideA ?_ | refine qc fun K hK => ?_ | refine qa ?_ | refine qe ?_ | refine qb ?_ | (refine hK _ ?_; clear hK K) | clear hK K)
    rw [← hin]; simp [wrdA]; rfl
end Go.Proofs.YtbkkjlcclddpdaaGreatDoor

/- Walk of lens.read. -/
namespace Go.Proofs.YtbkkjlcclddpdaaGreatDoor
open Go.RowKit Go.Lib
def qfh : List (List UInt8) := [wAdd, wDrop, qbx, qdc, wJoin, qby, qcu]
def opL (w : List UInt8) : Int := if w = wAdd then 0 else if w = wDrop then 1 else if w = qbx then 2 else if w = qdc then 3 else if w = wJoin then 4 else if w = qby then 5 else if w = qcu then 6 else -1
theorem op_idx (s : ByteArray) : idxP (fun x => s.toList == x.toList) (qfh.map qh) = opL s.toList := by
  simp only [qfh, List.map_cons, List.map_nil, qej, idxP, qga, opL, beq_iff_eq]
  by_cases h0 : s.toList = wAdd
  · simp [h0]
  by_cases h1 : s.toList = wDrop
  · simp [h0, h1]
    try decide
  by_cases h2 : s.toList = qbx
  · simp [h0, h1, h2]
    try decide
  by_cases h3 : s.toList = qdc
  · simp [h0, h1, h2, h3]
    try decide
  by_cases h4 : s.toList = wJoin
  · simp [h0, h1, h2, h3, h4]
    try decide
  by_cases h5 : s.toList = qby
  · simp [h0, h1, h2, h3, h4, h5]
    try decide
  by_cases h6 : s.toList = qcu
  · simp [h0, h1, h2, h3, h4, h5, h6]
    try decide
  simp [h0, h1, h2, h3, h4, h5, h6]
theorem opL_cases (w : List UInt8) : opL w = 0 ∨ opL w = 1 ∨ opL w = 2 ∨ opL w = 3 ∨ opL w = 4 ∨ opL w = 5 ∨ opL w = 6 ∨ opL w = -1 := by
  unfold opL
  repeat' split
  all_goals omega
def readW (a b c d e : List UInt8) : Lens :=
  let o := opL a
  if o = 0 then ⟨o, qh b, qh d, ⟨#[]⟩, ⟨#[]⟩, 0, (qdn c).1⟩
  else if o = 1 then ⟨o, qh b, ⟨#[]⟩, ⟨#[]⟩, ⟨#[]⟩, 0, (qdn c).1⟩
  else if o = 2 then ⟨o, qh b, qh c, ⟨#[]⟩, ⟨#[]⟩, 0, val0⟩
  else if o = 3 then ⟨o, qh b, qh d, qh e, qh ((unqP hxP c).getD []), 0, val0⟩
  else if o = 4 then ⟨o, qh b, qh c, qh e, qh ((unqP hxP d).getD []), 0, val0⟩
  else if o = 5 then ⟨o, qh b, ⟨#[]⟩, ⟨#[]⟩, ⟨#[]⟩, (qbw c).1, (qdn d).1⟩
  else if o = 6 then ⟨o, qh b, qh d, ⟨#[]⟩, ⟨#[]⟩, (intP c).getD 0, val0⟩
  else ⟨o, qh b, ⟨#[]⟩, ⟨#[]⟩, ⟨#[]⟩, 0, val0⟩
def readL (w : List (List UInt8)) : Lens := readW (w.getD 0 []) (w.getD 1 []) (w.getD 2 []) (w.getD 3 []) (w.getD 4 [])
def readP (s : List UInt8) : Lens := readL (qea s)
theorem words_five (s : List UInt8) : ∃ a b c d e r, qea s = a :: b :: c :: d :: e :: r := by
  unfold qea
  have h : wG s false false [] ≠ [] := by
    have : ∀ (s : List UInt8) q e cur, wG s q e cur ≠ [] := fun s => by
      induction s with
      | nil => intro q e cur; rw [wG]; simp
      | cons c s ih =>
        intro q e cur
        rw [wG]
        repeat' split
        all_goals first | exact ih _ _ _ | simp
    exact this _ _ _ _
  obtain ⟨a, l, hl⟩ := List.exists_cons_of_ne_nil h
  rw [hl]
  match l with
  | [] => exact ⟨_, _, _, _, _, _, rfl⟩
  | [_] => exact ⟨_, _, _, _, _, _, rfl⟩
  | [_, _] => exact ⟨_, _, _, _, _, _, rfl⟩
  | [_, _, _] => exact ⟨_, _, _, _, _, _, rfl⟩
  | _ :: _ :: _ :: _ :: _ => exact ⟨_, _, _, _, _, _, rfl⟩
theorem words_le (s : List UInt8) : ∀ w ∈ qea s, w.length ≤ s.length := by
  have h1 := wG_sum s false false []
  unfold qea
  intro w hw
  rcases List.mem_append.1 hw with h | h
  · have : ∀ l : List (List UInt8), w ∈ l → w.length ≤ (l.map List.length).sum := fun l => by
      induction l with
      | nil => intro h; cases h
      | cons a l ih =>
        intro h
        rw [List.map_cons, List.sum_cons]
        rcases List.mem_cons.1 h with rfl | h
        · omega
        · have := ih h; omega
    have := this _ h
    simp at h1
    omega
  · simp at h; subst h; simp
theorem qeq (a : List UInt8) (l : List (List UInt8)) : wrdA (a :: l) = AV.str (qh a) :: wrdA l := rfl
end Go.Proofs.YtbkkjlcclddpdaaGreatDoor

/- Walk of lens.read, an operation each (printed by gen_rd.py). -/
namespace Go.Proofs.YtbkkjlcclddpdaaGreatDoor
open Go.RowKit Go.Lib
theorem ba_list (l : List UInt8) : (qh l).data.toList = l := rfl
theorem qcf (l : List UInt8) : (qh l).toList = l := qga l
set_option maxRecDepth 4000 in
set_option maxHeartbeats 4000000 in
theorem read_0 (s : ByteArray) (hs : s.size ≤ 1000000) (a b c d e : List UInt8) (r : List (List UInt8)) (hw : qea s.data.toList = a :: b :: c :: d :: e :: r) (ho : opL a = 0) (hc : c.length ≤ 1000000) (hd : d.length ≤ 1000000) (R : Lens) (hR : readW a b c d e = R) : Gives Tryz.prog 40 [.str s] R.av := by
  have c1 := words_g s hs
  rw [hw] at c1
  simp only [qeq] at c1
  have c2 := idxS_g (qfh.map qh) (qh a) (by decide)
  rw [op_idx, qcf, ho] at c2
  have c3 := fun x : List UInt8 => qt (qh x)
  have c4 := qch (qh c) (by rw [qk]; exact hc)
  have c5 := qch (qh d) (by rw [qk]; exact hd)
  have c6 := qt (qh c) (by rw [qk]; exact hc)
  have c7 := qt (qh d) (by rw [qk]; exact hd)
  have c8 := qeh (qh c)
  have c9 := int_g (qh c) (by rw [qk]; exact hc)
  rw [ba_list] at c4 c5 c6 c7 c9
  rw [qcf] at c8
  unfold readW at hR
  simp only [ho, if_pos, if_neg, reduceIte, Int.reduceEq] at hR
  refine qj Tryz.func40 Tryz.ntmps40 fun σ n0 hcl hft => ?_
  repeat' (first | ((first | ((with_reducible refine qf (fun hg => ?_) (fun hg => ?_)) <;> (try simp only [hg]) <;> (try simp only [gS] at hg) <;> (try (first | simp only [eq_false hg, gI] | simp only [eq_true hg, gI]))) | refine Stp.m ?_ | refine ql ?_ | refine agH ?_) <;> (try simp (disch := first | omega | simp) [qd, -qg, -qm])) | refine sideA ?_ | refine qc fun K hK => ?_ | refine qa ?_ | refine qe ?_ | refine qb ?_ | (refine hK _ ?_; clear hK K) | clear hK K)
  rw [← hR]; rfl
set_option maxRecDepth 4000 in
set_option maxHeartbeats 4000000 in
theorem read_1 (s : ByteArray) (hs : s.size ≤ 1000000) (a b c d e : List UInt8) (r : List (List UInt8)) (hw : qea s.data.toList = a :: b :: c :: d :: e :: r) (ho : opL a = 1) (hc : c.length ≤ 1000000) (hd : d.length ≤ 1000000) (R : Lens) (hR : readW a b c d e = R) : Gives Tryz.prog 40 [.str s] R.av := by
  have c1 := words_g s hs
  rw [hw] at c1
  simp only [qeq] at c1
  have c2 := idxS_g (qfh.map qh) (qh a) (by decide)
  rw [op_idx, qcf, ho] at c2
  have c3 := fun x : List UInt8 => qt (qh x)
  have c4 := qch (qh c) (by rw [qk]; exact hc)
  have c5 := qch (qh d) (by rw [qk]; exact hd)
  have c6 := qt (qh c) (by rw [qk]; exact hc)
  have c7 := qt (qh d) (by rw [qk]; exact hd)
  have c8 := qeh (qh c)
  have c9 := int_g (qh c) (by rw [qk]; exact hc)
  rw [ba_list] at c4 c5 c6 c7 c9
  rw [qcf] at c8
  unfold readW at hR
  simp only [ho, if_pos, if_neg, reduceIte, Int.reduceEq] at hR
  refine qj Tryz.func40 Tryz.ntmps40 fun σ n0 hcl hft => ?_
  repeat' (first | ((first | ((with_reducible refine qf (fun hg => ?_) (fun hg => ?_)) <;> (try simp only [hg]) <;> (try simp only [gS] at hg) <;> (try (first | simp only [eq_false hg, gI] | simp only [eq_true hg, gI]))) | refine Stp.m ?_ | refine ql ?_ | refine agH ?_) <;> (try simp (disch := first | omega | simp) [qd, -qg, -qm])) | refine sideA ?_ | refine qc fun K hK => ?_ | refine qa ?_ | refine qe ?_ | refine qb ?_ | (refine hK _ ?_; clear hK K) | clear hK K)
  rw [← hR]; rfl
set_option maxRecDepth 4000 in
set_option maxHeartbeats 4000000 in
theorem read_2 (s : ByteArray) (hs : s.size ≤ 1000000) (a b c d e : List UInt8) (r : List (List UInt8)) (hw : qea s.data.toList = a :: b :: c :: d :: e :: r) (ho : opL a = 2) (hc : c.length ≤ 1000000) (hd : d.length ≤ 1000000) (R : Lens) (hR : readW a b c d e = R) : Gives Tryz.prog 40 [.str s] R.av := by
  have c1 := words_g s hs
  rw [hw] at c1
  simp only [qeq] at c1
  have c2 := idxS_g (qfh.map qh) (qh a) (by decide)
  rw [op_idx, qcf, ho] at c2
  have c3 := fun x : List UInt8 => qt (qh x)
  have c4 := qch (qh c) (by rw [qk]; exact hc)
  have c5 := qch (qh d) (by rw [qk]; exact hd)
  have c6 := qt (qh c) (by rw [qk]; exact hc)
  have c7 := qt (qh d) (by rw [qk]; exact hd)
  have c8 := qeh (qh c)
  have c9 := int_g (qh c) (by rw [qk]; exact hc)
  rw [ba_list] at c4 c5 c6 c7 c9
  rw [qcf] at c8
  unfold readW at hR
  simp only [ho, if_pos, if_neg, reduceIte, Int.reduceEq] at hR
  refine qj Tryz.func40 Tryz.ntmps40 fun σ n0 hcl hft => ?_
  repeat' (first | ((first | ((with_reducible refine qf (fun hg => ?_) (fun hg => ?_)) <;> (try simp only [hg]) <;> (try simp only [gS] at hg) <;> (try (first | simp only [eq_false hg, gI] | simp only [eq_true hg, gI]))) | refine Stp.m ?_ | refine ql ?_ | refine agH ?_) <;> (try simp (disch := first | omega | simp) [qd, -qg, -qm])) | refine sideA ?_ | refine qc fun K hK => ?_ | refine qa ?_ | refine qe ?_ | refine qb ?_ | (refine hK _ ?_; clear hK K) | clear hK K)
  rw [← hR]; rfl
set_option maxRecDepth 4000 in
set_option maxHeartbeats 4000000 in
theorem read_3 (s : ByteArray) (hs : s.size ≤ 1000000) (a b c d e : List UInt8) (r : List (List UInt8)) (hw : qea s.data.toList = a :: b :: c :: d :: e :: r) (ho : opL a = 3) (hc : c.length ≤ 1000000) (hd : d.length ≤ 1000000) (R : Lens) (hR : readW a b c d e = R) : Gives Tryz.prog 40 [.str s] R.av := by
  have c1 := words_g s hs
  rw [hw] at c1
  simp only [qeq] at c1
  have c2 := idxS_g (qfh.map qh) (qh a) (by decide)
  rw [op_idx, qcf, ho] at c2
  have c3 := fun x : List UInt8 => qt (qh x)
  have c4 := qch (qh c) (by rw [qk]; exact hc)
  have c5 := qch (qh d) (by rw [qk]; exact hd)
  have c6 := qt (qh c) (by rw [qk]; exact hc)
  have c7 := qt (qh d) (by rw [qk]; exact hd)
  have c8 := qeh (qh c)
  have c9 := int_g (qh c) (by rw [qk]; exact hc)
  rw [ba_list] at c4 c5 c6 c7 c9
  rw [qcf] at c8
  unfold readW at hR
  simp only [ho, if_pos, if_neg, reduceIte, Int.reduceEq] at hR
  refine qj Tryz.func40 Tryz.ntmps40 fun σ n0 hcl hft => ?_
  repeat' (first | ((first | ((with_reducible refine qf (fun hg => ?_) (fun hg => ?_)) <;> (try simp only [hg]) <;> (try simp only [gS] at hg) <;> (try (first | simp only [eq_false hg, gI] | simp only [eq_true hg, gI]))) | refine Stp.m ?_ | refine ql ?_ | refine agH ?_) <;> (try simp (disch := first | omega | simp) [qd, -qg, -qm])) | with_reducible refine qbq (id := 13) [.unborn] [.R, .R, .R, .R, .R, .R, .R, .W, .R, .W] (by kernel_rfl) (by kernel_rfl) (by simp) ?_ | refine sideA ?_ | refine qc fun K hK => ?_ | refine qa ?_ | refine qe ?_ | refine qb ?_ | (refine hK _ ?_; clear hK K) | clear hK K)
  rw [← hR]; rfl
set_option maxRecDepth 4000 in
set_option maxHeartbeats 4000000 in
theorem read_4 (s : ByteArray) (hs : s.size ≤ 1000000) (a b c d e : List UInt8) (r : List (List UInt8)) (hw : qea s.data.toList = a :: b :: c :: d :: e :: r) (ho : opL a = 4) (hc : c.length ≤ 1000000) (hd : d.length ≤ 1000000) (R : Lens) (hR : readW a b c d e = R) : Gives Tryz.prog 40 [.str s] R.av := by
  have c1 := words_g s hs
  rw [hw] at c1
  simp only [qeq] at c1
  have c2 := idxS_g (qfh.map qh) (qh a) (by decide)
  rw [op_idx, qcf, ho] at c2
  have c3 := fun x : List UInt8 => qt (qh x)
  have c4 := qch (qh c) (by rw [qk]; exact hc)
  have c5 := qch (qh d) (by rw [qk]; exact hd)
  have c6 := qt (qh c) (by rw [qk]; exact hc)
  have c7 := qt (qh d) (by rw [qk]; exact hd)
  have c8 := qeh (qh c)
  have c9 := int_g (qh c) (by rw [qk]; exact hc)
  rw [ba_list] at c4 c5 c6 c7 c9
  rw [qcf] at c8
  unfold readW at hR
  simp only [ho, if_pos, if_neg, reduceIte, Int.reduceEq] at hR
  refine qj Tryz.func40 Tryz.ntmps40 fun σ n0 hcl hft => ?_
  repeat' (first | ((first | ((with_reducible refine qf (fun hg => ?_) (fun hg => ?_)) <;> (try simp only [hg]) <;> (try simp only [gS] at hg) <;> (try (first | simp only [eq_false hg, gI] | simp only [eq_true hg, gI]))) | refine Stp.m ?_ | refine ql ?_ | refine agH ?_) <;> (try simp (disch := first | omega | simp) [qd, -qg, -qm])) | with_reducible refine qbq (id := 16) [.unborn] [.R, .R, .R, .R, .R, .R, .R, .W, .R, .W] (by kernel_rfl) (by kernel_rfl) (by simp) ?_ | refine sideA ?_ | refine qc fun K hK => ?_ | refine qa ?_ | refine qe ?_ | refine qb ?_ | (refine hK _ ?_; clear hK K) | clear hK K)
  rw [← hR]; rfl
set_option maxRecDepth 4000 in
set_option maxHeartbeats 4000000 in
theorem read_5 (s : ByteArray) (hs : s.size ≤ 1000000) (a b c d e : List UInt8) (r : List (List UInt8)) (hw : qea s.data.toList = a :: b :: c :: d :: e :: r) (ho : opL a = 5) (hc : c.length ≤ 1000000) (hd : d.length ≤ 1000000) (R : Lens) (hR : readW a b c d e = R) : Gives Tryz.prog 40 [.str s] R.av := by
  have c1 := words_g s hs
  rw [hw] at c1
  simp only [qeq] at c1
  have c2 := idxS_g (qfh.map qh) (qh a) (by decide)
  rw [op_idx, qcf, ho] at c2
  have c3 := fun x : List UInt8 => qt (qh x)
  have c4 := qch (qh c) (by rw [qk]; exact hc)
  have c5 := qch (qh d) (by rw [qk]; exact hd)
  have c6 := qt (qh c) (by rw [qk]; exact hc)
  have c7 := qt (qh d) (by rw [qk]; exact hd)
  have c8 := qeh (qh c)
  have c9 := int_g (qh c) (by rw [qk]; exact hc)
  rw [ba_list] at c4 c5 c6 c7 c9
  rw [qcf] at c8
  unfold readW at hR
  simp only [ho, if_pos, if_neg, reduceIte, Int.reduceEq] at hR
  refine qj Tryz.func40 Tryz.ntmps40 fun σ n0 hcl hft => ?_
  repeat' (first | ((first | ((with_reducible refine qf (fun hg => ?_) (fun hg => ?_)) <;> (try simp only [hg]) <;> (try simp only [gS] at hg) <;> (try (first | simp only [eq_false hg, gI] | simp only [eq_true hg, gI]))) | refine Stp.m ?_ | refine ql ?_ | refine agH ?_) <;> (try simp (disch := first | omega | simp) [qd, -qg, -qm])) | refine sideA ?_ | refine qc fun K hK => ?_ | refine qa ?_ | refine qe ?_ | refine qb ?_ | (refine hK _ ?_; clear hK K) | clear hK K)
  rw [← hR]; rfl
set_option maxRecDepth 4000 in
set_option maxHeartbeats 4000000 in
theorem read_6 (s : ByteArray) (hs : s.size ≤ 1000000) (a b c d e : List UInt8) (r : List (List UInt8)) (hw : qea s.data.toList = a :: b :: c :: d :: e :: r) (ho : opL a = 6) (hc : c.length ≤ 1000000) (hd : d.length ≤ 1000000) (R : Lens) (hR : readW a b c d e = R) : Gives Tryz.prog 40 [.str s] R.av := by
  have c1 := words_g s hs
  rw [hw] at c1
  simp only [qeq] at c1
  have c2 := idxS_g (qfh.map qh) (qh a) (by decide)
  rw [op_idx, qcf, ho] at c2
  have c3 := fun x : List UInt8 => qt (qh x)
  have c4 := qch (qh c) (by rw [qk]; exact hc)
  have c5 := qch (qh d) (by rw [qk]; exact hd)
  have c6 := qt (qh c) (by rw [qk]; exact hc)
  have c7 := qt (qh d) (by rw [qk]; exact hd)
  have c8 := qeh (qh c)
  have c9 := int_g (qh c) (by rw [qk]; exact hc)
  rw [ba_list] at c4 c5 c6 c7 c9
  rw [qcf] at c8
  unfold readW at hR
  simp only [ho, if_pos, if_neg, reduceIte, Int.reduceEq] at hR
  refine qj Tryz.func40 Tryz.ntmps40 fun σ n0 hcl hft => ?_
  repeat' (first | ((first | ((with_reducible refine qf (fun hg => ?_) (fun hg => ?_)) <;> (try simp only [hg]) <;> (try simp only [gS] at hg) <;> (try (first | simp only [eq_false hg, gI] | simp only [eq_true hg, gI]))) | refine Stp.m ?_ | refine ql ?_ | refine agH ?_) <;> (try simp (disch := first | omega | simp) [qd, -qg, -qm])) | refine sideA ?_ | refine qc fun K hK => ?_ | refine qa ?_ | refine qe ?_ | refine qb ?_ | (refine hK _ ?_; clear hK K) | clear hK K)
  rw [← hR]; rfl
set_option maxRecDepth 4000 in
set_option maxHeartbeats 4000000 in
theorem read_n (s : ByteArray) (hs : s.size ≤ 1000000) (a b c d e : List UInt8) (r : List (List UInt8)) (hw : qea s.data.toList = a :: b :: c :: d :: e :: r) (ho : opL a = -1) (hc : c.length ≤ 1000000) (hd : d.length ≤ 1000000) (R : Lens) (hR : readW a b c d e = R) : Gives Tryz.prog 40 [.str s] R.av := by
  have c1 := words_g s hs
  rw [hw] at c1
  simp only [qeq] at c1
  have c2 := idxS_g (qfh.map qh) (qh a) (by decide)
  rw [op_idx, qcf, ho] at c2
  have c3 := fun x : List UInt8 => qt (qh x)
  have c4 := qch (qh c) (by rw [qk]; exact hc)
  have c5 := qch (qh d) (by rw [qk]; exact hd)
  have c6 := qt (qh c) (by rw [qk]; exact hc)
  have c7 := qt (qh d) (by rw [qk]; exact hd)
  have c8 := qeh (qh c)
  have c9 := int_g (qh c) (by rw [qk]; exact hc)
  rw [ba_list] at c4 c5 c6 c7 c9
  rw [qcf] at c8
  unfold readW at hR
  simp only [ho, if_pos, if_neg, reduceIte, Int.reduceEq] at hR
  refine qj Tryz.func40 Tryz.ntmps40 fun σ n0 hcl hft => ?_
  repeat' (first | ((first | ((with_reducible refine qf (fun hg => ?_) (fun hg => ?_)) <;> (try simp only [hg]) <;> (try simp only [gS] at hg) <;> (try (first | simp only [eq_false hg, gI] | simp only [eq_true hg, gI]))) | refine Stp.m ?_ | refine ql ?_ | refine agH ?_) <;> (try simp (disch := first | omega | simp) [qd, -qg, -qm])) | refine sideA ?_ | refine qc fun K hK => ?_ | refine qa ?_ | refine qe ?_ | refine qb ?_ | (refine hK _ ?_; clear hK K) | clear hK K)
  rw [← hR]; rfl
theorem read_g (s : ByteArray) (hs : s.size ≤ 1000000) : Gives Tryz.prog 40 [.str s] (readP s.data.toList).av := by
  obtain ⟨a, b, c, d, e, r, hw⟩ := words_five s.data.toList
  have hle := words_le s.data.toList
  rw [hw, qcl] at hle
  have hc := hle c (by simp)
  have hd := hle d (by simp)
  unfold readP
  rw [hw]
  show Gives _ _ _ (readW a b c d e).av
  rcases opL_cases a with h | h | h | h | h | h | h | h
  · exact read_0 s hs a b c d e r hw h (by omega) (by omega) _ rfl
  · exact read_1 s hs a b c d e r hw h (by omega) (by omega) _ rfl
  · exact read_2 s hs a b c d e r hw h (by omega) (by omega) _ rfl
  · exact read_3 s hs a b c d e r hw h (by omega) (by omega) _ rfl
  · exact read_4 s hs a b c d e r hw h (by omega) (by omega) _ rfl
  · exact read_5 s hs a b c d e r hw h (by omega) (by omega) _ rfl
  · exact read_6 s hs a b c d e r hw h (by omega) (by omega) _ rfl
  · exact read_n s hs a b c d e r hw h (by omega) (by omega) _ rfl
end Go.Proofs.YtbkkjlcclddpdaaGreatDoor
