/- Walk: the type of an expression, as the reference finds it (errataref16.inner). -/
import Derived.Test.YtnkakofcejkhiaaDoorGa14
import Derived.Test.YtnkakofcejkhiaaDoorGa16
set_option linter.unusedSimpArgs false
set_option linter.unusedVariables false
namespace Go.Proofs.YtnkakofcejkhiaaDoor
open Go.RowKit Go.Lib
set_option maxHeartbeats 8000000 in
theorem inner_g (F : List Fn) (c p : List Int) (e : Ex) : parts e ≤ 1000000 → Gives Tryd.prog 149 [.sl (F.map Fn.av), .sl (c.map AV.int), .sl (p.map AV.int), e.av] (.tup [.int (innerX F c p e), .bool (ty F c p e).isSome]) := by
  induction e using Ex.ind with | h o n s l ih => ?_
  intro hp
  have hll : l.length ≤ 1000000 := by rw [parts] at hp; have := partsL_len l; omega
  obtain ⟨X, hX⟩ : ∃ X, X = innerX F c p (.mk o n s l) := ⟨_, rfl⟩
  obtain ⟨B, hB⟩ : ∃ B, B = (ty F c p (.mk o n s l)).isSome := ⟨_, rfl⟩
  rw [← hX, ← hB]
  refine qm Tryd.func149 Tryd.ntmps149 rfl rfl (by decide) rfl (by intro n; simp) fun σ n0 hcl hft => ?_
  repeat' (first | ((first | ((with_reducible refine qo (fun hg => ?_) (fun hg => ?_)) <;> (try simp only [hg]) <;> (try simp only [beq_iff_eq, beq_eq_false_iff_ne, ne_eq, decide_eq_true_eq, decide_eq_false_iff_not, bne_iff_ne, bne_eq_false_iff_eq] at hg) <;> (try (first | simp only [eq_false hg, if_true, if_false] | simp only [eq_true hg, if_true, if_false]))) | (with_reducible first | refine qd ?_ | refine qc ?_ | refine qi ?_ | refine qh ?_) | refine qf ?_ | refine qj ?_ | refine qk ?_ | refine qn ?_) <;> (try simp (disch := first | omega | simp) [ql, -qu, -qx])) | ((with_reducible first | refine sideG ?_ ?_ | refine qr ?_ ?_ | refine sideS ?_ ?_ | refine qs ?_ ?_ | refine qt ?_ ?_ | refine sideA ?_ ?_ | refine qp ?_ ?_ | refine qq ?_ ?_); first | omega | assumption | (simp; done)) | (refine qg fun K hK => ?_) | (refine qa ?_) | (refine qb true (by kernel_rfl) (by kernel_rfl) ?_) | (refine hK _ ?_; clear hK K) | (clear hK K; refine hK _ ?_; clear hK K) | (clear hK K; clear hK K; refine hK _ ?_; clear hK K) | refine qe ?_)
  refine awp_adoptR 10 3 1 (by simp) ?_
  simp only [List.length_append, List.length_cons, List.length_nil, Nat.zero_add, Nat.reduceAdd, List.cons_append, List.nil_append]
  refine qbb hcl (fun k : Nat => [(0, .sl (F.map Fn.av)), (1, .sl (c.map AV.int)), (2, .sl (p.map AV.int)), (7, .ptr n0 0), (10, .gs (n0 + 1) (((l.take k).map fun e => (ty F c p e).getD 0).map AV.int)), (11, .int k)]) (fun k => [.cells [.int o, .int n, .str s, .sl (l.map Ex.av)] 52, .tail k 3 1])
    (fun k => k ≤ l.length ∧ ∀ (i : Nat) (h : i < l.length), i < k → (ty F c p l[i]).isSome = true) (fun k => l.length - k) 0 ⟨by omega, fun i h h2 => by omega⟩ (by simp) fun k ⟨hk, hks⟩ => ?_
  by_cases hlt : k < l.length
  · have hc := ih l[k] (List.getElem_mem hlt) (by rw [parts] at hp; have := partsL_mem l l[k] (List.getElem_mem hlt); omega)
    have hle : (((l.take k).map fun e => (ty F c p e).getD 0)).length = k := by simp; omega
    have htk : (l.take (k + 1)).map (fun e => (ty F c p e).getD 0) = (l.take k).map (fun e => (ty F c p e).getD 0) ++ [(ty F c p l[k]).getD 0] := by rw [List.take_succ_eq_append_getElem hlt, List.map_append]; rfl
    have hxe := inner_eq F c p l[k]
    cases ht : ty F c p l[k] with
    | none =>
      rw [ht] at hc
      have h1 := tys_stop l k hlt ht
      have e1 : X = 0 := by rw [hX, innerX, h1]
      have e2 : B = false := by rw [hB, ty, h1]; rfl
      subst e1; subst e2
      generalize innerX F c p l[k] = Y at *
      simp only [Option.isSome_none] at hc
      clear hX hB ih hks
      repeat' (first | ((first | ((with_reducible refine qo (fun hg => ?_) (fun hg => ?_)) <;> (try simp only [hg]) <;> (try simp only [beq_iff_eq, beq_eq_false_iff_ne, ne_eq, decide_eq_true_eq, decide_eq_false_iff_not, bne_iff_ne, bne_eq_false_iff_eq] at hg) <;> (try (first | simp only [eq_false hg, if_true, if_false] | simp only [eq_true hg, if_true, if_false]))) | (with_reducible first | refine qd ?_ | refine qc ?_ | refine qi ?_ | refine qh ?_) | refine acall (hc) ?_ | refine qv (hc) ?_ | refine qf ?_ | refine qj ?_ | refine qk ?_ | refine qn ?_) <;> (try simp (disch := first | omega | simp) [ql, -qu, -qx, hlt])) | ((with_reducible first | refine sideG ?_ ?_ | refine qr ?_ ?_ | refine sideS ?_ ?_ | refine qs ?_ ?_ | refine qt ?_ ?_ | refine sideA ?_ ?_ | refine qp ?_ ?_ | refine qq ?_ ?_); first | omega | assumption | (simp; done)) | (refine qg fun K hK => ?_) | (refine qa ?_) | (refine qb true (by kernel_rfl) (by kernel_rfl) ?_) | (refine hK _ ?_; clear hK K) | (clear hK K; refine hK _ ?_; clear hK K) | (clear hK K; clear hK K; refine hK _ ?_; clear hK K) | refine qe ?_)
    | some t =>
      rw [ht] at hc hxe htk
      rw [hxe t rfl] at hc
      simp only [Option.isSome_some, Option.getD_some] at hc htk
      generalize (l.take k).map (fun e => (ty F c p e).getD 0) = Vs at *
      clear hX hB ih
      repeat' (first | ((first | ((with_reducible refine qo (fun hg => ?_) (fun hg => ?_)) <;> (try simp only [hg]) <;> (try simp only [beq_iff_eq, beq_eq_false_iff_ne, ne_eq, decide_eq_true_eq, decide_eq_false_iff_not, bne_iff_ne, bne_eq_false_iff_eq] at hg) <;> (try (first | simp only [eq_false hg, if_true, if_false] | simp only [eq_true hg, if_true, if_false]))) | (with_reducible first | refine qd ?_ | refine qc ?_ | refine qi ?_ | refine qh ?_) | refine acall (hc) ?_ | refine qv (hc) ?_ | refine qf ?_ | refine qj ?_ | refine qk ?_ | refine qn ?_) <;> (try simp (disch := first | omega | simp) [ql, -qu, -qx, hlt])) | ((with_reducible first | refine sideG ?_ ?_ | refine qr ?_ ?_ | refine sideS ?_ ?_ | refine qs ?_ ?_ | refine qt ?_ ?_ | refine sideA ?_ ?_ | refine qp ?_ ?_ | refine qq ?_ ?_); first | omega | assumption | (simp; done)) | (refine qg fun K hK => ?_) | (refine qa ?_) | (refine qb true (by kernel_rfl) (by kernel_rfl) ?_) | (refine hK _ ?_; clear hK K) | (clear hK K; refine hK _ ?_; clear hK K) | (clear hK K; clear hK K; refine hK _ ?_; clear hK K) | refine qe ?_)
      all_goals refine ⟨k + 1, ⟨by omega, fun i h h2 => ?_⟩, by omega, ?_⟩
      · by_cases hik : i < k
        · exact hks i h hik
        · obtain rfl : i = k := by omega
          rw [ht]; rfl
      · have htk2 := congrArg (List.map AV.int) htk
        simp at htk2
        simp [htk2, hle]
  · obtain rfl : k = l.length := by omega
    rw [List.take_length]
    have hall := tys_all l fun i h => hks i h h
    obtain ⟨ts, hts⟩ : ∃ ts, ts = l.map fun e => (ty F c p e).getD 0 := ⟨_, rfl⟩
    rw [← hts] at hall ⊢
    have hX2 : X = tailX F c p o n s ts := by rw [hX, innerX, hall]
    have hB2 : B = (tailT F c p o n s ts).isSome := by rw [hB, ty, hall]
    have htl : ts.length = l.length := by rw [hts]; simp
    clear hX hB ih hks hall hts hp hk
    have hemp : s.toList.isEmpty = decide (s.size = 0) := by
      by_cases h : s.size = 0
      · rw [decide_eq_true h, List.isEmpty_iff]
        exact List.eq_nil_of_length_eq_zero (by rw [ByteArray.toList_eq]; rw [Lib.size_eq] at h; simpa using h)
      · rw [decide_eq_false h, List.isEmpty_eq_false_iff]
        intro h2
        rw [ByteArray.toList_eq] at h2
        exact h (by rw [Lib.size_eq, h2]; rfl)
    by_cases hs : s.size ≠ 0 ∧ o ≠ 1
    · have e1 : X = 0 := by rw [hX2, tailX, if_pos hs]
      have e2 : B = false := by rw [hB2, tailT, if_pos hs]; rfl
      subst e1; subst e2
      clear hX2 hB2
      obtain ⟨hs1, hs2⟩ := hs
      have hs3 : (o == 1) = false := by simp [hs2]
      rw [decide_eq_false hs1] at hemp
      repeat' (first | ((first | ((with_reducible refine qo (fun hg => ?_) (fun hg => ?_)) <;> (try simp only [hg]) <;> (try simp only [beq_iff_eq, beq_eq_false_iff_ne, ne_eq, decide_eq_true_eq, decide_eq_false_iff_not, bne_iff_ne, bne_eq_false_iff_eq] at hg) <;> (try (first | simp only [eq_false hg, if_true, if_false] | simp only [eq_true hg, if_true, if_false]))) | (with_reducible first | refine qd ?_ | refine qc ?_ | refine qi ?_ | refine qh ?_) | refine qf ?_ | refine qj ?_ | refine qk ?_ | refine qn ?_) <;> (try simp (disch := first | omega | simp) [ql, -qu, -qx, hlt, hs2, hs3, hemp])) | ((with_reducible first | refine sideG ?_ ?_ | refine qr ?_ ?_ | refine sideS ?_ ?_ | refine qs ?_ ?_ | refine qt ?_ ?_ | refine sideA ?_ ?_ | refine qp ?_ ?_ | refine qq ?_ ?_); first | omega | assumption | (simp; done)) | (refine qg fun K hK => ?_) | (refine qa ?_) | (refine qb true (by kernel_rfl) (by kernel_rfl) ?_) | (refine hK _ ?_; clear hK K) | (clear hK K; refine hK _ ?_; clear hK K) | (clear hK K; clear hK K; refine hK _ ?_; clear hK K) | refine qe ?_)
      all_goals (exfalso; simp_all; done)
    have tX : tailX F c p o n s ts = if o = 22 then (callT F n ts).getD 0 else if numP o ≠ ts.length then 0
        else if o = 0 then 0 else if o = 2 then 2 else if o = 3 then atX c n else if o = 4 then atX p n else if n ≠ 0 then 0
        else if o = 1 then 1 else if o = 5 then 0 else if o = 6 then 2 else if o = 7 ∨ o = 20 then 0 else if o ≤ 12 then 0 else if o ≤ 18 then 2 else if o = 19 then 1 else ts.getD 1 0 := by rw [tailX, if_neg hs]
    have tB : tailT F c p o n s ts = if o = 22 then callT F n ts else if ts = [] then leafT c p o n s else operT o n ts := by rw [tailT, if_neg hs]
    have c1 := rnumber_g o
    by_cases h22 : o = 22
    · subst h22
      rw [if_pos rfl] at tX tB
      rw [tX] at hX2; rw [tB] at hB2
      have c2 := rcall_g F n ts
      rw [← hX2, ← hB2] at c2
      have hs3 : s.size = 0 := by omega
      rw [decide_eq_true hs3] at hemp
      repeat' (first | ((first | ((with_reducible refine qo (fun hg => ?_) (fun hg => ?_)) <;> (try simp only [hg]) <;> (try simp only [beq_iff_eq, beq_eq_false_iff_ne, ne_eq, decide_eq_true_eq, decide_eq_false_iff_not, bne_iff_ne, bne_eq_false_iff_eq] at hg) <;> (try (first | simp only [eq_false hg, if_true, if_false] | simp only [eq_true hg, if_true, if_false]))) | (with_reducible first | refine qd ?_ | refine qc ?_ | refine qi ?_ | refine qh ?_) | refine acall (c2) ?_ | refine qv (c2) ?_ | refine qf ?_ | refine qj ?_ | refine qk ?_ | refine qn ?_) <;> (try simp (disch := first | omega | simp) [ql, -qu, -qx, hlt, hemp])) | ((with_reducible first | refine sideG ?_ ?_ | refine qr ?_ ?_ | refine sideS ?_ ?_ | refine qs ?_ ?_ | refine qt ?_ ?_ | refine sideA ?_ ?_ | refine qp ?_ ?_ | refine qq ?_ ?_); first | omega | assumption | (simp; done)) | (refine qg fun K hK => ?_) | (refine qa ?_) | (refine qb true (by kernel_rfl) (by kernel_rfl) ?_) | (refine hK _ ?_; clear hK K) | (clear hK K; refine hK _ ?_; clear hK K) | (clear hK K; clear hK K; refine hK _ ?_; clear hK K) | refine qe ?_)
    have h22b : (o == 22) = false := by simp [h22]
    have c3 := rat_g c n
    have c4 := rat_g p n
    by_cases hnum : numP o = ts.length
    rotate_left
    · have e1 : X = 0 := by rw [hX2, tX, if_neg h22, if_pos hnum]
      have e2 : B = false := by
        rw [hB2]
        cases ht : tailT F c p o n s ts with
        | none => rfl
        | some t => exact absurd (tailT_num ht h22) hnum
      subst e1; subst e2
      clear hX2 hB2 tX tB c3 c4
      generalize numP o = NP at *
      have hnb : (NP == (ts.length : Int)) = false := by simp [hnum]
      by_cases h1 : s.size = 0
      · rw [decide_eq_true h1] at hemp
        repeat' (first | ((first | ((with_reducible refine qo (fun hg => ?_) (fun hg => ?_)) <;> (try simp only [hg]) <;> (try simp only [beq_iff_eq, beq_eq_false_iff_ne, ne_eq, decide_eq_true_eq, decide_eq_false_iff_not, bne_iff_ne, bne_eq_false_iff_eq] at hg) <;> (try (first | simp only [eq_false hg, if_true, if_false] | simp only [eq_true hg, if_true, if_false]))) | (with_reducible first | refine qd ?_ | refine qc ?_ | refine qi ?_ | refine qh ?_) | refine acall (c1) ?_ | refine qv (c1) ?_ | refine qf ?_ | refine qj ?_ | refine qk ?_ | refine qn ?_) <;> (try simp (disch := first | omega | simp) [ql, -qu, -qx, hlt, hemp, h22, h22b, hnum, hnb])) | ((with_reducible first | refine sideG ?_ ?_ | refine qr ?_ ?_ | refine sideS ?_ ?_ | refine qs ?_ ?_ | refine qt ?_ ?_ | refine sideA ?_ ?_ | refine qp ?_ ?_ | refine qq ?_ ?_); first | omega | assumption | (simp; done)) | (refine qg fun K hK => ?_) | (refine qa ?_) | (refine qb true (by kernel_rfl) (by kernel_rfl) ?_) | (refine hK _ ?_; clear hK K) | (clear hK K; refine hK _ ?_; clear hK K) | (clear hK K; clear hK K; refine hK _ ?_; clear hK K) | refine qe ?_)
        all_goals (exfalso; first | omega | (simp_all; done))
      · rw [decide_eq_false h1] at hemp
        obtain rfl : o = 1 := by omega
        repeat' (first | ((first | ((with_reducible refine qo (fun hg => ?_) (fun hg => ?_)) <;> (try simp only [hg]) <;> (try simp only [beq_iff_eq, beq_eq_false_iff_ne, ne_eq, decide_eq_true_eq, decide_eq_false_iff_not, bne_iff_ne, bne_eq_false_iff_eq] at hg) <;> (try (first | simp only [eq_false hg, if_true, if_false] | simp only [eq_true hg, if_true, if_false]))) | (with_reducible first | refine qd ?_ | refine qc ?_ | refine qi ?_ | refine qh ?_) | refine acall (c1) ?_ | refine qv (c1) ?_ | refine qf ?_ | refine qj ?_ | refine qk ?_ | refine qn ?_) <;> (try simp (disch := first | omega | simp) [ql, -qu, -qx, hlt, hemp, hnum, hnb])) | ((with_reducible first | refine sideG ?_ ?_ | refine qr ?_ ?_ | refine sideS ?_ ?_ | refine qs ?_ ?_ | refine qt ?_ ?_ | refine sideA ?_ ?_ | refine qp ?_ ?_ | refine qq ?_ ?_); first | omega | assumption | (simp; done)) | (refine qg fun K hK => ?_) | (refine qa ?_) | (refine qb true (by kernel_rfl) (by kernel_rfl) ?_) | (refine hK _ ?_; clear hK K) | (clear hK K; refine hK _ ?_; clear hK K) | (clear hK K; clear hK K; refine hK _ ?_; clear hK K) | refine qe ?_)
        all_goals (exfalso; first | omega | (simp_all; done))
    rw [if_neg h22, if_neg (by simp [hnum])] at tX
    rw [if_neg h22] at tB
    rw [tX] at hX2; rw [tB] at hB2
    rw [hnum] at c1
    have hsc := numP_len hnum h22
    clear tX tB hnum
    have hs' : s.toList.isEmpty = false → o = 1 := fun h => by
      rw [hemp] at h
      have := of_decide_eq_false h
      omega
    clear hemp hs htl
    rcases hsc with ⟨ho, rfl⟩ | ⟨ho, a, rfl⟩ | ⟨ho, a, b, d, rfl⟩ | ⟨ho, a, b, rfl⟩
    · rw [if_pos rfl] at hB2
      simp at c1
      repeat' (first | ((first | ((with_reducible refine qo (fun hg => ?_) (fun hg => ?_)) <;> (try simp only [hg]) <;> (try simp only [beq_iff_eq, beq_eq_false_iff_ne, ne_eq, decide_eq_true_eq, decide_eq_false_iff_not, bne_iff_ne, bne_eq_false_iff_eq] at hg) <;> (try (first | simp only [eq_false hg, if_true, if_false] | simp only [eq_true hg, if_true, if_false]))) | (with_reducible first | refine qd ?_ | refine qc ?_ | refine qi ?_ | refine qh ?_) | refine acall (c1) ?_ | refine qv (c1) ?_ | refine acall (c3) ?_ | refine qv (c3) ?_ | refine acall (c4) ?_ | refine qv (c4) ?_ | refine qf ?_ | refine qj ?_ | refine qk ?_ | refine qn ?_) <;> (try simp (disch := first | omega | simp) [ql, -qu, -qx, hlt, h22, h22b])) | ((with_reducible first | refine sideG ?_ ?_ | refine qr ?_ ?_ | refine sideS ?_ ?_ | refine qs ?_ ?_ | refine qt ?_ ?_ | refine sideA ?_ ?_ | refine qp ?_ ?_ | refine qq ?_ ?_); first | omega | assumption | (simp; done)) | (refine qg fun K hK => ?_) | (refine qa ?_) | (refine qb true (by kernel_rfl) (by kernel_rfl) ?_) | (refine hK _ ?_; clear hK K) | (clear hK K; refine hK _ ?_; clear hK K) | (clear hK K; clear hK K; refine hK _ ?_; clear hK K) | refine qe ?_)
      all_goals first
        | (exfalso; have := hs' (by assumption); omega)
        | (exfalso; omega)
        | (rw [hX2, hB2]; simp [*, leafT]; done)
        | (have h2 : o = 2 := by assumption
           have hn : ¬ n = 0 := by assumption
           subst h2; rw [hX2, hB2]; simp [leafT, hn]; by_cases h1 : n = 1 <;> simp [h1]; done)
        | (have h1 : o = 1 := by assumption
           have hn : n = 0 := by omega
           subst h1; subst hn
           refine ⟨by rw [hX2]; simp, ?_⟩
           rw [hB2]
           by_cases hz : (s.size : Int) ≤ 200
           · simp only [leafT, hz]; simp
           · simp only [leafT, hz]; simp)
    all_goals rw [if_neg (by simp)] at hB2
    · simp at c1
      repeat' (first | ((first | ((with_reducible refine qo (fun hg => ?_) (fun hg => ?_)) <;> (try simp only [hg]) <;> (try simp only [beq_iff_eq, beq_eq_false_iff_ne, ne_eq, decide_eq_true_eq, decide_eq_false_iff_not, bne_iff_ne, bne_eq_false_iff_eq] at hg) <;> (try (first | simp only [eq_false hg, if_true, if_false] | simp only [eq_true hg, if_true, if_false]))) | (with_reducible first | refine qd ?_ | refine qc ?_ | refine qi ?_ | refine qh ?_) | refine acall (c1) ?_ | refine qv (c1) ?_ | refine acall (c3) ?_ | refine qv (c3) ?_ | refine acall (c4) ?_ | refine qv (c4) ?_ | refine qf ?_ | refine qj ?_ | refine qk ?_ | refine qn ?_) <;> (try simp (disch := first | omega | simp) [ql, -qu, -qx, hlt, h22, h22b])) | ((with_reducible first | refine sideG ?_ ?_ | refine qr ?_ ?_ | refine sideS ?_ ?_ | refine qs ?_ ?_ | refine qt ?_ ?_ | refine sideA ?_ ?_ | refine qp ?_ ?_ | refine qq ?_ ?_); first | omega | assumption | (simp; done)) | (refine qg fun K hK => ?_) | (refine qa ?_) | (refine qb true (by kernel_rfl) (by kernel_rfl) ?_) | (refine hK _ ?_; clear hK K) | (clear hK K; refine hK _ ?_; clear hK K) | (clear hK K; clear hK K; refine hK _ ?_; clear hK K) | refine qe ?_)
      all_goals first
        | (exfalso; have := hs' (by assumption); omega)
        | (exfalso; omega)
        | (clear c1 c3 c4 hcl hft hs' h22 h22b; rw [hX2, hB2]; simp [*, operT]; done)
        | (clear c1 c3 c4 hcl hft hs' h22 h22b; rw [hX2, hB2]; simp [*, operT]; by_cases h1 : a = 0 <;> simp [h1]; done)
        | (clear c1 c3 c4 hcl hft hs' h22 h22b; rw [hX2, hB2]; simp [*, operT]; by_cases h1 : a = 1 <;> simp [h1]; done)
        | (clear c1 c3 c4 hcl hft hs' h22 h22b; rw [hX2, hB2]; simp [*, operT]; by_cases h1 : a = 2 <;> simp [h1]; done)
    · simp at c1
      subst ho
      repeat' (first | ((first | ((with_reducible refine qo (fun hg => ?_) (fun hg => ?_)) <;> (try simp only [hg]) <;> (try simp only [beq_iff_eq, beq_eq_false_iff_ne, ne_eq, decide_eq_true_eq, decide_eq_false_iff_not, bne_iff_ne, bne_eq_false_iff_eq] at hg) <;> (try (first | simp only [eq_false hg, if_true, if_false] | simp only [eq_true hg, if_true, if_false]))) | (with_reducible first | refine qd ?_ | refine qc ?_ | refine qi ?_ | refine qh ?_) | refine acall (c1) ?_ | refine qv (c1) ?_ | refine acall (c3) ?_ | refine qv (c3) ?_ | refine acall (c4) ?_ | refine qv (c4) ?_ | refine qf ?_ | refine qj ?_ | refine qk ?_ | refine qn ?_) <;> (try simp (disch := first | omega | simp) [ql, -qu, -qx, hlt, h22, h22b])) | ((with_reducible first | refine sideG ?_ ?_ | refine qr ?_ ?_ | refine sideS ?_ ?_ | refine qs ?_ ?_ | refine qt ?_ ?_ | refine sideA ?_ ?_ | refine qp ?_ ?_ | refine qq ?_ ?_); first | omega | assumption | (simp; done)) | (refine qg fun K hK => ?_) | (refine qa ?_) | (refine qb true (by kernel_rfl) (by kernel_rfl) ?_) | (refine hK _ ?_; clear hK K) | (clear hK K; refine hK _ ?_; clear hK K) | (clear hK K; clear hK K; refine hK _ ?_; clear hK K) | refine qe ?_)
      all_goals first
        | (exfalso; have := hs' (by assumption); omega)
        | (exfalso; omega)
        | (clear c1 c3 c4 hcl hft hs' h22 h22b; rw [hX2, hB2]; simp [*, operT]; done)
        | (clear c1 c3 c4 hcl hft hs' h22 h22b; rw [hX2, hB2]; simp [*, operT]; by_cases h1 : a = 2 <;> by_cases h2 : b = d <;> simp [h1, h2]; done)
    · simp at c1
      repeat' (first | ((first | ((with_reducible refine qo (fun hg => ?_) (fun hg => ?_)) <;> (try simp only [hg]) <;> (try simp only [beq_iff_eq, beq_eq_false_iff_ne, ne_eq, decide_eq_true_eq, decide_eq_false_iff_not, bne_iff_ne, bne_eq_false_iff_eq] at hg) <;> (try (first | simp only [eq_false hg, if_true, if_false] | simp only [eq_true hg, if_true, if_false]))) | (with_reducible first | refine qd ?_ | refine qc ?_ | refine qi ?_ | refine qh ?_) | refine acall (c1) ?_ | refine qv (c1) ?_ | refine acall (c3) ?_ | refine qv (c3) ?_ | refine acall (c4) ?_ | refine qv (c4) ?_ | refine qf ?_ | refine qj ?_ | refine qk ?_ | refine qn ?_) <;> (try simp (disch := first | omega | simp) [ql, -qu, -qx, hlt, h22, h22b])) | ((with_reducible first | refine sideG ?_ ?_ | refine qr ?_ ?_ | refine sideS ?_ ?_ | refine qs ?_ ?_ | refine qt ?_ ?_ | refine sideA ?_ ?_ | refine qp ?_ ?_ | refine qq ?_ ?_); first | omega | assumption | (simp; done)) | (refine qg fun K hK => ?_) | (refine qa ?_) | (refine qb true (by kernel_rfl) (by kernel_rfl) ?_) | (refine hK _ ?_; clear hK K) | (clear hK K; refine hK _ ?_; clear hK K) | (clear hK K; clear hK K; refine hK _ ?_; clear hK K) | refine qe ?_)
      all_goals first
        | (exfalso; have := hs' (by assumption); omega)
        | (exfalso; omega)
        | (clear c1 c3 c4 hcl hft hs' h22 h22b; rw [hX2, hB2]; simp [*, operT]; done)
        | (clear c1 c3 c4 hcl hft hs' h22 h22b; rw [hX2, hB2]; simp [*, operT]; by_cases h2 : a = b <;> simp [h2]; done)
        | (clear c1 c3 c4 hcl hft hs' h22 h22b; rw [hX2, hB2]; simp [*, operT]; by_cases h1 : b = 0 <;> simp [h1]; done)
        | (clear c1 c3 c4 hcl hft hs' h22 h22b; rw [hX2, hB2]; simp [*, operT]; by_cases h1 : b = 1 <;> simp [h1]; done)
        | (clear c1 c3 c4 hcl hft hs' h22 h22b; rw [hX2, hB2]; simp [*, operT]; by_cases h1 : b = 2 <;> simp [h1]; done)
end Go.Proofs.YtnkakofcejkhiaaDoor

/- Walks: of, Right and Type of the reference; the same as contracts of the first kind. -/
namespace Go.Proofs.YtnkakofcejkhiaaDoor
open Go.RowKit Go.Lib
theorem rof_g (F : List Fn) (c p : List Int) (e : Ex) (hp : parts e ≤ 1000000) : Gives Tryd.prog 138 [.sl (F.map Fn.av), .sl (c.map AV.int), .sl (p.map AV.int), e.av] (.tup [.int ((tyD F c p e).getD 0), .bool (tyD F c p e).isSome]) := by
  have hlv := levels_le e
  have c1 := rlevels_g' e (by omega)
  have c2 := inner_g F c p e hp
  by_cases h : levels e > 12
  · have e1 : tyD F c p e = none := by unfold tyD; rw [if_pos h]
    rw [e1]
    clear c2
    generalize levels e = L at *
    have h' : 12 < L := h
    refine qm Tryd.func138 Tryd.ntmps138 rfl rfl (by decide) rfl (by intro n; simp) fun σ n0 hcl hft => ?_
    repeat' (first | ((first | ((with_reducible refine qo (fun hg => ?_) (fun hg => ?_)) <;> (try simp only [hg]) <;> (try simp only [beq_iff_eq, beq_eq_false_iff_ne, ne_eq, decide_eq_true_eq, decide_eq_false_iff_not, bne_iff_ne, bne_eq_false_iff_eq] at hg) <;> (try (first | simp only [eq_false hg, if_true, if_false] | simp only [eq_true hg, if_true, if_false]))) | (with_reducible first | refine qd ?_ | refine qc ?_ | refine qi ?_ | refine qh ?_) | refine acall (c1) ?_ | refine qv (c1) ?_ | refine qf ?_ | refine qj ?_ | refine qk ?_ | refine qn ?_) <;> (try simp (disch := first | omega | simp) [ql, -qu, -qx, h'])) | ((with_reducible first | refine sideG ?_ ?_ | refine qr ?_ ?_ | refine sideS ?_ ?_ | refine qs ?_ ?_ | refine qt ?_ ?_ | refine sideA ?_ ?_ | refine qp ?_ ?_ | refine qq ?_ ?_); first | omega | assumption | (simp; done)) | (refine qg fun K hK => ?_) | (refine qa ?_) | (refine qb true (by kernel_rfl) (by kernel_rfl) ?_) | (refine hK _ ?_; clear hK K) | (clear hK K; refine hK _ ?_; clear hK K) | (clear hK K; clear hK K; refine hK _ ?_; clear hK K) | refine qe ?_)
    all_goals (exfalso; omega)
  · have e1 : tyD F c p e = ty F c p e := by unfold tyD; rw [if_neg h]
    rw [e1]
    have hx := inner_eq F c p e
    have h' : ¬ 12 < levels e := h
    generalize levels e = L at *
    generalize innerX F c p e = X at *
    cases ht : ty F c p e with
    | none =>
      rw [ht] at c2
      simp at c2
      clear hx
      refine qm Tryd.func138 Tryd.ntmps138 rfl rfl (by decide) rfl (by intro n; simp) fun σ n0 hcl hft => ?_
      repeat' (first | ((first | ((with_reducible refine qo (fun hg => ?_) (fun hg => ?_)) <;> (try simp only [hg]) <;> (try simp only [beq_iff_eq, beq_eq_false_iff_ne, ne_eq, decide_eq_true_eq, decide_eq_false_iff_not, bne_iff_ne, bne_eq_false_iff_eq] at hg) <;> (try (first | simp only [eq_false hg, if_true, if_false] | simp only [eq_true hg, if_true, if_false]))) | (with_reducible first | refine qd ?_ | refine qc ?_ | refine qi ?_ | refine qh ?_) | refine acall (c1) ?_ | refine qv (c1) ?_ | refine acall (c2) ?_ | refine qv (c2) ?_ | refine qf ?_ | refine qj ?_ | refine qk ?_ | refine qn ?_) <;> (try simp (disch := first | omega | simp) [ql, -qu, -qx, h'])) | ((with_reducible first | refine sideG ?_ ?_ | refine qr ?_ ?_ | refine sideS ?_ ?_ | refine qs ?_ ?_ | refine qt ?_ ?_ | refine sideA ?_ ?_ | refine qp ?_ ?_ | refine qq ?_ ?_); first | omega | assumption | (simp; done)) | (refine qg fun K hK => ?_) | (refine qa ?_) | (refine qb true (by kernel_rfl) (by kernel_rfl) ?_) | (refine hK _ ?_; clear hK K) | (clear hK K; refine hK _ ?_; clear hK K) | (clear hK K; clear hK K; refine hK _ ?_; clear hK K) | refine qe ?_)
      all_goals (exfalso; omega)
    | some t =>
      rw [ht] at c2 hx
      rw [hx t rfl] at c2
      simp at c2
      clear hx
      refine qm Tryd.func138 Tryd.ntmps138 rfl rfl (by decide) rfl (by intro n; simp) fun σ n0 hcl hft => ?_
      repeat' (first | ((first | ((with_reducible refine qo (fun hg => ?_) (fun hg => ?_)) <;> (try simp only [hg]) <;> (try simp only [beq_iff_eq, beq_eq_false_iff_ne, ne_eq, decide_eq_true_eq, decide_eq_false_iff_not, bne_iff_ne, bne_eq_false_iff_eq] at hg) <;> (try (first | simp only [eq_false hg, if_true, if_false] | simp only [eq_true hg, if_true, if_false]))) | (with_reducible first | refine qd ?_ | refine qc ?_ | refine qi ?_ | refine qh ?_) | refine acall (c1) ?_ | refine qv (c1) ?_ | refine acall (c2) ?_ | refine qv (c2) ?_ | refine qf ?_ | refine qj ?_ | refine qk ?_ | refine qn ?_) <;> (try simp (disch := first | omega | simp) [ql, -qu, -qx, h'])) | ((with_reducible first | refine sideG ?_ ?_ | refine qr ?_ ?_ | refine sideS ?_ ?_ | refine qs ?_ ?_ | refine qt ?_ ?_ | refine sideA ?_ ?_ | refine qp ?_ ?_ | refine qq ?_ ?_); first | omega | assumption | (simp; done)) | (refine qg fun K hK => ?_) | (refine qa ?_) | (refine qb true (by kernel_rfl) (by kernel_rfl) ?_) | (refine hK _ ?_; clear hK K) | (clear hK K; refine hK _ ?_; clear hK K) | (clear hK K; clear hK K; refine hK _ ?_; clear hK K) | refine qe ?_)
      all_goals (exfalso; omega)
theorem fns_fits {F : List Fn} (h : AV.fitss [.sl (F.map Fn.av)]) : ∀ f ∈ F, f.params.length ≤ 9223372036854775807 := fun f hf => by
  have h1 := (AV.fitss_iff.1 h) _ (List.mem_singleton_self _)
  rw [AV.fits] at h1
  have h2 := (AV.fitss_iff.1 h1.2) f.av (List.mem_map_of_mem hf)
  unfold Fn.av at h2
  rw [AV.fits] at h2
  have h3 := (AV.fitss_iff.1 h2) (.sl (f.params.map AV.int)) (by simp)
  rw [AV.fits] at h3
  simpa using h3.1
set_option maxHeartbeats 8000000 in
theorem rright_g (F : List Fn) (hp : ∀ f ∈ F, parts f.body ≤ 1000000) : Gives Tryd.prog 137 [.sl (F.map Fn.av)] (.bool (rightF F)) := by
  obtain ⟨B, hB⟩ : ∃ B, B = rightF F := ⟨_, rfl⟩
  rw [← hB]
  refine qm Tryd.func137 Tryd.ntmps137 rfl rfl (by decide) rfl (by intro n; simp) fun σ n0 hcl hft => ?_
  repeat' (first | ((first | ((with_reducible refine qo (fun hg => ?_) (fun hg => ?_)) <;> (try simp only [hg]) <;> (try simp only [beq_iff_eq, beq_eq_false_iff_ne, ne_eq, decide_eq_true_eq, decide_eq_false_iff_not, bne_iff_ne, bne_eq_false_iff_eq] at hg) <;> (try (first | simp only [eq_false hg, if_true, if_false] | simp only [eq_true hg, if_true, if_false]))) | (with_reducible first | refine qd ?_ | refine qc ?_ | refine qi ?_ | refine qh ?_) | refine qf ?_ | refine qj ?_ | refine qk ?_ | refine qn ?_) <;> (try simp (disch := first | omega | simp) [ql, -qu, -qx])) | ((with_reducible first | refine sideG ?_ ?_ | refine qr ?_ ?_ | refine sideS ?_ ?_ | refine qs ?_ ?_ | refine qt ?_ ?_ | refine sideA ?_ ?_ | refine qp ?_ ?_ | refine qq ?_ ?_); first | omega | assumption | (simp; done)) | (refine qg fun K hK => ?_) | (refine qa ?_) | (refine qb true (by kernel_rfl) (by kernel_rfl) ?_) | (refine hK _ ?_; clear hK K) | (clear hK K; refine hK _ ?_; clear hK K) | (clear hK K; clear hK K; refine hK _ ?_; clear hK K) | refine qe ?_)
  refine qbb hcl (fun i : Nat => [(0, .sl (F.map Fn.av)), (3, .int i)]) (fun _ => []) (fun i => i ≤ F.length ∧ i ≤ 21 ∧ ∀ j, j < i → j < F.length → okF F j = true) (fun i => F.length - i) 0 ⟨by omega, by omega, fun j h => by omega⟩ (by simp) fun i ⟨hi, hi2, he⟩ => ?_
  by_cases hlt : i < F.length
  rotate_left
  · have hBe : B = decide ((F.length : Int) ≤ 20) := by rw [hB]; exact rightF_end fun j hj => he j (by omega) hj
    subst hBe
    repeat' (first | ((first | ((with_reducible refine qo (fun hg => ?_) (fun hg => ?_)) <;> (try simp only [hg]) <;> (try simp only [beq_iff_eq, beq_eq_false_iff_ne, ne_eq, decide_eq_true_eq, decide_eq_false_iff_not, bne_iff_ne, bne_eq_false_iff_eq] at hg) <;> (try (first | simp only [eq_false hg, if_true, if_false] | simp only [eq_true hg, if_true, if_false]))) | (with_reducible first | refine qd ?_ | refine qc ?_ | refine qi ?_ | refine qh ?_) | refine qf ?_ | refine qj ?_ | refine qk ?_ | refine qn ?_) <;> (try simp (disch := first | omega | simp) [ql, -qu, -qx, hlt])) | ((with_reducible first | refine sideG ?_ ?_ | refine qr ?_ ?_ | refine sideS ?_ ?_ | refine qs ?_ ?_ | refine qt ?_ ?_ | refine sideA ?_ ?_ | refine qp ?_ ?_ | refine qq ?_ ?_); first | omega | assumption | (simp; done)) | (refine qg fun K hK => ?_) | (refine qa ?_) | (refine qb true (by kernel_rfl) (by kernel_rfl) ?_) | (refine hK _ ?_; clear hK K) | (clear hK K; refine hK _ ?_; clear hK K) | (clear hK K; clear hK K; refine hK _ ?_; clear hK K) | refine qe ?_)
  by_cases h20 : i ≤ 20
  rotate_left
  · have hBe : B = false := by
      rw [hB]; unfold rightF
      have : ¬ (F.length : Int) ≤ 20 := by omega
      simp [this]
    subst hBe
    have h20b : ¬ (i : Int) ≤ 20 := by omega
    have h21 : ¬ F.length ≤ 20 := by omega
    repeat' (first | ((first | ((with_reducible refine qo (fun hg => ?_) (fun hg => ?_)) <;> (try simp only [hg]) <;> (try simp only [beq_iff_eq, beq_eq_false_iff_ne, ne_eq, decide_eq_true_eq, decide_eq_false_iff_not, bne_iff_ne, bne_eq_false_iff_eq] at hg) <;> (try (first | simp only [eq_false hg, if_true, if_false] | simp only [eq_true hg, if_true, if_false]))) | (with_reducible first | refine qd ?_ | refine qc ?_ | refine qi ?_ | refine qh ?_) | refine qf ?_ | refine qj ?_ | refine qk ?_ | refine qn ?_) <;> (try simp (disch := first | omega | simp) [ql, -qu, -qx, hlt, h20, h20b, h21])) | ((with_reducible first | refine sideG ?_ ?_ | refine qr ?_ ?_ | refine sideS ?_ ?_ | refine qs ?_ ?_ | refine qt ?_ ?_ | refine sideA ?_ ?_ | refine qp ?_ ?_ | refine qq ?_ ?_); first | omega | assumption | (simp; done)) | (refine qg fun K hK => ?_) | (refine qa ?_) | (refine qb true (by kernel_rfl) (by kernel_rfl) ?_) | (refine hK _ ?_; clear hK K) | (clear hK K; refine hK _ ?_; clear hK K) | (clear hK K; clear hK K; refine hK _ ?_; clear hK K) | refine qe ?_)
    all_goals omega
  have hpk := hp F[i] (List.getElem_mem hlt)
  obtain ⟨f, hf⟩ : ∃ f, f = F[i] := ⟨_, rfl⟩
  rw [← hf] at hpk
  have hok := okF_at hlt
  rw [← hf] at hok
  have hil : ¬ F.length < i := by omega
  have c1 := rof_g (F.take i) [] f.params f.body hpk
  rw [List.map_take] at c1
  have h20c : (i : Int) ≤ 20 := by omega
  repeat' (first | ((first | ((with_reducible refine qo (fun hg => ?_) (fun hg => ?_)) <;> (try simp only [hg]) <;> (try simp only [beq_iff_eq, beq_eq_false_iff_ne, ne_eq, decide_eq_true_eq, decide_eq_false_iff_not, bne_iff_ne, bne_eq_false_iff_eq] at hg) <;> (try (first | simp only [eq_false hg, if_true, if_false] | simp only [eq_true hg, if_true, if_false]))) | (with_reducible first | refine qd ?_ | refine qc ?_ | refine qi ?_ | refine qh ?_) | refine qf ?_ | refine qj ?_ | refine qk ?_ | refine qn ?_) <;> (try simp (disch := first | omega | simp) [ql, -qu, -qx, hlt, h20, h20c, ← hf])) | ((with_reducible first | refine sideG ?_ ?_ | refine qr ?_ ?_ | refine sideS ?_ ?_ | refine qs ?_ ?_ | refine qt ?_ ?_ | refine sideA ?_ ?_ | refine qp ?_ ?_ | refine qq ?_ ?_); first | omega | assumption | (simp; done)) | (refine qg fun K hK => ?_) | (refine qa ?_) | (refine qb true (by kernel_rfl) (by kernel_rfl) ?_) | (refine hK _ ?_; clear hK K) | (clear hK K; refine hK _ ?_; clear hK K) | (clear hK K; clear hK K; refine hK _ ?_; clear hK K) | refine qe ?_)
  all_goals first | (exfalso; omega; done) | skip
  refine qbb hcl (fun k : Nat => [(0, .sl (F.map Fn.av)), (3, .int i), (4, .ptr n0 0), (5, .int k)]) (fun _ => [.cells f.av.cells 90]) (fun k => k ≤ f.params.length ∧ ∀ j (h : j < f.params.length), j < k → kindB f.params[j] = true) (fun k => f.params.length - k) 0 ⟨by omega, fun j h hj => by omega⟩ (by simp) fun k ⟨hk, hks⟩ => ?_
  by_cases hkl : k < f.params.length
  · have c2 := rkind_g f.params[k]
    cases hkb : kindB f.params[k] with
    | false =>
      rw [hkb] at c2
      have : B = false := by
        rw [hB]
        refine qcs hlt ?_
        rw [hok]
        have : f.params.all kindB = false := by
          rw [List.all_eq_false]
          exact ⟨f.params[k], List.getElem_mem hkl, by rw [hkb]; simp⟩
        rw [this]; simp
      subst this
      repeat' (first | ((first | ((with_reducible refine qo (fun hg => ?_) (fun hg => ?_)) <;> (try simp only [hg]) <;> (try simp only [beq_iff_eq, beq_eq_false_iff_ne, ne_eq, decide_eq_true_eq, decide_eq_false_iff_not, bne_iff_ne, bne_eq_false_iff_eq] at hg) <;> (try (first | simp only [eq_false hg, if_true, if_false] | simp only [eq_true hg, if_true, if_false]))) | (with_reducible first | refine qd ?_ | refine qc ?_ | refine qi ?_ | refine qh ?_) | refine acall (c2) ?_ | refine qv (c2) ?_ | refine qf ?_ | refine qj ?_ | refine qk ?_ | refine qn ?_) <;> (try simp (disch := first | omega | simp) [ql, -qu, -qx, hkl])) | ((with_reducible first | refine sideG ?_ ?_ | refine qr ?_ ?_ | refine sideS ?_ ?_ | refine qs ?_ ?_ | refine qt ?_ ?_ | refine sideA ?_ ?_ | refine qp ?_ ?_ | refine qq ?_ ?_); first | omega | assumption | (simp; done)) | (refine qg fun K hK => ?_) | (refine qa ?_) | (refine qb true (by kernel_rfl) (by kernel_rfl) ?_) | (refine hK _ ?_; clear hK K) | (clear hK K; refine hK _ ?_; clear hK K) | (clear hK K; clear hK K; refine hK _ ?_; clear hK K) | refine qe ?_)
    | true =>
      rw [hkb] at c2
      have hfl : f.params.length ≤ 9223372036854775807 := by rw [hf]; exact fns_fits hft _ (List.getElem_mem hlt)
      repeat' (first | ((first | ((with_reducible refine qo (fun hg => ?_) (fun hg => ?_)) <;> (try simp only [hg]) <;> (try simp only [beq_iff_eq, beq_eq_false_iff_ne, ne_eq, decide_eq_true_eq, decide_eq_false_iff_not, bne_iff_ne, bne_eq_false_iff_eq] at hg) <;> (try (first | simp only [eq_false hg, if_true, if_false] | simp only [eq_true hg, if_true, if_false]))) | (with_reducible first | refine qd ?_ | refine qc ?_ | refine qi ?_ | refine qh ?_) | refine acall (c2) ?_ | refine qv (c2) ?_ | refine qf ?_ | refine qj ?_ | refine qk ?_ | refine qn ?_) <;> (try simp (disch := first | omega | simp) [ql, -qu, -qx, hkl])) | ((with_reducible first | refine sideG ?_ ?_ | refine qr ?_ ?_ | refine sideS ?_ ?_ | refine qs ?_ ?_ | refine qt ?_ ?_ | refine sideA ?_ ?_ | refine qp ?_ ?_ | refine qq ?_ ?_); first | omega | assumption | (simp; done)) | (refine qg fun K hK => ?_) | (refine qa ?_) | (refine qb true (by kernel_rfl) (by kernel_rfl) ?_) | (refine hK _ ?_; clear hK K) | (clear hK K; refine hK _ ?_; clear hK K) | (clear hK K; clear hK K; refine hK _ ?_; clear hK K) | refine qe ?_)
      all_goals
        refine ⟨k + 1, ⟨by omega, fun j h hj => ?_⟩, by omega, by simp⟩
        by_cases hjk : j < k
        · exact hks j h hjk
        · obtain rfl : j = k := by omega
          exact hkb
  · have hall : f.params.all kindB = true := by
      rw [List.all_eq_true]
      intro x hx
      obtain ⟨j, h1, rfl⟩ := List.getElem_of_mem hx
      exact hks j h1 (by omega)
    rw [hall, Bool.true_and] at hok
    have hb : okF F i = false → B = false := fun h => by rw [hB]; exact qcs hlt h
    cases ht : tyD (F.take i) [] f.params f.body with
    | none =>
      rw [ht] at c1 hok
      have : B = false := hb (by rw [hok]; simp)
      subst this
      simp at c1
      repeat' (first | ((first | ((with_reducible refine qo (fun hg => ?_) (fun hg => ?_)) <;> (try simp only [hg]) <;> (try simp only [beq_iff_eq, beq_eq_false_iff_ne, ne_eq, decide_eq_true_eq, decide_eq_false_iff_not, bne_iff_ne, bne_eq_false_iff_eq] at hg) <;> (try (first | simp only [eq_false hg, if_true, if_false] | simp only [eq_true hg, if_true, if_false]))) | (with_reducible first | refine qd ?_ | refine qc ?_ | refine qi ?_ | refine qh ?_) | refine acall (c1) ?_ | refine qv (c1) ?_ | refine qf ?_ | refine qj ?_ | refine qk ?_ | refine qn ?_) <;> (try simp (disch := first | omega | simp) [ql, -qu, -qx, hkl, hlt, hil])) | ((with_reducible first | refine sideG ?_ ?_ | refine qr ?_ ?_ | refine sideS ?_ ?_ | refine qs ?_ ?_ | refine qt ?_ ?_ | refine sideA ?_ ?_ | refine qp ?_ ?_ | refine qq ?_ ?_); first | omega | assumption | (simp; done)) | (refine qg fun K hK => ?_) | (refine qa ?_) | (refine qb true (by kernel_rfl) (by kernel_rfl) ?_) | (refine hK _ ?_; clear hK K) | (clear hK K; refine hK _ ?_; clear hK K) | (clear hK K; clear hK K; refine hK _ ?_; clear hK K) | refine qe ?_)
    | some t =>
      rw [ht] at c1 hok
      simp at c1
      by_cases htr : t = f.res
      rotate_left
      · have : B = false := hb (by rw [hok]; simp [htr])
        subst this
        have htb : (t == f.res) = false := by simp [htr]
        repeat' (first | ((first | ((with_reducible refine qo (fun hg => ?_) (fun hg => ?_)) <;> (try simp only [hg]) <;> (try simp only [beq_iff_eq, beq_eq_false_iff_ne, ne_eq, decide_eq_true_eq, decide_eq_false_iff_not, bne_iff_ne, bne_eq_false_iff_eq] at hg) <;> (try (first | simp only [eq_false hg, if_true, if_false] | simp only [eq_true hg, if_true, if_false]))) | (with_reducible first | refine qd ?_ | refine qc ?_ | refine qi ?_ | refine qh ?_) | refine acall (c1) ?_ | refine qv (c1) ?_ | refine qf ?_ | refine qj ?_ | refine qk ?_ | refine qn ?_) <;> (try simp (disch := first | omega | simp) [ql, -qu, -qx, hkl, hlt, hil, htr, htb])) | ((with_reducible first | refine sideG ?_ ?_ | refine qr ?_ ?_ | refine sideS ?_ ?_ | refine qs ?_ ?_ | refine qt ?_ ?_ | refine sideA ?_ ?_ | refine qp ?_ ?_ | refine qq ?_ ?_); first | omega | assumption | (simp; done)) | (refine qg fun K hK => ?_) | (refine qa ?_) | (refine qb true (by kernel_rfl) (by kernel_rfl) ?_) | (refine hK _ ?_; clear hK K) | (clear hK K; refine hK _ ?_; clear hK K) | (clear hK K; clear hK K; refine hK _ ?_; clear hK K) | refine qe ?_)
        all_goals (exfalso; omega)
      by_cases hl6 : (f.params.length : Int) ≤ 6
      · have hoki : okF F i = true := by rw [hok]; simp [htr, hl6]
        have hl6' : ¬ 6 < f.params.length := by omega
        have hl6b : ¬ (6 : Int) < f.params.length := by omega
        repeat' (first | ((first | ((with_reducible refine qo (fun hg => ?_) (fun hg => ?_)) <;> (try simp only [hg]) <;> (try simp only [beq_iff_eq, beq_eq_false_iff_ne, ne_eq, decide_eq_true_eq, decide_eq_false_iff_not, bne_iff_ne, bne_eq_false_iff_eq] at hg) <;> (try (first | simp only [eq_false hg, if_true, if_false] | simp only [eq_true hg, if_true, if_false]))) | (with_reducible first | refine qd ?_ | refine qc ?_ | refine qi ?_ | refine qh ?_) | refine acall (c1) ?_ | refine qv (c1) ?_ | refine qf ?_ | refine qj ?_ | refine qk ?_ | refine qn ?_) <;> (try simp (disch := first | omega | simp) [ql, -qu, -qx, hkl, hlt, hil, htr, hl6', hl6b])) | ((with_reducible first | refine sideG ?_ ?_ | refine qr ?_ ?_ | refine sideS ?_ ?_ | refine qs ?_ ?_ | refine qt ?_ ?_ | refine sideA ?_ ?_ | refine qp ?_ ?_ | refine qq ?_ ?_); first | omega | assumption | (simp; done)) | (refine qg fun K hK => ?_) | (refine qa ?_) | (refine qb true (by kernel_rfl) (by kernel_rfl) ?_) | (refine hK _ ?_; clear hK K) | (clear hK K; refine hK _ ?_; clear hK K) | (clear hK K; clear hK K; refine hK _ ?_; clear hK K) | refine qe ?_)
        all_goals
          refine ⟨i + 1, ⟨by omega, by omega, fun j hj hjl => ?_⟩, by omega, by simp⟩
          by_cases hji : j < i
          · exact he j hji hjl
          · obtain rfl : j = i := by omega
            exact hoki
      · have : B = false := hb (by rw [hok]; simp [hl6])
        subst this
        have hl6' : 6 < f.params.length := by omega
        have hl6b : (6 : Int) < f.params.length := by omega
        repeat' (first | ((first | ((with_reducible refine qo (fun hg => ?_) (fun hg => ?_)) <;> (try simp only [hg]) <;> (try simp only [beq_iff_eq, beq_eq_false_iff_ne, ne_eq, decide_eq_true_eq, decide_eq_false_iff_not, bne_iff_ne, bne_eq_false_iff_eq] at hg) <;> (try (first | simp only [eq_false hg, if_true, if_false] | simp only [eq_true hg, if_true, if_false]))) | (with_reducible first | refine qd ?_ | refine qc ?_ | refine qi ?_ | refine qh ?_) | refine acall (c1) ?_ | refine qv (c1) ?_ | refine qf ?_ | refine qj ?_ | refine qk ?_ | refine qn ?_) <;> (try simp (disch := first | omega | simp) [ql, -qu, -qx, hkl, hlt, hil, htr, hl6', hl6b])) | ((with_reducible first | refine sideG ?_ ?_ | refine qr ?_ ?_ | refine sideS ?_ ?_ | refine qs ?_ ?_ | refine qt ?_ ?_ | refine sideA ?_ ?_ | refine qp ?_ ?_ | refine qq ?_ ?_); first | omega | assumption | (simp; done)) | (refine qg fun K hK => ?_) | (refine qa ?_) | (refine qb true (by kernel_rfl) (by kernel_rfl) ?_) | (refine hK _ ?_; clear hK K) | (clear hK K; refine hK _ ?_; clear hK K) | (clear hK K; clear hK K; refine hK _ ?_; clear hK K) | refine qe ?_)
theorem rtype_g (F : List Fn) (c p : List Int) (e : Ex) (hbd : parts e ≤ 1000000) (hpF : ∀ f ∈ F, parts f.body ≤ 1000000) :
    Gives Tryd.prog 120 [.sl (F.map Fn.av), .sl (c.map AV.int), .sl (p.map AV.int), e.av] (.tup [.int ((typeP F c p e).getD 0), .bool (typeP F c p e).isSome]) := by
  have c1 := rright_g F hpF
  have c2 := rof_g F c p e hbd
  unfold typeP
  cases h : rightF F with
  | false =>
    rw [h] at c1
    refine qm Tryd.func120 Tryd.ntmps120 rfl rfl (by decide) rfl (by intro n; simp) fun σ n0 hcl hft => ?_
    repeat' (first | ((first | ((with_reducible refine qo (fun hg => ?_) (fun hg => ?_)) <;> (try simp only [hg]) <;> (try simp only [beq_iff_eq, beq_eq_false_iff_ne, ne_eq, decide_eq_true_eq, decide_eq_false_iff_not, bne_iff_ne, bne_eq_false_iff_eq] at hg) <;> (try (first | simp only [eq_false hg, if_true, if_false] | simp only [eq_true hg, if_true, if_false]))) | (with_reducible first | refine qd ?_ | refine qc ?_ | refine qi ?_ | refine qh ?_) | refine acall (c1) ?_ | refine qv (c1) ?_ | refine qf ?_ | refine qj ?_ | refine qk ?_ | refine qn ?_) <;> (try simp (disch := first | omega | simp) [ql, -qu, -qx])) | ((with_reducible first | refine sideG ?_ ?_ | refine qr ?_ ?_ | refine sideS ?_ ?_ | refine qs ?_ ?_ | refine qt ?_ ?_ | refine sideA ?_ ?_ | refine qp ?_ ?_ | refine qq ?_ ?_); first | omega | assumption | (simp; done)) | (refine qg fun K hK => ?_) | (refine qa ?_) | (refine qb true (by kernel_rfl) (by kernel_rfl) ?_) | (refine hK _ ?_; clear hK K) | (clear hK K; refine hK _ ?_; clear hK K) | (clear hK K; clear hK K; refine hK _ ?_; clear hK K) | refine qe ?_)
  | true =>
    rw [h] at c1
    simp only [if_true]
    generalize tyD F c p e = T at *
    refine qm Tryd.func120 Tryd.ntmps120 rfl rfl (by decide) rfl (by intro n; simp) fun σ n0 hcl hft => ?_
    repeat' (first | ((first | ((with_reducible refine qo (fun hg => ?_) (fun hg => ?_)) <;> (try simp only [hg]) <;> (try simp only [beq_iff_eq, beq_eq_false_iff_ne, ne_eq, decide_eq_true_eq, decide_eq_false_iff_not, bne_iff_ne, bne_eq_false_iff_eq] at hg) <;> (try (first | simp only [eq_false hg, if_true, if_false] | simp only [eq_true hg, if_true, if_false]))) | (with_reducible first | refine qd ?_ | refine qc ?_ | refine qi ?_ | refine qh ?_) | refine acall (c1) ?_ | refine qv (c1) ?_ | refine acall (c2) ?_ | refine qv (c2) ?_ | refine qf ?_ | refine qj ?_ | refine qk ?_ | refine qn ?_) <;> (try simp (disch := first | omega | simp) [ql, -qu, -qx])) | ((with_reducible first | refine sideG ?_ ?_ | refine qr ?_ ?_ | refine sideS ?_ ?_ | refine qs ?_ ?_ | refine qt ?_ ?_ | refine sideA ?_ ?_ | refine qp ?_ ?_ | refine qq ?_ ?_); first | omega | assumption | (simp; done)) | (refine qg fun K hK => ?_) | (refine qa ?_) | (refine qb true (by kernel_rfl) (by kernel_rfl) ?_) | (refine hK _ ?_; clear hK K) | (clear hK K; refine hK _ ?_; clear hK K) | (clear hK K; clear hK K; refine hK _ ?_; clear hK K) | refine qe ?_)
end Go.Proofs.YtnkakofcejkhiaaDoor
