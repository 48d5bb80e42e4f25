/- Walk: the type of an expression, as the reference finds it (errataref16.inner). -/
import Derived.Test.YtgpcpmfdklpifaaGreatDoorGa13
import Derived.Test.YtgpcpmfdklpifaaGreatDoorGa14
import Derived.Test.YtgpcpmfdklpifaaGreatDoorGa17
set_option linter.unusedSimpArgs false
set_option linter.unusedVariables false
namespace Go.Proofs.YtgpcpmfdklpifaaGreatDoor
open Go.RowKit Go.Lib
set_option maxHeartbeats 8000000 in
theorem inner_g (F : List Fn) (c p : List Int) (e : Ex) : parts e ≤ 1000000 → Gives Tryz.prog 59 [.sl (F.map Fn.av), .sl (c.map AV.int), .sl (p.map AV.int), e.av] (.tup [.int (innerX F c p e), .bool (ty F c p e).isSome]) := by
  induction e using Ex.ind with | h o n s l ih => ?_
  intro hp
  have hll : l.length ≤ 1000000 := by rw [parts] at hp; have := partsL_len l; omega
  obtain ⟨X, hX⟩ : ∃ X, X = innerX F c p (.mk o n s l) := ⟨_, rfl⟩
  obtain ⟨B, hB⟩ : ∃ B, B = (ty F c p (.mk o n s l)).isSome := ⟨_, rfl⟩
  rw [← hX, ← hB]
  refine qn Tryz.func59 Tryz.ntmps59 rfl rfl (by decide) rfl (by intro n; simp) fun σ n0 hcl hft => ?_
  repeat' (first | ((first | ((with_reducible refine qo (fun hg => ?_) (fun hg => ?_)) <;> (try simp only [hg]) <;> (try simp only [gS] at hg) <;> (try (first | simp only [eq_false hg, gI] | simp only [eq_true hg, gI]))) | (with_reducible first | refine qc ?_ | refine qb ?_ | refine qi ?_ | refine qh ?_) | refine qe ?_ | refine qj ?_ | refine qk ?_ | refine qm ?_) <;> (try simp (disch := first | omega | simp) [qg, -qq, -qs])) | ((with_reducible refine sideT ?_ ?_); first | omega | assumption | (simp; done)) | (refine qf fun K hK => ?_) | (refine qa ?_) | refine ql ?_ | ((first | refine hK _ ?_ | (clear hK K; refine hK _ ?_) | (clear hK K; clear hK K; refine hK _ ?_)); clear hK K) | refine qd ?_)
  refine qby 10 3 1 (by simp) ?_
  simp only [List.length_append, List.length_cons, List.length_nil, Nat.zero_add, Nat.reduceAdd, List.cons_append, List.nil_append]
  refine qr hcl (fun k : Nat => [(0, .sl (F.map Fn.av)), (1, .sl (c.map AV.int)), (2, .sl (p.map AV.int)), (7, .ptr n0 0), (10, .gs (n0 + 1) (((l.take k).map fun e => (ty F c p e).getD 0).map AV.int)), (11, .int k)]) (fun k => [.cells [.int o, .int n, .str s, .sl (l.map Ex.av)] 36, .tail k 3 1])
    (fun k => k ≤ l.length ∧ ∀ (i : Nat) (h : i < l.length), i < k → (ty F c p l[i]).isSome = true) (fun k => l.length - k) 0 ⟨by omega, fun i h h2 => by omega⟩ (by simp) fun k ⟨hk, hks⟩ => ?_
  by_cases hlt : k < l.length
  · have hc := ih l[k] (List.getElem_mem hlt) (by rw [parts] at hp; have := partsL_mem l l[k] (List.getElem_mem hlt); omega)
    have hle : (((l.take k).map fun e => (ty F c p e).getD 0)).length = k := by simp; omega
    have htk : (l.take (k + 1)).map (fun e => (ty F c p e).getD 0) = (l.take k).map (fun e => (ty F c p e).getD 0) ++ [(ty F c p l[k]).getD 0] := by rw [List.take_succ_eq_append_getElem hlt, List.map_append]; rfl
    have hxe := inner_eq F c p l[k]
    cases ht : ty F c p l[k] with
    | none =>
      rw [ht] at hc
      have h1 := tys_stop l k hlt ht
      have e1 : X = 0 := by rw [hX, innerX, h1]
      have e2 : B = false := by rw [hB, ty, h1]; rfl
      subst e1; subst e2
      generalize innerX F c p l[k] = Y at *
      simp only [Option.isSome_none] at hc
      clear hX hB ih hks
      repeat' (first | ((first | ((with_reducible refine qo (fun hg => ?_) (fun hg => ?_)) <;> (try simp only [hg]) <;> (try simp only [gS] at hg) <;> (try (first | simp only [eq_false hg, gI] | simp only [eq_true hg, gI]))) | (with_reducible first | refine qc ?_ | refine qb ?_ | refine qi ?_ | refine qh ?_) | refine acall (hc) ?_ | refine qp (hc) ?_ | refine qe ?_ | refine qj ?_ | refine qk ?_ | refine qm ?_) <;> (try simp (disch := first | omega | simp) [qg, -qq, -qs, hlt])) | ((with_reducible refine sideT ?_ ?_); first | omega | assumption | (simp; done)) | (refine qf fun K hK => ?_) | (refine qa ?_) | refine ql ?_ | ((first | refine hK _ ?_ | (clear hK K; refine hK _ ?_) | (clear hK K; clear hK K; refine hK _ ?_)); clear hK K) | refine qd ?_)
    | some t =>
      rw [ht] at hc hxe htk
      rw [hxe t rfl] at hc
      simp only [Option.isSome_some, Option.getD_some] at hc htk
      generalize (l.take k).map (fun e => (ty F c p e).getD 0) = Vs at *
      clear hX hB ih
      repeat' (first | ((first | ((with_reducible refine qo (fun hg => ?_) (fun hg => ?_)) <;> (try simp only [hg]) <;> (try simp only [gS] at hg) <;> (try (first | simp only [eq_false hg, gI] | simp only [eq_true hg, gI]))) | (with_reducible first | refine qc ?_ | refine qb ?_ | refine qi ?_ | refine qh ?_) | refine acall (hc) ?_ | refine qp (hc) ?_ | refine qe ?_ | refine qj ?_ | refine qk ?_ | refine qm ?_) <;> (try simp (disch := first | omega | simp) [qg, -qq, -qs, hlt])) | ((with_reducible refine sideT ?_ ?_); first | omega | assumption | (simp; done)) | (refine qf fun K hK => ?_) | (refine qa ?_) | refine ql ?_ | ((first | refine hK _ ?_ | (clear hK K; refine hK _ ?_) | (clear hK K; clear hK K; refine hK _ ?_)); clear hK K) | refine qd ?_)
      all_goals refine ⟨k + 1, ⟨by omega, fun i h h2 => ?_⟩, by omega, ?_⟩
      · by_cases hik : i < k
        · exact hks i h hik
        · obtain rfl : i = k := by omega
          rw [ht]; rfl
      · have htk2 := congrArg (List.map AV.int) htk
        simp at htk2
        simp [htk2, hle]
  · obtain rfl : k = l.length := by omega
    rw [List.take_length]
    have hall := tys_all l fun i h => hks i h h
    obtain ⟨ts, hts⟩ : ∃ ts, ts = l.map fun e => (ty F c p e).getD 0 := ⟨_, rfl⟩
    rw [← hts] at hall ⊢
    have hX2 : X = tailX F c p o n s ts := by rw [hX, innerX, hall]
    have hB2 : B = (tailT F c p o n s ts).isSome := by rw [hB, ty, hall]
    have htl : ts.length = l.length := by rw [hts]; simp
    clear hX hB ih hks hall hts hp hk
    have hemp : s.toList.isEmpty = decide (s.size = 0) := by
      by_cases h : s.size = 0
      · rw [decide_eq_true h, List.isEmpty_iff]
        exact List.eq_nil_of_length_eq_zero (by rw [ByteArray.toList_eq]; rw [Lib.size_eq] at h; simpa using h)
      · rw [decide_eq_false h, List.isEmpty_eq_false_iff]
        intro h2
        rw [ByteArray.toList_eq] at h2
        exact h (by rw [Lib.size_eq, h2]; rfl)
    by_cases hs : s.size ≠ 0 ∧ o ≠ 1
    · have e1 : X = 0 := by rw [hX2, tailX, if_pos hs]
      have e2 : B = false := by rw [hB2, tailT, if_pos hs]; rfl
      subst e1; subst e2
      clear hX2 hB2
      obtain ⟨hs1, hs2⟩ := hs
      have hs3 : (o == 1) = false := by simp [hs2]
      rw [decide_eq_false hs1] at hemp
      repeat' (first | ((first | ((with_reducible refine qo (fun hg => ?_) (fun hg => ?_)) <;> (try simp only [hg]) <;> (try simp only [gS] at hg) <;> (try (first | simp only [eq_false hg, gI] | simp only [eq_true hg, gI]))) | (with_reducible first | refine qc ?_ | refine qb ?_ | refine qi ?_ | refine qh ?_) | refine qe ?_ | refine qj ?_ | refine qk ?_ | refine qm ?_) <;> (try simp (disch := first | omega | simp) [qg, -qq, -qs, hlt, hs2, hs3, hemp])) | ((with_reducible refine sideT ?_ ?_); first | omega | assumption | (simp; done)) | (refine qf fun K hK => ?_) | (refine qa ?_) | refine ql ?_ | ((first | refine hK _ ?_ | (clear hK K; refine hK _ ?_) | (clear hK K; clear hK K; refine hK _ ?_)); clear hK K) | refine qd ?_)
      all_goals (exfalso; simp_all; done)
    have tX : tailX F c p o n s ts = if o = 22 then (callT F n ts).getD 0 else if numP o ≠ ts.length then 0
        else if o = 0 then 0 else if o = 2 then 2 else if o = 3 then atX c n else if o = 4 then atX p n else if n ≠ 0 then 0
        else if o = 1 then 1 else if o = 5 then 0 else if o = 6 then 2 else if o = 7 ∨ o = 20 then 0 else if o ≤ 12 then 0 else if o ≤ 18 then 2 else if o = 19 then 1 else ts.getD 1 0 := by rw [tailX, if_neg hs]
    have tB : tailT F c p o n s ts = if o = 22 then callT F n ts else if ts = [] then leafT c p o n s else operT o n ts := by rw [tailT, if_neg hs]
    have c1 := rnumber_g o
    by_cases h22 : o = 22
    · subst h22
      rw [if_pos rfl] at tX tB
      rw [tX] at hX2; rw [tB] at hB2
      have c2 := rcall_g F n ts
      rw [← hX2, ← hB2] at c2
      have hs3 : s.size = 0 := by omega
      rw [decide_eq_true hs3] at hemp
      repeat' (first | ((first | ((with_reducible refine qo (fun hg => ?_) (fun hg => ?_)) <;> (try simp only [hg]) <;> (try simp only [gS] at hg) <;> (try (first | simp only [eq_false hg, gI] | simp only [eq_true hg, gI]))) | (with_reducible first | refine qc ?_ | refine qb ?_ | refine qi ?_ | refine qh ?_) | refine acall (c2) ?_ | refine qp (c2) ?_ | refine qe ?_ | refine qj ?_ | refine qk ?_ | refine qm ?_) <;> (try simp (disch := first | omega | simp) [qg, -qq, -qs, hlt, hemp])) | ((with_reducible refine sideT ?_ ?_); first | omega | assumption | (simp; done)) | (refine qf fun K hK => ?_) | (refine qa ?_) | refine ql ?_ | ((first | refine hK _ ?_ | (clear hK K; refine hK _ ?_) | (clear hK K; clear hK K; refine hK _ ?_)); clear hK K) | refine qd ?_)
    have h22b : (o == 22) = false := by simp [h22]
    have c3 := rat_g c n
    have c4 := rat_g p n
    by_cases hnum : numP o = ts.length
    rotate_left
    · have e1 : X = 0 := by rw [hX2, tX, if_neg h22, if_pos hnum]
      have e2 : B = false := by
        rw [hB2]
        cases ht : tailT F c p o n s ts with
        | none => rfl
        | some t => exact absurd (tailT_num ht h22) hnum
      subst e1; subst e2
      clear hX2 hB2 tX tB c3 c4
      generalize numP o = NP at *
      have hnb : (NP == (ts.length : Int)) = false := by simp [hnum]
      by_cases h1 : s.size = 0
      · rw [decide_eq_true h1] at hemp
        repeat' (first | ((first | ((with_reducible refine qo (fun hg => ?_) (fun hg => ?_)) <;> (try simp only [hg]) <;> (try simp only [gS] at hg) <;> (try (first | simp only [eq_false hg, gI] | simp only [eq_true hg, gI]))) | (with_reducible first | refine qc ?_ | refine qb ?_ | refine qi ?_ | refine qh ?_) | refine acall (c1) ?_ | refine qp (c1) ?_ | refine qe ?_ | refine qj ?_ | refine qk ?_ | refine qm ?_) <;> (try simp (disch := first | omega | simp) [qg, -qq, -qs, hlt, hemp, h22, h22b, hnum, hnb])) | ((with_reducible refine sideT ?_ ?_); first | omega | assumption | (simp; done)) | (refine qf fun K hK => ?_) | (refine qa ?_) | refine ql ?_ | ((first | refine hK _ ?_ | (clear hK K; refine hK _ ?_) | (clear hK K; clear hK K; refine hK _ ?_)); clear hK K) | refine qd ?_)
        all_goals (exfalso; first | omega | (simp_all; done))
      · rw [decide_eq_false h1] at hemp
        obtain rfl : o = 1 := by omega
        repeat' (first | ((first | ((with_reducible refine qo (fun hg => ?_) (fun hg => ?_)) <;> (try simp only [hg]) <;> (try simp only [gS] at hg) <;> (try (first | simp only [eq_false hg, gI] | simp only [eq_true hg, gI]))) | (with_reducible first | refine qc ?_ | refine qb ?_ | refine qi ?_ | refine qh ?_) | refine acall (c1) ?_ | refine qp (c1) ?_ | refine qe ?_ | refine qj ?_ | refine qk ?_ | refine qm ?_) <;> (try simp (disch := first | omega | simp) [qg, -qq, -qs, hlt, hemp, hnum, hnb])) | ((with_reducible refine sideT ?_ ?_); first | omega | assumption | (simp; done)) | (refine qf fun K hK => ?_) | (refine qa ?_) | refine ql ?_ | ((first | refine hK _ ?_ | (clear hK K; refine hK _ ?_) | (clear hK K; clear hK K; refine hK _ ?_)); clear hK K) | refine qd ?_)
        all_goals (exfalso; first | omega | (simp_all; done))
    rw [if_neg h22, if_neg (by simp [hnum])] at tX
    rw [if_neg h22] at tB
    rw [tX] at hX2; rw [tB] at hB2
    rw [hnum] at c1
    have hsc := numP_len hnum h22
    clear tX tB hnum
    have hs' : s.toList.isEmpty = false → o = 1 := fun h => by
      rw [hemp] at h
      have := of_decide_eq_false h
      omega
    clear hemp hs htl
    rcases hsc with ⟨ho, rfl⟩ | ⟨ho, a, rfl⟩ | ⟨ho, a, b, d, rfl⟩ | ⟨ho, a, b, rfl⟩
    · rw [if_pos rfl] at hB2
      simp at c1
      repeat' (first | ((first | ((with_reducible refine qo (fun hg => ?_) (fun hg => ?_)) <;> (try simp only [hg]) <;> (try simp only [gS] at hg) <;> (try (first | simp only [eq_false hg, gI] | simp only [eq_true hg, gI]))) | (with_reducible first | refine qc ?_ | refine qb ?_ | refine qi ?_ | refine qh ?_) | refine acall (c1) ?_ | refine qp (c1) ?_ | refine acall (c3) ?_ | refine qp (c3) ?_ | refine acall (c4) ?_ | refine qp (c4) ?_ | refine qe ?_ | refine qj ?_ | refine qk ?_ | refine qm ?_) <;> (try simp (disch := first | omega | simp) [qg, -qq, -qs, hlt, h22, h22b])) | ((with_reducible refine sideT ?_ ?_); first | omega | assumption | (simp; done)) | (refine qf fun K hK => ?_) | (refine qa ?_) | refine ql ?_ | ((first | refine hK _ ?_ | (clear hK K; refine hK _ ?_) | (clear hK K; clear hK K; refine hK _ ?_)); clear hK K) | refine qd ?_)
      all_goals first
        | (exfalso; have := hs' (by assumption); omega)
        | (exfalso; omega)
        | (rw [hX2, hB2]; simp [*, leafT]; done)
        | (have h2 : o = 2 := by assumption
           have hn : ¬ n = 0 := by assumption
           subst h2; rw [hX2, hB2]; simp [leafT, hn]; by_cases h1 : n = 1 <;> simp [h1]; done)
        | (have h1 : o = 1 := by assumption
           have hn : n = 0 := by omega
           subst h1; subst hn
           refine ⟨by rw [hX2]; simp, ?_⟩
           rw [hB2]
           by_cases hz : (s.size : Int) ≤ 200
           · simp only [leafT, hz]; simp
           · simp only [leafT, hz]; simp)
    all_goals rw [if_neg (by simp)] at hB2
    · simp at c1
      repeat' (first | ((first | ((with_reducible refine qo (fun hg => ?_) (fun hg => ?_)) <;> (try simp only [hg]) <;> (try simp only [gS] at hg) <;> (try (first | simp only [eq_false hg, gI] | simp only [eq_true hg, gI]))) | (with_reducible first | refine qc ?_ | refine qb ?_ | refine qi ?_ | refine qh ?_) | refine acall (c1) ?_ | refine qp (c1) ?_ | refine acall (c3) ?_ | refine qp (c3) ?_ | refine acall (c4) ?_ | refine qp (c4) ?_ | refine qe ?_ | refine qj ?_ | refine qk ?_ | refine qm ?_) <;> (try simp (disch := first | omega | simp) [qg, -qq, -qs, hlt, h22, h22b])) | ((with_reducible refine sideT ?_ ?_); first | omega | assumption | (simp; done)) | (refine qf fun K hK => ?_) | (refine qa ?_) | refine ql ?_ | ((first | refine hK _ ?_ | (clear hK K; refine hK _ ?_) | (clear hK K; clear hK K; refine hK _ ?_)); clear hK K) | refine qd ?_)
      all_goals first
        | (exfalso; have := hs' (by assumption); omega)
        | (exfalso; omega)
        | (clear c1 c3 c4 hcl hft hs' h22 h22b; rw [hX2, hB2]; simp [*, operT]; done)
        | (clear c1 c3 c4 hcl hft hs' h22 h22b; rw [hX2, hB2]; simp [*, operT]; by_cases h1 : a = 0 <;> simp [h1]; done)
        | (clear c1 c3 c4 hcl hft hs' h22 h22b; rw [hX2, hB2]; simp [*, operT]; by_cases h1 : a = 1 <;> simp [h1]; done)
        | (clear c1 c3 c4 hcl hft hs' h22 h22b; rw [hX2, hB2]; simp [*, operT]; by_cases h1 : a = 2 <;> simp [h1]; done)
    · simp at c1
      subst ho
      repeat' (first | ((first | ((with_reducible refine qo (fun hg => ?_) (fun hg => ?_)) <;> (try simp only [hg]) <;> (try simp only [gS] at hg) <;> (try (first | simp only [eq_false hg, gI] | simp only [eq_true hg, gI]))) | (with_reducible first | refine qc ?_ | refine qb ?_ | refine qi ?_ | refine qh ?_) | refine acall (c1) ?_ | refine qp (c1) ?_ | refine acall (c3) ?_ | refine qp (c3) ?_ | refine acall (c4) ?_ | refine qp (c4) ?_ | refine qe ?_ | refine qj ?_ | refine qk ?_ | refine qm ?_) <;> (try simp (disch := first | omega | simp) [qg, -qq, -qs, hlt, h22, h22b])) | ((with_reducible refine sideT ?_ ?_); first | omega | assumption | (simp; done)) | (refine qf fun K hK => ?_) | (refine qa ?_) | refine ql ?_ | ((first | refine hK _ ?_ | (clear hK K; refine hK _ ?_) | (clear hK K; clear hK K; refine hK _ ?_)); clear hK K) | refine qd ?_)
      all_goals first
        | (exfalso; have := hs' (by assumption); omega)
        | (exfalso; omega)
        | (clear c1 c3 c4 hcl hft hs' h22 h22b; rw [hX2, hB2]; simp [*, operT]; done)
        | (clear c1 c3 c4 hcl hft hs' h22 h22b; rw [hX2, hB2]; simp [*, operT]; by_cases h1 : a = 2 <;> by_cases h2 : b = d <;> simp [h1, h2]; done)
    · simp at c1
      repeat' (first | ((first | ((with_reducible refine qo (fun hg => ?_) (fun hg => ?_)) <;> (try simp only [hg]) <;> (try simp only [gS] at hg) <;> (try (first | simp only [eq_false hg, gI] | simp only [eq_true hg, gI]))) | (with_reducible first | refine qc ?_ | refine qb ?_ | refine qi ?_ | refine qh ?_) | refine acall (c1) ?_ | refine qp (c1) ?_ | refine acall (c3) ?_ | refine qp (c3) ?_ | refine acall (c4) ?_ | refine qp (c4) ?_ | refine qe ?_ | refine qj ?_ | refine qk ?_ | refine qm ?_) <;> (try simp (disch := first | omega | simp) [qg, -qq, -qs, hlt, h22, h22b])) | ((with_reducible refine sideT ?_ ?_); first | omega | assumption | (simp; done)) | (refine qf fun K hK => ?_) | (refine qa ?_) | refine ql ?_ | ((first | refine hK _ ?_ | (clear hK K; refine hK _ ?_) | (clear hK K; clear hK K; refine hK _ ?_)); clear hK K) | refine qd ?_)
      all_goals first
        | (exfalso; have := hs' (by assumption); omega)
        | (exfalso; omega)
        | (clear c1 c3 c4 hcl hft hs' h22 h22b; rw [hX2, hB2]; simp [*, operT]; done)
        | (clear c1 c3 c4 hcl hft hs' h22 h22b; rw [hX2, hB2]; simp [*, operT]; by_cases h2 : a = b <;> simp [h2]; done)
        | (clear c1 c3 c4 hcl hft hs' h22 h22b; rw [hX2, hB2]; simp [*, operT]; by_cases h1 : b = 0 <;> simp [h1]; done)
        | (clear c1 c3 c4 hcl hft hs' h22 h22b; rw [hX2, hB2]; simp [*, operT]; by_cases h1 : b = 1 <;> simp [h1]; done)
        | (clear c1 c3 c4 hcl hft hs' h22 h22b; rw [hX2, hB2]; simp [*, operT]; by_cases h1 : b = 2 <;> simp [h1]; done)
end Go.Proofs.YtgpcpmfdklpifaaGreatDoor

/- Walks: of, Right and Type of the reference; the same as contracts of the first kind. -/
namespace Go.Proofs.YtgpcpmfdklpifaaGreatDoor
open Go.RowKit Go.Lib
theorem rof_g (F : List Fn) (c p : List Int) (e : Ex) (hp : parts e ≤ 1000000) : Gives Tryz.prog 35 [.sl (F.map Fn.av), .sl (c.map AV.int), .sl (p.map AV.int), e.av] (.tup [.int ((tyD F c p e).getD 0), .bool (tyD F c p e).isSome]) := by
  have hlv := levels_le e
  have c1 := rlevels_g' e (by omega)
  have c2 := inner_g F c p e hp
  by_cases h : levels e > 12
  · have e1 : tyD F c p e = none := by unfold tyD; rw [if_pos h]
    rw [e1]
    clear c2
    generalize levels e = L at *
    have h' : 12 < L := h
    refine qn Tryz.func35 Tryz.ntmps35 rfl rfl (by decide) rfl (by intro n; simp) fun σ n0 hcl hft => ?_
    repeat' (first | ((first | ((with_reducible refine qo (fun hg => ?_) (fun hg => ?_)) <;> (try simp only [hg]) <;> (try simp only [gS] at hg) <;> (try (first | simp only [eq_false hg, gI] | simp only [eq_true hg, gI]))) | (with_reducible first | refine qc ?_ | refine qb ?_ | refine qi ?_ | refine qh ?_) | refine acall (c1) ?_ | refine qp (c1) ?_ | refine qe ?_ | refine qj ?_ | refine qk ?_ | refine qm ?_) <;> (try simp (disch := first | omega | simp) [qg, -qq, -qs, h'])) | ((with_reducible refine sideT ?_ ?_); first | omega | assumption | (simp; done)) | (refine qf fun K hK => ?_) | (refine qa ?_) | refine ql ?_ | ((first | refine hK _ ?_ | (clear hK K; refine hK _ ?_) | (clear hK K; clear hK K; refine hK _ ?_)); clear hK K) | refine qd ?_)
    all_goals (exfalso; omega)
  · have e1 : tyD F c p e = ty F c p e := by unfold tyD; rw [if_neg h]
    rw [e1]
    have hx := inner_eq F c p e
    have h' : ¬ 12 < levels e := h
    generalize levels e = L at *
    generalize innerX F c p e = X at *
    cases ht : ty F c p e with
    | none =>
      rw [ht] at c2
      simp at c2
      clear hx
      refine qn Tryz.func35 Tryz.ntmps35 rfl rfl (by decide) rfl (by intro n; simp) fun σ n0 hcl hft => ?_
      repeat' (first | ((first | ((with_reducible refine qo (fun hg => ?_) (fun hg => ?_)) <;> (try simp only [hg]) <;> (try simp only [gS] at hg) <;> (try (first | simp only [eq_false hg, gI] | simp only [eq_true hg, gI]))) | (with_reducible first | refine qc ?_ | refine qb ?_ | refine qi ?_ | refine qh ?_) | refine acall (c1) ?_ | refine qp (c1) ?_ | refine acall (c2) ?_ | refine qp (c2) ?_ | refine qe ?_ | refine qj ?_ | refine qk ?_ | refine qm ?_) <;> (try simp (disch := first | omega | simp) [qg, -qq, -qs, h'])) | ((with_reducible refine sideT ?_ ?_); first | omega | assumption | (simp; done)) | (refine qf fun K hK => ?_) | (refine qa ?_) | refine ql ?_ | ((first | refine hK _ ?_ | (clear hK K; refine hK _ ?_) | (clear hK K; clear hK K; refine hK _ ?_)); clear hK K) | refine qd ?_)
      all_goals (exfalso; omega)
    | some t =>
      rw [ht] at c2 hx
      rw [hx t rfl] at c2
      simp at c2
      clear hx
      refine qn Tryz.func35 Tryz.ntmps35 rfl rfl (by decide) rfl (by intro n; simp) fun σ n0 hcl hft => ?_
      repeat' (first | ((first | ((with_reducible refine qo (fun hg => ?_) (fun hg => ?_)) <;> (try simp only [hg]) <;> (try simp only [gS] at hg) <;> (try (first | simp only [eq_false hg, gI] | simp only [eq_true hg, gI]))) | (with_reducible first | refine qc ?_ | refine qb ?_ | refine qi ?_ | refine qh ?_) | refine acall (c1) ?_ | refine qp (c1) ?_ | refine acall (c2) ?_ | refine qp (c2) ?_ | refine qe ?_ | refine qj ?_ | refine qk ?_ | refine qm ?_) <;> (try simp (disch := first | omega | simp) [qg, -qq, -qs, h'])) | ((with_reducible refine sideT ?_ ?_); first | omega | assumption | (simp; done)) | (refine qf fun K hK => ?_) | (refine qa ?_) | refine ql ?_ | ((first | refine hK _ ?_ | (clear hK K; refine hK _ ?_) | (clear hK K; clear hK K; refine hK _ ?_)); clear hK K) | refine qd ?_)
      all_goals (exfalso; omega)
theorem fns_fits {F : List Fn} (h : AV.fitss [.sl (F.map Fn.av)]) : ∀ f ∈ F, f.params.length ≤ 9223372036854775807 := fun f hf => by
  have h1 := (AV.fitss_iff.1 h) _ (List.mem_singleton_self _)
  rw [AV.fits] at h1
  have h2 := (AV.fitss_iff.1 h1.2) f.av (List.mem_map_of_mem hf)
  unfold Fn.av at h2
  rw [AV.fits] at h2
  have h3 := (AV.fitss_iff.1 h2) (.sl (f.params.map AV.int)) (by simp)
  rw [AV.fits] at h3
  simpa using h3.1
set_option maxHeartbeats 8000000 in
theorem rright_g (F : List Fn) (hp : ∀ f ∈ F, parts f.body ≤ 1000000) : Gives Tryz.prog 34 [.sl (F.map Fn.av)] (.bool (qdj F)) := by
  obtain ⟨B, hB⟩ : ∃ B, B = qdj F := ⟨_, rfl⟩
  rw [← hB]
  refine qn Tryz.func34 Tryz.ntmps34 rfl rfl (by decide) rfl (by intro n; simp) fun σ n0 hcl hft => ?_
  repeat' (first | ((first | ((with_reducible refine qo (fun hg => ?_) (fun hg => ?_)) <;> (try simp only [hg]) <;> (try simp only [gS] at hg) <;> (try (first | simp only [eq_false hg, gI] | simp only [eq_true hg, gI]))) | (with_reducible first | refine qc ?_ | refine qb ?_ | refine qi ?_ | refine qh ?_) | refine qe ?_ | refine qj ?_ | refine qk ?_ | refine qm ?_) <;> (try simp (disch := first | omega | simp) [qg, -qq, -qs])) | ((with_reducible refine sideT ?_ ?_); first | omega | assumption | (simp; done)) | (refine qf fun K hK => ?_) | (refine qa ?_) | refine ql ?_ | ((first | refine hK _ ?_ | (clear hK K; refine hK _ ?_) | (clear hK K; clear hK K; refine hK _ ?_)); clear hK K) | refine qd ?_)
  refine qr hcl (fun i : Nat => [(0, .sl (F.map Fn.av)), (3, .int i)]) (fun _ => []) (fun i => i ≤ F.length ∧ i ≤ 21 ∧ ∀ j, j < i → j < F.length → okF F j = true) (fun i => F.length - i) 0 ⟨by omega, by omega, fun j h => by omega⟩ (by simp) fun i ⟨hi, hi2, he⟩ => ?_
  by_cases hlt : i < F.length
  rotate_left
  · have hBe : B = decide ((F.length : Int) ≤ 20) := by rw [hB]; exact rightF_end fun j hj => he j (by omega) hj
    subst hBe
    repeat' (first | ((first | ((with_reducible refine qo (fun hg => ?_) (fun hg => ?_)) <;> (try simp only [hg]) <;> (try simp only [gS] at hg) <;> (try (first | simp only [eq_false hg, gI] | simp only [eq_true hg, gI]))) | (with_reducible first | refine qc ?_ | refine qb ?_ | refine qi ?_ | refine qh ?_) | refine qe ?_ | refine qj ?_ | refine qk ?_ | refine qm ?_) <;> (try simp (disch := first | omega | simp) [qg, -qq, -qs, hlt])) | ((with_reducible refine sideT ?_ ?_); first | omega | assumption | (simp; done)) | (refine qf fun K hK => ?_) | (refine qa ?_) | refine ql ?_ | ((first | refine hK _ ?_ | (clear hK K; refine hK _ ?_) | (clear hK K; clear hK K; refine hK _ ?_)); clear hK K) | refine qd ?_)
  by_cases h20 : i ≤ 20
  rotate_left
  · have hBe : B = false := by
      rw [hB]; unfold qdj
      have : ¬ (F.length : Int) ≤ 20 := by omega
      simp [this]
    subst hBe
    have h20b : ¬ (i : Int) ≤ 20 := by omega
    have h21 : ¬ F.length ≤ 20 := by omega
    repeat' (first | ((first | ((with_reducible refine qo (fun hg => ?_) (fun hg => ?_)) <;> (try simp only [hg]) <;> (try simp only [gS] at hg) <;> (try (first | simp only [eq_false hg, gI] | simp only [eq_true hg, gI]))) | (with_reducible first | refine qc ?_ | refine qb ?_ | refine qi ?_ | refine qh ?_) | refine qe ?_ | refine qj ?_ | refine qk ?_ | refine qm ?_) <;> (try simp (disch := first | omega | simp) [qg, -qq, -qs, hlt, h20, h20b, h21])) | ((with_reducible refine sideT ?_ ?_); first | omega | assumption | (simp; done)) | (refine qf fun K hK => ?_) | (refine qa ?_) | refine ql ?_ | ((first | refine hK _ ?_ | (clear hK K; refine hK _ ?_) | (clear hK K; clear hK K; refine hK _ ?_)); clear hK K) | refine qd ?_)
    all_goals omega
  have hpk := hp F[i] (List.getElem_mem hlt)
  obtain ⟨f, hf⟩ : ∃ f, f = F[i] := ⟨_, rfl⟩
  rw [← hf] at hpk
  have hok := okF_at hlt
  rw [← hf] at hok
  have hil : ¬ F.length < i := by omega
  have c1 := rof_g (F.take i) [] f.params f.body hpk
  rw [List.map_take] at c1
  have h20c : (i : Int) ≤ 20 := by omega
  repeat' (first | ((first | ((with_reducible refine qo (fun hg => ?_) (fun hg => ?_)) <;> (try simp only [hg]) <;> (try simp only [gS] at hg) <;> (try (first | simp only [eq_false hg, gI] | simp only [eq_true hg, gI]))) | (with_reducible first | refine qc ?_ | refine qb ?_ | refine qi ?_ | refine qh ?_) | refine qe ?_ | refine qj ?_ | refine qk ?_ | refine qm ?_) <;> (try simp (disch := first | omega | simp) [qg, -qq, -qs, hlt, h20, h20c, ← hf])) | ((with_reducible refine sideT ?_ ?_); first | omega | assumption | (simp; done)) | (refine qf fun K hK => ?_) | (refine qa ?_) | refine ql ?_ | ((first | refine hK _ ?_ | (clear hK K; refine hK _ ?_) | (clear hK K; clear hK K; refine hK _ ?_)); clear hK K) | refine qd ?_)
  all_goals first | (exfalso; omega; done) | skip
  refine qr hcl (fun k : Nat => [(0, .sl (F.map Fn.av)), (3, .int i), (4, .ptr n0 0), (5, .int k)]) (fun _ => [.cells f.av.cells 88]) (fun k => k ≤ f.params.length ∧ ∀ j (h : j < f.params.length), j < k → kindB f.params[j] = true) (fun k => f.params.length - k) 0 ⟨by omega, fun j h hj => by omega⟩ (by simp) fun k ⟨hk, hks⟩ => ?_
  by_cases hkl : k < f.params.length
  · have c2 := rkind_g f.params[k]
    cases hkb : kindB f.params[k] with
    | false =>
      rw [hkb] at c2
      have : B = false := by
        rw [hB]
        refine rightF_false hlt ?_
        rw [hok]
        have : f.params.all kindB = false := by
          rw [List.all_eq_false]
          exact ⟨f.params[k], List.getElem_mem hkl, by rw [hkb]; simp⟩
        rw [this]; simp
      subst this
      repeat' (first | ((first | ((with_reducible refine qo (fun hg => ?_) (fun hg => ?_)) <;> (try simp only [hg]) <;> (try simp only [gS] at hg) <;> (try (first | simp only [eq_false hg, gI] | simp only [eq_true hg, gI]))) | (with_reducible first | refine qc ?_ | refine qb ?_ | refine qi ?_ | refine qh ?_) | refine acall (c2) ?_ | refine qp (c2) ?_ | refine qe ?_ | refine qj ?_ | refine qk ?_ | refine qm ?_) <;> (try simp (disch := first | omega | simp) [qg, -qq, -qs, hkl])) | ((with_reducible refine sideT ?_ ?_); first | omega | assumption | (simp; done)) | (refine qf fun K hK => ?_) | (refine qa ?_) | refine ql ?_ | ((first | refine hK _ ?_ | (clear hK K; refine hK _ ?_) | (clear hK K; clear hK K; refine hK _ ?_)); clear hK K) | refine qd ?_)
    | true =>
      rw [hkb] at c2
      have hfl : f.params.length ≤ 9223372036854775807 := by rw [hf]; exact fns_fits hft _ (List.getElem_mem hlt)
      repeat' (first | ((first | ((with_reducible refine qo (fun hg => ?_) (fun hg => ?_)) <;> (try simp only [hg]) <;> (try simp only [gS] at hg) <;> (try (first | simp only [eq_false hg, gI] | simp only [eq_true hg, gI]))) | (with_reducible first | refine qc ?_ | refine qb ?_ | refine qi ?_ | refine qh ?_) | refine acall (c2) ?_ | refine qp (c2) ?_ | refine qe ?_ | refine qj ?_ | refine qk ?_ | refine qm ?_) <;> (try simp (disch := first | omega | simp) [qg, -qq, -qs, hkl])) | ((with_reducible refine sideT ?_ ?_); first | omega | assumption | (simp; done)) | (refine qf fun K hK => ?_) | (refine qa ?_) | refine ql ?_ | ((first | refine hK _ ?_ | (clear hK K; refine hK _ ?_) | (clear hK K; clear hK K; refine hK _ ?_)); clear hK K) | refine qd ?_)
      all_goals
        refine ⟨k + 1, ⟨by omega, fun j h hj => ?_⟩, by omega, by simp⟩
        by_cases hjk : j < k
        · exact hks j h hjk
        · obtain rfl : j = k := by omega
          exact hkb
  · have hall : f.params.all kindB = true := by
      rw [List.all_eq_true]
      intro x hx
      obtain ⟨j, h1, rfl⟩ := List.getElem_of_mem hx
      exact hks j h1 (by omega)
    rw [hall, Bool.true_and] at hok
    have hb : okF F i = false → B = false := fun h => by rw [hB]; exact rightF_false hlt h
    cases ht : tyD (F.take i) [] f.params f.body with
    | none =>
      rw [ht] at c1 hok
      have : B = false := hb (by rw [hok]; simp)
      subst this
      simp at c1
      repeat' (first | ((first | ((with_reducible refine qo (fun hg => ?_) (fun hg => ?_)) <;> (try simp only [hg]) <;> (try simp only [gS] at hg) <;> (try (first | simp only [eq_false hg, gI] | simp only [eq_true hg, gI]))) | (with_reducible first | refine qc ?_ | refine qb ?_ | refine qi ?_ | refine qh ?_) | refine acall (c1) ?_ | refine qp (c1) ?_ | refine qe ?_ | refine qj ?_ | refine qk ?_ | refine qm ?_) <;> (try simp (disch := first | omega | simp) [qg, -qq, -qs, hkl, hlt, hil])) | ((with_reducible refine sideT ?_ ?_); first | omega | assumption | (simp; done)) | (refine qf fun K hK => ?_) | (refine qa ?_) | refine ql ?_ | ((first | refine hK _ ?_ | (clear hK K; refine hK _ ?_) | (clear hK K; clear hK K; refine hK _ ?_)); clear hK K) | refine qd ?_)
    | some t =>
      rw [ht] at c1 hok
      simp at c1
      by_cases htr : t = f.res
      rotate_left
      · have : B = false := hb (by rw [hok]; simp [htr])
        subst this
        have htb : (t == f.res) = false := by simp [htr]
        repeat' (first | ((first | ((with_reducible refine qo (fun hg => ?_) (fun hg => ?_)) <;> (try simp only [hg]) <;> (try simp only [gS] at hg) <;> (try (first | simp only [eq_false hg, gI] | simp only [eq_true hg, gI]))) | (with_reducible first | refine qc ?_ | refine qb ?_ | refine qi ?_ | refine qh ?_) | refine acall (c1) ?_ | refine qp (c1) ?_ | refine qe ?_ | refine qj ?_ | refine qk ?_ | refine qm ?_) <;> (try simp (disch := first | omega | simp) [qg, -qq, -qs, hkl, hlt, hil, htr, htb])) | ((with_reducible refine sideT ?_ ?_); first | omega | assumption | (simp; done)) | (refine qf fun K hK => ?_) | (refine qa ?_) | refine ql ?_ | ((first | refine hK _ ?_ | (clear hK K; refine hK _ ?_) | (clear hK K; clear hK K; refine hK _ ?_)); clear hK K) | refine qd ?_)
        all_goals (exfalso; omega)
      by_cases hl6 : (f.params.length : Int) ≤ 6
      · have hoki : okF F i = true := by rw [hok]; simp [htr, hl6]
        have hl6' : ¬ 6 < f.params.length := by omega
        have hl6b : ¬ (6 : Int) < f.params.length := by omega
        repeat' (first | ((first | ((with_reducible refine qo (fun hg => ?_) (fun hg => ?_)) <;> (try simp only [hg]) <;> (try simp only [gS] at hg) <;> (try (first | simp only [eq_false hg, gI] | simp only [eq_true hg, gI]))) | (with_reducible first | refine qc ?_ | refine qb ?_ | refine qi ?_ | refine qh ?_) | refine acall (c1) ?_ | refine qp (c1) ?_ | refine qe ?_ | refine qj ?_ | refine qk ?_ | refine qm ?_) <;> (try simp (disch := first | omega | simp) [qg, -qq, -qs, hkl, hlt, hil, htr, hl6', hl6b])) | ((with_reducible refine sideT ?_ ?_); first | omega | assumption | (simp; done)) | (refine qf fun K hK => ?_) | (refine qa ?_) | refine ql ?_ | ((first | refine hK _ ?_ | (clear hK K; refine hK _ ?_) | (clear hK K; clear hK K; refine hK _ ?_)); clear hK K) | refine qd ?_)
        all_goals
          refine ⟨i + 1, ⟨by omega, by omega, fun j hj hjl => ?_⟩, by omega, by simp⟩
          by_cases hji : j < i
          · exact he j hji hjl
          · obtain rfl : j = i := by omega
            exact hoki
      · have : B = false := hb (by rw [hok]; simp [hl6])
        subst this
        have hl6' : 6 < f.params.length := by omega
        have hl6b : (6 : Int) < f.params.length := by omega
        repeat' (first | ((first | ((with_reducible refine qo (fun hg => ?_) (fun hg => ?_)) <;> (try simp only [hg]) <;> (try simp only [gS] at hg) <;> (try (first | simp only [eq_false hg, gI] | simp only [eq_true hg, gI]))) | (with_reducible first | refine qc ?_ | refine qb ?_ | refine qi ?_ | refine qh ?_) | refine acall (c1) ?_ | refine qp (c1) ?_ | refine qe ?_ | refine qj ?_ | refine qk ?_ | refine qm ?_) <;> (try simp (disch := first | omega | simp) [qg, -qq, -qs, hkl, hlt, hil, htr, hl6', hl6b])) | ((with_reducible refine sideT ?_ ?_); first | omega | assumption | (simp; done)) | (refine qf fun K hK => ?_) | (refine qa ?_) | refine ql ?_ | ((first | refine hK _ ?_ | (clear hK K; refine hK _ ?_) | (clear hK K; clear hK K; refine hK _ ?_)); clear hK K) | refine qd ?_)
theorem rtype_g (F : List Fn) (c p : List Int) (e : Ex) (hbd : parts e ≤ 1000000) (hpF : ∀ f ∈ F, parts f.body ≤ 1000000) :
    Gives Tryz.prog 11 [.sl (F.map Fn.av), .sl (c.map AV.int), .sl (p.map AV.int), e.av] (.tup [.int ((typeP F c p e).getD 0), .bool (typeP F c p e).isSome]) := by
  have c1 := rright_g F hpF
  have c2 := rof_g F c p e hbd
  unfold typeP
  cases h : qdj F with
  | false =>
    rw [h] at c1
    refine qn Tryz.func11 Tryz.ntmps11 rfl rfl (by decide) rfl (by intro n; simp) fun σ n0 hcl hft => ?_
    repeat' (first | ((first | ((with_reducible refine qo (fun hg => ?_) (fun hg => ?_)) <;> (try simp only [hg]) <;> (try simp only [gS] at hg) <;> (try (first | simp only [eq_false hg, gI] | simp only [eq_true hg, gI]))) | (with_reducible first | refine qc ?_ | refine qb ?_ | refine qi ?_ | refine qh ?_) | refine acall (c1) ?_ | refine qp (c1) ?_ | refine qe ?_ | refine qj ?_ | refine qk ?_ | refine qm ?_) <;> (try simp (disch := first | omega | simp) [qg, -qq, -qs])) | ((with_reducible refine sideT ?_ ?_); first | omega | assumption | (simp; done)) | (refine qf fun K hK => ?_) | (refine qa ?_) | refine ql ?_ | ((first | refine hK _ ?_ | (clear hK K; refine hK _ ?_) | (clear hK K; clear hK K; refine hK _ ?_)); clear hK K) | refine qd ?_)
  | true =>
    rw [h] at c1
    simp only [if_true]
    generalize tyD F c p e = T at *
    refine qn Tryz.func11 Tryz.ntmps11 rfl rfl (by decide) rfl (by intro n; simp) fun σ n0 hcl hft => ?_
    repeat' (first | ((first | ((with_reducible refine qo (fun hg => ?_) (fun hg => ?_)) <;> (try simp only [hg]) <;> (try simp only [gS] at hg) <;> (try (first | simp only [eq_false hg, gI] | simp only [eq_true hg, gI]))) | (with_reducible first | refine qc ?_ | refine qb ?_ | refine qi ?_ | refine qh ?_) | refine acall (c1) ?_ | refine qp (c1) ?_ | refine acall (c2) ?_ | refine qp (c2) ?_ | refine qe ?_ | refine qj ?_ | refine qk ?_ | refine qm ?_) <;> (try simp (disch := first | omega | simp) [qg, -qq, -qs])) | ((with_reducible refine sideT ?_ ?_); first | omega | assumption | (simp; done)) | (refine qf fun K hK => ?_) | (refine qa ?_) | refine ql ?_ | ((first | refine hK _ ?_ | (clear hK K; refine hK _ ?_) | (clear hK K; clear hK K; refine hK _ ?_)); clear hK K) | refine qd ?_)
end Go.Proofs.YtgpcpmfdklpifaaGreatDoor

/- Regions that draw their order, and write own blocks alone: reads see the caller's blocks, and the own ones that stay. -/
namespace Go.Proofs.YtgpcpmfdklpifaaGreatDoor
open Go.RowKit Go.Lib
theorem wop_callB {P : Program} {s : AS} {f : FuncId} {d : Tmp} {caps : List AV} {args : List Operand} {tys : Array TypeId} {x : AV} {τ : Nat → AB} (hd : s.t d = .bm f caps) (hf : enters P f = true) (hn : ∀ y ∈ args, ∀ l, s.eval y ≠ .tup l) (h : AC P f (caps ++ (args.map s.eval).map AV.pub) s.st fun y τ' => y = x ∧ τ' = τ) :
    WOp P s.eval s.st (.call { callee := .value (.tmp d), args := args.toArray, argTypes := tys }) x τ := by
  intro X a oper ho hS _ hσ hev Q
  have hfn := hev (.tmp d) (by simp [Op.operands, Call.operands])
  change RR X (s.t d) _ at hfn
  rw [hd] at hfn
  change RC X (.bm f caps) [a.eval (.tmp d)] at hfn
  rw [RC] at hfn
  obtain ⟨vs, hv, hcaps⟩ := hfn
  have he : a.eval (.tmp d) = .func (.func f) vs.toArray #[] := by simpa using hv
  have hrun : (execOp a.eval oper).run P X.w = .ok (.enter f (vs ++ args.map a.eval).toArray) X.w := by
    simp [execOp, ho, resolve, he, Deferred.ofValue, invoke, qca hf]
  have hargs := rrl_ev (a := a) args (fun y hy => hev y (by simp [Op.operands, Call.operands, hy])) hn
  unfold Oper.wp
  rw [hrun]
  refine (h X _ s.nx hS hσ s.fin (hcaps.rrl.append hargs.pub)).mono ?_
  rintro e w' ⟨Y, v, y, rfl, rfl, ⟨rfl, hσ'⟩, hS', hF, hR⟩
  exact ⟨v, Y, rfl, rfl, hS', hF, hR, hσ'⟩
theorem wop_of_fop {P : Program} {s : AS} {o : Op} {x : AV} {nb : Option AB} (h : FOp P s.eval s.st o x (nb.map (s.nx, ·))) : WOp P s.eval s.st o x (s.ext nb).st := by
  intro X a oper ho hS _ hσ hev Q
  refine Oper.wp_mono ?_ (h X a oper ho hS (fun r hr => .inl (by rw [hσ])) hev (fun r ab hr => ?_) Q)
  · rintro a' w' ⟨v, Y, e1, e2, e3, e4, e5, e6⟩
    refine ⟨v, Y, e1, e2, e3, e4, e5, ?_⟩
    rw [e6]
    cases nb with
    | none => exact hσ
    | some ab => rw [(qdn s ab).1, hσ]; rfl
  · cases nb with
    | none => cases hr
    | some ab => cases hr; rw [hσ]; exact s.fin _ (Nat.le_refl _)
def aevW2 (P : Program) (s : AS) (o : Op) (K : AV → AS → Prop) : Prop :=
  match o with
  | .call { callee := .value (.tmp d), args := ⟨args⟩, argTypes := tys } => match s.t d with
    | .bm f bound => nts (args.map s.eval) = true ∧ enters P f = true ∧ ACall P f (bound ++ (args.map s.eval).map AV.pub) s K
    | _ => aevW P s (.call { callee := .value (.tmp d), args := ⟨args⟩, argTypes := tys }) K
  | .fieldAddr t p f => aevF P s (.fieldAddr t p f) (fun x nb => K x (s.ext nb))
  | .indexAddr t p f => aevF P s (.indexAddr t p f) (fun x nb => K x (s.ext nb))
  | .load t p => aevF P s (.load t p) (fun x nb => K x (s.ext nb))
  | .nilCheck p => aevF P s (.nilCheck p) (fun x nb => K x (s.ext nb))
  | .move p => aevF P s (.move p) (fun x nb => K x (s.ext nb))
  | o => aevW P s o K
theorem aevW2_sound {P : Program} {s : AS} {o : Op} {K : AV → AS → Prop} (h : aevW2 P s o K) : ∃ x s1, WOp P s.eval s.st o x s1.st ∧ (s1.t = s.t ∧ s1.n = s.n ∧ s1.n0 = s.n0) ∧ K x s1 := by
  have hf : ∀ o, aevF P s o (fun x nb => K x (s.ext nb)) → ∃ x s1, WOp P s.eval s.st o x s1.st ∧ (s1.t = s.t ∧ s1.n = s.n ∧ s1.n0 = s.n0) ∧ K x s1 := fun o h => by
    obtain ⟨x, nb, h1, h2⟩ := qcg h
    exact ⟨x, s.ext nb, wop_of_fop h1, by cases nb <;> exact ⟨rfl, rfl, rfl⟩, h2⟩
  unfold aevW2 at h
  split at h
  · split at h
    · obtain ⟨h1, h2, x, s1, h3, h4, h5⟩ := h
      exact ⟨x, s1, wop_callB ‹_› h2 (qcr h1) h3, h4, h5⟩
    · exact aevW_sound h
  · exact hf _ h
  · exact hf _ h
  · exact hf _ h
  · exact hf _ h
  · exact hf _ h
  · exact aevW_sound h
def AS.seen (m : List AB) (s : AS) : AS := { s with L := m }
def anyE (P : Program) (ops : Array Oper) (m : List AB) (K : AS → Prop) : List Oper → List RK → AS → Prop
  | [], _, s => K s
  | o :: l, ks, s => match awant ops o s.t with
    | some b => qbq b (match ks.headD .R with
      | .R => aevF P (s.seen m) o.op (fun x nb => nb = none ∧ dstOk o.dst s.n ∧ anyE P ops m K l ks.tail (s.put o.dst x))
      | .M => aevM P s o.op (fun x nb => dstOk o.dst s.n ∧ anyE P ops m K l ks.tail ((s.ext nb).put o.dst x))
      | .W => aevW2 P s o.op (fun x s1 => dstOk o.dst s.n ∧ qcb m s1.L ∧ s1.σ = s.σ ∧ anyE P ops m K l ks.tail (s1.put o.dst x))
      | _ => False) (dstOk o.dst s.n ∧ anyE P ops m K l ks.tail (s.put o.dst (.v undef)))
    | none => False
theorem kept_e {m : List AB} {s : AS} {σ0 : Nat → AB} {n0 : Nat} (hσ : s.σ = σ0) (hn : s.n0 = n0) (h : qcb m s.L) : ∀ r, loc σ0 n0 m r ≠ .unborn → s.st r = loc σ0 n0 m r := fun r hr => by
  by_cases hlt : r < n0
  · show loc s.σ s.n0 s.L r = _
    unfold loc
    rw [hn, if_pos hlt, if_pos hlt, hσ]
  · have e : loc σ0 n0 m r = loc (fun _ => .unborn) n0 m r := by unfold loc; rw [if_neg hlt, if_neg hlt]
    rw [e] at hr ⊢
    exact kept_of hn h r hr
theorem ext_keeps {m : List AB} {s : AS} {σ0 : Nat → AB} {n0 : Nat} (hke : ∀ r, loc σ0 n0 m r ≠ .unborn → s.st r = loc σ0 n0 m r) (nb : Option AB) : ∀ r, loc σ0 n0 m r ≠ .unborn → (s.ext nb).st r = loc σ0 n0 m r := fun r hr => by
  cases nb with
  | none => exact hke r hr
  | some ab =>
    have h0 := hke r hr
    have hlt : r < s.nx := Nat.lt_of_not_le fun hle => hr (h0.symm.trans (s.fin r hle))
    rw [(qdn s ab).1]; unfold upd; rw [if_neg (by omega)]; exact h0
section
variable {P : Program}
theorem anyE_steps {ops : Array Oper} {m : List AB} {σ0 : Nat → AB} {n0 : Nat} {K : AS → Prop} : ∀ (l : List Oper) (ks : List RK) (s : AS), s.n0 = n0 → s.σ = σ0 → (∀ r, loc σ0 n0 m r ≠ .unborn → s.st r = loc σ0 n0 m r) → anyE P ops m K l ks s →
    ∃ st s1 xs bs nbs, AnyRaw P ops l ks st s1 xs bs nbs (loc σ0 n0 m) n0 ∧ st 0 = s ∧ K (st l.length)
  | [], ks, s, hn0, hs0, hke, h => by
    refine ⟨fun _ => s, fun _ => s, fun _ => .any, fun _ => true, fun _ => none, ⟨fun r hr j _ => hke r hr, fun _ _ hi => absurd hi (Nat.not_lt_zero _), ?_, ?_, ?_, ?_, ?_, ?_, ?_, ?_, ?_⟩, rfl, h⟩ <;> (intro i o ho; simp at ho)
  | o :: l, ks, s, hn0, hs0, hke, h => by
    have key : ∀ (x : AV) (b : Bool) (nb : Option AB) (s1 : AS), awant ops o s.t = some b → dstOk o.dst s.n → (s1.t = s.t ∧ s1.n = s.n ∧ s1.n0 = s.n0) → s1.σ = s.σ → (b = true → ks.headD .R ≠ .N ∧ ks.headD .R ≠ .A) → (b = false → x = .v undef ∧ s1 = s ∧ nb = none) →
        (b = true → ks.headD .R = .R → FOp2 P s.eval (loc σ0 n0 m) o.op x none ∧ s1 = s ∧ nb = none) → (b = true → ks.headD .R = .M → FOp2 P s.eval s.st o.op x (nb.map (s.nx, ·)) ∧ s1 = s.ext nb) →
        (b = true → ks.headD .R = .W → WOp P s.eval s.st o.op x s1.st ∧ nb = none) → (∀ r, loc σ0 n0 m r ≠ .unborn → s1.st r = loc σ0 n0 m r) → anyE P ops m K l ks.tail (s1.put o.dst x) →
        ∃ st s1 xs bs nbs, AnyRaw P ops (o :: l) ks st s1 xs bs nbs (loc σ0 n0 m) n0 ∧ st 0 = s ∧ K (st (o :: l).length) := by
      intro x b nb s1 hw hd hsame hss hNA hskip hR hM hW hke1 hrest
      have hput : (s1.put o.dst x).σ = s1.σ := by cases o.dst <;> rfl
      obtain ⟨st, s1', xs, bs, nbs, hs, h0, hK⟩ := anyE_steps (n0 := n0) (σ0 := σ0) l ks.tail _ (by rw [(qdi s1 o.dst x).2.2.2, hsame.2.2]; exact hn0) (by rw [hput, hss]; exact hs0) (fun r hr => by rw [(qdi s1 o.dst x).1]; exact hke1 r hr) hrest
      have hks : ∀ i, ks.getD (i + 1) .R = ks.tail.getD i .R := fun i => by cases ks <;> simp
      have hk0 : ks.getD 0 .R = ks.headD .R := by cases ks <;> simp
      refine ⟨fun i => match i with | 0 => s | i + 1 => st i, fun i => match i with | 0 => s1 | i + 1 => s1' i, fun i => match i with | 0 => x | i + 1 => xs i, fun i => match i with | 0 => b | i + 1 => bs i, fun i => match i with | 0 => nb | i + 1 => nbs i, ⟨fun r hr j hj => (match j with | 0 => hke r hr | j + 1 => hs.kept r hr j (by simpa using hj)), fun hq => absurd hq (by show ¬ n0 < s.n0; omega), ?_, ?_, ?_, ?_, ?_, ?_, ?_, ?_, ?_⟩, rfl, hK⟩
      all_goals (intro i o' ho; cases i)
      · simp at ho; subst ho; exact hw
      · exact hs.want _ o' (by simpa using ho)
      · simp at ho; subst ho; exact hd
      · exact hs.dst _ o' (by simpa using ho)
      · simp at ho; subst ho; exact h0
      · exact hs.next _ o' (by simpa using ho)
      · simp at ho; subst ho; exact hsame
      · exact hs.same _ o' (by simpa using ho)
      · simp at ho; subst ho; exact hskip
      · exact hs.skip _ o' (by simpa using ho)
      · simp at ho; subst ho; rw [hk0]; exact hR
      · rw [hks]; exact hs.opR _ o' (by simpa using ho)
      · simp at ho; subst ho; rw [hk0]; exact fun hb hk => absurd hk (hNA hb).1
      · rw [hks]; exact hs.opN _ o' (by simpa using ho)
      · simp at ho; subst ho; rw [hk0]; exact hM
      · rw [hks]; exact hs.opM _ o' (by simpa using ho)
      · simp at ho; subst ho; rw [hk0]
        intro hb hk
        refine hW hb ?_
        cases hk2 : ks.headD .R with
        | W => rfl
        | A => exact absurd hk2 (hNA hb).2
        | R => rw [hk2] at hk; cases hk
        | M => rw [hk2] at hk; cases hk
        | N => rw [hk2] at hk; cases hk
      · rw [hks]; exact hs.opW _ o' (by simpa using ho)
    rw [anyE] at h
    split at h
    · rename_i bb hw
      cases bb with
      | true =>
        replace h := h.1 rfl
        split at h
        · rename_i hk
          obtain ⟨x, nb, h1, rfl, h2, h3⟩ := qcg h
          have e : (s.seen m).st = loc σ0 n0 m := by show loc s.σ s.n0 m = _; rw [hs0, hn0]
          rw [e] at h1
          exact key x true none s hw h2 ⟨rfl, rfl, rfl⟩ rfl (fun _ => ⟨by rw [hk]; simp, by rw [hk]; simp⟩) (fun e => by cases e) (fun _ _ => ⟨h1.two, rfl, rfl⟩) (fun _ e => by rw [hk] at e; cases e) (fun _ e => by rw [hk] at e; cases e) hke h3
        · rename_i hk
          obtain ⟨x, nb, h1, h2, h3⟩ := aevM_sound h
          exact key x true nb (s.ext nb) hw h2 (by cases nb <;> exact ⟨rfl, rfl, rfl⟩) (by cases nb <;> rfl) (fun _ => ⟨by rw [hk]; simp, by rw [hk]; simp⟩) (fun e => by cases e) (fun _ e => by rw [hk] at e; cases e) (fun _ _ => ⟨h1, rfl⟩) (fun _ e => by rw [hk] at e; cases e) (ext_keeps hke nb) h3
        · rename_i hk
          obtain ⟨x, s1, h1, h2, h3, h5, h6, h4⟩ := aevW2_sound h
          exact key x true none s1 hw h3 h2 h6 (fun _ => ⟨by rw [hk]; simp, by rw [hk]; simp⟩) (fun e => by cases e) (fun _ e => by rw [hk] at e; cases e) (fun _ e => by rw [hk] at e; cases e) (fun _ _ => ⟨h1, rfl⟩) (kept_e (h6.trans hs0) (h2.2.2.trans hn0) h5) h4
        · exact h.elim
      | false =>
        replace h := h.2 rfl
        exact key (.v undef) false none s hw h.1 ⟨rfl, rfl, rfl⟩ rfl (fun e => by cases e) (fun _ => ⟨rfl, rfl, rfl⟩) (fun e => by cases e) (fun e => by cases e) (fun e => by cases e) hke h.2
    · exact h.elim
theorem awp_anyE {s : AS} {id : Nat} {l : List Oper} {Q : Exit → AS → Prop} (m : List AB) (ks : List RK) (hm : P.follows .mixedOrders = true) (hB : anyB l ks = true) (h0 : qcb m s.L) (h : anyE P l.toArray m (Q .normal) l ks s) : awp P (.region id l.toArray true) Q s := by
  obtain ⟨st, s1, xs, bs, nbs, hs, rfl, hK⟩ := anyE_steps l ks s rfl rfl (kept_e rfl rfl h0) h
  exact awp_any hm (anyB_ok hB) (raw_steps hB hs) hK
end
theorem qdu {P : Program} {ops : Array Oper} {m : List AB} {K : AS → Prop} {o : Oper} {l : List Oper} {ks : List RK} {s : AS} (h : match awant ops o s.t with
    | some b => qbq b (match ks.headD .R with
      | .R => aevF P (s.seen m) o.op (fun x nb => nb = none ∧ dstOk o.dst s.n ∧ anyE P ops m K l ks.tail (s.put o.dst x))
      | .M => aevM P s o.op (fun x nb => dstOk o.dst s.n ∧ anyE P ops m K l ks.tail ((s.ext nb).put o.dst x))
      | .W => aevW2 P s o.op (fun x s1 => dstOk o.dst s.n ∧ qcb m s1.L ∧ s1.σ = s.σ ∧ anyE P ops m K l ks.tail (s1.put o.dst x))
      | _ => False) (dstOk o.dst s.n ∧ anyE P ops m K l ks.tail (s.put o.dst (.v undef)))
    | none => False) : anyE P ops m K (o :: l) ks s := h
theorem anyE_end {P : Program} {ops : Array Oper} {m : List AB} {K : AS → Prop} {ks : List RK} {s : AS} (h : K s) : anyE P ops m K [] ks s := h
attribute [simp] aevW2
instance {P : Program} {ops : Array Oper} {m : List AB} {K : AS → Prop} {l : List Oper} {ks : List RK} {s : AS} : Inhabited (Tag (anyE P ops m K l ks s)) := ⟨⟨⟩⟩
@[simp] theorem seen_mk (m : List AB) (n : Nat) (t : Nat → AV) (σ : Nat → AB) (n0 : Nat) (L : List AB) : (AS.mk n t σ n0 L).seen m = ⟨n, t, σ, n0, m⟩ := rfl
end Go.Proofs.YtgpcpmfdklpifaaGreatDoor
