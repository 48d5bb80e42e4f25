/- Walks of lens.shapes, lens.To. -/
import Derived.Test.YtbkkjlcclddpdaaGreatDoorGd21
import Derived.Test.YtbkkjlcclddpdaaGreatDoorGd24
import Derived.Test.YtbkkjlcclddpdaaGreatDoorGd28
set_option linter.unusedSimpArgs false
set_option linter.unusedVariables false
namespace Go.Proofs.YtbkkjlcclddpdaaGreatDoor
open Go.RowKit Go.Lib
theorem cloCg (l : List AV) (hne : l ≠ []) (hL : l.length ≤ 1000000) (hw : AV.wid l 3) (he : AV.elms l) (hcl' : ∀ m, AV.cls m l) : Gives Tryz.prog 46 [.sl l] (.sl l) := by
  refine gives_of_awp Tryz.func46 Tryz.ntmps46 rfl rfl (by decide) rfl (by intro n; simpa using hcl' n) fun σ n0 hcl hft => ?_
  repeat' (first | ((first | ((with_reducible refine qf (fun hg => ?_) (fun hg => ?_)) <;> (try simp only [hg]) <;> (try simp only [gS] at hg) <;> (try (first | simp only [eq_false hg, gI] | simp only [eq_true hg, gI]))) | refine Stp.m ?_ | (with_reducible refine nil_split ?_ (fun hnil => ?_); try simp only [hnil])) <;> (try simp (disch := first | omega | simp) [qd, -qg, -ql, hw, he, hne])) | with_reducible refine qgc (id := 1) ?_ | refine sideA ?_ | refine qc fun K hK => ?_ | refine qa ?_ | refine qe ?_ | refine qb ?_ | (refine hK _ ?_; clear hK K) | clear hK K)
theorem cloVg (l : List AV) (hne : l ≠ []) (hL : l.length ≤ 1000000) (hw : AV.wid l 3) (he : AV.elms l) (hcl' : ∀ m, AV.cls m l) : Gives Tryz.prog 58 [.sl l] (.sl l) := by
  refine gives_of_awp Tryz.func58 Tryz.ntmps58 rfl rfl (by decide) rfl (by intro n; simpa using hcl' n) fun σ n0 hcl hft => ?_
  repeat' (first | ((first | ((with_reducible refine qf (fun hg => ?_) (fun hg => ?_)) <;> (try simp only [hg]) <;> (try simp only [gS] at hg) <;> (try (first | simp only [eq_false hg, gI] | simp only [eq_true hg, gI]))) | refine Stp.m ?_ | (with_reducible refine nil_split ?_ (fun hnil => ?_); try simp only [hnil])) <;> (try simp (disch := first | omega | simp) [qd, -qg, -ql, hw, he, hne])) | with_reducible refine qgc (id := 1) ?_ | refine sideA ?_ | refine qc fun K hK => ?_ | refine qa ?_ | refine qe ?_ | refine qb ?_ | (refine hK _ ?_; clear hK K) | clear hK K)
theorem shapes_snoc (x : Lens) : ∀ (l : List Lens) (cols : List Col) (ss : List (List Col)), qn l cols = (ss, 0) → qn (l ++ [x]) cols = if (oneP x (ss.getLastD cols)).2 ≠ 0 then ([], (oneP x (ss.getLastD cols)).2) else (ss ++ [(oneP x (ss.getLastD cols)).1], 0)
  | [], cols, ss, h => by
    rw [qn] at h
    cases h
    rw [List.nil_append, qn, qn]
    rfl
  | y :: l, cols, ss, h => by
    rw [qn] at h
    split at h
    · exact absurd (Prod.mk.inj h).2 (by assumption)
    · split at h
      · exact absurd (Prod.mk.inj h).2 (by assumption)
      · rename_i h1 h2
        have h2' : (qn l (oneP y cols).1).2 = 0 := Classical.byContradiction h2
        cases h
        have ih := shapes_snoc x l (oneP y cols).1 (qn l (oneP y cols).1).1 (by rw [← h2'])
        have hne : (qn l (oneP y cols).1).1 ≠ [] := by
          cases l with
          | nil => simp [qn]
          | cons z l =>
            intro he
            rw [qn] at h2' he
            split at he
            · rename_i hh; rw [if_pos hh] at h2'; exact hh h2'
            · rename_i hh
              rw [if_neg hh] at h2'
              split at he
              · rename_i hh2; rw [if_pos hh2] at h2'; exact hh2 h2'
              · cases he
        have hlast : ((cols :: (qn l (oneP y cols).1).1).getLastD cols) = (qn l (oneP y cols).1).1.getLastD (oneP y cols).1 := by
          cases hq : (qn l (oneP y cols).1).1 with
          | nil => exact absurd hq hne
          | cons a b => simp [List.getLastD]
        rw [hlast, List.cons_append, qn, if_neg h1, ih]
        split
        · rename_i hh; first | rfl | rw [if_pos hh]
        · rfl
theorem shapes_pre (l m : List Lens) (cols : List Col) (h : (qn l cols).2 ≠ 0) : qn (l ++ m) cols = ([], (qn l cols).2) := by
  induction l generalizing cols with
  | nil => exact absurd rfl h
  | cons y l ih =>
    rw [qn] at h
    rw [List.cons_append, qn, qn]
    split at h
    · rename_i h1; rw [if_pos h1, if_pos h1]
    · rename_i h1
      rw [if_neg h1, if_neg h1]
      split at h
      · rename_i h2; rw [if_pos h2, ih _ h2, if_pos h2]
      · exact absurd rfl h
theorem one_len {x : Lens} {cols : List Col} (h0 : 1 ≤ cols.length) (h1 : cols.length ≤ 12) (h : (oneP x cols).2 = 0) : 1 ≤ (oneP x cols).1.length ∧ (oneP x cols).1.length ≤ 12 := by
  by_cases hr : qbz x = true
  · by_cases hx : x.op = 0
    · unfold oneP at h ⊢
      rw [if_neg (by simp [hr]), if_pos hx] at h ⊢
      split at h
      · cases h
      · split at h
        · cases h
        · rename_i g1 g2
          rw [if_neg g1, if_neg g2]
          simp; omega
    · obtain ⟨i, hi1, hi2, hn, hb, he, hR⟩ := oneP_ok hr hx h
      rw [hR]
      unfold qcx at he
      unfold nextP
      rcases right_op hr with ho | ho | ho | ho | ho | ho | ho
      · exact absurd ho hx
      · rw [if_pos ho] at he ⊢
        rw [List.length_eraseIdx_of_lt hi2]
        split at he
        · cases he
        · split at he
          · cases he
          · omega
      · rw [if_neg (by omega), if_pos ho, List.length_set]; omega
      · rw [if_neg (by omega), if_neg (by omega), if_pos ho] at he ⊢
        have h12 : ¬ 12 ≤ cols.length := fun h12 => by
          repeat' split at he
          all_goals first | cases he | contradiction
        simp; omega
      · obtain ⟨k, hk1, hk2, hk3⟩ := findI (hb ho)
        have hne : i ≠ k := fun e => by
          subst e
          have : x.a.toList ≠ x.b.toList := by
            unfold qbz at hr
            rw [if_neg (by omega), if_neg (by omega), if_neg (by omega), if_neg (by omega), if_pos ho] at hr
            simp only [Bool.and_eq_true, decide_eq_true_eq] at hr
            exact hr.2.2
          exact this (hn.symm.trans hk3)
        rw [if_neg (by omega), if_neg (by omega), if_neg (by omega), if_pos ho, List.length_eraseIdx_of_lt (by rw [List.length_set]; omega), List.length_set]
        omega
      · rw [if_neg (by omega), if_neg (by omega), if_neg (by omega), if_neg (by omega), if_pos ho, List.length_set]; omega
      · rw [if_neg (by omega), if_neg (by omega), if_neg (by omega), if_neg (by omega), if_neg (by omega), if_pos ho, List.length_set]; omega
  · unfold oneP at h
    rw [if_pos (by simpa using hr)] at h
    cases h
theorem qfw : ∀ {l : List Lens} {cols : List Col} {ss : List (List Col)}, qn l cols = (ss, 0) → ss.length = l.length + 1 ∧ (1 ≤ cols.length → cols.length ≤ 12 → ∀ s ∈ ss, 1 ≤ s.length ∧ s.length ≤ 12)
  | [], cols, ss, h => by
    rw [qn] at h
    cases h
    exact ⟨rfl, fun h0 h1 s hs => by simp at hs; subst hs; exact ⟨h0, h1⟩⟩
  | y :: l, cols, ss, h => by
    rw [qn] at h
    split at h
    · exact absurd (Prod.mk.inj h).2 (by assumption)
    · split at h
      · exact absurd (Prod.mk.inj h).2 (by assumption)
      · rename_i h1 h2
        have h1' : (oneP y cols).2 = 0 := Classical.byContradiction h1
        have h2' : (qn l (oneP y cols).1).2 = 0 := Classical.byContradiction h2
        cases h
        obtain ⟨e1, e2⟩ := qfw (l := l) (cols := (oneP y cols).1) (ss := (qn l (oneP y cols).1).1) (by rw [← h2'])
        refine ⟨by rw [List.length_cons, e1, List.length_cons], fun h0 h3 s hs => ?_⟩
        rcases List.mem_cons.1 hs with rfl | hs
        · exact ⟨h0, h3⟩
        · obtain ⟨g1, g2⟩ := one_len h0 h3 h1'
          exact e2 g1 g2 s hs
def qbe (l : List Lens) (cols : List Col) : List (List Col) × Int := if 60 < l.length then ([], 6) else qn l cols
def qdc (L : List Col) : AV := .sl (L.map Col.av)
@[simp] theorem colsAv_cl (L : List Col) (m : Nat) : (qdc L).cl m := by unfold qdc; simp
@[simp] theorem colsAvs_wid (L : List (List Col)) : AV.wid (L.map qdc) 1 := AV.wid_map (f := qdc) (fun _ => rfl) L
@[simp] theorem colsAvs_elms (L : List (List Col)) : AV.elms (L.map qdc) := AV.elms_map (f := qdc) (fun _ => rfl) L
set_option maxHeartbeats 4000000 in
theorem shapes_g (l : List Lens) (cols : List Col) (hl : ∀ x ∈ l, qbq x) (hL : l.length ≤ 1000000) (h0 : 1 ≤ cols.length) (h1 : cols.length ≤ 12) : Gives Tryz.prog 56 [.sl (l.map Lens.av), .sl (cols.map Col.av)] (.tup [.sl ((qbe l cols).1.map qdc), .int (qbe l cols).2]) := by
  obtain ⟨R, hR⟩ : ∃ R, R = qbe l cols := ⟨_, rfl⟩
  rw [← hR]
  unfold qbe at hR
  by_cases h60 : 60 < l.length
  · rw [if_pos h60] at hR
    subst hR
    have h60' : (60 : Int) < l.length := by omega
    refine qh Tryz.func56 Tryz.ntmps56 fun σ n0 hcl hft => ?_
    repeat' (first | ((first | ((with_reducible refine qf (fun hg => ?_) (fun hg => ?_)) <;> (try simp only [hg]) <;> (try simp only [gS] at hg) <;> (try (first | simp only [eq_false hg, gI] | simp only [eq_true hg, gI]))) | refine Stp.m ?_) <;> (try simp (disch := first | omega | simp) [qd, -qg, -ql, h60'])) | refine sideA ?_ | refine qc fun K hK => ?_ | refine qa ?_ | refine qe ?_ | refine qb ?_ | (refine hK _ ?_; clear hK K) | clear hK K)
  · rw [if_neg h60] at hR
    have h60' : ¬ (60 : Int) < l.length := by omega
    have c1 := cloCg (cols.map Col.av) (by intro e; rw [List.map_eq_nil_iff] at e; subst e; simp at h0) (by simp; omega) (Col.avs_wid cols) (Col.avs_elms cols) (fun m => Col.avs_cl cols m)
    refine qh Tryz.func56 Tryz.ntmps56 fun σ n0 hcl hft => ?_
    repeat' (first | ((first | ((with_reducible refine qf (fun hg => ?_) (fun hg => ?_)) <;> (try simp only [hg]) <;> (try simp only [gS] at hg) <;> (try (first | simp only [eq_false hg, gI] | simp only [eq_true hg, gI]))) | refine Stp.m ?_ | refine qi ?_ | refine agH ?_) <;> (try simp (disch := first | omega | simp) [qd, -qg, -ql, h60'])) | with_reducible refine awp_regionZ (id := 3) ?_ | refine sideA ?_ | refine qc fun K hK => ?_ | refine qa ?_ | refine qe ?_ | refine qb ?_ | (refine hK _ ?_; clear hK K) | clear hK K)
    refine qt hcl (fun k : Nat => [(6, .gs (n0 + 1) ((qn (l.take k) cols).1.map qdc)), (17, .sl (l.map Lens.av)), (18, .int l.length), (19, .int k)]) (fun k => [.dead, .tail (k + 1) 35 1])
      (fun k => k ≤ l.length ∧ (qn (l.take k) cols).2 = 0) (fun k => l.length - k) 0 ⟨by omega, by simp [qn]⟩ (by simp [qn, qdc]) fun k ⟨hk, he⟩ => ?_
    obtain ⟨ss, hss⟩ : ∃ ss, ss = (qn (l.take k) cols).1 := ⟨_, rfl⟩
    have hsk : qn (l.take k) cols = (ss, 0) := by rw [hss, ← he]
    rw [← hss]
    obtain ⟨hlen, hsz⟩ := qfw hsk
    rw [List.length_take, Nat.min_eq_left hk] at hlen
    by_cases hlt : k < l.length
    · have hks : k < ss.length := by omega
      have hlast : ss.getLastD cols = ss[k] := by
        rw [List.getLastD_eq_getLast?, List.getLast?_eq_getElem?, hlen, Nat.add_sub_cancel, List.getElem?_eq_getElem hks]; rfl
      have hsn := shapes_snoc l[k] (l.take k) cols ss hsk
      rw [hlast, ← List.take_succ_eq_append_getElem hlt] at hsn
      obtain ⟨g1, g2⟩ := hsz h0 h1 _ (List.getElem_mem hks)
      have c2 := one_g l[k] ss[k] (hl _ (List.getElem_mem hlt)) g1 (by omega)
      by_cases he2 : (oneP l[k] ss[k]).2 = 0
      · rw [if_neg (by simpa using he2)] at hsn
        rw [he2] at c2
        have hkk : (k : Int) < (k : Int) + 1 := by omega
        repeat' (first | ((first | ((with_reducible refine qf (fun hg => ?_) (fun hg => ?_)) <;> (try simp only [hg]) <;> (try simp only [gS] at hg) <;> (try (first | simp only [eq_false hg, gI] | simp only [eq_true hg, gI]))) | refine Stp.m ?_ | refine qi ?_ | refine agH ?_) <;> (try simp (disch := first | omega | simp) [qd, -qg, -ql, hlt, hks, hlen, qdc, hkk])) | refine sideA ?_ | refine qc fun K hK => ?_ | refine qa ?_ | refine qe ?_ | refine qb ?_ | (refine hK _ ?_; clear hK K) | clear hK K)
        exact ⟨k + 1, ⟨by omega, by rw [hsn]⟩, by omega, rfl, by rw [hsn]; simp [qdc], by simp⟩
      · rw [if_pos he2] at hsn
        have he3 : ((oneP l[k] ss[k]).2 != 0) = true := by simpa using he2
        have hfin := shapes_pre (l.take (k + 1)) (l.drop (k + 1)) cols (by rw [hsn]; exact he2)
        rw [List.take_append_drop, hsn] at hfin
        rw [hfin] at hR
        have hkk : (k : Int) < (k : Int) + 1 := by omega
        repeat' (first | ((first | ((with_reducible refine qf (fun hg => ?_) (fun hg => ?_)) <;> (try simp only [hg]) <;> (try simp only [gS] at hg) <;> (try (first | simp only [eq_false hg, gI] | simp only [eq_true hg, gI]))) | refine Stp.m ?_ | refine qi ?_ | refine agH ?_) <;> (try simp (disch := first | omega | simp) [qd, -qg, -ql, hlt, hks, hlen, qdc, he3, hkk])) | refine sideA ?_ | refine qc fun K hK => ?_ | refine qa ?_ | refine qe ?_ | refine qb ?_ | (refine hK _ ?_; clear hK K) | clear hK K)
        rw [hR]; exact ⟨rfl, rfl⟩
    · obtain rfl : k = l.length := by omega
      rw [List.take_length] at hsk
      rw [hsk] at hR
      repeat' (first | ((first | ((with_reducible refine qf (fun hg => ?_) (fun hg => ?_)) <;> (try simp only [hg]) <;> (try simp only [gS] at hg) <;> (try (first | simp only [eq_false hg, gI] | simp only [eq_true hg, gI]))) | refine Stp.m ?_) <;> (try simp (disch := first | omega | simp) [qd, -qg, -ql, hlt])) | refine sideA ?_ | refine qc fun K hK => ?_ | refine qa ?_ | refine qe ?_ | refine qb ?_ | (refine hK _ ?_; clear hK K) | clear hK K)
      rw [hR]; exact ⟨rfl, rfl⟩
theorem to_g (l : List Lens) (cols : List Col) (hl : ∀ x ∈ l, qbq x) (hL : l.length ≤ 1000000) (h0 : 1 ≤ cols.length) (h1 : cols.length ≤ 12) : Gives Tryz.prog 22 [.sl (l.map Lens.av), .sl (cols.map Col.av)] (.tup [.sl ((toP l cols).1.map Col.av), .int (toP l cols).2]) := by
  have c1 := shapes_g l cols hl hL h0 h1
  have ht : toP l cols = if (qbe l cols).2 ≠ 0 then ([], (qbe l cols).2) else ((qbe l cols).1.getD l.length [], 0) := by
    unfold toP qbe
    by_cases h : 60 < l.length
    · rw [if_pos h, if_pos h]; rfl
    · rw [if_neg h, if_neg h]
  rw [ht]
  by_cases he : (qbe l cols).2 = 0
  · rw [if_neg (by simpa using he)]
    have hle : ¬ 60 < l.length := fun h => by unfold qbe at he; rw [if_pos h] at he; cases he
    have hs : qn l cols = ((qbe l cols).1, 0) := by unfold qbe at he ⊢; rw [if_neg hle] at he ⊢; rw [← he]
    obtain ⟨hlen, -⟩ := qfw hs
    have hk : l.length < (qbe l cols).1.length := by omega
    rw [he] at c1
    rw [List.getD_eq_getElem?_getD, List.getElem?_eq_getElem hk]
    generalize (qbe l cols).1 = ss at *
    refine qh Tryz.func22 Tryz.ntmps22 fun σ n0 hcl hft => ?_
    repeat' (first | ((first | ((with_reducible refine qf (fun hg => ?_) (fun hg => ?_)) <;> (try simp only [hg]) <;> (try simp only [gS] at hg) <;> (try (first | simp only [eq_false hg, gI] | simp only [eq_true hg, gI]))) | refine Stp.m ?_ | refine qi ?_ | refine agH ?_) <;> (try simp (disch := first | omega | simp) [qd, -qg, -ql, hk, qdc])) | refine sideA ?_ | refine qc fun K hK => ?_ | refine qa ?_ | refine qe ?_ | refine qb ?_ | (refine hK _ ?_; clear hK K) | clear hK K)
  · rw [if_pos he]
    have he3 : ((qbe l cols).2 != 0) = true := by simpa using he
    refine qh Tryz.func22 Tryz.ntmps22 fun σ n0 hcl hft => ?_
    repeat' (first | ((first | ((with_reducible refine qf (fun hg => ?_) (fun hg => ?_)) <;> (try simp only [hg]) <;> (try simp only [gS] at hg) <;> (try (first | simp only [eq_false hg, gI] | simp only [eq_true hg, gI]))) | refine Stp.m ?_ | refine qi ?_ | refine agH ?_) <;> (try simp (disch := first | omega | simp) [qd, -qg, -ql, he3])) | refine sideA ?_ | refine qc fun K hK => ?_ | refine qa ?_ | refine qe ?_ | refine qb ?_ | (refine hK _ ?_; clear hK K) | clear hK K)
end Go.Proofs.YtbkkjlcclddpdaaGreatDoor

/- The library's Replace at values. -/
namespace Go.Proofs.YtbkkjlcclddpdaaGreatDoor
open Go.RowKit Go.Lib
set_option maxHeartbeats 4000000 in
theorem rep_bV (l v : List AV) (i j n m tot c : Nat) (bs : List Value) (hij : i < j) (hj : j ≤ n) (hm0 : 0 < m) (hn : l.length = n) (hm : v.length = m) (htot : tot = i + m + (n - j)) (hraw : l.all rawOk = true) (hw : AV.wid l 3) (hrv : v.all rawOk = true) (hwv : AV.wid v 3) (hL : n ≤ 1000000) (hM : m ≤ 1000000) (hc : n ≤ c) (hcm : c ≤ 9223372036854775807) (hlen : bs.length = c * 3) (hbs : bs.take (n * 3) = rawsL l) (hcl' : ∀ k, AV.cls k (l.take i ++ v ++ l.drop j)) {τ : Nat → AB} {r : Nat} (hτ : τ r = .buf bs 27) :
    AC Tryz.prog 107 [.sub r 0 n c 3, .int (i : Int), .int (j : Int), .sl v] τ fun y τ' => y = .sl (l.take i ++ v ++ l.drop j) ∧ τ' = upd τ r .dead := by
  refine qfo Tryz.func107 Tryz.ntmps107 rfl rfl (by decide) rfl (by intro n; first | (simp; done) | exact hcl' n | (simp; exact hcl' n)) (by intro n; simp) ?_ fun n0 hrn hcl hft => ?_
  · rw [hτ]; simp
  have h4 : ((i : Int) = (j : Int)) = False := eq_false (by omega)
  have hI : Tryz.prog.underlying 3 = some (.int .i64) := by kernel_rfl
  have q3 : ((i : Int) + (m : Int)).toNat = i + m := by omega
  have q4 : (i : Int) + (m : Int) + ((n - j : Nat) : Int) = (tot : Int) := by omega
  have q5 : (0 ≤ (i : Int) + (m : Int)) = True := eq_true (by omega)
  have hone : OneC (bs.take (n * 3)) := by rw [hbs]; exact raw_one hraw
  have ho : OneC ((bs.drop (j * 3)).take ((n - j) * 3)) := one_mid hone (by omega)
  have hl : ∀ (σ : Nat → AB) (L : List AB), loc σ n0 L r = σ r := fun σ L => qct σ n0 r L hrn
  have hv1 : (rawsL v).length = m * 3 := qde hrv hwv hm
  have hv2 : (rawsL v).take (m * 3) = rawsL v := List.take_of_length_le (by omega)
  have hO := ovlV
  have hov : OneC (rawsL v) := raw_one hrv
  have ho' : OneC (((bs.drop (j * 3)).take ((n - j) * 3)).take ((n - j) * 3)) := by rw [List.take_take, Nat.min_self]; exact ho
  have hb0 : ¬ bs = [] := fun h => by rw [h] at hlen; simp at hlen; omega
  have hra : (l.take i ++ v ++ l.drop j).all rawOk = true := by
    rw [List.all_append, List.all_append, hrv, qgn hraw fun x hx => List.mem_of_mem_take hx, qgn hraw fun x hx => List.mem_of_mem_drop hx]; rfl
  have hwa : AV.wid (l.take i ++ v ++ l.drop j) 3 := fun x hx => by
    rcases List.mem_append.1 hx with hx | hx
    · rcases List.mem_append.1 hx with hx | hx
      · exact hw x (List.mem_of_mem_take hx)
      · exact hwv x hx
    · exact hw x (List.mem_of_mem_drop hx)
  have hla : (l.take i ++ v ++ l.drop j).length = tot := by
    rw [List.length_append, List.length_append, List.length_take, List.length_drop]; omega
  have ex : bs.take (i * 3) = rawsL (l.take i) := row_take hraw hw hn hbs (by omega)
  have ez : (bs.drop (j * 3)).take ((n - j) * 3) = rawsL (l.drop j) := by
    rw [row_mid hraw hw hn hbs (by omega), List.take_of_length_le (by rw [List.length_drop]; omega)]
  have lx : (rawsL (l.take i)).length = i * 3 := by rw [← ex, List.length_take, hlen]; omega
  have lz : (rawsL (l.drop j)).length = (n - j) * 3 := by rw [← ez, List.length_take, List.length_drop, hlen]; omega
  have tx : ∀ T, (rawsL (l.take i) ++ T).take (i * 3) = rawsL (l.take i) := fun T => by rw [← lx, List.take_left]
  have ty : ∀ T, (rawsL (l.take i) ++ (rawsL v ++ T)).take ((i + m) * 3) = rawsL (l.take i) ++ rawsL v := fun T => by
    rw [← List.append_assoc, show (i + m) * 3 = (rawsL (l.take i) ++ rawsL v).length by rw [List.length_append, lx, hv1]; omega, List.take_left]
  have tz : ∀ T, (rawsL (l.take i) ++ (rawsL v ++ (rawsL (l.drop j) ++ T))).take (tot * 3) = rawsL (l.take i) ++ (rawsL v ++ rawsL (l.drop j)) := fun T => by
    rw [← List.append_assoc, ← List.append_assoc, show tot * 3 = (rawsL (l.take i) ++ rawsL v ++ rawsL (l.drop j)).length by rw [List.length_append, List.length_append, lx, hv1, lz]; omega, List.take_left, List.append_assoc]
  have zz : (rawsL (l.drop j)).take ((n - j) * 3) = rawsL (l.drop j) := List.take_of_length_le (by omega)
  have dI : ∀ T, (bs.take ((i + m) * 3) ++ T).take (i * 3) = rawsL (l.take i) ∨ c < i + m := fun T => by
    by_cases hg : c < i + m
    · exact .inr hg
    · rw [List.take_append_of_le_length (by rw [List.length_take, hlen]; omega), List.take_take, Nat.min_eq_left (by omega), ex]; exact .inl rfl
  have hz : ∀ z : AV, z ∈ v → 0 < z.width := fun z h => by rw [hwv z h]; omega
  repeat' (first | ((first | ((with_reducible refine qf (fun hg => ?_) (fun hg => ?_)) <;> (try simp only [hg]) <;> (try simp only [gS] at hg) <;> (try (first | simp only [eq_false hg, gI] | simp only [eq_true hg, gI]))) | refine Stp.m ?_) <;> (try simp (disch := first | omega | simp) [qd, -qg, -ql, hlen, hτ, ho, hl, hrn, hI, hm, hrv, hwv, h4, q3, q4, q5, hv1, hv2, hO, hov, ho', hb0])) | with_reducible refine qj (id := 1) ?_ | with_reducible refine qj (id := 4) ?_ | with_reducible refine qj (id := 5) ?_ | with_reducible refine qj (id := 6) ?_ | with_reducible refine qj (id := 7) ?_ | with_reducible refine qbg (id := 8) ?_ | with_reducible refine qcf (id := 9) [.R, .R, .M, .M, .R, .R, .R, .R, .R, .M, .M, .R, .R] (by kernel_rfl) (by kernel_rfl) ?_ | with_reducible refine qj (id := 10) ?_ | with_reducible refine qj (id := 11) ?_ | with_reducible refine qj (id := 12) ?_ | with_reducible refine qcf (id := 13) [.R, .R, .R, .R, .R, .M, .R, .R, .M, .W] (by kernel_rfl) (by kernel_rfl) ?_ | with_reducible refine qbg (id := 14) ?_ | with_reducible refine qj (id := 15) ?_ | with_reducible refine qj (id := 17) ?_ | with_reducible refine qcf (id := 18) [.R, .R, .R, .R, .R, .M, .R, .R, .M, .W] (by kernel_rfl) (by kernel_rfl) ?_ | with_reducible refine qj (id := 19) ?_ | with_reducible refine qbg (id := 20) ?_ | with_reducible refine qj (id := 21) ?_ | with_reducible refine qcf (id := 22) [.R, .R, .R, .R, .R, .M, .R, .R, .M, .W] (by kernel_rfl) (by kernel_rfl) ?_ | with_reducible refine qj (id := 23) ?_ | with_reducible refine qbg (id := 24) ?_ | refine sideA ?_ | refine qc fun K hK => ?_ | refine qa ?_ | refine qe ?_ | refine qb ?_ | (refine hK _ ?_; clear hK K) | clear hK K)
  · exact absurd (by assumption : (i : Int) = (j : Int)) (by omega)
  · have hjn : j = n := by omega
    have htot' : tot = i + m := by omega
    have e0 : rawsL (l.drop j) = [] := List.eq_nil_of_length_eq_zero (by omega)
    have tm : ∀ T, (rawsL (l.take i) ++ rawsL v ++ T).take ((i + m) * 3) = rawsL (l.take i) ++ rawsL v := fun T => by rw [List.append_assoc, ty]
    have tm2 : ((rawsL (l.take i) ++ rawsL v)).take ((i + m) * 3) = rawsL (l.take i) ++ rawsL v := by have := tm []; rwa [List.append_nil] at this
    refine ⟨fun hroom => ?_, fun hgrow c' zs h1 h2 h3 => ?_⟩
    · repeat' (first | ((first | ((with_reducible refine qf (fun hg => ?_) (fun hg => ?_)) <;> (try simp only [hg]) <;> (try simp only [gS] at hg) <;> (try (first | simp only [eq_false hg, gI] | simp only [eq_true hg, gI]))) | refine Stp.m ?_) <;> (try simp (disch := first | omega | simp) [qd, -qg, -ql, hlen, hτ, ho, hl, hrn, hI, hm, hrv, hwv, h4, q3, q4, q5, hv1, hv2, hO, hov, ho', hb0])) | with_reducible refine qj (id := 5) ?_ | with_reducible refine qj (id := 6) ?_ | with_reducible refine qj (id := 7) ?_ | with_reducible refine qbg (id := 8) ?_ | refine sideA ?_ | refine qc fun K hK => ?_ | refine qa ?_ | refine qe ?_ | refine qb ?_ | (refine hK _ ?_; clear hK K) | clear hK K)
      · intro zs hzs
        repeat' (first | ((first | ((with_reducible refine qf (fun hg => ?_) (fun hg => ?_)) <;> (try simp only [hg]) <;> (try simp only [gS] at hg) <;> (try (first | simp only [eq_false hg, gI] | simp only [eq_true hg, gI]))) | refine Stp.m ?_) <;> (try simp (disch := first | omega | simp) [qd, -qg, -ql, hlen, hτ, ho, hl, hrn, hI, hm, hrv, hwv, h4, q3, q4, q5, hv1, hv2, hO, hov, ho', hb0, hzs])) | with_reducible refine qj (id := 7) ?_ | with_reducible refine qbg (id := 8) ?_ | refine sideA ?_ | refine qc fun K hK => ?_ | refine qa ?_ | refine qe ?_ | refine qb ?_ | (refine hK _ ?_; clear hK K) | clear hK K)
        refine ⟨qr (r := r) (n := i + m) 9 (l.take i ++ v ++ l.drop j) (by simp) (by simp [hl]; exact ⟨rfl, rfl⟩) hra hwa (by rw [hla, htot']) (by omega) hcm ?_ ?_⟩
        · rw [ex, ty, tm, qy, qy, e0, List.append_nil]
        repeat' (first | ((first | ((with_reducible refine qf (fun hg => ?_) (fun hg => ?_)) <;> (try simp only [hg]) <;> (try simp only [gS] at hg) <;> (try (first | simp only [eq_false hg, gI] | simp only [eq_true hg, gI]))) | refine Stp.m ?_) <;> (try simp (disch := first | omega | simp) [qd, -qg, -ql, hl, hrn])) | refine sideA ?_ | refine qc fun K hK => ?_ | refine qa ?_ | refine qe ?_ | refine qb ?_ | (refine hK _ ?_; clear hK K) | clear hK K)
      · refine ⟨qr (r := r) (n := i + m) 9 (l.take i ++ v ++ l.drop j) (by simp) (by simp [hl]; exact ⟨rfl, rfl⟩) hra hwa (by rw [hla, htot']) (by omega) hcm ?_ ?_⟩
        · rw [ex, ty, qy, qy, e0, List.append_nil]
        repeat' (first | ((first | ((with_reducible refine qf (fun hg => ?_) (fun hg => ?_)) <;> (try simp only [hg]) <;> (try simp only [gS] at hg) <;> (try (first | simp only [eq_false hg, gI] | simp only [eq_true hg, gI]))) | refine Stp.m ?_) <;> (try simp (disch := first | omega | simp) [qd, -qg, -ql, hl, hrn])) | refine sideA ?_ | refine qc fun K hK => ?_ | refine qa ?_ | refine qe ?_ | refine qb ?_ | (refine hK _ ?_; clear hK K) | clear hK K)
    · repeat' (first | ((first | ((with_reducible refine qf (fun hg => ?_) (fun hg => ?_)) <;> (try simp only [hg]) <;> (try simp only [gS] at hg) <;> (try (first | simp only [eq_false hg, gI] | simp only [eq_true hg, gI]))) | refine Stp.m ?_) <;> (try simp (disch := first | omega | simp) [qd, -qg, -ql, hlen, hτ, ho, hl, hrn, hI, hm, hrv, hwv, h4, q3, q4, q5, hv1, hv2, hO, hov, ho', hb0, h3])) | with_reducible refine qj (id := 5) ?_ | with_reducible refine qj (id := 6) ?_ | with_reducible refine qj (id := 7) ?_ | with_reducible refine qbg (id := 8) ?_ | refine sideA ?_ | refine qc fun K hK => ?_ | refine qa ?_ | refine qe ?_ | refine qb ?_ | (refine hK _ ?_; clear hK K) | clear hK K)
      · omega
      · refine ⟨qr (r := n0) (n := i + m) 9 (l.take i ++ v ++ l.drop j) (by simp) (by simp [hl]; exact ⟨rfl, rfl⟩) hra hwa (by rw [hla, htot']) (by omega) h2 ?_ ?_⟩
        · rw [ex, ty, qy, qy, e0, List.append_nil]
        · refine qr (r := r) (n := n) 0 l (by simp) (by simp [hl, hτ]; first | rfl | exact ⟨rfl, rfl⟩) hraw hw hn hc hcm hbs ?_
          repeat' (first | ((first | ((with_reducible refine qf (fun hg => ?_) (fun hg => ?_)) <;> (try simp only [hg]) <;> (try simp only [gS] at hg) <;> (try (first | simp only [eq_false hg, gI] | simp only [eq_true hg, gI]))) | refine Stp.m ?_) <;> (try simp (disch := first | omega | simp) [qd, -qg, -ql, hl, hrn])) | refine sideA ?_ | refine qc fun K hK => ?_ | refine qa ?_ | refine qe ?_ | refine qb ?_ | (refine hK _ ?_; clear hK K) | clear hK K)
  · intro c' zs h1 h2 h3
    repeat' (first | ((first | ((with_reducible refine qf (fun hg => ?_) (fun hg => ?_)) <;> (try simp only [hg]) <;> (try simp only [gS] at hg) <;> (try (first | simp only [eq_false hg, gI] | simp only [eq_true hg, gI]))) | refine Stp.m ?_) <;> (try simp (disch := first | omega | simp) [qd, -qg, -ql, hlen, hτ, ho, hl, hrn, hI, hm, hrv, hwv, h4, q3, q4, q5, hv1, hv2, hO, hov, ho', hb0, h3])) | with_reducible refine qj (id := 11) ?_ | with_reducible refine qj (id := 12) ?_ | with_reducible refine qcf (id := 13) [.R, .R, .R, .R, .R, .M, .R, .R, .M, .W] (by kernel_rfl) (by kernel_rfl) ?_ | with_reducible refine qbg (id := 14) ?_ | refine sideA ?_ | refine qc fun K hK => ?_ | refine qa ?_ | refine qe ?_ | refine qb ?_ | (refine hK _ ?_; clear hK K) | clear hK K)
    refine ⟨qr (r := n0) (n := tot) 11 (l.take i ++ v ++ l.drop j) (by simp) (by simp [hl]; exact ⟨rfl, rfl⟩) hra hwa hla (by omega) h2 ?_ ?_⟩
    · simp only [ex, ez, tx, ty, tz, zz, qy, List.append_assoc]
    · refine qr (r := r) (n := n) 0 l (by simp) (by simp [hl, hτ]; first | rfl | exact ⟨rfl, rfl⟩) hraw hw hn hc hcm hbs ?_
      repeat' (first | ((first | ((with_reducible refine qf (fun hg => ?_) (fun hg => ?_)) <;> (try simp only [hg]) <;> (try simp only [gS] at hg) <;> (try (first | simp only [eq_false hg, gI] | simp only [eq_true hg, gI]))) | refine Stp.m ?_) <;> (try simp (disch := first | omega | simp) [qd, -qg, -ql, hl, hrn])) | refine sideA ?_ | refine qc fun K hK => ?_ | refine qa ?_ | refine qe ?_ | refine qb ?_ | (refine hK _ ?_; clear hK K) | clear hK K)
  · have dC : List.drop (j * 3) (rawsL (l.take i) ++ (rawsL v ++ List.drop ((i + m) * 3) bs)) = List.drop (j * 3) bs := by
      rw [← List.append_assoc]; exact drop_far (by rw [List.length_append, lx, hv1]; omega) (by omega)
    have ho2 : OneC (List.take ((n - j) * 3) (List.take ((n - j) * 3) (List.drop (j * 3) (List.take (i * 3) bs ++ (rawsL v ++ List.drop ((i + m) * 3) bs))))) := by
      rw [ex, dC]; exact ho'
    repeat' (first | ((first | ((with_reducible refine qf (fun hg => ?_) (fun hg => ?_)) <;> (try simp only [hg]) <;> (try simp only [gS] at hg) <;> (try (first | simp only [eq_false hg, gI] | simp only [eq_true hg, gI]))) | refine Stp.m ?_) <;> (try simp (disch := first | omega | simp) [qd, -qg, -ql, hlen, hτ, ho, hl, hrn, hI, hm, hrv, hwv, h4, q3, q4, q5, hv1, hv2, hO, hov, ho', hb0, ho2])) | with_reducible refine qcf (id := 18) [.R, .R, .R, .R, .R, .M, .R, .R, .M, .W] (by kernel_rfl) (by kernel_rfl) ?_ | with_reducible refine qj (id := 19) ?_ | with_reducible refine qbg (id := 20) ?_ | refine sideA ?_ | refine qc fun K hK => ?_ | refine qa ?_ | refine qe ?_ | refine qb ?_ | (refine hK _ ?_; clear hK K) | clear hK K)
    · intro zs hzs
      repeat' (first | ((first | ((with_reducible refine qf (fun hg => ?_) (fun hg => ?_)) <;> (try simp only [hg]) <;> (try simp only [gS] at hg) <;> (try (first | simp only [eq_false hg, gI] | simp only [eq_true hg, gI]))) | refine Stp.m ?_) <;> (try simp (disch := first | omega | simp) [qd, -qg, -ql, hlen, hτ, ho, hl, hrn, hI, hm, hrv, hwv, h4, q3, q4, q5, hv1, hv2, hO, hov, ho', hb0, hzs])) | with_reducible refine qj (id := 19) ?_ | with_reducible refine qbg (id := 20) ?_ | refine sideA ?_ | refine qc fun K hK => ?_ | refine qa ?_ | refine qe ?_ | refine qb ?_ | (refine hK _ ?_; clear hK K) | clear hK K)
      refine ⟨qr (r := r) (n := tot) 12 (l.take i ++ v ++ l.drop j) (by simp) (by simp [hl]; exact ⟨rfl, rfl⟩) hra hwa hla (by omega) hcm ?_ ?_⟩
      · simp only [dC, ex, ez, tx, ty, tz, zz, qy, List.append_assoc]
      repeat' (first | ((first | ((with_reducible refine qf (fun hg => ?_) (fun hg => ?_)) <;> (try simp only [hg]) <;> (try simp only [gS] at hg) <;> (try (first | simp only [eq_false hg, gI] | simp only [eq_true hg, gI]))) | refine Stp.m ?_) <;> (try simp (disch := first | omega | simp) [qd, -qg, -ql, hl, hrn])) | refine sideA ?_ | refine qc fun K hK => ?_ | refine qa ?_ | refine qe ?_ | refine qb ?_ | (refine hK _ ?_; clear hK K) | clear hK K)
  · refine ⟨qr (r := r) (n := tot) 12 (l.take i ++ v ++ l.drop j) (by simp) (by simp [hl]; exact ⟨rfl, rfl⟩) hra hwa hla (by omega) hcm ?_ ?_⟩
    · have dI' : ∀ T, (bs.take ((i + m) * 3) ++ T).take (i * 3) = rawsL (l.take i) := fun T => (dI T).resolve_right (by omega)
      have dM : ∀ T, (bs.take ((i + m) * 3) ++ T).drop ((i + m) * 3) = T := fun T => drop_tk (by rw [List.length_take, hlen]; omega)
      simp only [dI', dM, ex, ez, tx, ty, tz, zz, qy, List.append_assoc]
    repeat' (first | ((first | ((with_reducible refine qf (fun hg => ?_) (fun hg => ?_)) <;> (try simp only [hg]) <;> (try simp only [gS] at hg) <;> (try (first | simp only [eq_false hg, gI] | simp only [eq_true hg, gI]))) | refine Stp.m ?_) <;> (try simp (disch := first | omega | simp) [qd, -qg, -ql, hl, hrn])) | refine sideA ?_ | refine qc fun K hK => ?_ | refine qa ?_ | refine qe ?_ | refine qb ?_ | (refine hK _ ?_; clear hK K) | clear hK K)
theorem rep_acV (l v : List AV) (i j n m : Nat) (hij : i < j) (hj : j ≤ n) (hm0 : 0 < m) (hn : l.length = n) (hm : v.length = m) (hraw : l.all rawOk = true) (hw : AV.wid l 3) (hrv : v.all rawOk = true) (hwv : AV.wid v 3) (hL : n ≤ 1000000) (hM : m ≤ 1000000) (hcl' : ∀ k, AV.cls k (l.take i ++ v ++ l.drop j)) {σ : Nat → AB} {r : Nat} (hσ : σ r = .vec l 27 3) :
    AC Tryz.prog 107 [.own r n, .int (i : Int), .int (j : Int), .sl v] σ fun y τ => y = .sl (l.take i ++ v ++ l.drop j) ∧ τ = upd σ r .dead := by
  refine ac_thaw hσ hn.symm (fun h => by rw [h] at hn; simp at hn; omega) (by decide) hraw hw hcl' fun r' c rest hr' hu hc hcm hrest => ?_
  have e1 := qde hraw hw hn
  exact rep_bV l v i j n m _ c (rawsL l ++ rest) hij hj hm0 hn hm rfl hraw hw hrv hwv hL hM hc hcm (by rw [List.length_append, e1, hrest, ← Nat.add_mul]; congr 1; omega) (by rw [← e1, List.take_left]) hcl' (by simp)
end Go.Proofs.YtbkkjlcclddpdaaGreatDoor

/- The library's Insert at values. -/
namespace Go.Proofs.YtbkkjlcclddpdaaGreatDoor
open Go.RowKit Go.Lib
set_option maxHeartbeats 4000000 in
theorem ins_bV (l v : List AV) (i n m tot c : Nat) (bs : List Value) (hi : i ≤ n) (h0 : 0 < n) (hm0 : 0 < m) (hn : l.length = n) (hm : v.length = m) (htot : tot = n + m) (hraw : l.all rawOk = true) (hw : AV.wid l 3) (hrv : v.all rawOk = true) (hwv : AV.wid v 3) (hL : n ≤ 1000000) (hM : m ≤ 1000000) (hc : n ≤ c) (hcm : c ≤ 9223372036854775807) (hlen : bs.length = c * 3) (hbs : bs.take (n * 3) = rawsL l) (hcl' : ∀ k, AV.cls k (l.take i ++ v ++ l.drop i)) {τ : Nat → AB} {r : Nat} (hτ : τ r = .buf bs 27) :
    AC Tryz.prog 121 [.sub r 0 n c 3, .int (i : Int), .sl v] τ fun y τ' => y = .sl (l.take i ++ v ++ l.drop i) ∧ τ' = upd τ r .dead := by
  refine qfo Tryz.func121 Tryz.ntmps121 rfl rfl (by decide) rfl (by intro n; first | (simp; done) | exact hcl' n | (simp; exact hcl' n)) (by intro n; simp) ?_ fun n0 hrn hcl hft => ?_
  · rw [hτ]; simp
  have h4 : ((m : Int) = 0) = False := eq_false (by omega)
  have h4' : (m = 0) = False := eq_false (by omega)
  have hI : Tryz.prog.underlying 3 = some (.int .i64) := by kernel_rfl
  have q3 : ((i : Int) + (m : Int)).toNat = i + m := by omega
  have q4 : (n : Int) + (m : Int) = (tot : Int) := by omega
  have q5 : (0 ≤ (i : Int) + (m : Int)) = True := eq_true (by omega)
  have q6 : (tot : Int) - (i : Int) = ((tot - i : Nat) : Int) := by omega
  have hone : OneC (bs.take (n * 3)) := by rw [hbs]; exact raw_one hraw
  have ho : OneC ((bs.drop (i * 3)).take ((n - i) * 3)) := one_mid hone (by omega)
  have hl : ∀ (σ : Nat → AB) (L : List AB), loc σ n0 L r = σ r := fun σ L => qct σ n0 r L hrn
  have hv1 : (rawsL v).length = m * 3 := qde hrv hwv hm
  have hv2 : (rawsL v).take (m * 3) = rawsL v := List.take_of_length_le (by omega)
  have hO := ovlV
  have hov : OneC (rawsL v) := raw_one hrv
  have ho' : OneC (((bs.drop (i * 3)).take ((n - i) * 3)).take ((n - i) * 3)) := by rw [List.take_take, Nat.min_self]; exact ho
  have hb0 : ¬ bs = [] := fun h => by rw [h] at hlen; simp at hlen; omega
  have hra : (l.take i ++ v ++ l.drop i).all rawOk = true := by
    rw [List.all_append, List.all_append, hrv, qgn hraw fun x hx => List.mem_of_mem_take hx, qgn hraw fun x hx => List.mem_of_mem_drop hx]; rfl
  have hwa : AV.wid (l.take i ++ v ++ l.drop i) 3 := fun x hx => by
    rcases List.mem_append.1 hx with hx | hx
    · rcases List.mem_append.1 hx with hx | hx
      · exact hw x (List.mem_of_mem_take hx)
      · exact hwv x hx
    · exact hw x (List.mem_of_mem_drop hx)
  have hla : (l.take i ++ v ++ l.drop i).length = tot := by
    rw [List.length_append, List.length_append, List.length_take, List.length_drop]; omega
  have hti : tot - (i + m) = n - i := by omega
  have ho3 : OneC (((bs.drop (i * 3)).take ((tot - i) * 3)).take ((n - i) * 3)) := by rw [List.take_take, Nat.min_eq_left (by omega)]; exact ho
  have ex : bs.take (i * 3) = rawsL (l.take i) := row_take hraw hw hn hbs (by omega)
  have ez : (bs.drop (i * 3)).take ((n - i) * 3) = rawsL (l.drop i) := by
    rw [row_mid hraw hw hn hbs (by omega), List.take_of_length_le (by rw [List.length_drop]; omega)]
  have ez2 : ((bs.drop (i * 3)).take ((tot - i) * 3)).take ((n - i) * 3) = rawsL (l.drop i) := by rw [List.take_take, Nat.min_eq_left (by omega)]; exact ez
  have lx : (rawsL (l.take i)).length = i * 3 := by rw [← ex, List.length_take, hlen]; omega
  have lz : (rawsL (l.drop i)).length = (n - i) * 3 := by rw [← ez, List.length_take, List.length_drop, hlen]; omega
  have tx : ∀ T, (rawsL (l.take i) ++ T).take (i * 3) = rawsL (l.take i) := fun T => by rw [← lx, List.take_left]
  have ty : ∀ T, (rawsL (l.take i) ++ (rawsL v ++ T)).take ((i + m) * 3) = rawsL (l.take i) ++ rawsL v := fun T => by
    rw [← List.append_assoc, show (i + m) * 3 = (rawsL (l.take i) ++ rawsL v).length by rw [List.length_append, lx, hv1]; omega, List.take_left]
  have tz : ∀ T, (rawsL (l.take i) ++ (rawsL v ++ (rawsL (l.drop i) ++ T))).take (tot * 3) = rawsL (l.take i) ++ (rawsL v ++ rawsL (l.drop i)) := fun T => by
    rw [← List.append_assoc, ← List.append_assoc, show tot * 3 = (rawsL (l.take i) ++ rawsL v ++ rawsL (l.drop i)).length by rw [List.length_append, List.length_append, lx, hv1, lz]; omega, List.take_left, List.append_assoc]
  have zz : (rawsL (l.drop i)).take ((n - i) * 3) = rawsL (l.drop i) := List.take_of_length_le (by omega)
  have hz : ∀ z : AV, z ∈ v → 0 < z.width := fun z h => by rw [hwv z h]; omega
  repeat' (first | ((first | with_reducible refine qs ?_ | ((with_reducible refine qf (fun hg => ?_) (fun hg => ?_)) <;> (try simp only [hg]) <;> (try simp only [gS] at hg) <;> (try (first | simp only [eq_false hg, gI] | simp only [eq_true hg, gI]))) | refine Stp.m ?_) <;> (try simp (disch := first | omega | simp) [qd, -qg, -ql, hlen, hτ, ho, hl, hrn, hI, hm, hrv, hwv, h4, h4', q3, q4, q5, q6, hv1, hv2, hO, hov, ho', ho3, hti, hb0])) | with_reducible refine qj (id := 1) ?_ | with_reducible refine qj (id := 5) ?_ | with_reducible refine qj (id := 7) ?_ | with_reducible refine qj (id := 8) ?_ | with_reducible refine qj (id := 9) ?_ | with_reducible refine qj (id := 10) ?_ | with_reducible refine qcf (id := 11) [.R, .R, .R, .R, .M, .R, .R, .M, .W] (by kernel_rfl) (by kernel_rfl) ?_ | with_reducible refine qbg (id := 12) ?_ | with_reducible refine qj (id := 13) ?_ | with_reducible refine qj (id := 14) ?_ | with_reducible refine qcf (id := 15) [.R, .R, .R, .R, .M, .R, .R, .M, .W] (by kernel_rfl) (by kernel_rfl) ?_ | with_reducible refine qj (id := 16) ?_ | with_reducible refine qbg (id := 17) ?_ | refine sideA ?_ | refine qc fun K hK => ?_ | refine qa ?_ | refine qe ?_ | refine qb ?_ | (refine hK _ ?_; clear hK K) | clear hK K)
  · omega
  · have hin : i = n := by omega
    have e0 : rawsL (l.drop i) = [] := List.eq_nil_of_length_eq_zero (by omega)
    have lti : l.take i = l := List.take_of_length_le (by omega)
    have fin : ∀ T, List.take ((n + m) * 3) (List.take (n * 3) bs ++ (rawsL v ++ T)) = rawsL (l.take i ++ v ++ l.drop i) := fun T => by
      rw [hbs, qy, qy, e0, List.append_nil, lti, ← List.append_assoc]
      exact take_tk (by rw [List.length_append, hv1, qde hraw hw hn]; omega)
    refine ⟨fun hroom => ?_, fun hgrow c' zs h1 h2 h3 => ?_⟩
    · repeat' (first | ((first | with_reducible refine qs ?_ | ((with_reducible refine qf (fun hg => ?_) (fun hg => ?_)) <;> (try simp only [hg]) <;> (try simp only [gS] at hg) <;> (try (first | simp only [eq_false hg, gI] | simp only [eq_true hg, gI]))) | refine Stp.m ?_) <;> (try simp (disch := first | omega | simp) [qd, -qg, -ql, hlen, hτ, ho, hl, hrn, hI, hm, hrv, hwv, h4, h4', q3, q4, q5, q6, hv1, hv2, hO, hov, ho', ho3, hti, hb0])) | with_reducible refine qj (id := 7) ?_ | refine sideA ?_ | refine qc fun K hK => ?_ | refine qa ?_ | refine qe ?_ | refine qb ?_ | (refine hK _ ?_; clear hK K) | clear hK K)
      refine ⟨qr (r := r) (n := n + m) 6 (l.take i ++ v ++ l.drop i) (by simp) (by simp [hl]; exact ⟨rfl, rfl⟩) hra hwa (by rw [hla, htot]) (by omega) hcm (fin _) ?_⟩
      repeat' (first | ((first | ((with_reducible refine qf (fun hg => ?_) (fun hg => ?_)) <;> (try simp only [hg]) <;> (try simp only [gS] at hg) <;> (try (first | simp only [eq_false hg, gI] | simp only [eq_true hg, gI]))) | refine Stp.m ?_) <;> (try simp (disch := first | omega | simp) [qd, -qg, -ql, hl, hrn])) | refine sideA ?_ | refine qc fun K hK => ?_ | refine qa ?_ | refine qe ?_ | refine qb ?_ | (refine hK _ ?_; clear hK K) | clear hK K)
    · repeat' (first | ((first | with_reducible refine qs ?_ | ((with_reducible refine qf (fun hg => ?_) (fun hg => ?_)) <;> (try simp only [hg]) <;> (try simp only [gS] at hg) <;> (try (first | simp only [eq_false hg, gI] | simp only [eq_true hg, gI]))) | refine Stp.m ?_) <;> (try simp (disch := first | omega | simp) [qd, -qg, -ql, hlen, hτ, ho, hl, hrn, hI, hm, hrv, hwv, h4, h4', q3, q4, q5, q6, hv1, hv2, hO, hov, ho', ho3, hti, hb0, h3])) | with_reducible refine qj (id := 7) ?_ | refine sideA ?_ | refine qc fun K hK => ?_ | refine qa ?_ | refine qe ?_ | refine qb ?_ | (refine hK _ ?_; clear hK K) | clear hK K)
      refine ⟨qr (r := n0) (n := n + m) 6 (l.take i ++ v ++ l.drop i) (by simp) (by simp [hl]; exact ⟨rfl, rfl⟩) hra hwa (by rw [hla, htot]) (by omega) h2 (fin _) ?_⟩
      refine qr (r := r) (n := n) 0 l (by simp) (by simp [hl, hτ]; first | rfl | exact ⟨rfl, rfl⟩) hraw hw hn hc hcm hbs ?_
      repeat' (first | ((first | ((with_reducible refine qf (fun hg => ?_) (fun hg => ?_)) <;> (try simp only [hg]) <;> (try simp only [gS] at hg) <;> (try (first | simp only [eq_false hg, gI] | simp only [eq_true hg, gI]))) | refine Stp.m ?_) <;> (try simp (disch := first | omega | simp) [qd, -qg, -ql, hl, hrn])) | refine sideA ?_ | refine qc fun K hK => ?_ | refine qa ?_ | refine qe ?_ | refine qb ?_ | (refine hK _ ?_; clear hK K) | clear hK K)
  · intro c' zs h1 h2 h3
    repeat' (first | ((first | ((with_reducible refine qf (fun hg => ?_) (fun hg => ?_)) <;> (try simp only [hg]) <;> (try simp only [gS] at hg) <;> (try (first | simp only [eq_false hg, gI] | simp only [eq_true hg, gI]))) | refine Stp.m ?_) <;> (try simp (disch := first | omega | simp) [qd, -qg, -ql, hlen, hτ, ho, hl, hrn, hI, hm, hrv, hwv, h4, h4', q3, q4, q5, q6, hv1, hv2, hO, hov, ho', ho3, hti, hb0, h3])) | with_reducible refine qj (id := 9) ?_ | with_reducible refine qj (id := 10) ?_ | with_reducible refine qcf (id := 11) [.R, .R, .R, .R, .M, .R, .R, .M, .W] (by kernel_rfl) (by kernel_rfl) ?_ | with_reducible refine qbg (id := 12) ?_ | refine sideA ?_ | refine qc fun K hK => ?_ | refine qa ?_ | refine qe ?_ | refine qb ?_ | (refine hK _ ?_; clear hK K) | clear hK K)
    refine ⟨qr (r := n0) (n := tot) 9 (l.take i ++ v ++ l.drop i) (by simp) (by simp [hl]; exact ⟨rfl, rfl⟩) hra hwa hla (by omega) h2 ?_ ?_⟩
    · simp only [ex, ez, ez2, tx, ty, tz, zz, qy, List.append_assoc]
    · refine qr (r := r) (n := n) 0 l (by simp) (by simp [hl, hτ]; first | rfl | exact ⟨rfl, rfl⟩) hraw hw hn hc hcm hbs ?_
      repeat' (first | ((first | ((with_reducible refine qf (fun hg => ?_) (fun hg => ?_)) <;> (try simp only [hg]) <;> (try simp only [gS] at hg) <;> (try (first | simp only [eq_false hg, gI] | simp only [eq_true hg, gI]))) | refine Stp.m ?_) <;> (try simp (disch := first | omega | simp) [qd, -qg, -ql, hl, hrn])) | refine sideA ?_ | refine qc fun K hK => ?_ | refine qa ?_ | refine qe ?_ | refine qb ?_ | (refine hK _ ?_; clear hK K) | clear hK K)
  · refine ⟨qr (r := r) (n := tot) 0 (l.take i ++ v ++ l.drop i) (by simp) (by simp [hl]; exact ⟨rfl, rfl⟩) hra hwa hla (by omega) hcm ?_ ?_⟩
    · have dI' : ∀ T, (bs.take ((i + m) * 3) ++ T).take (i * 3) = rawsL (l.take i) := fun T => by
        rw [List.take_append_of_le_length (by rw [List.length_take, hlen]; omega), List.take_take, Nat.min_eq_left (by omega), ex]
      have dM : ∀ T, (bs.take ((i + m) * 3) ++ T).drop ((i + m) * 3) = T := fun T => drop_tk (by rw [List.length_take, hlen]; omega)
      simp only [dI', dM, ex, ez, ez2, tx, ty, tz, zz, qy, List.append_assoc]
    repeat' (first | ((first | ((with_reducible refine qf (fun hg => ?_) (fun hg => ?_)) <;> (try simp only [hg]) <;> (try simp only [gS] at hg) <;> (try (first | simp only [eq_false hg, gI] | simp only [eq_true hg, gI]))) | refine Stp.m ?_) <;> (try simp (disch := first | omega | simp) [qd, -qg, -ql, hl, hrn])) | refine sideA ?_ | refine qc fun K hK => ?_ | refine qa ?_ | refine qe ?_ | refine qb ?_ | (refine hK _ ?_; clear hK K) | clear hK K)
theorem ins_acV (l v : List AV) (i n m : Nat) (hi : i ≤ n) (h0 : 0 < n) (hm0 : 0 < m) (hn : l.length = n) (hm : v.length = m) (hraw : l.all rawOk = true) (hw : AV.wid l 3) (hrv : v.all rawOk = true) (hwv : AV.wid v 3) (hL : n ≤ 1000000) (hM : m ≤ 1000000) (hcl' : ∀ k, AV.cls k (l.take i ++ v ++ l.drop i)) {σ : Nat → AB} {r : Nat} (hσ : σ r = .vec l 27 3) :
    AC Tryz.prog 121 [.own r n, .int (i : Int), .sl v] σ fun y τ => y = .sl (l.take i ++ v ++ l.drop i) ∧ τ = upd σ r .dead := by
  refine ac_thaw hσ hn.symm (fun h => by rw [h] at hn; simp at hn; omega) (by decide) hraw hw hcl' fun r' c rest hr' hu hc hcm hrest => ?_
  have e1 := qde hraw hw hn
  exact ins_bV l v i n m _ c (rawsL l ++ rest) hi h0 hm0 hn hm rfl hraw hw hrv hwv hL hM hc hcm (by rw [List.length_append, e1, hrest, ← Nat.add_mul]; congr 1; omega) (by rw [← e1, List.take_left]) hcl' (by simp)
end Go.Proofs.YtbkkjlcclddpdaaGreatDoor
