/- Walk: a shape read from its text. -/
import Derived.Test.YtinmkhgadekabaaDoorGa15
namespace Go.Proofs.YtinmkhgadekabaaDoor
open Go.RowKit Go.Lib

/-- a column read from its words -/
def colOf (part : ByteArray) : Option Col :=
  let ws := splitA ⟨#[32]⟩ part
  if ws.length < 2 ∨ 3 < ws.length then none
  else if (typeOfP (ws.getD 1 ByteArray.empty).toList).2 then some ⟨ws.getD 0 ByteArray.empty, (typeOfP (ws.getD 1 ByteArray.empty).toList).1, bytesA (Lib.join ((ws.drop 2).map (·.data.toList)) [])⟩
  else none
def colsOf : List ByteArray → Option (List Col)
  | [] => some []
  | p :: l => match colOf p, colsOf l with
    | some c, some r => some (c :: r)
    | _, _ => none
def rawP (s : ByteArray) : Option (List Col) := colsOf (splitA ⟨#[44, 32]⟩ s)
def parseP (s : ByteArray) : Option (List Col) := match rawP s with
  | some cols => if rightP cols ∧ printP cols = s.toList then some cols else none
  | none => none
theorem extract_le (s : ByteArray) (a b : Nat) : (s.extract a b).size ≤ s.size := by simp only [ByteArray.size_extract]; omega
theorem splitB_le (sep : ByteArray) (save : Nat) : ∀ (k : Nat) (s : ByteArray), ∀ x ∈ Lib.splitB sep save k s, x.size ≤ s.size
  | 0, s, x, h => by rw [Lib.splitB_zero] at h; simp at h; subst h; exact Nat.le_refl _
  | k + 1, s, x, h => by
    rcases Lib.indexB_cases s sep with h1 | ⟨i, h1, -⟩
    · rw [Lib.splitB_miss _ _ _ _ h1] at h; simp at h; subst h; exact Nat.le_refl _
    · rw [Lib.splitB_hit _ _ _ _ i h1] at h
      rcases List.mem_cons.1 h with rfl | h
      · exact extract_le _ _ _
      · exact Nat.le_trans (splitB_le sep save k _ x h) (extract_le _ _ _)
theorem split_le {sep s x : ByteArray} (h : x ∈ splitA sep s) : x.size ≤ s.size := splitB_le sep 0 _ s x h
theorem split_len_le {sep s : ByteArray} (h1 : 1 ≤ sep.size) : (splitA sep s).length ≤ s.size + 1 := by
  rw [splitA_length sep s h1]
  have := Lib.countB_le sep h1 _ s (Nat.le_refl _)
  omega
theorem colOf_le {p : ByteArray} {c : Col} (h : colOf p = some c) : c.name.size ≤ p.size ∧ c.unit.size ≤ p.size := by
  unfold colOf at h
  dsimp only at h
  split at h
  · cases h
  · rename_i hlen
    have hlen' : 2 ≤ (splitA ⟨#[32]⟩ p).length ∧ (splitA ⟨#[32]⟩ p).length ≤ 3 := by omega
    split at h
    · cases h
      generalize hw : splitA ⟨#[32]⟩ p = ws at hlen'
      have hm : ∀ x ∈ ws, x.size ≤ p.size := fun x hx => split_le (hw ▸ hx)
      match ws, hlen' with
      | [a, b], _ =>
        refine ⟨hm a (by simp), ?_⟩
        show (bytesA (Lib.join [] [])).size ≤ _
        rw [Lib.join_nil]; exact Nat.zero_le _
      | [a, b, c], _ =>
        refine ⟨hm a (by simp), ?_⟩
        show (bytesA (Lib.join [c.data.toList] [])).size ≤ _
        rw [Lib.join_one, Lib.size_eq, bytesA_data, ← Lib.size_eq]
        exact hm c (by simp)
    · cases h
/-- the columns of the first k parts -/
theorem colsOf_take : ∀ {l : List ByteArray} {k : Nat} {r : List Col} {c : Col} (h : k < l.length), colsOf (l.take k) = some r → colOf l[k] = some c → colsOf (l.take (k + 1)) = some (r ++ [c])
  | [], _, _, _, h, _, _ => by simp at h
  | p :: l, 0, r, c, _, h1, h2 => by
    simp [colsOf] at h1
    subst h1
    simp at h2
    simp [colsOf, h2]
  | p :: l, k + 1, r, c, h, h1, h2 => by
    rw [List.take_succ_cons, colsOf] at h1
    split at h1
    · rename_i c0 r0 e1 e2
      cases h1
      have := colsOf_take (l := l) (by simpa using h) e2 (by simpa using h2)
      rw [List.take_succ_cons, colsOf, e1, this]; rfl
    · cases h1
theorem colsOf_none : ∀ {l : List ByteArray} {k : Nat} (h : k < l.length), colOf l[k] = none → colsOf l = none
  | [], _, h, _ => by simp at h
  | p :: l, 0, _, h2 => by
    have h2' : colOf p = none := h2
    rw [colsOf, h2']
  | p :: l, k + 1, h, h2 => by
    have := colsOf_none (l := l) (k := k) (by simpa using h) (by simpa using h2)
    rw [colsOf, this]
    cases colOf p <;> rfl
theorem colsOf_mem : ∀ {l : List ByteArray} {r : List Col}, colsOf l = some r → r.length = l.length ∧ ∀ c ∈ r, ∃ p ∈ l, colOf p = some c
  | [], r, h => by simp [colsOf] at h; subst h; simp
  | p :: l, r, h => by
    rw [colsOf] at h
    split at h
    · rename_i c0 r0 e1 e2
      cases h
      obtain ⟨h1, h2⟩ := colsOf_mem e2
      refine ⟨by simp [h1], fun c hc => ?_⟩
      rcases List.mem_cons.1 hc with rfl | hc
      · exact ⟨p, by simp, e1⟩
      · obtain ⟨q, hq, h3⟩ := h2 c hc
        exact ⟨q, by simp [hq], h3⟩
    · cases h
set_option maxHeartbeats 2000000 in
theorem parse_g (s : ByteArray) (hs : s.size ≤ 900000) : Gives Tryd.prog 10 [.str s] (.tup [.sl (((parseP s).getD []).map Col.av), .bool (parseP s).isSome]) := by
  have hsp := split_g s ⟨#[44, 32]⟩ (by omega) (by decide)
  have hpl := split_len_le (sep := ⟨#[44, 32]⟩) (s := s) (by decide)
  have hpm : ∀ p ∈ splitA ⟨#[44, 32]⟩ s, p.size ≤ s.size := fun p hp => split_le hp
  obtain ⟨ps, hps⟩ : ∃ ps, ps = splitA ⟨#[44, 32]⟩ s := ⟨_, rfl⟩
  have hraw : rawP s = colsOf ps := by unfold rawP; rw [hps]
  rw [← hps] at hsp hpl hpm
  clear hps
  have hnone : colsOf ps = none → parseP s = none := fun h => by unfold parseP; rw [hraw, h]
  refine gives_of_awp Tryd.func10 Tryd.ntmps10 rfl rfl (by decide) rfl (by intro n; simp) fun σ n0 hcl hft => ?_
  repeat' (first | ((with_reducible refine aguard (fun hg => ?_) (fun hg => ?_)) <;> (try simp only [hg]) <;> (try simp only [beq_iff_eq, beq_eq_false_iff_ne, ne_eq, decide_eq_true_eq, decide_eq_false_iff_not, bne_iff_ne, bne_eq_false_iff_eq] at hg) <;> (try (first | simp only [eq_false hg, if_true, if_false] | simp only [eq_true hg, if_true, if_false])) <;> (try simp (disch := first | omega | simp) [wrap_i64, -aseqC, -anyC])) | (with_reducible refine aseq_step ?_; try simp (disch := first | omega | simp) [wrap_i64, -aseqC, -anyC]) | (with_reducible refine any_step' ?_; try simp (disch := first | omega | simp) [wrap_i64, -aseqC, -anyC]) | (with_reducible refine aseq_end ?_; try simp (disch := first | omega | simp) [wrap_i64, -aseqC, -anyC]) | (with_reducible refine any_end' ?_; try simp (disch := first | omega | simp) [wrap_i64, -aseqC, -anyC]) | ((first | with_reducible refine sideG ?_ ?_ | with_reducible refine sideG2 ?_ ?_ | with_reducible refine sideS ?_ ?_ | with_reducible refine sideS2 ?_ ?_ | with_reducible refine sideS3 ?_ ?_ | with_reducible refine sideA ?_ ?_ | with_reducible refine sideA2 ?_ ?_ | with_reducible refine sideA3 ?_ ?_); (first | omega | assumption | (simp; done))) | (refine acall (hsp) ?_; try simp (disch := first | omega | simp) [wrap_i64, -aseqC, -anyC]) | (refine agives (hsp) ?_; try simp (disch := first | omega | simp) [wrap_i64, -aseqC, -anyC]) | (refine acallAt (hsp) ?_; try simp (disch := first | omega | simp) [wrap_i64, -aseqC, -anyC]) | (refine awp_seq_k fun K hK => ?_) | (refine awp_regionC ?_) | (refine awp_anyA true (by kernel_rfl) (by kernel_rfl) ?_) | (refine awp_anyA false (by kernel_rfl) (by kernel_rfl) ?_) | (refine hK _ ?_; clear hK; clear K) | (clear hK; clear K; refine hK _ ?_; clear hK; clear K) | (clear hK; clear K; clear hK; clear K; refine hK _ ?_; clear hK; clear K) | refine awp_block ?_ | (refine awp_condC ?_; simp (disch := first | omega | simp) [wrap_i64, -aseqC, -anyC]) | (refine awp_exit ?_; try simp (disch := first | omega | simp) [wrap_i64, -aseqC, -anyC]) | (refine awp_skip ?_; try simp (disch := first | omega | simp) [wrap_i64, -aseqC, -anyC]) | (refine awp_ret ?_; try simp (disch := first | omega | simp) [wrap_i64, -aseqC, -anyC]))
  refine awp_adoptR 4 33 3 (by simp) ?_
  refine awp_loopC hcl (fun r : List Col => [(0, .str s), (4, .gs n0 (r.map Col.av)), (11, .sl (ps.map AV.str)), (12, .int ps.length), (13, .int r.length)]) (fun r => [.tail r.length 33 3])
    (fun r => r.length ≤ ps.length ∧ colsOf (ps.take r.length) = some r) (fun r => ps.length - r.length) [] (by simp [colsOf]) (by simp) fun r ⟨hk, he⟩ => ?_
  by_cases hlt : r.length < ps.length
  · have hpz := hpm _ (List.getElem_mem hlt)
    have hw := split_g ps[r.length] ⟨#[32]⟩ (by omega) (by decide)
    have hwm : ∀ x ∈ splitA ⟨#[32]⟩ ps[r.length], x.size ≤ s.size := fun x hx => Nat.le_trans (split_le hx) hpz
    obtain ⟨ws, hws⟩ : ∃ ws, ws = splitA ⟨#[32]⟩ ps[r.length] := ⟨_, rfl⟩
    have hco : colOf ps[r.length] = if ws.length < 2 ∨ 3 < ws.length then none else if (typeOfP (ws.getD 1 ByteArray.empty).toList).2 then some ⟨ws.getD 0 ByteArray.empty, (typeOfP (ws.getD 1 ByteArray.empty).toList).1, bytesA (Lib.join ((ws.drop 2).map (·.data.toList)) [])⟩ else none := by
      unfold colOf; rw [hws]
    rw [← hws] at hw hwm
    clear hws
    by_cases hl2 : ws.length < 2 ∨ 3 < ws.length
    · rw [if_pos hl2] at hco
      rw [hnone (colsOf_none hlt hco)]
      repeat' (first | ((with_reducible refine aguard (fun hg => ?_) (fun hg => ?_)) <;> (try simp only [hg]) <;> (try simp only [beq_iff_eq, beq_eq_false_iff_ne, ne_eq, decide_eq_true_eq, decide_eq_false_iff_not, bne_iff_ne, bne_eq_false_iff_eq] at hg) <;> (try (first | simp only [eq_false hg, if_true, if_false] | simp only [eq_true hg, if_true, if_false])) <;> (try simp (disch := first | omega | simp) [wrap_i64, -aseqC, -anyC, hlt])) | (with_reducible refine aseq_step ?_; try simp (disch := first | omega | simp) [wrap_i64, -aseqC, -anyC, hlt]) | (with_reducible refine any_step' ?_; try simp (disch := first | omega | simp) [wrap_i64, -aseqC, -anyC, hlt]) | (with_reducible refine aseq_end ?_; try simp (disch := first | omega | simp) [wrap_i64, -aseqC, -anyC, hlt]) | (with_reducible refine any_end' ?_; try simp (disch := first | omega | simp) [wrap_i64, -aseqC, -anyC, hlt]) | ((first | with_reducible refine sideG ?_ ?_ | with_reducible refine sideG2 ?_ ?_ | with_reducible refine sideS ?_ ?_ | with_reducible refine sideS2 ?_ ?_ | with_reducible refine sideS3 ?_ ?_ | with_reducible refine sideA ?_ ?_ | with_reducible refine sideA2 ?_ ?_ | with_reducible refine sideA3 ?_ ?_); (first | omega | assumption | (simp; done))) | (refine acall (hw) ?_; try simp (disch := first | omega | simp) [wrap_i64, -aseqC, -anyC, hlt]) | (refine agives (hw) ?_; try simp (disch := first | omega | simp) [wrap_i64, -aseqC, -anyC, hlt]) | (refine acallAt (hw) ?_; try simp (disch := first | omega | simp) [wrap_i64, -aseqC, -anyC, hlt]) | (refine awp_seq_k fun K hK => ?_) | (refine awp_regionC ?_) | (refine awp_anyA true (by kernel_rfl) (by kernel_rfl) ?_) | (refine awp_anyA false (by kernel_rfl) (by kernel_rfl) ?_) | (refine hK _ ?_; clear hK; clear K) | (clear hK; clear K; refine hK _ ?_; clear hK; clear K) | (clear hK; clear K; clear hK; clear K; refine hK _ ?_; clear hK; clear K) | refine awp_block ?_ | (refine awp_condC ?_; simp (disch := first | omega | simp) [wrap_i64, -aseqC, -anyC, hlt]) | (refine awp_exit ?_; try simp (disch := first | omega | simp) [wrap_i64, -aseqC, -anyC, hlt]) | (refine awp_skip ?_; try simp (disch := first | omega | simp) [wrap_i64, -aseqC, -anyC, hlt]) | (refine awp_ret ?_; try simp (disch := first | omega | simp) [wrap_i64, -aseqC, -anyC, hlt]))
      all_goals (exfalso; omega)
    · rw [if_neg hl2] at hco
      have l1 : 1 < ws.length := by omega
      have l0 : 0 < ws.length := by omega
      have n2 : ¬ (ws.length : Int) < 2 := by omega
      have n3 : ¬ (3 : Int) < ws.length := by omega
      have g1 : ws.getD 1 ByteArray.empty = ws[1] := by simp [l1]
      have g0 : ws.getD 0 ByteArray.empty = ws[0] := by simp [l0]
      rw [g1, g0] at hco
      have ht := typeOf_g ws[1]
      have hj := join_g (ws.drop 2) ⟨#[]⟩ (by rw [List.length_drop]; omega) (by
        refine Nat.le_trans (join_le (N := 900000) fun x hx => ?_) ?_
        · obtain ⟨y, hy, rfl⟩ := List.mem_map.1 hx
          have := hwm y (List.mem_of_mem_drop hy)
          rw [← Lib.size_eq]; omega
        · rw [List.length_map, List.length_drop]
          have : (900000 + (⟨#[]⟩ : ByteArray).data.toList.length) = 900000 := rfl
          rw [this]; omega)
      rw [List.map_drop] at hj
      cases hty : (typeOfP ws[1].toList).2 with
      | false =>
        rw [hty] at hco ht
        simp only [Bool.false_eq_true, if_false] at hco
        rw [hnone (colsOf_none hlt hco)]
        repeat' (first | ((with_reducible refine aguard (fun hg => ?_) (fun hg => ?_)) <;> (try simp only [hg]) <;> (try simp only [beq_iff_eq, beq_eq_false_iff_ne, ne_eq, decide_eq_true_eq, decide_eq_false_iff_not, bne_iff_ne, bne_eq_false_iff_eq] at hg) <;> (try (first | simp only [eq_false hg, if_true, if_false] | simp only [eq_true hg, if_true, if_false])) <;> (try simp (disch := first | omega | simp) [wrap_i64, -aseqC, -anyC, hlt, n2, n3, l1, l0])) | (with_reducible refine aseq_step ?_; try simp (disch := first | omega | simp) [wrap_i64, -aseqC, -anyC, hlt, n2, n3, l1, l0]) | (with_reducible refine any_step' ?_; try simp (disch := first | omega | simp) [wrap_i64, -aseqC, -anyC, hlt, n2, n3, l1, l0]) | (with_reducible refine aseq_end ?_; try simp (disch := first | omega | simp) [wrap_i64, -aseqC, -anyC, hlt, n2, n3, l1, l0]) | (with_reducible refine any_end' ?_; try simp (disch := first | omega | simp) [wrap_i64, -aseqC, -anyC, hlt, n2, n3, l1, l0]) | ((first | with_reducible refine sideG ?_ ?_ | with_reducible refine sideG2 ?_ ?_ | with_reducible refine sideS ?_ ?_ | with_reducible refine sideS2 ?_ ?_ | with_reducible refine sideS3 ?_ ?_ | with_reducible refine sideA ?_ ?_ | with_reducible refine sideA2 ?_ ?_ | with_reducible refine sideA3 ?_ ?_); (first | omega | assumption | (simp; done))) | (refine acall (hw) ?_; try simp (disch := first | omega | simp) [wrap_i64, -aseqC, -anyC, hlt, n2, n3, l1, l0]) | (refine agives (hw) ?_; try simp (disch := first | omega | simp) [wrap_i64, -aseqC, -anyC, hlt, n2, n3, l1, l0]) | (refine acallAt (hw) ?_; try simp (disch := first | omega | simp) [wrap_i64, -aseqC, -anyC, hlt, n2, n3, l1, l0]) | (refine acall (ht) ?_; try simp (disch := first | omega | simp) [wrap_i64, -aseqC, -anyC, hlt, n2, n3, l1, l0]) | (refine agives (ht) ?_; try simp (disch := first | omega | simp) [wrap_i64, -aseqC, -anyC, hlt, n2, n3, l1, l0]) | (refine acallAt (ht) ?_; try simp (disch := first | omega | simp) [wrap_i64, -aseqC, -anyC, hlt, n2, n3, l1, l0]) | (refine awp_seq_k fun K hK => ?_) | (refine awp_regionC ?_) | (refine awp_anyA true (by kernel_rfl) (by kernel_rfl) ?_) | (refine awp_anyA false (by kernel_rfl) (by kernel_rfl) ?_) | (refine hK _ ?_; clear hK; clear K) | (clear hK; clear K; refine hK _ ?_; clear hK; clear K) | (clear hK; clear K; clear hK; clear K; refine hK _ ?_; clear hK; clear K) | refine awp_block ?_ | (refine awp_condC ?_; simp (disch := first | omega | simp) [wrap_i64, -aseqC, -anyC, hlt, n2, n3, l1, l0]) | (refine awp_exit ?_; try simp (disch := first | omega | simp) [wrap_i64, -aseqC, -anyC, hlt, n2, n3, l1, l0]) | (refine awp_skip ?_; try simp (disch := first | omega | simp) [wrap_i64, -aseqC, -anyC, hlt, n2, n3, l1, l0]) | (refine awp_ret ?_; try simp (disch := first | omega | simp) [wrap_i64, -aseqC, -anyC, hlt, n2, n3, l1, l0]))
      | true =>
        rw [hty] at hco ht
        simp only [if_true] at hco
        have l2 : 2 ≤ ws.length := by omega
        have tk : (ws.map AV.str).take ws.length = ws.map AV.str := List.take_of_length_le (by simp)
        repeat' (first | ((with_reducible refine aguard (fun hg => ?_) (fun hg => ?_)) <;> (try simp only [hg]) <;> (try simp only [beq_iff_eq, beq_eq_false_iff_ne, ne_eq, decide_eq_true_eq, decide_eq_false_iff_not, bne_iff_ne, bne_eq_false_iff_eq] at hg) <;> (try (first | simp only [eq_false hg, if_true, if_false] | simp only [eq_true hg, if_true, if_false])) <;> (try simp (disch := first | omega | simp) [wrap_i64, -aseqC, -anyC, hlt, n2, n3, l1, l0, l2, tk])) | (with_reducible refine aseq_step ?_; try simp (disch := first | omega | simp) [wrap_i64, -aseqC, -anyC, hlt, n2, n3, l1, l0, l2, tk]) | (with_reducible refine any_step' ?_; try simp (disch := first | omega | simp) [wrap_i64, -aseqC, -anyC, hlt, n2, n3, l1, l0, l2, tk]) | (with_reducible refine aseq_end ?_; try simp (disch := first | omega | simp) [wrap_i64, -aseqC, -anyC, hlt, n2, n3, l1, l0, l2, tk]) | (with_reducible refine any_end' ?_; try simp (disch := first | omega | simp) [wrap_i64, -aseqC, -anyC, hlt, n2, n3, l1, l0, l2, tk]) | ((first | with_reducible refine sideG ?_ ?_ | with_reducible refine sideG2 ?_ ?_ | with_reducible refine sideS ?_ ?_ | with_reducible refine sideS2 ?_ ?_ | with_reducible refine sideS3 ?_ ?_ | with_reducible refine sideA ?_ ?_ | with_reducible refine sideA2 ?_ ?_ | with_reducible refine sideA3 ?_ ?_); (first | omega | assumption | (simp; done))) | (refine acall (hw) ?_; try simp (disch := first | omega | simp) [wrap_i64, -aseqC, -anyC, hlt, n2, n3, l1, l0, l2, tk]) | (refine agives (hw) ?_; try simp (disch := first | omega | simp) [wrap_i64, -aseqC, -anyC, hlt, n2, n3, l1, l0, l2, tk]) | (refine acallAt (hw) ?_; try simp (disch := first | omega | simp) [wrap_i64, -aseqC, -anyC, hlt, n2, n3, l1, l0, l2, tk]) | (refine acall (ht) ?_; try simp (disch := first | omega | simp) [wrap_i64, -aseqC, -anyC, hlt, n2, n3, l1, l0, l2, tk]) | (refine agives (ht) ?_; try simp (disch := first | omega | simp) [wrap_i64, -aseqC, -anyC, hlt, n2, n3, l1, l0, l2, tk]) | (refine acallAt (ht) ?_; try simp (disch := first | omega | simp) [wrap_i64, -aseqC, -anyC, hlt, n2, n3, l1, l0, l2, tk]) | (refine acall (hj) ?_; try simp (disch := first | omega | simp) [wrap_i64, -aseqC, -anyC, hlt, n2, n3, l1, l0, l2, tk]) | (refine agives (hj) ?_; try simp (disch := first | omega | simp) [wrap_i64, -aseqC, -anyC, hlt, n2, n3, l1, l0, l2, tk]) | (refine acallAt (hj) ?_; try simp (disch := first | omega | simp) [wrap_i64, -aseqC, -anyC, hlt, n2, n3, l1, l0, l2, tk]) | (refine awp_seq_k fun K hK => ?_) | (refine awp_regionC ?_) | (refine awp_anyA true (by kernel_rfl) (by kernel_rfl) ?_) | (refine awp_anyA false (by kernel_rfl) (by kernel_rfl) ?_) | (refine hK _ ?_; clear hK; clear K) | (clear hK; clear K; refine hK _ ?_; clear hK; clear K) | (clear hK; clear K; clear hK; clear K; refine hK _ ?_; clear hK; clear K) | refine awp_block ?_ | (refine awp_condC ?_; simp (disch := first | omega | simp) [wrap_i64, -aseqC, -anyC, hlt, n2, n3, l1, l0, l2, tk]) | (refine awp_exit ?_; try simp (disch := first | omega | simp) [wrap_i64, -aseqC, -anyC, hlt, n2, n3, l1, l0, l2, tk]) | (refine awp_skip ?_; try simp (disch := first | omega | simp) [wrap_i64, -aseqC, -anyC, hlt, n2, n3, l1, l0, l2, tk]) | (refine awp_ret ?_; try simp (disch := first | omega | simp) [wrap_i64, -aseqC, -anyC, hlt, n2, n3, l1, l0, l2, tk]))
        refine ⟨r ++ [⟨ws[0], (typeOfP ws[1].toList).1, bytesA (Lib.join ((ws.drop 2).map (·.data.toList)) [])⟩], ⟨by simp; omega, ?_⟩, by simp; omega, by simp [Col.av, -Col.av_fold]⟩
        rw [List.length_append]
        exact colsOf_take hlt he hco
  · have hkl : r.length = ps.length := by omega
    rw [hkl, List.take_length] at he
    obtain ⟨-, hmem⟩ := colsOf_mem he
    have hb : ∀ c ∈ r, c.name.size ≤ 1000000 ∧ c.unit.size ≤ 1000000 := fun c hc => by
      obtain ⟨p, hp, h1⟩ := hmem c hc
      have := colOf_le h1
      have := hpm p hp
      omega
    have hR := right_g r (by omega) hb
    have hP := print_g r (by omega) hb
    have hval : parseP s = if rightP r ∧ printP r = s.toList then some r else none := by unfold parseP; rw [hraw, he]
    by_cases c1 : rightP r = true
    · rw [c1] at hR
      by_cases c2 : printP r = s.toList
      · rw [if_pos ⟨c1, c2⟩] at hval
        have c2' : (bytesA (printP r)).toList = s.toList := by rw [bytesA_list]; exact c2
        repeat' (first | ((with_reducible refine aguard (fun hg => ?_) (fun hg => ?_)) <;> (try simp only [hg]) <;> (try simp only [beq_iff_eq, beq_eq_false_iff_ne, ne_eq, decide_eq_true_eq, decide_eq_false_iff_not, bne_iff_ne, bne_eq_false_iff_eq] at hg) <;> (try (first | simp only [eq_false hg, if_true, if_false] | simp only [eq_true hg, if_true, if_false])) <;> (try simp (disch := first | omega | simp) [wrap_i64, -aseqC, -anyC, hlt, c2'])) | (with_reducible refine aseq_step ?_; try simp (disch := first | omega | simp) [wrap_i64, -aseqC, -anyC, hlt, c2']) | (with_reducible refine any_step' ?_; try simp (disch := first | omega | simp) [wrap_i64, -aseqC, -anyC, hlt, c2']) | (with_reducible refine aseq_end ?_; try simp (disch := first | omega | simp) [wrap_i64, -aseqC, -anyC, hlt, c2']) | (with_reducible refine any_end' ?_; try simp (disch := first | omega | simp) [wrap_i64, -aseqC, -anyC, hlt, c2']) | ((first | with_reducible refine sideG ?_ ?_ | with_reducible refine sideG2 ?_ ?_ | with_reducible refine sideS ?_ ?_ | with_reducible refine sideS2 ?_ ?_ | with_reducible refine sideS3 ?_ ?_ | with_reducible refine sideA ?_ ?_ | with_reducible refine sideA2 ?_ ?_ | with_reducible refine sideA3 ?_ ?_); (first | omega | assumption | (simp; done))) | (refine acall (hR) ?_; try simp (disch := first | omega | simp) [wrap_i64, -aseqC, -anyC, hlt, c2']) | (refine agives (hR) ?_; try simp (disch := first | omega | simp) [wrap_i64, -aseqC, -anyC, hlt, c2']) | (refine acallAt (hR) ?_; try simp (disch := first | omega | simp) [wrap_i64, -aseqC, -anyC, hlt, c2']) | (refine acall (hP) ?_; try simp (disch := first | omega | simp) [wrap_i64, -aseqC, -anyC, hlt, c2']) | (refine agives (hP) ?_; try simp (disch := first | omega | simp) [wrap_i64, -aseqC, -anyC, hlt, c2']) | (refine acallAt (hP) ?_; try simp (disch := first | omega | simp) [wrap_i64, -aseqC, -anyC, hlt, c2']) | (refine awp_seq_k fun K hK => ?_) | (refine awp_regionC ?_) | (refine awp_anyA true (by kernel_rfl) (by kernel_rfl) ?_) | (refine awp_anyA false (by kernel_rfl) (by kernel_rfl) ?_) | (refine hK _ ?_; clear hK; clear K) | (clear hK; clear K; refine hK _ ?_; clear hK; clear K) | (clear hK; clear K; clear hK; clear K; refine hK _ ?_; clear hK; clear K) | refine awp_block ?_ | (refine awp_condC ?_; simp (disch := first | omega | simp) [wrap_i64, -aseqC, -anyC, hlt, c2']) | (refine awp_exit ?_; try simp (disch := first | omega | simp) [wrap_i64, -aseqC, -anyC, hlt, c2']) | (refine awp_skip ?_; try simp (disch := first | omega | simp) [wrap_i64, -aseqC, -anyC, hlt, c2']) | (refine awp_ret ?_; try simp (disch := first | omega | simp) [wrap_i64, -aseqC, -anyC, hlt, c2']))
        all_goals first | (simp [hval]; done) | (exfalso; simp_all)
      · rw [if_neg fun h => c2 h.2] at hval
        have c2' : ¬ (bytesA (printP r)).toList = s.toList := by rw [bytesA_list]; exact c2
        repeat' (first | ((with_reducible refine aguard (fun hg => ?_) (fun hg => ?_)) <;> (try simp only [hg]) <;> (try simp only [beq_iff_eq, beq_eq_false_iff_ne, ne_eq, decide_eq_true_eq, decide_eq_false_iff_not, bne_iff_ne, bne_eq_false_iff_eq] at hg) <;> (try (first | simp only [eq_false hg, if_true, if_false] | simp only [eq_true hg, if_true, if_false])) <;> (try simp (disch := first | omega | simp) [wrap_i64, -aseqC, -anyC, hlt, c2'])) | (with_reducible refine aseq_step ?_; try simp (disch := first | omega | simp) [wrap_i64, -aseqC, -anyC, hlt, c2']) | (with_reducible refine any_step' ?_; try simp (disch := first | omega | simp) [wrap_i64, -aseqC, -anyC, hlt, c2']) | (with_reducible refine aseq_end ?_; try simp (disch := first | omega | simp) [wrap_i64, -aseqC, -anyC, hlt, c2']) | (with_reducible refine any_end' ?_; try simp (disch := first | omega | simp) [wrap_i64, -aseqC, -anyC, hlt, c2']) | ((first | with_reducible refine sideG ?_ ?_ | with_reducible refine sideG2 ?_ ?_ | with_reducible refine sideS ?_ ?_ | with_reducible refine sideS2 ?_ ?_ | with_reducible refine sideS3 ?_ ?_ | with_reducible refine sideA ?_ ?_ | with_reducible refine sideA2 ?_ ?_ | with_reducible refine sideA3 ?_ ?_); (first | omega | assumption | (simp; done))) | (refine acall (hR) ?_; try simp (disch := first | omega | simp) [wrap_i64, -aseqC, -anyC, hlt, c2']) | (refine agives (hR) ?_; try simp (disch := first | omega | simp) [wrap_i64, -aseqC, -anyC, hlt, c2']) | (refine acallAt (hR) ?_; try simp (disch := first | omega | simp) [wrap_i64, -aseqC, -anyC, hlt, c2']) | (refine acall (hP) ?_; try simp (disch := first | omega | simp) [wrap_i64, -aseqC, -anyC, hlt, c2']) | (refine agives (hP) ?_; try simp (disch := first | omega | simp) [wrap_i64, -aseqC, -anyC, hlt, c2']) | (refine acallAt (hP) ?_; try simp (disch := first | omega | simp) [wrap_i64, -aseqC, -anyC, hlt, c2']) | (refine awp_seq_k fun K hK => ?_) | (refine awp_regionC ?_) | (refine awp_anyA true (by kernel_rfl) (by kernel_rfl) ?_) | (refine awp_anyA false (by kernel_rfl) (by kernel_rfl) ?_) | (refine hK _ ?_; clear hK; clear K) | (clear hK; clear K; refine hK _ ?_; clear hK; clear K) | (clear hK; clear K; clear hK; clear K; refine hK _ ?_; clear hK; clear K) | refine awp_block ?_ | (refine awp_condC ?_; simp (disch := first | omega | simp) [wrap_i64, -aseqC, -anyC, hlt, c2']) | (refine awp_exit ?_; try simp (disch := first | omega | simp) [wrap_i64, -aseqC, -anyC, hlt, c2']) | (refine awp_skip ?_; try simp (disch := first | omega | simp) [wrap_i64, -aseqC, -anyC, hlt, c2']) | (refine awp_ret ?_; try simp (disch := first | omega | simp) [wrap_i64, -aseqC, -anyC, hlt, c2']))
        all_goals first | (simp [hval]; done) | (exfalso; simp_all)
    · rw [if_neg fun h => c1 h.1] at hval
      rw [Bool.not_eq_true] at c1
      rw [c1] at hR
      repeat' (first | ((with_reducible refine aguard (fun hg => ?_) (fun hg => ?_)) <;> (try simp only [hg]) <;> (try simp only [beq_iff_eq, beq_eq_false_iff_ne, ne_eq, decide_eq_true_eq, decide_eq_false_iff_not, bne_iff_ne, bne_eq_false_iff_eq] at hg) <;> (try (first | simp only [eq_false hg, if_true, if_false] | simp only [eq_true hg, if_true, if_false])) <;> (try simp (disch := first | omega | simp) [wrap_i64, -aseqC, -anyC, hlt])) | (with_reducible refine aseq_step ?_; try simp (disch := first | omega | simp) [wrap_i64, -aseqC, -anyC, hlt]) | (with_reducible refine any_step' ?_; try simp (disch := first | omega | simp) [wrap_i64, -aseqC, -anyC, hlt]) | (with_reducible refine aseq_end ?_; try simp (disch := first | omega | simp) [wrap_i64, -aseqC, -anyC, hlt]) | (with_reducible refine any_end' ?_; try simp (disch := first | omega | simp) [wrap_i64, -aseqC, -anyC, hlt]) | ((first | with_reducible refine sideG ?_ ?_ | with_reducible refine sideG2 ?_ ?_ | with_reducible refine sideS ?_ ?_ | with_reducible refine sideS2 ?_ ?_ | with_reducible refine sideS3 ?_ ?_ | with_reducible refine sideA ?_ ?_ | with_reducible refine sideA2 ?_ ?_ | with_reducible refine sideA3 ?_ ?_); (first | omega | assumption | (simp; done))) | (refine acall (hR) ?_; try simp (disch := first | omega | simp) [wrap_i64, -aseqC, -anyC, hlt]) | (refine agives (hR) ?_; try simp (disch := first | omega | simp) [wrap_i64, -aseqC, -anyC, hlt]) | (refine acallAt (hR) ?_; try simp (disch := first | omega | simp) [wrap_i64, -aseqC, -anyC, hlt]) | (refine acall (hP) ?_; try simp (disch := first | omega | simp) [wrap_i64, -aseqC, -anyC, hlt]) | (refine agives (hP) ?_; try simp (disch := first | omega | simp) [wrap_i64, -aseqC, -anyC, hlt]) | (refine acallAt (hP) ?_; try simp (disch := first | omega | simp) [wrap_i64, -aseqC, -anyC, hlt]) | (refine awp_seq_k fun K hK => ?_) | (refine awp_regionC ?_) | (refine awp_anyA true (by kernel_rfl) (by kernel_rfl) ?_) | (refine awp_anyA false (by kernel_rfl) (by kernel_rfl) ?_) | (refine hK _ ?_; clear hK; clear K) | (clear hK; clear K; refine hK _ ?_; clear hK; clear K) | (clear hK; clear K; clear hK; clear K; refine hK _ ?_; clear hK; clear K) | refine awp_block ?_ | (refine awp_condC ?_; simp (disch := first | omega | simp) [wrap_i64, -aseqC, -anyC, hlt]) | (refine awp_exit ?_; try simp (disch := first | omega | simp) [wrap_i64, -aseqC, -anyC, hlt]) | (refine awp_skip ?_; try simp (disch := first | omega | simp) [wrap_i64, -aseqC, -anyC, hlt]) | (refine awp_ret ?_; try simp (disch := first | omega | simp) [wrap_i64, -aseqC, -anyC, hlt]))
      all_goals simp [hval]
end Go.Proofs.YtinmkhgadekabaaDoor

/- Layer 13, on plain data: what is printed is read as it was. -/
namespace Go.Proofs.YtinmkhgadekabaaDoor
open Go.RowKit Go.Lib

/- splitting at a string whose first byte the parts do not have -/
theorem idx_none {b : UInt8} {t : List UInt8} : ∀ {l : List UInt8}, b ∉ l → Lib.index l (b :: t) = -1
  | [], _ => rfl
  | c :: l, h => by
    have h1 : ¬ b = c := fun e => h (by simp [e])
    have ih := idx_none (b := b) (t := t) (l := l) fun e => h (List.mem_cons_of_mem _ e)
    unfold Lib.index
    rw [if_neg (by simp [List.isPrefixOf, h1]), ih]; rfl
theorem idx_at {b : UInt8} {t r : List UInt8} : ∀ {x : List UInt8}, b ∉ x → Lib.index (x ++ (b :: t) ++ r) (b :: t) = x.length
  | [], _ => by
    show Lib.index (b :: (t ++ r)) (b :: t) = _
    unfold Lib.index
    rw [if_pos (by simp [List.isPrefixOf])]; rfl
  | c :: x, h => by
    have h1 : ¬ b = c := fun e => h (by simp [e])
    have ih := idx_at (b := b) (t := t) (r := r) (x := x) fun e => h (List.mem_cons_of_mem _ e)
    show Lib.index (c :: (x ++ (b :: t) ++ r)) (b :: t) = _
    unfold Lib.index
    rw [if_neg (by simp [List.isPrefixOf, h1]), ih, if_neg (by simp <;> omega)]
    simp
theorem splitL_none {b : UInt8} {t x : List UInt8} (h : b ∉ x) : Lib.split x (b :: t) = [x] := by
  unfold Lib.split
  rw [Lib.count_miss (idx_none h)]; rfl
theorem splitL_cons {b : UInt8} {t x r : List UInt8} (h : b ∉ x) : Lib.split (x ++ (b :: t) ++ r) (b :: t) = x :: Lib.split r (b :: t) := by
  have hi := idx_at (t := t) (r := r) h
  have hd : (x ++ (b :: t) ++ r).drop (x.length + (b :: t).length) = r := by
    have : (x ++ (b :: t)).length = x.length + (b :: t).length := by simp
    rw [← this]; exact List.drop_left
  have hK : ∀ n (s : List UInt8), Lib.splitK (b :: t) 0 (n + 1) s = if Lib.index s (b :: t) == -1 then [s] else s.take ((Lib.index s (b :: t)).toNat + 0) :: Lib.splitK (b :: t) 0 n (s.drop ((Lib.index s (b :: t)).toNat + (b :: t).length)) := fun _ _ => rfl
  unfold Lib.split
  rw [Lib.count_hit (by simp) hi, hd, Nat.add_comm, hK, hi, if_neg (by simp <;> omega)]
  simp only [Int.toNat_natCast, Nat.add_zero]
  rw [hd]
  congr 1
  rw [List.append_assoc]; exact List.take_left
theorem join_two (x y : List UInt8) (r : List (List UInt8)) (sep : List UInt8) : Lib.join (x :: y :: r) sep = x ++ sep ++ Lib.join (y :: r) sep := by
  rw [Lib.join_cons, Lib.join_cons]
  simp [Lib.joinTail]
theorem split_join {b : UInt8} {t : List UInt8} : ∀ {l : List (List UInt8)}, l ≠ [] → (∀ x ∈ l, b ∉ x) → Lib.split (Lib.join l (b :: t)) (b :: t) = l
  | [], h, _ => absurd rfl h
  | [x], _, h => by rw [Lib.join_one]; exact splitL_none (h x (by simp))
  | x :: y :: l, _, h => by
    rw [join_two, splitL_cons (h x (by simp)), split_join (by simp) fun z hz => h z (by simp [hz])]
theorem map_bytes {l : List ByteArray} {m : List (List UInt8)} (h : l.map (·.data.toList) = m) : l = m.map bytesA := by
  subst h
  rw [List.map_map]
  conv => lhs; rw [← List.map_id l]
  exact List.map_congr_left fun x _ => (bytesA_eq x).symm
theorem splitA_join {b : UInt8} {t : List UInt8} {l : List (List UInt8)} (hl : l ≠ []) (h : ∀ x ∈ l, b ∉ x) (sep s : ByteArray) (hsep : sep.data.toList = b :: t) (hs : s.data.toList = Lib.join l (b :: t)) : splitA sep s = l.map bytesA := by
  refine map_bytes ?_
  unfold splitA
  rw [Lib.splitB_data]
  show Lib.splitK _ 0 (Lib.count s.data.toList sep.data.toList) _ = l
  rw [hsep, hs]
  exact split_join hl h

/- right columns -/
theorem wrongs_nil {L : List Col} : ∀ {k : Nat}, k ≤ L.length → wrongs L k = [] → ∀ j (h : j < L.length), j < k → okC L j L[j] = true
  | 0, _, _, j, _, hj => by omega
  | k + 1, hk, h, j, hj, hjk => by
    rw [wrongs, List.append_eq_nil_iff] at h
    by_cases he : j = k
    · subst he
      have h2 := h.2
      rw [List.getElem?_eq_getElem hj] at h2
      dsimp only at h2
      split at h2
      · assumption
      · cases h2
    · exact wrongs_nil (by omega) h.1 j hj (by omega)
theorem right_ok {L : List Col} (h : rightP L = true) : (∀ j (h : j < L.length), okC L j L[j] = true) ∧ 1 ≤ L.length ∧ L.length ≤ 12 := by
  unfold rightP at h
  simp only [Bool.and_eq_true, decide_eq_true_eq] at h
  exact ⟨fun j hj => wrongs_nil (Nat.le_refl _) h.1.1 j hj hj, h.1.2, h.2⟩
theorem right_of {L : List Col} (h1 : ∀ j (h : j < L.length), okC L j L[j] = true) (h2 : 1 ≤ L.length) (h3 : L.length ≤ 12) : rightP L = true := by
  have : ∀ k, k ≤ L.length → wrongs L k = [] := fun k => by
    induction k with
    | zero => intro _; rfl
    | succ k ih =>
      intro hk
      rw [wrongs_ok (by omega) (h1 k (by omega))]
      exact ih (by omega)
  unfold rightP
  rw [decide_eq_true (this _ (Nat.le_refl _)), decide_eq_true h2, decide_eq_true h3]; rfl
/-- a column as a right shape has it -/
structure OkCol (c : Col) : Prop where
  name : ownP c.name.toList = true
  type : 0 ≤ c.type ∧ c.type < 3
  unit : c.unit.toList = [] ∨ (c.type = 0 ∧ ownP c.unit.toList = true)
theorem okCol {L : List Col} {j : Nat} {c : Col} (h : okC L j c = true) : OkCol c ∧ findP (L.take j) c.name.toList < 0 := by
  unfold okC unitP at h
  simp only [Bool.and_eq_true, Bool.or_eq_true, decide_eq_true_eq, Bool.not_eq_true', decide_eq_false_iff_not] at h
  refine ⟨⟨h.1.1.1, ?_, h.1.2⟩, h.2⟩
  have := h.1.1.2
  unfold typeNameP at this
  split at this
  · assumption
  · exact absurd rfl this
theorem right_cols {L : List Col} (h : rightP L = true) : ∀ c ∈ L, OkCol c := fun c hc => by
  obtain ⟨j, hj, rfl⟩ := List.getElem_of_mem hc
  exact (okCol ((right_ok h).1 j hj)).1
theorem nameB_ne {b : UInt8} (h : nameB b = true) : b ≠ 32 ∧ b ≠ 44 := by
  constructor <;> (rintro rfl; revert h; decide)
theorem own_name {s : List UInt8} (h : ownP s = true) : nameP s = true ∧ (typeOfP s).2 = false := by
  unfold ownP at h
  simpa using h
theorem name_bytes {s : List UInt8} (h : nameP s = true) : s ≠ [] ∧ s.length ≤ 20 ∧ ∀ b ∈ s, nameB b = true := by
  unfold nameP at h
  simp only [Bool.and_eq_true, Bool.not_eq_true', decide_eq_false_iff_not, decide_eq_true_eq, List.all_eq_true] at h
  exact ⟨h.1.1.1, h.1.1.2, h.2⟩
theorem own_free {s : List UInt8} (h : ownP s = true) {b : UInt8} (hb : b = 32 ∨ b = 44) : b ∉ s := fun hm => by
  have := nameB_ne ((name_bytes (own_name h).1).2.2 b hm)
  rcases hb with rfl | rfl
  · exact this.1 rfl
  · exact this.2 rfl
theorem tname_free {k : Int} (hk : 0 ≤ k ∧ k < 3) {b : UInt8} (hb : b = 32 ∨ b = 44) : b ∉ typeNameP k := by
  obtain rfl | rfl | rfl : k = 0 ∨ k = 1 ∨ k = 2 := by omega
  all_goals rcases hb with rfl | rfl <;> decide
theorem tname_of {k : Int} (hk : 0 ≤ k ∧ k < 3) : typeOfP (typeNameP k) = (k, true) := by
  obtain rfl | rfl | rfl : k = 0 ∨ k = 1 ∨ k = 2 := by omega
  all_goals decide
/-- the words of a column -/
def wordsC (c : Col) : List (List UInt8) := [c.name.toList, typeNameP c.type] ++ (if c.unit.toList = [] then [] else [c.unit.toList])
theorem hasSuffix_one (s : List UInt8) (b : UInt8) : Lib.hasSuffix s [b] = (s.getLast? == some b) := by
  unfold Lib.hasSuffix
  rw [Bool.eq_iff_iff]
  simp only [List.isSuffixOf_iff_suffix, beq_iff_eq]
  constructor
  · rintro ⟨t, rfl⟩; simp
  · intro h
    obtain ⟨ys, rfl⟩ := List.getLast?_eq_some_iff.1 h
    exact List.suffix_append _ _
theorem colA_words {c : Col} (h : OkCol c) : (colA c).data.toList = Lib.join (wordsC c) [32] := by
  unfold colA wordsC
  rw [bytesA_data, ← ByteArray.toList_eq, ← ByteArray.toList_eq]
  by_cases hu : c.unit.toList = []
  · rw [if_pos hu, hu, List.append_nil, join_two, Lib.join_one]
    unfold Lib.trimSuffix
    have : c.name.toList ++ 32 :: (typeNameP c.type ++ [32]) = (c.name.toList ++ 32 :: typeNameP c.type) ++ [32] := by simp
    rw [this, if_pos (by rw [hasSuffix_one, List.getLast?_append]; rfl)]
    rw [List.length_append, List.length_singleton, Nat.add_sub_cancel, List.take_left]
    simp
  · rw [if_neg hu]
    obtain ⟨-, hu2⟩ := h.unit.resolve_left hu
    show _ = Lib.join [c.name.toList, typeNameP c.type, c.unit.toList] [32]
    rw [join_two, join_two, Lib.join_one]
    unfold Lib.trimSuffix
    rw [if_neg]
    · simp
    · rw [hasSuffix_one]
      simp only [beq_iff_eq]
      intro hl
      have : (c.name.toList ++ 32 :: (typeNameP c.type ++ 32 :: c.unit.toList)).getLast? = c.unit.toList.getLast? := by
        have e : c.name.toList ++ 32 :: (typeNameP c.type ++ 32 :: c.unit.toList) = (c.name.toList ++ 32 :: (typeNameP c.type ++ [32])) ++ c.unit.toList := by simp
        rw [e, List.getLast?_append]
        cases hx : c.unit.toList.getLast? with
        | none => rw [List.getLast?_eq_none_iff] at hx; exact absurd hx hu
        | some y => rfl
      rw [this] at hl
      exact own_free hu2 (.inl rfl) (List.mem_of_getLast? hl)
theorem words_free {c : Col} (h : OkCol c) {b : UInt8} (hb : b = 32 ∨ b = 44) : ∀ x ∈ wordsC c, b ∉ x := by
  intro x hx
  unfold wordsC at hx
  by_cases hu : c.unit.toList = []
  · rw [if_pos hu] at hx
    simp at hx
    rcases hx with rfl | rfl
    · exact own_free h.name hb
    · exact tname_free h.type hb
  · rw [if_neg hu] at hx
    simp at hx
    rcases hx with rfl | rfl | rfl
    · exact own_free h.name hb
    · exact tname_free h.type hb
    · exact own_free (h.unit.resolve_left hu).2 hb
theorem colOf_colA {c : Col} (h : OkCol c) : colOf (colA c) = some c := by
  have hw : splitA ⟨#[32]⟩ (colA c) = (wordsC c).map bytesA := splitA_join (t := []) (by unfold wordsC; simp) (words_free h (.inl rfl)) _ _ rfl (colA_words h)
  unfold colOf
  rw [hw]
  unfold wordsC
  by_cases hu : c.unit.toList = []
  · rw [if_pos hu]
    simp only [List.append_nil, List.map_cons, List.map_nil]
    rw [if_neg (by simp)]
    simp only [List.getD_cons_zero, List.getD_cons_succ, bytesA_list, tname_of h.type, if_true, List.drop_succ_cons, List.drop_zero, List.map_nil, Lib.join_nil]
    congr 1
    obtain ⟨nm, ty, un⟩ := c
    rw [Col.mk.injEq]
    refine ⟨?_, rfl, ?_⟩
    · rw [ByteArray.toList_eq]; exact bytesA_eq _
    · rw [ByteArray.toList_eq] at hu; exact WideShapes.bytes_inj hu.symm
  · rw [if_neg hu]
    simp only [List.cons_append, List.nil_append, List.map_cons, List.map_nil]
    rw [if_neg (by simp)]
    simp only [List.getD_cons_zero, List.getD_cons_succ, bytesA_list, tname_of h.type, if_true, List.drop_succ_cons, List.drop_zero, List.map_cons, List.map_nil, Lib.join_one, bytesA_data]
    congr 1
    obtain ⟨nm, ty, un⟩ := c
    rw [Col.mk.injEq]
    refine ⟨?_, rfl, ?_⟩
    · rw [ByteArray.toList_eq]; exact bytesA_eq _
    · rw [ByteArray.toList_eq]; exact bytesA_eq _
theorem colT_free {c : Col} (h : OkCol c) : (44 : UInt8) ∉ (colA c).data.toList := by
  rw [colA_words h]
  have key : ∀ l : List (List UInt8), (∀ x ∈ l, (44 : UInt8) ∉ x) → (44 : UInt8) ∉ Lib.join l [32] := fun l => by
    induction l with
    | nil => intro _; simp [Lib.join_nil]
    | cons x l ih =>
      intro hx
      cases l with
      | nil => rw [Lib.join_one]; exact hx x (by simp)
      | cons y l =>
        rw [join_two]
        have h1 := ih fun z hz => hx z (by simp [hz])
        have h2 := hx x (by simp)
        simp only [List.mem_append, List.mem_singleton]
        rintro ((h3 | h3) | h3)
        · exact h2 h3
        · exact absurd h3 (by decide)
        · exact h1 h3
  exact key _ (words_free h (.inr rfl))
theorem colsOf_all : ∀ {L : List Col}, (∀ c ∈ L, OkCol c) → colsOf (L.map colA) = some L
  | [], _ => rfl
  | c :: L, h => by
    rw [List.map_cons, colsOf, colOf_colA (h c (by simp)), colsOf_all fun d hd => h d (by simp [hd])]
theorem parse_print {L : List Col} (h : rightP L = true) : parseP (bytesA (printP L)) = some L := by
  have hc := right_cols h
  have hl := (right_ok h).2.1
  have hp : printP L = Lib.join (L.map fun c => (colA c).data.toList) [44, 32] := by unfold printP; rw [h]; rfl
  have hs : splitA ⟨#[44, 32]⟩ (bytesA (printP L)) = (L.map fun c => (colA c).data.toList).map bytesA := by
    refine splitA_join (t := [32]) ?_ ?_ _ _ rfl (by rw [bytesA_data]; exact hp)
    · cases L with
      | nil => simp at hl
      | cons c L => simp
    · intro x hx
      obtain ⟨c, hcm, rfl⟩ := List.mem_map.1 hx
      exact colT_free (hc c hcm)
  have hs2 : (L.map fun c => (colA c).data.toList).map bytesA = L.map colA := by
    rw [List.map_map]
    exact List.map_congr_left fun c _ => bytesA_eq _
  unfold parseP rawP
  rw [hs, hs2, colsOf_all hc]
  dsimp only
  rw [if_pos ⟨h, by rw [bytesA_list]⟩]
theorem print_ne {L : List Col} (h : rightP L = true) : printP L ≠ [] := by
  have hl := (right_ok h).2.1
  have hc := right_cols h
  unfold printP
  rw [if_pos h]
  cases L with
  | nil => simp at hl
  | cons c L =>
    intro he
    have h1 : (Lib.join ((c :: L).map fun c => (colA c).data.toList) [44, 32]).length = 0 := by rw [he]; rfl
    rw [List.map_cons, Lib.join_cons, List.length_append] at h1
    have h2 : (colA c).data.toList ≠ [] := by
      rw [colA_words (hc c (by simp))]
      unfold wordsC
      have := (name_bytes (own_name (hc c (by simp)).name).1).1
      rw [List.cons_append, List.cons_append, join_two]
      simp
    have : (colA c).data.toList.length ≠ 0 := fun e => h2 (List.eq_nil_of_length_eq_zero e)
    omega
theorem parse_right {s : ByteArray} {L : List Col} (h : parseP s = some L) : rightP L = true ∧ printP L = s.toList := by
  unfold parseP at h
  split at h
  · split at h
    · cases h; assumption
    · cases h
  · cases h
theorem parse_empty {s : ByteArray} (h : s.toList = []) : parseP s = none := by
  cases hp : parseP s with
  | none => rfl
  | some L =>
    obtain ⟨h1, h2⟩ := parse_right hp
    exact absurd (h2.trans h) (print_ne h1)
theorem print_inj {A B : List Col} (hA : rightP A = true) (hB : rightP B = true) (h : printP A = printP B) : A = B := by
  have h1 := parse_print hA
  rw [h, parse_print hB] at h1
  exact (Option.some.inj h1).symm
end Go.Proofs.YtinmkhgadekabaaDoor

/- The documented examples of layer 13; the law ShapeBack: it returns true. -/
namespace Go.Proofs.YtinmkhgadekabaaDoor
open Go.RowKit Go.Lib

def exL : List Col := [⟨⟨#[105, 100]⟩, 0, ⟨#[]⟩⟩, ⟨⟨#[110, 97, 109, 101]⟩, 1, ⟨#[]⟩⟩, ⟨⟨#[119]⟩, 0, ⟨#[107, 103]⟩⟩]
def exT : ByteArray := ⟨#[105, 100, 32, 105, 110, 116, 44, 32, 110, 97, 109, 101, 32, 116, 101, 120, 116, 44, 32, 119, 32, 105, 110, 116, 32, 107, 103]⟩
theorem exL_right : rightP exL = true := by decide +kernel
theorem exL_print : bytesA (printP exL) = exT := by
  have h : printP exL = exT.data.toList := by decide +kernel
  rw [h]; rfl
theorem exL_small : ∀ c ∈ exL, c.name.size ≤ 1000000 ∧ c.unit.size ≤ 1000000 := by decide +kernel
theorem none_g (s : ByteArray) (hs : s.size ≤ 900000) (h : parseP s = none) : Gives Tryd.prog 10 [.str s] (.tup [.sl [], .bool false]) := by
  have := parse_g s hs
  rw [h] at this; exact this
theorem some_g (s : ByteArray) (hs : s.size ≤ 900000) {L : List Col} (h : parseP s = some L) : Gives Tryd.prog 10 [.str s] (.tup [.sl (L.map Col.av), .bool true]) := by
  have := parse_g s hs
  rw [h] at this; exact this

set_option maxHeartbeats 1000000 in
theorem small13_g : Gives Tryd.prog 7 [] (.bool true) := by
  have h1 := print_g exL (by decide) exL_small
  rw [exL_print] at h1
  have h2 := some_g exT (by decide) (L := exL) (by rw [← exL_print]; exact parse_print exL_right)
  have h3 := none_g ⟨#[105, 100, 32, 105, 110, 116, 44, 110, 97, 109, 101, 32, 116, 101, 120, 116]⟩ (by decide) (by decide +kernel)
  have h4 := none_g ⟨#[105, 100, 32, 105, 110, 116, 44, 32, 105, 100, 32, 116, 101, 120, 116]⟩ (by decide) (by decide +kernel)
  have h5 := none_g ⟨#[105, 110, 116, 32, 116, 101, 120, 116]⟩ (by decide) (by decide +kernel)
  have h6 := none_g ⟨#[97, 32, 98, 111, 111, 108, 32, 107, 103]⟩ (by decide) (by decide +kernel)
  have h7 := same_g13 exL exL (by decide)
  rw [(sameC_iff _ _).2 rfl] at h7
  have h8 := right_g exL (by decide) exL_small
  rw [exL_right] at h8
  have h9 := find_g exL ⟨#[119]⟩ (by decide)
  rw [show findP exL (⟨#[119]⟩ : ByteArray).toList = 2 by decide +kernel] at h9
  have he : exT.toList = [105, 100, 32, 105, 110, 116, 44, 32, 110, 97, 109, 101, 32, 116, 101, 120, 116, 44, 32, 119, 32, 105, 110, 116, 32, 107, 103] := by rw [ByteArray.toList_eq]; rfl
  refine gives_of_awp Tryd.func7 Tryd.ntmps7 rfl rfl (by decide) rfl (by intro n; simp) fun σ n0 hcl hft => ?_
  repeat' (first | ((with_reducible refine aguard (fun hg => ?_) (fun hg => ?_)) <;> (try simp only [hg]) <;> (try simp only [beq_iff_eq, beq_eq_false_iff_ne, ne_eq, decide_eq_true_eq, decide_eq_false_iff_not, bne_iff_ne, bne_eq_false_iff_eq] at hg) <;> (try (first | simp only [eq_false hg, if_true, if_false] | simp only [eq_true hg, if_true, if_false])) <;> (try simp (disch := first | omega | simp) [wrap_i64, -aseqC, -anyC, he])) | (with_reducible refine aseq_step ?_; try simp (disch := first | omega | simp) [wrap_i64, -aseqC, -anyC, he]) | (with_reducible refine any_step' ?_; try simp (disch := first | omega | simp) [wrap_i64, -aseqC, -anyC, he]) | (with_reducible refine aseq_end ?_; try simp (disch := first | omega | simp) [wrap_i64, -aseqC, -anyC, he]) | (with_reducible refine any_end' ?_; try simp (disch := first | omega | simp) [wrap_i64, -aseqC, -anyC, he]) | ((first | with_reducible refine sideG ?_ ?_ | with_reducible refine sideG2 ?_ ?_ | with_reducible refine sideS ?_ ?_ | with_reducible refine sideS2 ?_ ?_ | with_reducible refine sideS3 ?_ ?_ | with_reducible refine sideA ?_ ?_ | with_reducible refine sideA2 ?_ ?_ | with_reducible refine sideA3 ?_ ?_); (first | omega | assumption | (simp; done))) | (refine acall (h1) ?_; try simp (disch := first | omega | simp) [wrap_i64, -aseqC, -anyC, he]) | (refine agives (h1) ?_; try simp (disch := first | omega | simp) [wrap_i64, -aseqC, -anyC, he]) | (refine acallAt (h1) ?_; try simp (disch := first | omega | simp) [wrap_i64, -aseqC, -anyC, he]) | (refine acall (h2) ?_; try simp (disch := first | omega | simp) [wrap_i64, -aseqC, -anyC, he]) | (refine agives (h2) ?_; try simp (disch := first | omega | simp) [wrap_i64, -aseqC, -anyC, he]) | (refine acallAt (h2) ?_; try simp (disch := first | omega | simp) [wrap_i64, -aseqC, -anyC, he]) | (refine acall (h3) ?_; try simp (disch := first | omega | simp) [wrap_i64, -aseqC, -anyC, he]) | (refine agives (h3) ?_; try simp (disch := first | omega | simp) [wrap_i64, -aseqC, -anyC, he]) | (refine acallAt (h3) ?_; try simp (disch := first | omega | simp) [wrap_i64, -aseqC, -anyC, he]) | (refine acall (h4) ?_; try simp (disch := first | omega | simp) [wrap_i64, -aseqC, -anyC, he]) | (refine agives (h4) ?_; try simp (disch := first | omega | simp) [wrap_i64, -aseqC, -anyC, he]) | (refine acallAt (h4) ?_; try simp (disch := first | omega | simp) [wrap_i64, -aseqC, -anyC, he]) | (refine acall (h5) ?_; try simp (disch := first | omega | simp) [wrap_i64, -aseqC, -anyC, he]) | (refine agives (h5) ?_; try simp (disch := first | omega | simp) [wrap_i64, -aseqC, -anyC, he]) | (refine acallAt (h5) ?_; try simp (disch := first | omega | simp) [wrap_i64, -aseqC, -anyC, he]) | (refine acall (h6) ?_; try simp (disch := first | omega | simp) [wrap_i64, -aseqC, -anyC, he]) | (refine agives (h6) ?_; try simp (disch := first | omega | simp) [wrap_i64, -aseqC, -anyC, he]) | (refine acallAt (h6) ?_; try simp (disch := first | omega | simp) [wrap_i64, -aseqC, -anyC, he]) | (refine acall (h7) ?_; try simp (disch := first | omega | simp) [wrap_i64, -aseqC, -anyC, he]) | (refine agives (h7) ?_; try simp (disch := first | omega | simp) [wrap_i64, -aseqC, -anyC, he]) | (refine acallAt (h7) ?_; try simp (disch := first | omega | simp) [wrap_i64, -aseqC, -anyC, he]) | (refine acall (h8) ?_; try simp (disch := first | omega | simp) [wrap_i64, -aseqC, -anyC, he]) | (refine agives (h8) ?_; try simp (disch := first | omega | simp) [wrap_i64, -aseqC, -anyC, he]) | (refine acallAt (h8) ?_; try simp (disch := first | omega | simp) [wrap_i64, -aseqC, -anyC, he]) | (refine acall (h9) ?_; try simp (disch := first | omega | simp) [wrap_i64, -aseqC, -anyC, he]) | (refine agives (h9) ?_; try simp (disch := first | omega | simp) [wrap_i64, -aseqC, -anyC, he]) | (refine acallAt (h9) ?_; try simp (disch := first | omega | simp) [wrap_i64, -aseqC, -anyC, he]) | (refine awp_seq_k fun K hK => ?_) | (refine awp_regionC ?_) | (refine awp_anyA true (by kernel_rfl) (by kernel_rfl) ?_) | (refine awp_anyA false (by kernel_rfl) (by kernel_rfl) ?_) | (refine hK _ ?_; clear hK; clear K) | (clear hK; clear K; refine hK _ ?_; clear hK; clear K) | (clear hK; clear K; clear hK; clear K; refine hK _ ?_; clear hK; clear K) | refine awp_block ?_ | (refine awp_condC ?_; simp (disch := first | omega | simp) [wrap_i64, -aseqC, -anyC, he]) | (refine awp_exit ?_; try simp (disch := first | omega | simp) [wrap_i64, -aseqC, -anyC, he]) | (refine awp_skip ?_; try simp (disch := first | omega | simp) [wrap_i64, -aseqC, -anyC, he]) | (refine awp_ret ?_; try simp (disch := first | omega | simp) [wrap_i64, -aseqC, -anyC, he]))

theorem right_small {L : List Col} (h : rightP L = true) : L.length ≤ 12 ∧ ∀ c ∈ L, c.name.size ≤ 20 ∧ c.unit.size ≤ 20 := by
  refine ⟨(right_ok h).2.2, fun c hc => ?_⟩
  have hk := right_cols h c hc
  have h1 := (name_bytes (own_name hk.name).1).2.1
  rw [list_size] at h1
  refine ⟨h1, ?_⟩
  rcases hk.unit with h2 | ⟨-, h2⟩
  · have := list_size c.unit
    rw [h2] at this; simp at this; omega
  · have h3 := (name_bytes (own_name h2).1).2.1
    rw [list_size] at h3; exact h3
theorem few_all {L : List Col} {n : Nat} (h : fewP L n = true) : L.length ≤ n ∧ ∀ c ∈ L, c.name.size ≤ 30 ∧ c.unit.size ≤ 30 := by
  unfold fewP at h
  rw [Bool.and_eq_true, List.all_eq_true, decide_eq_true_eq] at h
  refine ⟨by omega, fun c hc => ?_⟩
  have := h.1 c hc
  unfold fewB at this
  simpa using this
theorem print_size {L : List Col} (hl : L.length ≤ 15) (h : ∀ c ∈ L, c.name.size ≤ 30 ∧ c.unit.size ≤ 30) : (bytesA (printP L)).size ≤ 900000 := by
  rw [Lib.size_eq, bytesA_data]
  unfold printP
  split
  · have hc : ∀ x ∈ L.map (fun c => (colA c).data.toList), x.length ≤ 66 := fun x hx => by
      obtain ⟨c, hc, rfl⟩ := List.mem_map.1 hx
      have h1 := trim_le (c.name.data.toList ++ 32 :: (typeNameP c.type ++ 32 :: c.unit.data.toList)) [32]
      have h2 := typeName_size c.type
      rw [Lib.size_eq, bytesA_data] at h2
      simp only [List.length_append, List.length_cons] at h1
      rw [← Lib.size_eq, ← Lib.size_eq] at h1
      have := h c hc
      unfold colA
      rw [bytesA_data]; omega
    refine Nat.le_trans (join_le hc) ?_
    rw [List.length_map]
    have : 66 + ([44, 32] : List UInt8).length = 68 := rfl
    rw [this]; omega
  · simp
end Go.Proofs.YtinmkhgadekabaaDoor
