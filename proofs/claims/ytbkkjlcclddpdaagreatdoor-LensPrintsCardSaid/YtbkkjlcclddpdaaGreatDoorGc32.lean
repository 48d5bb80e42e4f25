/- Walks of layer 14's reference: the parts of a line, reading a step, Parse. -/
import Derived.Test.YtbkkjlcclddpdaaGreatDoorGc10
import Derived.Test.YtbkkjlcclddpdaaGreatDoorGc11
import Derived.Test.YtbkkjlcclddpdaaGreatDoorGc14
import Derived.Test.YtbkkjlcclddpdaaGreatDoorGc18
import Derived.Test.YtbkkjlcclddpdaaGreatDoorGc23
import Derived.Test.YtbkkjlcclddpdaaGreatDoorGc27
import Derived.Test.YtbkkjlcclddpdaaGreatDoorGc28
import Derived.Test.YtbkkjlcclddpdaaGreatDoorGc30
import Derived.Test.YtbkkjlcclddpdaaGreatDoorGc31
set_option linter.unusedSimpArgs false
set_option linter.unusedVariables false
namespace Go.Proofs.YtbkkjlcclddpdaaGreatDoor
open Go.RowKit Go.Lib
def wG0 (s : List UInt8) : List (List UInt8) := wG s false false []
structure WSr where
  i : Nat
  part : List UInt8
  q : Bool
  out : List (List UInt8)
theorem bA_snoc (l : List UInt8) (s : ByteArray) (i : Nat) (hi : i < s.data.toList.length) : qh l ++ s.extract i (i + 1) = qh (l ++ [s.data.toList[i]]) := by
  apply bA_eq
  rw [ext_sub s i (i + 1) (by rw [qcl] at hi; omega)]
  have : i + 1 - i = 0 + 1 := by omega
  rw [this, List.take_succ_eq_append_getElem (by rw [List.length_drop]; omega)]
  simp
set_option maxHeartbeats 4000000 in
theorem rlparts_g (s : ByteArray) (hs : s.size ≤ 1000000) : Gives Tryz.prog 88 [.str s] (.sl (wrdA (wG0 s.data.toList))) := by
  obtain ⟨S, hS⟩ : ∃ S, s.data.toList = S := ⟨_, rfl⟩
  have hsz : S.length = s.size := by rw [← hS, qcl]
  rw [hS]
  unfold wG0
  obtain ⟨W, hW⟩ : ∃ W, wG S false false [] = W := ⟨_, rfl⟩
  have hWl := wG_len S false false []
  rw [hW] at hWl ⊢
  refine qj Tryz.func88 Tryz.ntmps88 fun σ n0 hcl hft => ?_
  repeat' (first | ((first | ((with_reducible refine qf (fun hg => ?_) (fun hg => ?_)) <;> (try simp only [hg]) <;> (try simp only [gS] at hg) <;> (try (first | simp only [eq_false hg, gI] | simp only [eq_true hg, gI]))) | refine Stp.m ?_) <;> (try simp (disch := first | omega | simp) [qd, -qg, -qm])) | refine sideA ?_ | refine qc fun K hK => ?_ | refine qa ?_ | refine qe ?_ | refine qb ?_ | (refine hK _ ?_; clear hK K) | clear hK K)
  refine awp_adoptR 3 9 1 (by simp) ?_
  refine qw hcl (fun x : WSr => [(0, .str s), (3, .gs n0 (wrdA x.out)), (4, .str (qh x.part)), (5, .bool x.q), (6, .int x.i)]) (fun x => [.tail x.out.length 9 1])
    (fun x => x.i ≤ s.size ∧ x.part.length ≤ x.i ∧ x.out.length ≤ x.i ∧ x.out ++ wG (S.drop x.i) x.q false x.part = W) (fun x => s.size - x.i) ⟨0, [], false, []⟩ ⟨Nat.zero_le _, Nat.zero_le _, Nat.zero_le _, by simpa using hW⟩ (by simp [wrdA]; rfl) fun ⟨i, part, q, out⟩ ⟨hi, hfi, hol, hin⟩ => ?_
  dsimp only at hi hfi hol hin ⊢
  have hol2 : out.length ≤ 1000000 := by omega
  have hzp := qk part
  have hpl : part.length ≤ 1000000 := by omega
  by_cases hlt : i < s.size
  · have hlS : i < S.length := by omega
    have hlt2 : i < s.data.size := hlt
    have hget : s.data[i] = S[i] := by simp [← hS]
    have hd : S.drop i = S[i] :: S.drop (i + 1) := List.drop_eq_getElem_cons hlS
    have hx := bA_snoc part s i (by rw [hS]; exact hlS)
    simp only [hS] at hx
    rw [hd, wG, if_neg (by simp)] at hin
    have hzx := qk (part ++ [S[i]])
    rw [List.length_append] at hzx
    have hzx : (qh (part ++ [S[i]])).size = part.length + 1 := hzx
    have nn : (0 : Int) ≤ (i : Int) + 1 := by omega
    have hze : (s.extract i (i + 1)).size = 1 := by rw [ByteArray.size_extract]; omega
    obtain ⟨c, hc⟩ : ∃ c, S[i] = c := ⟨_, rfl⟩
    rw [hc] at hget hx hin hzx
    have n92 : c = 92 ↔ (c.toNat : Int) = 92 := u8_iff c 92
    have n34 : c = 34 ↔ (c.toNat : Int) = 34 := u8_iff c 34
    have n32 : c = 32 ↔ (c.toNat : Int) = 32 := u8_iff c 32
    by_cases hA : c = 92 ∧ q = true
    · rw [if_pos hA] at hin
      obtain ⟨h1, rfl⟩ := hA
      have g92 := n92.1 h1
      by_cases h2 : i + 1 < s.size
      · have h2S : i + 1 < S.length := by omega
        have h2i : (i : Int) + 1 < s.size := by omega
        have hx2 := bA_snoc (part ++ [c]) s (i + 1) (by rw [hS]; exact h2S)
        simp only [hS] at hx2
        have hze2 : (s.extract (i + 1) (i + 1 + 1)).size = 1 := by rw [ByteArray.size_extract]; omega
        have t1 : ((i : Int) + 1).toNat = i + 1 := by omega
        have t2 : ((i : Int) + 1 + 1).toNat = i + 1 + 1 := by omega
        have nn2 : (0 : Int) ≤ (i : Int) + 1 + 1 := by omega
        rw [List.drop_eq_getElem_cons h2S, wG, if_pos rfl] at hin
        repeat' (first | ((first | ((with_reducible refine qf (fun hg => ?_) (fun hg => ?_)) <;> (try simp only [hg]) <;> (try simp only [gS] at hg) <;> (try (first | simp only [eq_false hg, gI] | simp only [eq_true hg, gI]))) | refine Stp.m ?_) <;> (try simp (disch := first | omega | simp) [qd, -qg, -qm, hlt, hlt2, hget, g92, hx, nn, hzx, hze, hzp, h2, h2i, hx2, hze2, t1, t2, nn2])) | refine sideA ?_ | refine qc fun K hK => ?_ | refine qa ?_ | refine qe ?_ | refine qb ?_ | (refine hK _ ?_; clear hK K) | clear hK K)
        refine ⟨⟨i + 2, part ++ [c] ++ [S[i + 1]], true, out⟩, ⟨by show i + 2 ≤ _; omega, by show (part ++ [c] ++ [S[i + 1]]).length ≤ i + 2; simp; omega, by show out.length ≤ i + 2; omega, ?_⟩, by show s.size - (i + 2) < _; omega, by simp; omega⟩
        exact hin
      · have h2i : ¬ (i : Int) + 1 < s.size := by omega
        have hd2 : S.drop (i + 1) = [] := List.drop_eq_nil_of_le (by omega)
        rw [hd2, wG] at hin
        have g34 : ¬ (c.toNat : Int) = 34 := by omega
        repeat' (first | ((first | ((with_reducible refine qf (fun hg => ?_) (fun hg => ?_)) <;> (try simp only [hg]) <;> (try simp only [gS] at hg) <;> (try (first | simp only [eq_false hg, gI] | simp only [eq_true hg, gI]))) | refine Stp.m ?_) <;> (try simp (disch := first | omega | simp) [qd, -qg, -qm, hlt, hlt2, hget, g92, g34, hx, nn, hzx, hze, hzp, h2, h2i])) | refine sideA ?_ | refine qc fun K hK => ?_ | refine qa ?_ | refine qe ?_ | refine qb ?_ | (refine hK _ ?_; clear hK K) | clear hK K)
        refine ⟨⟨i + 1, part ++ [c], true, out⟩, ⟨by show i + 1 ≤ _; omega, by show (part ++ [c]).length ≤ i + 1; simp; omega, by show out.length ≤ i + 1; omega, ?_⟩, by show s.size - (i + 1) < _; omega, by simp⟩
        show out ++ wG (S.drop (i + 1)) true false (part ++ [c]) = W
        rw [hd2, wG]; exact hin
    · rw [if_neg hA] at hin
      have hA2 : ((c.toNat : Int) = 92) → q = false := fun h => by cases q; rfl; exact absurd ⟨n92.2 h, rfl⟩ hA
      by_cases h34 : c = 34
      · rw [if_pos h34] at hin
        have g34 := n34.1 h34
        have g92 : ¬ (c.toNat : Int) = 92 := by omega
        have g32 : ¬ (c.toNat : Int) = 32 := by omega
        repeat' (first | ((first | ((with_reducible refine qf (fun hg => ?_) (fun hg => ?_)) <;> (try simp only [hg]) <;> (try simp only [gS] at hg) <;> (try (first | simp only [eq_false hg, gI] | simp only [eq_true hg, gI]))) | refine Stp.m ?_) <;> (try simp (disch := first | omega | simp) [qd, -qg, -qm, hlt, hlt2, hget, g92, g34, g32, hx, nn, hzx, hze, hzp])) | refine sideA ?_ | refine qc fun K hK => ?_ | refine qa ?_ | refine qe ?_ | refine qb ?_ | (refine hK _ ?_; clear hK K) | clear hK K)
        all_goals exact ⟨⟨i + 1, part ++ [c], (!q), out⟩, ⟨by show i + 1 ≤ _; omega, by show (part ++ [c]).length ≤ i + 1; simp; omega, by show out.length ≤ i + 1; omega, hin⟩, by show s.size - (i + 1) < _; omega, by simp [hg]⟩
      · rw [if_neg h34] at hin
        have g34 : ¬ (c.toNat : Int) = 34 := fun h => h34 (n34.2 h)
        by_cases hC : c = 32 ∧ q = false
        · rw [if_pos hC] at hin
          obtain ⟨h1, rfl⟩ := hC
          have g32 := n32.1 h1
          repeat' (first | ((first | ((with_reducible refine qf (fun hg => ?_) (fun hg => ?_)) <;> (try simp only [hg]) <;> (try simp only [gS] at hg) <;> (try (first | simp only [eq_false hg, gI] | simp only [eq_true hg, gI]))) | refine Stp.m ?_) <;> (try simp (disch := first | omega | simp) [qd, -qg, -qm, hlt, hlt2, hget, g32, hx, nn, hzx, hze, hzp])) | refine sideA ?_ | refine qc fun K hK => ?_ | refine qa ?_ | refine qe ?_ | refine qb ?_ | (refine hK _ ?_; clear hK K) | clear hK K)
          exact ⟨⟨i + 1, [], false, out ++ [part]⟩, ⟨by show i + 1 ≤ _; omega, Nat.zero_le _, by show (out ++ [part]).length ≤ i + 1; simp; omega, by show (out ++ [part]) ++ wG (S.drop (i + 1)) false false [] = W; rw [← hin]; simp⟩, by show s.size - (i + 1) < _; omega, by simp, by simp [wrdA], by simp; rfl⟩
        · rw [if_neg hC] at hin
          have hC2 : ((c.toNat : Int) = 32) → q = true := fun h => by cases q; exact absurd ⟨n32.2 h, rfl⟩ hC; rfl
          have b34 : ((c.toNat : Int) == 34) = false := by simpa using g34
          cases q with
          | false =>
            have g32 : ¬ (c.toNat : Int) = 32 := fun h => by cases hC2 h
            have b32 : ((c.toNat : Int) == 32) = false := by simpa using g32
            repeat' (first | ((first | ((with_reducible refine qf (fun hg => ?_) (fun hg => ?_)) <;> (try simp only [hg]) <;> (try simp only [gS] at hg) <;> (try (first | simp only [eq_false hg, gI] | simp only [eq_true hg, gI]))) | refine Stp.m ?_) <;> (try simp (disch := first | omega | simp) [qd, -qg, -qm, hlt, hlt2, hget, b34, b32, g34, g32, hx, nn, hzx, hze, hzp])) | refine sideA ?_ | refine qc fun K hK => ?_ | refine qa ?_ | refine qe ?_ | refine qb ?_ | (refine hK _ ?_; clear hK K) | clear hK K)
            exact ⟨⟨i + 1, part ++ [c], false, out⟩, ⟨by show i + 1 ≤ _; omega, by show (part ++ [c]).length ≤ i + 1; simp; omega, by show out.length ≤ i + 1; omega, hin⟩, by show s.size - (i + 1) < _; omega, by simp⟩
          | true =>
            have g92 : ¬ (c.toNat : Int) = 92 := fun h => by cases hA2 h
            have b92 : ((c.toNat : Int) == 92) = false := by simpa using g92
            repeat' (first | ((first | ((with_reducible refine qf (fun hg => ?_) (fun hg => ?_)) <;> (try simp only [hg]) <;> (try simp only [gS] at hg) <;> (try (first | simp only [eq_false hg, gI] | simp only [eq_true hg, gI]))) | refine Stp.m ?_) <;> (try simp (disch := first | omega | simp) [qd, -qg, -qm, hlt, hlt2, hget, b34, b92, g34, g92, hx, nn, hzx, hze, hzp])) | refine sideA ?_ | refine qc fun K hK => ?_ | refine qa ?_ | refine qe ?_ | refine qb ?_ | (refine hK _ ?_; clear hK K) | clear hK K)
            all_goals exact ⟨⟨i + 1, part ++ [c], true, out⟩, ⟨by show i + 1 ≤ _; omega, by show (part ++ [c]).length ≤ i + 1; simp; omega, by show out.length ≤ i + 1; omega, hin⟩, by show s.size - (i + 1) < _; omega, by simp⟩
  · have hd : S.drop i = [] := List.drop_eq_nil_of_le (by omega)
    rw [hd, wG] at hin
    repeat' (first | ((first | ((with_reducible refine qf (fun hg => ?_) (fun hg => ?_)) <;> (try simp only [hg]) <;> (try simp only [gS] at hg) <;> (try (first | simp only [eq_false hg, gI] | simp only [eq_true hg, gI]))) | refine Stp.m ?_) <;> (try simp (disch := first | omega | simp) [qd, -qg, -qm, hlt])) | refine sideA ?_ | refine qc fun K hK => ?_ | refine qa ?_ | refine qe ?_ | refine qb ?_ | (refine hK _ ?_; clear hK K) | clear hK K)
    rw [← hin]; simp [wrdA]
theorem rlat_g (L : List (List UInt8)) (k : Nat) (hL : L.length ≤ 9223372036854775807) (hk : k ≤ 1000) : Gives Tryz.prog 89 [.sl (wrdA L), .int k] (.str (qh (L.getD k []))) := by
  by_cases h : k < L.length
  · have e : L.getD k [] = L[k] := by rw [List.getD_eq_getElem?_getD, List.getElem?_eq_getElem h]; rfl
    have h' : ¬ (L.length : Int) ≤ k := by omega
    have e2 : (wrdA L)[k]? = some (.str (qh L[k])) := by simp [wrdA, h]
    rw [e]
    refine qj Tryz.func89 Tryz.ntmps89 fun σ n0 hcl hft => ?_
    repeat' (first | ((first | ((with_reducible refine qf (fun hg => ?_) (fun hg => ?_)) <;> (try simp only [hg]) <;> (try simp only [gS] at hg) <;> (try (first | simp only [eq_false hg, gI] | simp only [eq_true hg, gI]))) | refine Stp.m ?_) <;> (try simp (disch := first | omega | simp) [qd, -qg, -qm, h, h', e2])) | refine sideA ?_ | refine qc fun K hK => ?_ | refine qa ?_ | refine qe ?_ | refine qb ?_ | (refine hK _ ?_; clear hK K) | clear hK K)
  · have e : L.getD k [] = [] := by rw [List.getD_eq_getElem?_getD, List.getElem?_eq_none (by omega)]; rfl
    have h' : (L.length : Int) ≤ k := by omega
    rw [e]
    refine qj Tryz.func89 Tryz.ntmps89 fun σ n0 hcl hft => ?_
    repeat' (first | ((first | ((with_reducible refine qf (fun hg => ?_) (fun hg => ?_)) <;> (try simp only [hg]) <;> (try simp only [gS] at hg) <;> (try (first | simp only [eq_false hg, gI] | simp only [eq_true hg, gI]))) | refine Stp.m ?_) <;> (try simp (disch := first | omega | simp) [qd, -qg, -qm, h'])) | refine sideA ?_ | refine qc fun K hK => ?_ | refine qa ?_ | refine qe ?_ | refine qb ?_ | (refine hK _ ?_; clear hK K) | clear hK K)
    rfl
end Go.Proofs.YtbkkjlcclddpdaaGreatDoor

/- Walks of layer 14's reference: reading a step, Parse, Same. -/
namespace Go.Proofs.YtbkkjlcclddpdaaGreatDoor
open Go.RowKit Go.Lib
theorem getD_pad (L : List (List UInt8)) (k n : Nat) : (L ++ List.replicate n []).getD k [] = L.getD k [] := by
  rw [List.getD_eq_getElem?_getD, List.getD_eq_getElem?_getD]
  by_cases h : k < L.length
  · rw [List.getElem?_append_left h]
  · rw [List.getElem?_append_right (by omega), List.getElem?_eq_none (l := L) (by omega), List.getElem?_replicate]
    split <;> rfl
theorem words_pad (s : List UInt8) (k : Nat) : (qea s).getD k [] = (wG0 s).getD k [] := getD_pad (wG0 s) k 4
theorem opL_is {w : List UInt8} {k : Int} (h : opL w = k) : (k = 0 → w = wAdd) ∧ (k = 1 → w = wDrop) ∧ (k = 2 → w = qbx) ∧ (k = 3 → w = qdc) ∧ (k = 4 → w = wJoin) ∧ (k = 5 → w = qby) ∧ (k = 6 → w = qcu) ∧ (k = -1 → w ≠ wAdd ∧ w ≠ wDrop ∧ w ≠ qbx ∧ w ≠ qdc ∧ w ≠ wJoin ∧ w ≠ qby ∧ w ≠ qcu) := by
  subst h
  unfold opL
  repeat' split
  all_goals (refine ⟨?_, ?_, ?_, ?_, ?_, ?_, ?_, ?_⟩ <;> intro h <;> first | assumption | omega | exact ⟨by assumption, by assumption, by assumption, by assumption, by assumption, by assumption, by assumption⟩)
theorem linesL_end (l : List Lens) : qr l = [] ∨ ∃ t, qr l = t ++ [10] := by
  induction l with
  | nil => exact .inl rfl
  | cons x l ih =>
    have e : qr (x :: l) = lineL x ++ [10] ++ qr l := by unfold qr; rw [List.flatMap_cons]
    rw [e]
    rcases ih with h | ⟨t, h⟩
    · rw [h]; exact .inr ⟨lineL x, by simp⟩
    · rw [h]; exact .inr ⟨lineL x ++ [10] ++ t, by simp⟩
theorem lparse_open {S : List UInt8} {fr : Nat} (h : fr < S.length) (hno : ∀ j (hj : j < S.length), fr ≤ j → S[j] ≠ 10) : qbo S = ([], false) := by
  unfold qbo
  rw [if_neg]
  intro e
  have h1 : qbh (qbk S) = [] ∨ ∃ t, qbh (qbk S) = t ++ [10] := by
    unfold qbh
    split
    · exact linesL_end _
    · exact .inl rfl
  rw [e] at h1
  rcases h1 with h1 | ⟨t, h1⟩
  · rw [h1] at h; simp at h
  · have hl : S.length = t.length + 1 := by rw [h1]; simp
    refine hno t.length (by omega) (by omega) ?_
    simp [h1]
theorem steps_at {S : List UInt8} {fr i : Nat} (hfi : fr ≤ i) (hi : i < S.length) (hc : S[i] = 10) (hno : ∀ j (hj : j < S.length), fr ≤ j → j < i → S[j] ≠ 10) : qbk (S.drop fr) = readP ((S.drop fr).take (i - fr)) :: qbk (S.drop (i + 1)) := by
  have h1 : S.drop fr = (S.drop fr).take (i - fr) ++ 10 :: S.drop (i + 1) := by
    have h2 : S.drop fr = (S.drop fr).take (i - fr) ++ (S.drop fr).drop (i - fr) := (List.take_append_drop _ _).symm
    rw [List.drop_drop, show fr + (i - fr) = i by omega, List.drop_eq_getElem_cons hi, hc] at h2
    exact h2
  have h3 : ∀ b ∈ (S.drop fr).take (i - fr), b ≠ 10 := fun b hb => by
    obtain ⟨j, hj, rfl⟩ := List.mem_iff_getElem.1 hb
    rw [List.length_take, List.length_drop] at hj
    rw [List.getElem_take, List.getElem_drop]
    exact hno (fr + j) (by omega) (by omega) (by omega)
  have h4 := lnK_line _ (S.drop (i + 1)) h3
  rw [← h1] at h4
  unfold qbk
  rw [h4, List.map_cons]
  unfold lnR
  rw [trim_lf]
theorem wG_ne (s : List UInt8) (q e : Bool) (cur : List UInt8) : wG s q e cur ≠ [] := by
  induction s generalizing q e cur with
  | nil => rw [wG]; simp
  | cons c s ih =>
    rw [wG]
    repeat' split
    all_goals first | exact ih _ _ _ | simp
set_option maxRecDepth 4000 in
set_option maxHeartbeats 8000000 in
theorem rlread_g (s : ByteArray) (hs : s.size ≤ 1000000) : Gives Tryz.prog 43 [.str s] (readP s.data.toList).av := by
  have c1 := rlparts_g s hs
  have hle := words_le s.data.toList
  have hlen := wG_len s.data.toList false false []
  rw [qcl] at hlen
  have hpad := words_pad s.data.toList
  have hmem : ∀ k, (wG0 s.data.toList).getD k [] ∈ qea s.data.toList ∨ (wG0 s.data.toList).getD k [] = [] := fun k => by
    by_cases h : k < (wG0 s.data.toList).length
    · left
      rw [List.getD_eq_getElem?_getD, List.getElem?_eq_getElem h]
      exact List.mem_append_left _ (List.getElem_mem h)
    · right
      rw [List.getD_eq_getElem?_getD, List.getElem?_eq_none (by omega)]; rfl
  have hsz : ∀ k, ((wG0 s.data.toList).getD k []).length ≤ 1000000 := fun k => by
    rcases hmem k with h | h
    · have := hle _ h
      rw [qcl] at this; omega
    · rw [h]; show 0 ≤ 1000000; omega
  have hR : readP s.data.toList = readW ((wG0 s.data.toList).getD 0 []) ((wG0 s.data.toList).getD 1 []) ((wG0 s.data.toList).getD 2 []) ((wG0 s.data.toList).getD 3 []) ((wG0 s.data.toList).getD 4 []) := by
    unfold readP readL
    rw [hpad, hpad, hpad, hpad, hpad]
  rw [hR]
  obtain ⟨a, L, hL⟩ := List.exists_cons_of_ne_nil (wG_ne s.data.toList false false [])
  have hL : wG0 s.data.toList = a :: L := hL
  rw [hL] at c1 hsz ⊢
  have hlen : (a :: L).length ≤ 1000001 := by rw [← hL]; unfold wG0; omega
  clear hR hmem hpad hle hL
  have k1 := rlat_g (a :: L) 1 (by omega) (by omega)
  have k2 := rlat_g (a :: L) 2 (by omega) (by omega)
  have k3 := rlat_g (a :: L) 3 (by omega) (by omega)
  have k4 := rlat_g (a :: L) 4 (by omega) (by omega)
  have z2 := hsz 2
  have z3 := hsz 3
  have e0 : (a :: L).getD 0 [] = a := rfl
  rw [e0]
  generalize (a :: L).getD 1 [] = b at *
  generalize (a :: L).getD 2 [] = c at *
  generalize (a :: L).getD 3 [] = d at *
  generalize (a :: L).getD 4 [] = e at *
  rw [qeq] at c1 k1 k2 k3 k4
  have c4 := rvparse_g (qh c) (by rw [qk]; exact z2)
  have c5 := rvparse_g (qh d) (by rw [qk]; exact z3)
  have c6 := runquote_g (qh c) (by rw [qk]; exact z2)
  have c7 := runquote_g (qh d) (by rw [qk]; exact z3)
  have c8 := rtypeOf_g (qh c)
  have c9 := rint_g (qh c) (by rw [qk]; exact z2)
  rw [bA_data] at c4 c5 c6 c7 c9
  rw [qga] at c8
  obtain ⟨R, hR⟩ : ∃ R, readW a b c d e = R := ⟨_, rfl⟩
  rw [hR]
  unfold readW at hR
  clear hsz z2 z3 e0
  rcases opL_cases a with ho | ho | ho | ho | ho | ho | ho | ho
  · obtain rfl := (opL_is ho).1 rfl
    have q0 : (wAdd == [97, 100, 100]) = true := rfl
    have q1 : (wAdd == [100, 114, 111, 112]) = false := rfl
    have q2 : (wAdd == [114, 101, 110, 97, 109, 101]) = false := rfl
    have q3 : (wAdd == [115, 112, 108, 105, 116]) = false := rfl
    have q4 : (wAdd == [106, 111, 105, 110]) = false := rfl
    have q5 : (wAdd == [114, 101, 116, 121, 112, 101]) = false := rfl
    have q6 : (wAdd == [115, 99, 97, 108, 101]) = false := rfl
    simp only [ho, if_pos, if_neg, reduceIte, Int.reduceEq] at hR
    refine qj Tryz.func43 Tryz.ntmps43 fun σ n0 hcl hft => ?_
    repeat' (first | ((first | ((with_reducible refine qf (fun hg => ?_) (fun hg => ?_)) <;> (try simp only [hg]) <;> (try simp only [gS] at hg) <;> (try (first | simp only [eq_false hg, gI] | simp only [eq_true hg, gI]))) | refine Stp.m ?_ | refine ql ?_ | refine agH ?_) <;> (try simp (disch := first | omega | simp) [qd, -qg, -qm, q0, q1, q2, q3, q4, q5, q6])) | refine sideA ?_ | refine qc fun K hK => ?_ | refine qa ?_ | refine qe ?_ | refine qb ?_ | (refine hK _ ?_; clear hK K) | clear hK K)
    all_goals (rw [← hR]; rfl)
  · obtain rfl := (opL_is ho).2.1 rfl
    have q0 : (wDrop == [97, 100, 100]) = false := rfl
    have q1 : (wDrop == [100, 114, 111, 112]) = true := rfl
    have q2 : (wDrop == [114, 101, 110, 97, 109, 101]) = false := rfl
    have q3 : (wDrop == [115, 112, 108, 105, 116]) = false := rfl
    have q4 : (wDrop == [106, 111, 105, 110]) = false := rfl
    have q5 : (wDrop == [114, 101, 116, 121, 112, 101]) = false := rfl
    have q6 : (wDrop == [115, 99, 97, 108, 101]) = false := rfl
    simp only [ho, if_pos, if_neg, reduceIte, Int.reduceEq] at hR
    refine qj Tryz.func43 Tryz.ntmps43 fun σ n0 hcl hft => ?_
    repeat' (first | ((first | ((with_reducible refine qf (fun hg => ?_) (fun hg => ?_)) <;> (try simp only [hg]) <;> (try simp only [gS] at hg) <;> (try (first | simp only [eq_false hg, gI] | simp only [eq_true hg, gI]))) | refine Stp.m ?_ | refine ql ?_ | refine agH ?_) <;> (try simp (disch := first | omega | simp) [qd, -qg, -qm, q0, q1, q2, q3, q4, q5, q6])) | refine sideA ?_ | refine qc fun K hK => ?_ | refine qa ?_ | refine qe ?_ | refine qb ?_ | (refine hK _ ?_; clear hK K) | clear hK K)
    all_goals (rw [← hR]; rfl)
  · obtain rfl := (opL_is ho).2.2.1 rfl
    have q0 : (qbx == [97, 100, 100]) = false := rfl
    have q1 : (qbx == [100, 114, 111, 112]) = false := rfl
    have q2 : (qbx == [114, 101, 110, 97, 109, 101]) = true := rfl
    have q3 : (qbx == [115, 112, 108, 105, 116]) = false := rfl
    have q4 : (qbx == [106, 111, 105, 110]) = false := rfl
    have q5 : (qbx == [114, 101, 116, 121, 112, 101]) = false := rfl
    have q6 : (qbx == [115, 99, 97, 108, 101]) = false := rfl
    simp only [ho, if_pos, if_neg, reduceIte, Int.reduceEq] at hR
    refine qj Tryz.func43 Tryz.ntmps43 fun σ n0 hcl hft => ?_
    repeat' (first | ((first | ((with_reducible refine qf (fun hg => ?_) (fun hg => ?_)) <;> (try simp only [hg]) <;> (try simp only [gS] at hg) <;> (try (first | simp only [eq_false hg, gI] | simp only [eq_true hg, gI]))) | refine Stp.m ?_ | refine ql ?_ | refine agH ?_) <;> (try simp (disch := first | omega | simp) [qd, -qg, -qm, q0, q1, q2, q3, q4, q5, q6])) | refine sideA ?_ | refine qc fun K hK => ?_ | refine qa ?_ | refine qe ?_ | refine qb ?_ | (refine hK _ ?_; clear hK K) | clear hK K)
    all_goals (rw [← hR]; rfl)
  · obtain rfl := (opL_is ho).2.2.2.1 rfl
    have q0 : (qdc == [97, 100, 100]) = false := rfl
    have q1 : (qdc == [100, 114, 111, 112]) = false := rfl
    have q2 : (qdc == [114, 101, 110, 97, 109, 101]) = false := rfl
    have q3 : (qdc == [115, 112, 108, 105, 116]) = true := rfl
    have q4 : (qdc == [106, 111, 105, 110]) = false := rfl
    have q5 : (qdc == [114, 101, 116, 121, 112, 101]) = false := rfl
    have q6 : (qdc == [115, 99, 97, 108, 101]) = false := rfl
    simp only [ho, if_pos, if_neg, reduceIte, Int.reduceEq] at hR
    refine qj Tryz.func43 Tryz.ntmps43 fun σ n0 hcl hft => ?_
    repeat' (first | ((first | ((with_reducible refine qf (fun hg => ?_) (fun hg => ?_)) <;> (try simp only [hg]) <;> (try simp only [gS] at hg) <;> (try (first | simp only [eq_false hg, gI] | simp only [eq_true hg, gI]))) | refine Stp.m ?_ | refine ql ?_ | refine agH ?_) <;> (try simp (disch := first | omega | simp) [qd, -qg, -qm, q0, q1, q2, q3, q4, q5, q6])) | refine sideA ?_ | refine qc fun K hK => ?_ | refine qa ?_ | refine qe ?_ | refine qb ?_ | (refine hK _ ?_; clear hK K) | clear hK K)
    all_goals (rw [← hR]; rfl)
  · obtain rfl := (opL_is ho).2.2.2.2.1 rfl
    have q0 : (wJoin == [97, 100, 100]) = false := rfl
    have q1 : (wJoin == [100, 114, 111, 112]) = false := rfl
    have q2 : (wJoin == [114, 101, 110, 97, 109, 101]) = false := rfl
    have q3 : (wJoin == [115, 112, 108, 105, 116]) = false := rfl
    have q4 : (wJoin == [106, 111, 105, 110]) = true := rfl
    have q5 : (wJoin == [114, 101, 116, 121, 112, 101]) = false := rfl
    have q6 : (wJoin == [115, 99, 97, 108, 101]) = false := rfl
    simp only [ho, if_pos, if_neg, reduceIte, Int.reduceEq] at hR
    refine qj Tryz.func43 Tryz.ntmps43 fun σ n0 hcl hft => ?_
    repeat' (first | ((first | ((with_reducible refine qf (fun hg => ?_) (fun hg => ?_)) <;> (try simp only [hg]) <;> (try simp only [gS] at hg) <;> (try (first | simp only [eq_false hg, gI] | simp only [eq_true hg, gI]))) | refine Stp.m ?_ | refine ql ?_ | refine agH ?_) <;> (try simp (disch := first | omega | simp) [qd, -qg, -qm, q0, q1, q2, q3, q4, q5, q6])) | refine sideA ?_ | refine qc fun K hK => ?_ | refine qa ?_ | refine qe ?_ | refine qb ?_ | (refine hK _ ?_; clear hK K) | clear hK K)
    all_goals (rw [← hR]; rfl)
  · obtain rfl := (opL_is ho).2.2.2.2.2.1 rfl
    have q0 : (qby == [97, 100, 100]) = false := rfl
    have q1 : (qby == [100, 114, 111, 112]) = false := rfl
    have q2 : (qby == [114, 101, 110, 97, 109, 101]) = false := rfl
    have q3 : (qby == [115, 112, 108, 105, 116]) = false := rfl
    have q4 : (qby == [106, 111, 105, 110]) = false := rfl
    have q5 : (qby == [114, 101, 116, 121, 112, 101]) = true := rfl
    have q6 : (qby == [115, 99, 97, 108, 101]) = false := rfl
    simp only [ho, if_pos, if_neg, reduceIte, Int.reduceEq] at hR
    refine qj Tryz.func43 Tryz.ntmps43 fun σ n0 hcl hft => ?_
    repeat' (first | ((first | ((with_reducible refine qf (fun hg => ?_) (fun hg => ?_)) <;> (try simp only [hg]) <;> (try simp only [gS] at hg) <;> (try (first | simp only [eq_false hg, gI] | simp only [eq_true hg, gI]))) | refine Stp.m ?_ | refine ql ?_ | refine agH ?_) <;> (try simp (disch := first | omega | simp) [qd, -qg, -qm, q0, q1, q2, q3, q4, q5, q6])) | refine sideA ?_ | refine qc fun K hK => ?_ | refine qa ?_ | refine qe ?_ | refine qb ?_ | (refine hK _ ?_; clear hK K) | clear hK K)
    all_goals (rw [← hR]; rfl)
  · obtain rfl := (opL_is ho).2.2.2.2.2.2.1 rfl
    have q0 : (qcu == [97, 100, 100]) = false := rfl
    have q1 : (qcu == [100, 114, 111, 112]) = false := rfl
    have q2 : (qcu == [114, 101, 110, 97, 109, 101]) = false := rfl
    have q3 : (qcu == [115, 112, 108, 105, 116]) = false := rfl
    have q4 : (qcu == [106, 111, 105, 110]) = false := rfl
    have q5 : (qcu == [114, 101, 116, 121, 112, 101]) = false := rfl
    have q6 : (qcu == [115, 99, 97, 108, 101]) = true := rfl
    simp only [ho, if_pos, if_neg, reduceIte, Int.reduceEq] at hR
    refine qj Tryz.func43 Tryz.ntmps43 fun σ n0 hcl hft => ?_
    repeat' (first | ((first | ((with_reducible refine qf (fun hg => ?_) (fun hg => ?_)) <;> (try simp only [hg]) <;> (try simp only [gS] at hg) <;> (try (first | simp only [eq_false hg, gI] | simp only [eq_true hg, gI]))) | refine Stp.m ?_ | refine ql ?_ | refine agH ?_) <;> (try simp (disch := first | omega | simp) [qd, -qg, -qm, q0, q1, q2, q3, q4, q5, q6])) | refine sideA ?_ | refine qc fun K hK => ?_ | refine qa ?_ | refine qe ?_ | refine qb ?_ | (refine hK _ ?_; clear hK K) | clear hK K)
    all_goals (rw [← hR]; rfl)
  · obtain ⟨n0, n1, n2, n3, n4, n5, n6⟩ := (opL_is ho).2.2.2.2.2.2.2 rfl
    have q0 : (a == [97, 100, 100]) = false := beq_eq_false_iff_ne.2 n0
    have q1 : (a == [100, 114, 111, 112]) = false := beq_eq_false_iff_ne.2 n1
    have q2 : (a == [114, 101, 110, 97, 109, 101]) = false := beq_eq_false_iff_ne.2 n2
    have q3 : (a == [115, 112, 108, 105, 116]) = false := beq_eq_false_iff_ne.2 n3
    have q4 : (a == [106, 111, 105, 110]) = false := beq_eq_false_iff_ne.2 n4
    have q5 : (a == [114, 101, 116, 121, 112, 101]) = false := beq_eq_false_iff_ne.2 n5
    have q6 : (a == [115, 99, 97, 108, 101]) = false := beq_eq_false_iff_ne.2 n6
    simp only [ho, if_pos, if_neg, reduceIte, Int.reduceEq] at hR
    refine qj Tryz.func43 Tryz.ntmps43 fun σ n0 hcl hft => ?_
    repeat' (first | ((first | ((with_reducible refine qf (fun hg => ?_) (fun hg => ?_)) <;> (try simp only [hg]) <;> (try simp only [gS] at hg) <;> (try (first | simp only [eq_false hg, gI] | simp only [eq_true hg, gI]))) | refine Stp.m ?_ | refine ql ?_ | refine agH ?_) <;> (try simp (disch := first | omega | simp) [qd, -qg, -qm, q0, q1, q2, q3, q4, q5, q6])) | refine sideA ?_ | refine qc fun K hK => ?_ | refine qa ?_ | refine qe ?_ | refine qb ?_ | (refine hK _ ?_; clear hK K) | clear hK K)
    all_goals (rw [← hR]; rfl)
structure PSt where
  fr : Nat
  i : Nat
  out : List Lens
set_option maxHeartbeats 4000000 in
theorem rlparse_g (s : ByteArray) (hs : s.size ≤ 50000) : Gives Tryz.prog 16 [.str s] (.tup [.sl ((qbo s.data.toList).1.map Lens.av), .bool (qbo s.data.toList).2]) := by
  obtain ⟨S, hS⟩ : ∃ S, s.data.toList = S := ⟨_, rfl⟩
  have hsz : S.length = s.size := by rw [← hS, qcl]
  rw [hS]
  have hop := @lparse_open S
  have hat := @steps_at S
  have hok := steps_ok (s := S)
  have hb2 := steps_bytes S
  have hnum := lnK_num S
  have hsl : (qbk S).length = (lnK S).length := by unfold qbk; simp
  have c9 := rlprint_g (qbk S) (fun x hx => by
    have h := hok x hx
    have := h.a; have := h.b; have := h.c; have := h.sep; have := h.s
    exact ⟨⟨by omega, by omega, by omega, by omega⟩, h.n, h.v, by omega⟩) (by omega) (by omega)
  obtain ⟨Z, hZ⟩ : ∃ Z, qbk S = Z := ⟨_, rfl⟩
  have hval : qbo S = if qbh Z = S then (Z, true) else ([], false) := by unfold qbo; rw [hZ]
  rw [hZ] at c9
  obtain ⟨R, hR⟩ : ∃ R, qbo S = R := ⟨_, rfl⟩
  rw [hR] at hop hval ⊢
  clear hR hok hb2 hnum hsl
  refine qj Tryz.func16 Tryz.ntmps16 fun σ n0 hcl hft => ?_
  repeat' (first | ((first | ((with_reducible refine qf (fun hg => ?_) (fun hg => ?_)) <;> (try simp only [hg]) <;> (try simp only [gS] at hg) <;> (try (first | simp only [eq_false hg, gI] | simp only [eq_true hg, gI]))) | refine Stp.m ?_) <;> (try simp (disch := first | omega | simp) [qd, -qg, -qm])) | refine sideA ?_ | refine qc fun K hK => ?_ | refine qa ?_ | refine qe ?_ | refine qb ?_ | (refine hK _ ?_; clear hK K) | clear hK K)
  refine awp_adoptR 4 29 9 (by simp) ?_
  refine qw hcl (fun x : PSt => [(0, .str s), (4, .gs n0 (x.out.map Lens.av)), (5, .int x.fr), (6, .int x.i)]) (fun x => [.tail x.out.length 29 9])
    (fun x => x.i ≤ s.size ∧ x.fr ≤ x.i ∧ x.out.length ≤ x.i ∧ x.out ++ qbk (S.drop x.fr) = Z ∧ ∀ j (hj : j < S.length), x.fr ≤ j → j < x.i → S[j] ≠ 10) (fun x => s.size - x.i) ⟨0, 0, []⟩ ⟨Nat.zero_le _, Nat.le_refl _, Nat.zero_le _, by simpa using hZ, fun j _ _ h => absurd h (Nat.not_lt_zero _)⟩ (by simp) fun ⟨fr, i, out⟩ ⟨hi, hfi, hol, hin, hno⟩ => ?_
  dsimp only at hi hfi hol hin hno ⊢
  by_cases hlt : i < s.size
  · have hlS : i < S.length := by omega
    have hlt2 : i < s.data.size := hlt
    have hget : s.data[i] = S[i] := by simp [← hS]
    have hx := ext_sub s fr i (by omega)
    rw [hS] at hx
    have hol2 : out.length ≤ 50000 := by omega
    by_cases h10 : S[i] = 10
    · have g10 := (u8_iff S[i] 10).1 h10
      have g10 : ((S[i].toNat : Nat) : Int) = 10 := g10
      have hst := hat hfi hlS h10 hno
      have c1 := rlread_g (qh ((S.drop fr).take (i - fr))) (by rw [qk, List.length_take]; omega)
      rw [bA_data] at c1
      rw [hst] at hin
      generalize readP ((S.drop fr).take (i - fr)) = X at *
      repeat' (first | ((first | ((with_reducible refine qf (fun hg => ?_) (fun hg => ?_)) <;> (try simp only [hg]) <;> (try simp only [gS] at hg) <;> (try (first | simp only [eq_false hg, gI] | simp only [eq_true hg, gI]))) | refine Stp.m ?_ | refine ql ?_ | refine agH ?_) <;> (try simp (disch := first | omega | simp) [qd, -qg, -qm, hlt, hlt2, hget, g10, hx, hfi])) | refine sideA ?_ | refine qc fun K hK => ?_ | refine qa ?_ | refine qe ?_ | refine qb ?_ | (refine hK _ ?_; clear hK K) | clear hK K)
      refine ⟨⟨i + 1, i + 1, out ++ [X]⟩, ⟨by show i + 1 ≤ _; omega, Nat.le_refl _, by show (out ++ [X]).length ≤ i + 1; simp; omega, by show (out ++ [X]) ++ qbk (S.drop (i + 1)) = Z; rw [← hin]; simp, fun j _ h1 h2 => by dsimp only at h1 h2; omega⟩, by show s.size - (i + 1) < _; omega, by simp, by simp, by simp, by simp⟩
    · have g10 : ¬ (S[i].toNat : Int) = 10 := fun h => h10 ((u8_iff S[i] 10).2 h)
      have b10 : (((S[i].toNat : Nat) : Int) == 10) = false := by simpa using g10
      repeat' (first | ((first | ((with_reducible refine qf (fun hg => ?_) (fun hg => ?_)) <;> (try simp only [hg]) <;> (try simp only [gS] at hg) <;> (try (first | simp only [eq_false hg, gI] | simp only [eq_true hg, gI]))) | refine Stp.m ?_) <;> (try simp (disch := first | omega | simp) [qd, -qg, -qm, hlt, hlt2, hget, b10])) | refine sideA ?_ | refine qc fun K hK => ?_ | refine qa ?_ | refine qe ?_ | refine qb ?_ | (refine hK _ ?_; clear hK K) | clear hK K)
      refine ⟨⟨fr, i + 1, out⟩, ⟨by show i + 1 ≤ _; omega, by show fr ≤ i + 1; omega, by show out.length ≤ i + 1; omega, hin, fun j hj h1 h2 => ?_⟩, by show s.size - (i + 1) < _; omega, by simp, by simp, by simp, by simp⟩
      dsimp only at h1 h2
      by_cases hji : j = i
      · subst hji; exact h10
      · exact hno j hj h1 (by omega)
  · obtain rfl : i = s.size := by omega
    by_cases hf : fr = s.size
    · subst hf
      rw [List.drop_of_length_le (by omega)] at hin
      have hin : out = Z := by rw [← hin]; show out = out ++ []; simp
      subst hin
      have hol2 : out.length ≤ 50000 := by omega
      by_cases hp : qbh out = S
      · rw [if_pos hp] at hval
        have hb : qh (qbh out) = s := by rw [hp]; exact (bA_eq hS).symm
        rw [hb] at c9
        repeat' (first | ((first | ((with_reducible refine qf (fun hg => ?_) (fun hg => ?_)) <;> (try simp only [hg]) <;> (try simp only [gS] at hg) <;> (try (first | simp only [eq_false hg, gI] | simp only [eq_true hg, gI]))) | refine Stp.m ?_ | refine ql ?_ | refine agH ?_) <;> (try simp (disch := first | omega | simp) [qd, -qg, -qm, hlt])) | refine sideA ?_ | refine qc fun K hK => ?_ | refine qa ?_ | refine qe ?_ | refine qb ?_ | (refine hK _ ?_; clear hK K) | clear hK K)
        all_goals (subst hval; simp)
      · rw [if_neg hp] at hval
        have hb : (qbh out == s.toList) = false := by
          rw [beq_eq_false_iff_ne, ByteArray.toList_eq, hS]
          exact hp
        repeat' (first | ((first | ((with_reducible refine qf (fun hg => ?_) (fun hg => ?_)) <;> (try simp only [hg]) <;> (try simp only [gS] at hg) <;> (try (first | simp only [eq_false hg, gI] | simp only [eq_true hg, gI]))) | refine Stp.m ?_ | refine ql ?_ | refine agH ?_) <;> (try simp (disch := first | omega | simp) [qd, -qg, -qm, hlt, hb])) | refine sideA ?_ | refine qc fun K hK => ?_ | refine qa ?_ | refine qe ?_ | refine qb ?_ | (refine hK _ ?_; clear hK K) | clear hK K)
        all_goals (subst hval; simp)
    · have hf' : ((fr : Int) != s.size) = true := by rw [bne_iff_ne]; omega
      have h1 := hop (by omega) (fun j hj h => hno j hj h (by omega))
      repeat' (first | ((first | ((with_reducible refine qf (fun hg => ?_) (fun hg => ?_)) <;> (try simp only [hg]) <;> (try simp only [gS] at hg) <;> (try (first | simp only [eq_false hg, gI] | simp only [eq_true hg, gI]))) | refine Stp.m ?_ | refine ql ?_ | refine agH ?_) <;> (try simp (disch := first | omega | simp) [qd, -qg, -qm, hlt, hf'])) | refine sideA ?_ | refine qc fun K hK => ?_ | refine qa ?_ | refine qe ?_ | refine qb ?_ | (refine hK _ ?_; clear hK K) | clear hK K)
      all_goals (subst h1; simp)
theorem rlsame_g (L : List Lens) (hL : L.length ≤ 1000000) : Gives Tryz.prog 15 [.sl (L.map Lens.av), .sl (L.map Lens.av)] (.bool true) := by
  refine qj Tryz.func15 Tryz.ntmps15 fun σ n0 hcl hft => ?_
  repeat' (first | ((first | ((with_reducible refine qf (fun hg => ?_) (fun hg => ?_)) <;> (try simp only [hg]) <;> (try simp only [gS] at hg) <;> (try (first | simp only [eq_false hg, gI] | simp only [eq_true hg, gI]))) | refine Stp.m ?_) <;> (try simp (disch := first | omega | simp) [qd, -qg, -qm])) | refine sideA ?_ | refine qc fun K hK => ?_ | refine qa ?_ | refine qe ?_ | refine qb ?_ | (refine hK _ ?_; clear hK K) | clear hK K)
  refine qw hcl (fun k : Nat => [(0, .sl (L.map Lens.av)), (1, .sl (L.map Lens.av)), (5, .int k)]) (fun _ => [])
    (fun k => k ≤ L.length) (fun k => L.length - k) 0 (by simp) (by simp) fun k hk => ?_
  by_cases hlt : k < L.length
  · have ha := Lens.aneq_self L[k]
    repeat' (first | ((first | ((with_reducible refine qf (fun hg => ?_) (fun hg => ?_)) <;> (try simp only [hg]) <;> (try simp only [gS] at hg) <;> (try (first | simp only [eq_false hg, gI] | simp only [eq_true hg, gI]))) | refine Stp.m ?_) <;> (try simp (disch := first | omega | simp) [qd, -qg, -qm, hlt, ha])) | refine sideA ?_ | refine qc fun K hK => ?_ | refine qa ?_ | refine qe ?_ | refine qb ?_ | (refine hK _ ?_; clear hK K) | clear hK K)
    exact ⟨k + 1, by omega, by omega, by simp⟩
  · repeat' (first | ((first | ((with_reducible refine qf (fun hg => ?_) (fun hg => ?_)) <;> (try simp only [hg]) <;> (try simp only [gS] at hg) <;> (try (first | simp only [eq_false hg, gI] | simp only [eq_true hg, gI]))) | refine Stp.m ?_) <;> (try simp (disch := first | omega | simp) [qd, -qg, -qm, hlt])) | refine sideA ?_ | refine qc fun K hK => ?_ | refine qa ?_ | refine qe ?_ | refine qb ?_ | (refine hK _ ?_; clear hK K) | clear hK K)
end Go.Proofs.YtbkkjlcclddpdaaGreatDoor

/- Walk: whether a shape is right, names of any length. -/
namespace Go.Proofs.YtbkkjlcclddpdaaGreatDoor
open Go.RowKit Go.Lib
end Go.Proofs.YtbkkjlcclddpdaaGreatDoor

/- slices.Backward at steps, as an iterator. -/
namespace Go.Proofs.YtbkkjlcclddpdaaGreatDoor
open Go.RowKit Go.Lib
def backL (L : List Lens) : List (List AV) := (List.range L.length).map fun k => match L[L.length - 1 - k]? with
  | some x => [.int ((L.length - 1 - k : Nat) : Int), x.av]
  | none => []
theorem backL_len (L : List Lens) : (backL L).length = L.length := by simp [backL]
theorem backL_get (L : List Lens) {q : Nat} (hq : q < L.length) (h : L.length - (q + 1) < (backL L).length) : (backL L)[L.length - (q + 1)] = [.int (q : Int), L[q].av] := by
  have e : L.length - 1 - (L.length - (q + 1)) = q := by omega
  simp only [backL, List.getElem_map, List.getElem_range, e, List.getElem?_eq_getElem hq]
theorem back_b (L : List Lens) : GivesB Tryz.prog 64 [.sl (L.map Lens.av)] (fun r => .fn 120 [.ptr r 0]) (.cells [.sl (L.map Lens.av)] 22) := by
  refine givesB_of_awp 0 Tryz.func64 Tryz.ntmps64 rfl rfl (by decide) rfl (by intro m; simp) fun σ n0 hcl hft => ?_
  repeat' (first | ((first | ((with_reducible refine qf (fun hg => ?_) (fun hg => ?_)) <;> (try simp only [hg]) <;> (try simp only [gS] at hg) <;> (try (first | simp only [eq_false hg, gI] | simp only [eq_true hg, gI]))) | refine Stp.m ?_) <;> (try simp (disch := first | omega | simp) [qd, -qg, -qm])) | refine sideA ?_ | refine qc fun K hK => ?_ | refine qa ?_ | refine qe ?_ | refine qb ?_ | (refine hK _ ?_; clear hK K) | clear hK K)
set_option maxHeartbeats 2000000 in
theorem back_it (r0 : Nat) (L : List Lens) (hL : L.length ≤ 1000000) : Iter Tryz.prog 120 [.ptr r0 0] (backL L) (fun _ σ => σ r0 = .cells [.sl (L.map Lens.av)] 22) (fun _ σ => σ) := by
  refine iter_of_awp Tryz.func120 Tryz.ntmps120 rfl rfl rfl fun l S m stop n0 hm hs0 hs1 hI hSc hSf hft hcc hy => ?_
  have hr0 : r0 < n0 := by simpa using hcc
  have hl : ∀ k, k ≤ m → ∀ L', loc (S k) n0 L' r0 = .cells [.sl (L.map Lens.av)] 22 := fun k hk L' => by rw [qda _ _ _ _ hr0]; exact hI k hk
  rw [backL_len] at hm
  have hl0 := hl 0 (by omega)
  repeat' (first | ((first | ((with_reducible refine qf (fun hg => ?_) (fun hg => ?_)) <;> (try simp only [hg]) <;> (try simp only [gS] at hg) <;> (try (first | simp only [eq_false hg, gI] | simp only [eq_true hg, gI]))) | refine Stp.m ?_) <;> (try simp (disch := first | omega | simp) [qd, -qg, -qm, hl0, hr0])) | refine sideA ?_ | refine qc fun K hK => ?_ | refine qa ?_ | refine qe ?_ | refine qb ?_ | (refine hK _ ?_; clear hK K) | clear hK K)
  refine awp_loopS (fun b => S (L.length - b)) (fun b => [(0, .v (.func (.yield l) #[] #[])), (1, .ptr r0 0), (3, .int ((b : Int) - 1))]) (fun _ => [])
    (fun b => b ≤ L.length ∧ L.length - b ≤ m ∧ (stop = true → L.length - b < m)) (fun b => b) L.length (fun b hb r => hSc _ hb.2.1 r) ⟨by omega, by omega, fun h => by have := hs1 h; omega⟩ (by simp [leS, hr0]) (hSc 0 (by omega)) fun b ⟨hb, hbm, hbs⟩ => ?_
  have hlk := hl _ hbm
  cases b with
  | zero =>
    repeat' (first | ((first | ((with_reducible refine qf (fun hg => ?_) (fun hg => ?_)) <;> (try simp only [hg]) <;> (try simp only [gS] at hg) <;> (try (first | simp only [eq_false hg, gI] | simp only [eq_true hg, gI]))) | refine Stp.m ?_) <;> (try simp (disch := first | omega | simp) [qd, -qg, -qm])) | refine sideA ?_ | refine qc fun K hK => ?_ | refine qa ?_ | refine qe ?_ | refine qb ?_ | (refine hK _ ?_; clear hK K) | clear hK K)
    have hme : L.length = m := by
      cases stop with
      | true => have := hbs rfl; omega
      | false => have := hs0 rfl; rw [backL_len] at this; exact this.symm
    exact congrArg S hme
  | succ q =>
    have hq : q < L.length := by omega
    have hkm : L.length - (q + 1) < m := by
      cases stop with
      | true => exact hbs rfl
      | false => have := hs0 rfl; rw [backL_len] at this; omega
    have hyk := fun L' => hy (L.length - (q + 1)) hkm (by rw [backL_len]; omega) L'
    rw [backL_get L hq] at hyk
    have e1 : L.length - (q + 1) + 1 = L.length - q := by omega
    rw [e1] at hyk
    cases hst : (stop && decide (L.length - q = m)) with
    | true =>
      rw [hst] at hyk
      have hjm3 : L.length - q = m := by simp at hst; exact hst.2
      repeat' (first | ((first | ((with_reducible refine qf (fun hg => ?_) (fun hg => ?_)) <;> (try simp only [hg]) <;> (try simp only [gS] at hg) <;> (try (first | simp only [eq_false hg, gI] | simp only [eq_true hg, gI]))) | refine Stp.m ?_ | refine qed (id := 3) 6 (by rfl) ?_ | refine ayield _ (hyk _) ?_) <;> (try simp (disch := first | omega | simp) [qd, -qg, -qm, hlk, hr0, hq, List.take_succ_cons, List.drop_succ_cons])) | refine sideA ?_ | refine qc fun K hK => ?_ | refine qa ?_ | refine qe ?_ | refine qb ?_ | (refine hK _ ?_; clear hK K) | clear hK K)
      exact congrArg S hjm3
    | false =>
      rw [hst] at hyk
      have hjm3 : stop = true → L.length - q < m := fun h => by
        rw [h, Bool.true_and, decide_eq_false_iff_not] at hst; omega
      repeat' (first | ((first | ((with_reducible refine qf (fun hg => ?_) (fun hg => ?_)) <;> (try simp only [hg]) <;> (try simp only [gS] at hg) <;> (try (first | simp only [eq_false hg, gI] | simp only [eq_true hg, gI]))) | refine Stp.m ?_ | refine qed (id := 3) 6 (by rfl) ?_ | refine ayield _ (hyk _) ?_) <;> (try simp (disch := first | omega | simp) [qd, -qg, -qm, hlk, hr0, hq, List.take_succ_cons, List.drop_succ_cons])) | refine sideA ?_ | refine qc fun K hK => ?_ | refine qa ?_ | refine qe ?_ | refine qb ?_ | (refine hK _ ?_; clear hK K) | clear hK K)
      exact ⟨hSc _ (by omega), q, ⟨by omega, by omega, hjm3⟩, by omega, by simp [leS, hr0, qd]⟩
end Go.Proofs.YtbkkjlcclddpdaaGreatDoor

/- Walk of lens.Back. -/
namespace Go.Proofs.YtbkkjlcclddpdaaGreatDoor
open Go.RowKit Go.Lib
theorem backL_two (L : List Lens) : ∀ x ∈ backL L, x.length = 2 := fun x hx => by
  unfold backL at hx
  obtain ⟨a, ha, rfl⟩ := List.mem_map.1 hx
  rw [List.mem_range] at ha
  rw [List.getElem?_eq_getElem (by omega)]
  rfl
set_option maxHeartbeats 4000000 in
theorem back_g {l : List Lens} {cols : List Col} {ss : List (List Col)} {row : List Val} (hs : qbi l cols = (ss, 0)) (hl : ∀ x ∈ l, qfk x) (h0 : 1 ≤ cols.length) (h1 : cols.length ≤ 12) (hr : qci row) (hlen : row.length = (shAt ss l.length).length) (R : List Val) (hR : bckAll l ss row = R) :
    Gives Tryz.prog 30 [.sl (l.map Lens.av), .sl (cols.map Col.av), .sl (row.map Val.av)] (.sl (R.map Val.av)) := by
  have hL : l.length ≤ 60 := by
    unfold qbi at hs
    by_cases h : 60 < l.length
    · rw [if_pos h] at hs; exact absurd (Prod.mk.inj hs).2 (by decide)
    · omega
  have hs' : qn l cols = (ss, 0) := by rw [qbi, if_neg (by omega)] at hs; exact hs
  obtain ⟨hc, hc0⟩ := chain_of hs' h0 h1
  have hbk := bckK_ok hc hl hr hlen
  have c1 := shapes_g l cols (fun x hx => (hl x hx).l) (by omega) h0 h1
  rw [hs] at c1
  have hrl := hc.sz l.length (by omega)
  have c2 := cloR row (by omega) (by omega)
  have hsl := hc.len
  refine gives_of_fwp Tryz.func30 Tryz.ntmps30 rfl rfl (by decide) rfl (by intro n; simp) fun σ n0 hcl hft => ?_
  refine qdv fun K hK => qge ?_
  repeat' (first | ((first | ((with_reducible refine qf (fun hg => ?_) (fun hg => ?_)) <;> (try simp only [hg]) <;> (try simp only [gS] at hg) <;> (try (first | simp only [eq_false hg, gI] | simp only [eq_true hg, gI]))) | refine Stp.m ?_) <;> (try simp (disch := first | omega | simp) [qd, -qg, -qm])) | refine sideA ?_ | refine qc fun K hK => ?_ | refine qa ?_ | refine qe ?_ | refine qb ?_ | (refine hK _ ?_; clear hK K) | clear hK K)
  refine hK _ _ ?_
  clear hK K
  refine qdv fun K hK => qge ?_
  repeat' (first | ((first | ((with_reducible refine qf (fun hg => ?_) (fun hg => ?_)) <;> (try simp only [hg]) <;> (try simp only [gS] at hg) <;> (try (first | simp only [eq_false hg, gI] | simp only [eq_true hg, gI]))) | refine Stp.m ?_ | refine ql ?_ | refine agH ?_) <;> (try simp (disch := first | omega | simp) [qd, -qg, -qm])) | refine sideA ?_ | refine qc fun K hK => ?_ | refine qa ?_ | refine qe ?_ | refine qb ?_ | (refine hK _ ?_; clear hK K) | clear hK K)
  refine hK _ _ ?_
  clear hK K
  refine qdv fun K hK => qge ?_
  repeat' (first | ((first | ((with_reducible refine qf (fun hg => ?_) (fun hg => ?_)) <;> (try simp only [hg]) <;> (try simp only [gS] at hg) <;> (try (first | simp only [eq_false hg, gI] | simp only [eq_true hg, gI]))) | refine Stp.m ?_ | refine ql ?_ | refine agH ?_) <;> (try simp (disch := first | omega | simp) [qd, -qg, -qm])) | refine sideA ?_ | refine qc fun K hK => ?_ | refine qa ?_ | refine qe ?_ | refine qb ?_ | (refine hK _ ?_; clear hK K) | clear hK K)
  refine hK _ _ ?_
  clear hK K
  refine qdv fun K hK => ?_
  refine qdv fun K2 hK2 => qge ?_
  repeat' (first | ((first | ((with_reducible refine qf (fun hg => ?_) (fun hg => ?_)) <;> (try simp only [hg]) <;> (try simp only [gS] at hg) <;> (try (first | simp only [eq_false hg, gI] | simp only [eq_true hg, gI]))) | refine Stp.m ?_ | refine acallB (back_b l) ?_) <;> (try simp (disch := first | omega | simp) [qd, -qg, -qm])) | refine sideA ?_ | refine qc fun K hK => ?_ | refine qa ?_ | refine qe ?_ | refine qb ?_ | (refine hK _ ?_; clear hK K) | clear hK K)
  refine hK2 _ _ ?_
  clear hK2 K2
  refine fwp_block ?_
  have hw := back_it (n0 + 2) l (by omega)
  have hbl := backL_len l
  have hb0 : bckK l ss row (l.length - 0) = row := bckK_end l ss row
  refine fwp_range (psl := [22, 23]) (by rfl) (by kernel_rfl) hw (fun k => [.cells [.sl (ss.map qcz)] 85, .cells [.sl ((bckK l ss row (l.length - k)).map Val.av)] 36, .cells [.sl (l.map Lens.av)] 22]) (fun k => [.cells [.sl (ss.map qcz)] 85, .cells [.sl ((bckK l ss row (l.length - k)).map Val.av)] 36, .cells [.sl (l.map Lens.av)] 22]) l.length false .ret (.inl rfl) (by rw [hb0]) (by omega) (by simp [hbl]) (by simp) hcl (fun _ _ => rfl) (fun _ _ => rfl) (fun _ _ => by simp) (fun _ _ _ => by simp) (fun _ _ _ => rfl) (by decide) (backL_two l) (fun k hk hx σ' σb nx h1 h2 hxc => ?_) ?_
  · obtain ⟨q, hq, rfl⟩ : ∃ q, q < l.length ∧ k = l.length - (q + 1) := ⟨l.length - (k + 1), by omega, by omega⟩
    have e1 : l.length - (l.length - (q + 1)) = q + 1 := by omega
    have e2 : l.length - (l.length - (q + 1) + 1) = q := by omega
    have e3 : (false && decide (l.length - (q + 1) + 1 = l.length)) = false := rfl
    rw [e1] at h1 h2
    rw [e2]
    simp only [backL_get l hq]
    obtain ⟨g3, g4⟩ := hc.ok q hq
    obtain ⟨g1, g2⟩ := hbk (l.length - (q + 1)) (q + 1) (by omega)
    obtain ⟨g5, g6⟩ := hc.sz q (by omega)
    have hqs : q < ss.length := by omega
    have c3 := bck_g (hl _ (List.getElem_mem hq)) g5 g6 g3 (g1.trans (by rw [g4])) g2
    rw [← bckK_pred hq, shAt_eq hqs] at c3
    have a0 := h2.at' 0 _ rfl
    have a1 := h2.at' 1 _ rfl
    have a3 := h2.lt
    simp at a0 a1 a3
    have g3' : n0 < nx := by omega
    have g4' : n0 + 1 < nx := by omega
    have f0 : ∀ L', loc σb nx L' n0 = .cells [.sl (ss.map qcz)] 85 := fun L' => by rw [qda _ _ _ _ g3']; exact a0
    have f1 : ∀ L', loc σb nx L' (n0 + 1) = .cells [.sl ((bckK l ss row (q + 1)).map Val.av)] 36 := fun L' => by rw [qda _ _ _ _ g4']; exact a1
    repeat' (first | ((first | ((with_reducible refine qf (fun hg => ?_) (fun hg => ?_)) <;> (try simp only [hg]) <;> (try simp only [gS] at hg) <;> (try (first | simp only [eq_false hg, gI] | simp only [eq_true hg, gI]))) | refine Stp.m ?_ | refine ql ?_ | refine agH ?_) <;> (try simp (disch := first | omega | simp) [qd, -qg, -qm, f0, f1, g3', g4', hqs, qcz])) | refine sideA ?_ | refine qc fun K hK => ?_ | refine qa ?_ | refine qe ?_ | refine qb ?_ | (refine hK _ ?_; clear hK K) | clear hK K)
    exact updB_set h2.at' 1 _ (by simp)
  · intro D
    simp only [Bool.false_eq_true, if_false, FBlock, FThen]
    refine hK _ _ ?_
    clear hK K
    refine qge ?_
    have hend : bckK l ss row 0 = R := hR
    repeat' (first | ((first | ((with_reducible refine qf (fun hg => ?_) (fun hg => ?_)) <;> (try simp only [hg]) <;> (try simp only [gS] at hg) <;> (try (first | simp only [eq_false hg, gI] | simp only [eq_true hg, gI]))) | refine Stp.m ?_) <;> (try simp (disch := first | omega | simp) [qd, -qg, -qm])) | refine sideA ?_ | refine qc fun K hK => ?_ | refine qa ?_ | refine qe ?_ | refine qb ?_ | (refine hK _ ?_; clear hK K) | clear hK K)
    refine fend_mark 3 (.inr rfl) (by rfl) ?_
    simp [hend]
end Go.Proofs.YtbkkjlcclddpdaaGreatDoor

/- Walk of layer 14: the examples of the documentation. -/
namespace Go.Proofs.YtbkkjlcclddpdaaGreatDoor
open Go.RowKit Go.Lib
def exS1 : ByteArray := ⟨#[115, 112, 108, 105, 116, 32, 110, 97, 109, 101, 32, 34, 32, 34, 32, 102, 105, 114, 115, 116, 32, 108, 97, 115, 116, 10]⟩
def exS2 : ByteArray := ⟨#[115, 99, 97, 108, 101, 32, 119, 32, 49, 48, 48, 48, 32, 103, 10]⟩
def exX1 : Lens := ⟨3, ⟨#[110, 97, 109, 101]⟩, ⟨#[102, 105, 114, 115, 116]⟩, ⟨#[108, 97, 115, 116]⟩, ⟨#[32]⟩, 0, ⟨0, 0, ⟨#[]⟩⟩⟩
def exX2 : Lens := ⟨6, ⟨#[119]⟩, ⟨#[103]⟩, ⟨#[]⟩, ⟨#[]⟩, 1000, ⟨0, 0, ⟨#[]⟩⟩⟩
def exC1 : List Col := [⟨⟨#[105, 100]⟩, 0, ⟨#[]⟩⟩, ⟨⟨#[110, 97, 109, 101]⟩, 1, ⟨#[]⟩⟩]
def exC2 : List Col := [⟨⟨#[105, 100]⟩, 0, ⟨#[]⟩⟩, ⟨⟨#[102, 105, 114, 115, 116]⟩, 1, ⟨#[]⟩⟩, ⟨⟨#[108, 97, 115, 116]⟩, 1, ⟨#[]⟩⟩]
def exC3 : List Col := [⟨⟨#[119]⟩, 0, ⟨#[107, 103]⟩⟩]
def exC4 : List Col := [⟨⟨#[119]⟩, 0, ⟨#[103]⟩⟩]
def exR1 : List Val := [⟨0, 7, ⟨#[]⟩⟩, ⟨1, 0, ⟨#[65, 100, 97, 32, 76, 111, 118, 101, 108, 97, 99, 101, 32, 120]⟩⟩]
def exR2 : List Val := [⟨0, 7, ⟨#[]⟩⟩, ⟨1, 0, ⟨#[65, 100, 97]⟩⟩, ⟨1, 0, ⟨#[76, 111, 118, 101, 108, 97, 99, 101, 32, 120]⟩⟩]
def exR3 : List Val := [⟨0, 7, ⟨#[]⟩⟩, ⟨1, 0, ⟨#[65, 100, 97, 32]⟩⟩]
def exR4 : List Val := [⟨0, 7, ⟨#[]⟩⟩, ⟨1, 0, ⟨#[65, 100, 97]⟩⟩, ⟨1, 0, ⟨#[]⟩⟩]
def exR5 : List Val := [⟨0, 7, ⟨#[]⟩⟩, ⟨1, 0, ⟨#[65, 100, 97]⟩⟩]
def exR6 : List Val := [⟨0, 5, ⟨#[]⟩⟩]
def exR7 : List Val := [⟨0, 5000, ⟨#[]⟩⟩]
def exR8 : List Val := [⟨0, 9223372036854775807, ⟨#[]⟩⟩]
theorem exP1 : qbo exS1.data.toList = ([exX1], true) := by kernel_rfl
theorem exP2 : qbo exS2.data.toList = ([exX2], true) := by kernel_rfl
theorem exH1 : qbi [exX1] exC1 = ([exC1, exC2], 0) := by kernel_rfl
theorem exH2 : qbi [exX2] exC3 = ([exC3, exC4], 0) := by kernel_rfl
theorem exT1 : toP [exX1] exC1 = (exC2, 0) := by kernel_rfl
theorem exF1 : fwdAll [exX1] [exC1, exC2] exR1 = exR2 := by kernel_rfl
theorem exB1 : bckAll [exX1] [exC1, exC2] exR2 = exR1 := by kernel_rfl
theorem exF3 : fwdAll [exX1] [exC1, exC2] exR3 = exR4 := by kernel_rfl
theorem exB3 : bckAll [exX1] [exC1, exC2] exR4 = exR5 := by kernel_rfl
theorem exF6 : fwdAll [exX2] [exC3, exC4] exR6 = exR7 := by kernel_rfl
theorem exL2 : lostP [exX2] [exC3, exC4] 0 = (false, 0, exR8) := by kernel_rfl
theorem exSX1 : qfk exX1 := ⟨⟨by decide, by decide, by decide, by decide⟩, ⟨⟨by decide, by decide⟩, by decide⟩⟩
theorem exSX2 : qfk exX2 := ⟨⟨by decide, by decide, by decide, by decide⟩, ⟨⟨by decide, by decide⟩, by decide⟩⟩
theorem exSR {l : List Val} (h : l.all (fun v => decide (-9223372036854775808 ≤ v.n) && (decide (v.n ≤ 9223372036854775807) && decide (v.s.size ≤ 300000))) = true) : qci l := fun v hv => by
  have := List.all_eq_true.1 h v hv
  simp only [Bool.and_eq_true, decide_eq_true_eq] at this
  exact ⟨⟨this.1, this.2.1⟩, this.2.2⟩
theorem exA {x : Lens} (h : qfk x) : ∀ y ∈ [x], qfk y := fun y hy => by rw [List.mem_singleton] at hy; subst hy; exact h
set_option maxRecDepth 8000 in
set_option maxHeartbeats 8000000 in
theorem small14_g : Gives Tryz.prog 9 [] (.bool true) := by
  have c1 := lparse_g exS1 (by decide)
  have c2 := lparse_g exS2 (by decide)
  rw [exP1] at c1
  rw [exP2] at c2
  have c3 := forward_g (row := exR1) exH1 (exA exSX1) (by decide) (by decide) (exSR (by decide)) rfl _ exF1
  have c4 := forward_g (row := exR3) exH1 (exA exSX1) (by decide) (by decide) (exSR (by decide)) rfl _ exF3
  have c5 := forward_g (row := exR6) exH2 (exA exSX2) (by decide) (by decide) (exSR (by decide)) rfl _ exF6
  have c6 := back_g (row := exR2) exH1 (exA exSX1) (by decide) (by decide) (exSR (by decide)) rfl _ exB1
  have c7 := back_g (row := exR4) exH1 (exA exSX1) (by decide) (by decide) (exSR (by decide)) rfl _ exB3
  have c8 := to_g [exX1] exC1 (fun x hx => (exA exSX1 x hx).l) (by decide) (by decide) (by decide)
  rw [exT1] at c8
  have c9 := lossless_g exH2 (exA exSX2) (by decide) (by decide) _ exL2
  have c10 := rsame03_g exR1 (by decide)
  simp only [exS1, exS2, exC1, exC2, exC3, exR1, exR2, exR3, exR4, exR5, exR6, exR7, exR8, List.map_cons, List.map_nil] at *
  refine qj Tryz.func9 Tryz.ntmps9 fun σ n0 hcl hft => ?_
  repeat' (first | ((first | ((with_reducible refine qf (fun hg => ?_) (fun hg => ?_)) <;> (try simp only [hg]) <;> (try simp only [gS] at hg) <;> (try (first | simp only [eq_false hg, gI] | simp only [eq_true hg, gI]))) | refine Stp.m ?_ | refine ql ?_ | refine agH ?_) <;> (try simp (disch := first | omega | simp) [qd, -qg, -qm])) | refine sideA ?_ | refine qc fun K hK => ?_ | refine qa ?_ | refine qe ?_ | refine qb ?_ | (refine hK _ ?_; clear hK K) | clear hK K)
end Go.Proofs.YtbkkjlcclddpdaaGreatDoor

/- A list that is handed to a function as a slice is no longer than an int tells. -/
namespace Go.Proofs.YtbkkjlcclddpdaaGreatDoor
open Go.RowKit Go.Lib
theorem gives_len {P : Program} {f : FuncId} {l : List AV} {tl : List AV} {x : AV} (h : l.length ≤ 9223372036854775807 → Gives P f (.sl l :: tl) x) : Gives P f (.sl l :: tl) x := by
  intro σ X vals nx hS hσ hF hR
  have hl : l.length ≤ 9223372036854775807 := by
    obtain ⟨v, vs', -, h1, -⟩ := hR
    change RC X (.sl l) [v] at h1
    rw [RC] at h1
    obtain ⟨A, cap, b, off, -, h2, h3, -⟩ := h1
    omega
  exact h hl σ X vals nx hS hσ hF hR
end Go.Proofs.YtbkkjlcclddpdaaGreatDoor
