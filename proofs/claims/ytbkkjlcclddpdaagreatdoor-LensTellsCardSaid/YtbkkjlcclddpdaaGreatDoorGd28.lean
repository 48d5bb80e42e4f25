/- Walks of layer 14's reference: names, right steps, the text of values and steps. -/
import Derived.Lib.IndexLaws
import Derived.Test.YtbkkjlcclddpdaaGreatDoorGd12
import Derived.Test.YtbkkjlcclddpdaaGreatDoorGd19
import Derived.Test.YtbkkjlcclddpdaaGreatDoorGd23
import Derived.Test.YtbkkjlcclddpdaaGreatDoorGd24
import Derived.Test.YtbkkjlcclddpdaaGreatDoorGd25
import Derived.Test.YtbkkjlcclddpdaaGreatDoorGd27
set_option linter.unusedSimpArgs false
set_option linter.unusedVariables false
namespace Go.Proofs.YtbkkjlcclddpdaaGreatDoor
open Go.RowKit Go.Lib
theorem rlname_g (s : ByteArray) (hs : s.size ≤ 1000000) : Gives Tryz.prog 53 [.str s] (.bool (ownA s)) := by
  refine qh Tryz.func53 Tryz.ntmps53 fun σ n0 hcl hft => ?_
  repeat' (first | ((first | ((with_reducible refine qf (fun hg => ?_) (fun hg => ?_)) <;> (try simp only [hg]) <;> (try simp only [gS] at hg) <;> (try (first | simp only [eq_false hg, gI] | simp only [eq_true hg, gI]))) | refine Stp.m ?_ | refine acall (rtypeOf_g s) ?_ | refine qo (rtypeOf_g s) ?_ | refine acall (rname_g s hs) ?_ | refine qo (rname_g s hs) ?_) <;> (try simp (disch := first | omega | simp) [qd, -qg, -ql])) | refine sideA ?_ | refine qc fun K hK => ?_ | refine qa ?_ | refine qe ?_ | refine qb ?_ | (refine hK _ ?_; clear hK K) | clear hK K)
  all_goals (first | rfl | (simp_all [ownA, ownP]; done))
def kindB (n : Int) : Bool := decide (0 ≤ n) && decide (n < 3)
theorem rkind_g (n : Int) : Gives Tryz.prog 55 [.int n] (.bool (kindB n)) := by
  unfold kindB
  refine qh Tryz.func55 Tryz.ntmps55 fun σ n0 hcl hft => ?_
  repeat' (first | ((first | ((with_reducible refine qf (fun hg => ?_) (fun hg => ?_)) <;> (try simp only [hg]) <;> (try simp only [gS] at hg) <;> (try (first | simp only [eq_false hg, gI] | simp only [eq_true hg, gI]))) | refine Stp.m ?_) <;> (try simp (disch := first | omega | simp) [qd, -qg, -ql])) | refine sideA ?_ | refine qc fun K hK => ?_ | refine qa ?_ | refine qe ?_ | refine qb ?_ | (refine hK _ ?_; clear hK K) | clear hK K)
  all_goals first | (simp_all; done) | (simp_all; omega) | (simp_all; intro _; omega)
set_option maxRecDepth 4000 in
set_option maxHeartbeats 8000000 in
theorem rlright_g (x : Lens) (hx : qbq x) : Gives Tryz.prog 21 [x.av] (.bool (qbz x)) := by
  have n1 := rlname_g x.a hx.a
  have n2 := rlname_g x.b hx.b
  have n3 := rlname_g x.c hx.c
  have n4 := rvright_g x.value
  have n5 := rkind_g x.n
  have ta : aeq Tryz.prog .eql 27 x.value.av (AV.agg [.int 0, .int 0, .str ByteArray.empty]) = some (val0B x.value) := Val.aeq x.value val0
  have sB := qbs x.b
  have sC := qbs x.c
  have sS := qbs x.sep
  have ho : x.op = 0 ∨ x.op = 1 ∨ x.op = 2 ∨ x.op = 3 ∨ x.op = 4 ∨ x.op = 5 ∨ x.op = 6 ∨ (x.op ≠ 0 ∧ x.op ≠ 1 ∧ x.op ≠ 2 ∧ x.op ≠ 3 ∧ x.op ≠ 4 ∧ x.op ≠ 5 ∧ x.op ≠ 6) := by omega
  obtain ⟨R, hR⟩ : ∃ R, qbz x = R := ⟨_, rfl⟩
  rw [hR]
  unfold qbz usedB sepB at hR
  rcases ho with ho | ho | ho | ho | ho | ho | ho | ⟨o0, o1, o2, o3, o4, o5, o6⟩
  rotate_right
  · simp only [if_neg o0, if_neg o1, if_neg o2, if_neg o3, if_neg o4, if_neg o5, if_neg o6] at hR
    refine qh Tryz.func21 Tryz.ntmps21 fun σ n0 hcl hft => ?_
    repeat' (first | ((first | ((with_reducible refine qf (fun hg => ?_) (fun hg => ?_)) <;> (try simp only [hg]) <;> (try simp only [gS] at hg) <;> (try (first | simp only [eq_false hg, gI] | simp only [eq_true hg, gI]))) | refine Stp.m ?_ | refine qi ?_ | refine agH ?_) <;> (try simp (disch := first | omega | simp) [qd, -qg, -ql, o0, o1, o2, o3, o4, o5, o6, ta, sB, sC, sS])) | refine sideA ?_ | refine qc fun K hK => ?_ | refine qa ?_ | refine qe ?_ | refine qb ?_ | (refine hK _ ?_; clear hK K) | clear hK K)
    all_goals (clear n1 n2 n3 n4 n5 ta hcl hft; subst hR; simp_all)
  all_goals
    simp only [ho, reduceIte, Int.reduceEq] at hR
    refine qh Tryz.func21 Tryz.ntmps21 fun σ n0 hcl hft => ?_
    repeat' (first | ((first | ((with_reducible refine qf (fun hg => ?_) (fun hg => ?_)) <;> (try simp only [hg]) <;> (try simp only [gS] at hg) <;> (try (first | simp only [eq_false hg, gI] | simp only [eq_true hg, gI]))) | refine Stp.m ?_ | refine qi ?_ | refine agH ?_) <;> (try simp (disch := first | omega | simp) [qd, -qg, -ql, ho, ta, sB, sC, sS])) | refine sideA ?_ | refine qc fun K hK => ?_ | refine qa ?_ | refine qe ?_ | refine qb ?_ | (refine hK _ ?_; clear hK K) | clear hK K)
    all_goals (clear n1 n2 n3 n4 n5 ta hcl hft; subst hR; first | (simp_all [kindB]; done) | (rw [Bool.eq_iff_iff]; simp_all [kindB]; done) | (simp_all [kindB]; omega))
end Go.Proofs.YtbkkjlcclddpdaaGreatDoor

/- Walk of lens.words. -/
namespace Go.Proofs.YtbkkjlcclddpdaaGreatDoor
open Go.RowKit Go.Lib
def wG : List UInt8 → Bool → Bool → List UInt8 → List (List UInt8)
  | [], _, _, cur => [cur]
  | c :: s, q, e, cur =>
    if e = true then wG s q false (cur ++ [c])
    else if c = 92 ∧ q = true then wG s q true (cur ++ [c])
    else if c = 34 then wG s (!q) false (cur ++ [c])
    else if c = 32 ∧ q = false then cur :: wG s q false []
    else wG s q false (cur ++ [c])
def qfd (s : List UInt8) : List (List UInt8) := wG s false false [] ++ [[], [], [], []]
def wrdA (l : List (List UInt8)) : List AV := l.map fun x => AV.str (qk x)
@[simp] theorem wrdA_cls (l : List (List UInt8)) (m : Nat) : AV.cls m (wrdA l) := AV.cls_map (f := fun x => AV.str (qk x)) (fun _ => by simp) l
@[simp] theorem wrdA_wid (l : List (List UInt8)) : AV.wid (wrdA l) 1 := AV.wid_map (f := fun x => AV.str (qk x)) (fun _ => rfl) l
@[simp] theorem wrdA_elms (l : List (List UInt8)) : AV.elms (wrdA l) := AV.elms_map (f := fun x => AV.str (qk x)) (fun _ => rfl) l
@[simp] theorem wrdA_len (l : List (List UInt8)) : (wrdA l).length = l.length := by simp [wrdA]
theorem ext_sub (s : ByteArray) (a b : Nat) (hb : b ≤ s.size) : s.extract a b = qk ((s.data.toList.drop a).take (b - a)) := by
  apply bA_eq
  rw [ByteArray.data_extract, Array.toList_extract]
theorem wG_len : ∀ (s : List UInt8) (q e : Bool) (cur : List UInt8), (wG s q e cur).length ≤ s.length + 1
  | [], _, _, _ => by rw [wG]; simp
  | c :: s, q, e, cur => by
    rw [wG]
    repeat' split
    all_goals (try rw [List.length_cons]); (first | (have := wG_len s q false (cur ++ [c]); simp; omega) | (have := wG_len s q true (cur ++ [c]); simp; omega) | (have := wG_len s (!q) false (cur ++ [c]); simp; omega) | (have := wG_len s q false []; simp; omega))
theorem wG_sum : ∀ (s : List UInt8) (q e : Bool) (cur : List UInt8), ((wG s q e cur).map List.length).sum ≤ s.length + cur.length
  | [], _, _, _ => by rw [wG]; simp
  | c :: s, q, e, cur => by
    rw [wG]
    repeat' split
    all_goals first
      | (have := wG_sum s q false (cur ++ [c]); simp at this ⊢; omega)
      | (have := wG_sum s q true (cur ++ [c]); simp at this ⊢; omega)
      | (have := wG_sum s (!q) false (cur ++ [c]); simp at this ⊢; omega)
      | (have := wG_sum s q false []; simp at this ⊢; omega)
theorem take_more {S : List UInt8} {fr i : Nat} (h : fr ≤ i) (hi : i < S.length) : (S.drop fr).take (i + 1 - fr) = (S.drop fr).take (i - fr) ++ [S[i]] := by
  have e : i + 1 - fr = i - fr + 1 := by omega
  have h2 : i - fr < (S.drop fr).length := by rw [List.length_drop]; omega
  rw [e, List.take_succ_eq_append_getElem h2, List.getElem_drop]
  congr 3
  omega
theorem u8_iff (c d : UInt8) : c = d ↔ (c.toNat : Int) = (d.toNat : Int) := ⟨fun h => by rw [h], fun h => UInt8.toNat_inj.1 (by omega)⟩
structure WSt where
  i : Nat
  fr : Nat
  q : Bool
  out : List (List UInt8)
set_option maxHeartbeats 4000000 in
theorem words_g (s : ByteArray) (hs : s.size ≤ 1000000) : Gives Tryz.prog 78 [.str s] (.sl (wrdA (qfd s.data.toList))) := by
  obtain ⟨S, hS⟩ : ∃ S, s.data.toList = S := ⟨_, rfl⟩
  have hsz : S.length = s.size := by rw [← hS, qcw]
  rw [hS]
  unfold qfd
  obtain ⟨W, hW⟩ : ∃ W, wG S false false [] = W := ⟨_, rfl⟩
  have hWl := wG_len S false false []
  rw [hW] at hWl ⊢
  refine qh Tryz.func78 Tryz.ntmps78 fun σ n0 hcl hft => ?_
  repeat' (first | ((first | ((with_reducible refine qf (fun hg => ?_) (fun hg => ?_)) <;> (try simp only [hg]) <;> (try simp only [gS] at hg) <;> (try (first | simp only [eq_false hg, gI] | simp only [eq_true hg, gI]))) | refine Stp.m ?_) <;> (try simp (disch := first | omega | simp) [qd, -qg, -ql])) | refine sideA ?_ | refine qc fun K hK => ?_ | refine qa ?_ | refine qe ?_ | refine qb ?_ | (refine hK _ ?_; clear hK K) | clear hK K)
  refine awp_adoptR 3 9 1 (by simp) ?_
  refine qt hcl (fun x : WSt => [(0, .str s), (3, .gs n0 (wrdA x.out)), (4, .bool x.q), (5, .int x.fr), (6, .int x.i)]) (fun x => [.tail x.out.length 9 1])
    (fun x => x.i ≤ s.size + 1 ∧ x.fr ≤ s.size ∧ x.fr ≤ x.i ∧ x.out.length ≤ x.i ∧ x.out ++ wG (S.drop x.i) x.q false ((S.drop x.fr).take (x.i - x.fr)) = W) (fun x => s.size + 1 - x.i) ⟨0, 0, false, []⟩ ⟨Nat.zero_le _, Nat.zero_le _, Nat.le_refl _, by simp, by simpa using hW⟩ (by simp [wrdA]) fun ⟨i, fr, q, out⟩ ⟨hi, hfr, hfi, hol, hin⟩ => ?_
  dsimp only at hi hfr hfi hol hin ⊢
  have hol2 : out.length ≤ 1000001 := by omega
  by_cases hlt : i < s.size
  · have hlS : i < S.length := by omega
    have hlt2 : i < s.data.size := hlt
    have hget : s.data[i] = S[i] := by simp [← hS]
    have hd : S.drop i = S[i] :: S.drop (i + 1) := List.drop_eq_getElem_cons hlS
    have htk : (S.drop fr).take (i + 1 - fr) = (S.drop fr).take (i - fr) ++ [S[i]] := take_more hfi hlS
    have hx := ext_sub s fr i (by omega)
    rw [hS] at hx
    rw [hd, wG, if_neg (by simp)] at hin
    obtain ⟨c, hc⟩ : ∃ c, S[i] = c := ⟨_, rfl⟩
    rw [hc] at hget htk hin
    have n92 : c = 92 ↔ (c.toNat : Int) = 92 := u8_iff c 92
    have n34 : c = 34 ↔ (c.toNat : Int) = 34 := u8_iff c 34
    have n32 : c = 32 ↔ (c.toNat : Int) = 32 := u8_iff c 32
    by_cases hA : c = 92 ∧ q = true
    · rw [if_pos hA] at hin
      obtain ⟨h1, rfl⟩ := hA
      have g92 := n92.1 h1
      repeat' (first | ((first | ((with_reducible refine qf (fun hg => ?_) (fun hg => ?_)) <;> (try simp only [hg]) <;> (try simp only [gS] at hg) <;> (try (first | simp only [eq_false hg, gI] | simp only [eq_true hg, gI]))) | refine Stp.m ?_) <;> (try simp (disch := first | omega | simp) [qd, -qg, -ql, hlt, hlt2, hget, g92])) | refine sideA ?_ | refine qc fun K hK => ?_ | refine qa ?_ | refine qe ?_ | refine qb ?_ | (refine hK _ ?_; clear hK K) | clear hK K)
      refine ⟨⟨i + 2, fr, true, out⟩, ⟨by show i + 2 ≤ _; omega, hfr, by show fr ≤ i + 2; omega, by show out.length ≤ i + 2; omega, ?_⟩, by show s.size + 1 - (i + 2) < _; omega, rfl, rfl, rfl, rfl, by show (i : Int) + 1 + 1 = ((i + 2 : Nat) : Int); omega⟩
      show out ++ wG (S.drop (i + 2)) true false ((S.drop fr).take (i + 2 - fr)) = W
      rw [← hin, ← htk]
      congr 1
      by_cases h2 : i + 1 < S.length
      · rw [take_more (by omega) h2, List.drop_eq_getElem_cons h2, wG, if_pos rfl]
      · have z1 : S.drop (i + 1) = [] := List.drop_eq_nil_of_le (by omega)
        have z2 : S.drop (i + 2) = [] := List.drop_eq_nil_of_le (by omega)
        have z3 : (S.drop fr).take (i + 2 - fr) = S.drop fr := List.take_of_length_le (by rw [List.length_drop]; omega)
        have z4 : (S.drop fr).take (i + 1 - fr) = S.drop fr := List.take_of_length_le (by rw [List.length_drop]; omega)
        rw [z1, z2, z3, z4]; rfl
    · rw [if_neg hA] at hin
      have hA2 : ((c.toNat : Int) = 92) → q = false := fun h => by cases q; rfl; exact absurd ⟨n92.2 h, rfl⟩ hA
      by_cases h34 : c = 34
      · rw [if_pos h34] at hin
        have g34 := n34.1 h34
        have g92 : ¬ (c.toNat : Int) = 92 := by omega
        repeat' (first | ((first | ((with_reducible refine qf (fun hg => ?_) (fun hg => ?_)) <;> (try simp only [hg]) <;> (try simp only [gS] at hg) <;> (try (first | simp only [eq_false hg, gI] | simp only [eq_true hg, gI]))) | refine Stp.m ?_) <;> (try simp (disch := first | omega | simp) [qd, -qg, -ql, hlt, hlt2, hget, g92, g34])) | refine sideA ?_ | refine qc fun K hK => ?_ | refine qa ?_ | refine qe ?_ | refine qb ?_ | (refine hK _ ?_; clear hK K) | clear hK K)
        exact ⟨⟨i + 1, fr, (!q), out⟩, ⟨by show i + 1 ≤ _; omega, hfr, by show fr ≤ i + 1; omega, by show out.length ≤ i + 1; omega, by show out ++ wG (S.drop (i + 1)) (!q) false ((S.drop fr).take (i + 1 - fr)) = W; rw [← hin, htk]⟩, by show s.size + 1 - (i + 1) < _; omega, rfl, rfl, by simp, rfl, rfl⟩
      · rw [if_neg h34] at hin
        have g34 : ¬ (c.toNat : Int) = 34 := fun h => h34 (n34.2 h)
        by_cases hC : c = 32 ∧ q = false
        · rw [if_pos hC] at hin
          obtain ⟨h1, rfl⟩ := hC
          have g32 := n32.1 h1
          have g92 : ¬ (c.toNat : Int) = 92 := by omega
          repeat' (first | ((first | ((with_reducible refine qf (fun hg => ?_) (fun hg => ?_)) <;> (try simp only [hg]) <;> (try simp only [gS] at hg) <;> (try (first | simp only [eq_false hg, gI] | simp only [eq_true hg, gI]))) | refine Stp.m ?_) <;> (try simp (disch := first | omega | simp) [qd, -qg, -ql, hlt, hlt2, hget, g92, g34, g32, hx, hfi, hfr])) | refine sideA ?_ | refine qc fun K hK => ?_ | refine qa ?_ | refine qe ?_ | refine qb ?_ | (refine hK _ ?_; clear hK K) | clear hK K)
          exact ⟨⟨i + 1, i + 1, false, out ++ [(S.drop fr).take (i - fr)]⟩, ⟨by show i + 1 ≤ _; omega, by show i + 1 ≤ _; omega, Nat.le_refl _, by show (out ++ [_]).length ≤ i + 1; simp; omega, by show (out ++ [_]) ++ wG (S.drop (i + 1)) false false ((S.drop (i + 1)).take (i + 1 - (i + 1))) = W; rw [← hin, Nat.sub_self]; simp⟩, by show s.size + 1 - (i + 1) < _; omega, by simp, by simp [wrdA], rfl, rfl, rfl⟩
        · rw [if_neg hC] at hin
          have hC2 : ((c.toNat : Int) = 32) → q = true := fun h => by cases q; exact absurd ⟨n32.2 h, rfl⟩ hC; rfl
          by_cases g92 : (c.toNat : Int) = 92
          · obtain rfl := hA2 g92
            have g32 : ¬ (c.toNat : Int) = 32 := by omega
            repeat' (first | ((first | ((with_reducible refine qf (fun hg => ?_) (fun hg => ?_)) <;> (try simp only [hg]) <;> (try simp only [gS] at hg) <;> (try (first | simp only [eq_false hg, gI] | simp only [eq_true hg, gI]))) | refine Stp.m ?_) <;> (try simp (disch := first | omega | simp) [qd, -qg, -ql, hlt, hlt2, hget, g92, g34, g32])) | refine sideA ?_ | refine qc fun K hK => ?_ | refine qa ?_ | refine qe ?_ | refine qb ?_ | (refine hK _ ?_; clear hK K) | clear hK K)
            exact ⟨⟨i + 1, fr, false, out⟩, ⟨by show i + 1 ≤ _; omega, hfr, by show fr ≤ i + 1; omega, by show out.length ≤ i + 1; omega, by show out ++ wG (S.drop (i + 1)) false false ((S.drop fr).take (i + 1 - fr)) = W; rw [← hin, htk]⟩, by show s.size + 1 - (i + 1) < _; omega, rfl, rfl, rfl, rfl, rfl⟩
          · by_cases g32 : (c.toNat : Int) = 32
            · obtain rfl := hC2 g32
              repeat' (first | ((first | ((with_reducible refine qf (fun hg => ?_) (fun hg => ?_)) <;> (try simp only [hg]) <;> (try simp only [gS] at hg) <;> (try (first | simp only [eq_false hg, gI] | simp only [eq_true hg, gI]))) | refine Stp.m ?_) <;> (try simp (disch := first | omega | simp) [qd, -qg, -ql, hlt, hlt2, hget, g92, g34, g32])) | refine sideA ?_ | refine qc fun K hK => ?_ | refine qa ?_ | refine qe ?_ | refine qb ?_ | (refine hK _ ?_; clear hK K) | clear hK K)
              exact ⟨⟨i + 1, fr, true, out⟩, ⟨by show i + 1 ≤ _; omega, hfr, by show fr ≤ i + 1; omega, by show out.length ≤ i + 1; omega, by show out ++ wG (S.drop (i + 1)) true false ((S.drop fr).take (i + 1 - fr)) = W; rw [← hin, htk]⟩, by show s.size + 1 - (i + 1) < _; omega, rfl, rfl, rfl, rfl, rfl⟩
            · have b92 : ((c.toNat : Int) == 92) = false := by simpa using g92
              have b34 : ((c.toNat : Int) == 34) = false := by simpa using g34
              have b32 : ((c.toNat : Int) == 32) = false := by simpa using g32
              cases q with
              | false =>
                repeat' (first | ((first | ((with_reducible refine qf (fun hg => ?_) (fun hg => ?_)) <;> (try simp only [hg]) <;> (try simp only [gS] at hg) <;> (try (first | simp only [eq_false hg, gI] | simp only [eq_true hg, gI]))) | refine Stp.m ?_) <;> (try simp (disch := first | omega | simp) [qd, -qg, -ql, hlt, hlt2, hget, b92, b34, b32])) | refine sideA ?_ | refine qc fun K hK => ?_ | refine qa ?_ | refine qe ?_ | refine qb ?_ | (refine hK _ ?_; clear hK K) | clear hK K)
                exact ⟨⟨i + 1, fr, false, out⟩, ⟨by show i + 1 ≤ _; omega, hfr, by show fr ≤ i + 1; omega, by show out.length ≤ i + 1; omega, by show out ++ wG (S.drop (i + 1)) false false ((S.drop fr).take (i + 1 - fr)) = W; rw [← hin, htk]⟩, by show s.size + 1 - (i + 1) < _; omega, rfl, rfl, rfl, rfl, rfl⟩
              | true =>
                repeat' (first | ((first | ((with_reducible refine qf (fun hg => ?_) (fun hg => ?_)) <;> (try simp only [hg]) <;> (try simp only [gS] at hg) <;> (try (first | simp only [eq_false hg, gI] | simp only [eq_true hg, gI]))) | refine Stp.m ?_) <;> (try simp (disch := first | omega | simp) [qd, -qg, -ql, hlt, hlt2, hget, b92, b34, b32])) | refine sideA ?_ | refine qc fun K hK => ?_ | refine qa ?_ | refine qe ?_ | refine qb ?_ | (refine hK _ ?_; clear hK K) | clear hK K)
                exact ⟨⟨i + 1, fr, true, out⟩, ⟨by show i + 1 ≤ _; omega, hfr, by show fr ≤ i + 1; omega, by show out.length ≤ i + 1; omega, by show out ++ wG (S.drop (i + 1)) true false ((S.drop fr).take (i + 1 - fr)) = W; rw [← hin, htk]⟩, by show s.size + 1 - (i + 1) < _; omega, rfl, rfl, rfl, rfl, rfl⟩
  · have hd : S.drop i = [] := List.drop_eq_nil_of_le (by omega)
    rw [hd, wG, List.take_of_length_le (by rw [List.length_drop]; omega)] at hin
    have hx := ext_sub s fr s.size (Nat.le_refl _)
    rw [hS, List.take_of_length_le (by rw [List.length_drop]; omega)] at hx
    repeat' (first | ((first | ((with_reducible refine qf (fun hg => ?_) (fun hg => ?_)) <;> (try simp only [hg]) <;> (try simp only [gS] at hg) <;> (try (first | simp only [eq_false hg, gI] | simp only [eq_true hg, gI]))) | refine Stp.m ?_) <;> (try simp (disch := first | omega | simp) [qd, -qg, -ql, hlt, hx, hfr])) | refine sideA ?_ | refine qc fun K hK => ?_ | refine qa ?_ | refine qe ?_ | refine qb ?_ | (refine hK _ ?_; clear hK K) | clear hK K)
    rw [← hin]; simp [wrdA]; rfl
end Go.Proofs.YtbkkjlcclddpdaaGreatDoor

/- Walks of layer 14's reference: names that are taken, lists in which a range is replaced, texts, splitting, converting. -/
namespace Go.Proofs.YtbkkjlcclddpdaaGreatDoor
open Go.RowKit Go.Lib
theorem rtaken_g (cols : List Col) (s a b : ByteArray) (hc : cols.length ≤ 1000000) : Gives Tryz.prog 52 [.sl (cols.map Col.av), .str s, .str a, .str b] (.bool (qdw cols s.toList [a.toList, b.toList])) := by
  have c1 := qem cols s hc
  unfold qdw
  refine qh Tryz.func52 Tryz.ntmps52 fun σ n0 hcl hft => ?_
  repeat' (first | ((first | ((with_reducible refine qf (fun hg => ?_) (fun hg => ?_)) <;> (try simp only [hg]) <;> (try simp only [gS] at hg) <;> (try (first | simp only [eq_false hg, gI] | simp only [eq_true hg, gI]))) | refine Stp.m ?_ | refine qi ?_ | refine agH ?_) <;> (try simp (disch := first | omega | simp) [qd, -qg, -ql])) | refine sideA ?_ | refine qc fun K hK => ?_ | refine qa ?_ | refine qe ?_ | refine qb ?_ | (refine hK _ ?_; clear hK K) | clear hK K)
  all_goals (clear c1 hcl hft; simp_all)
theorem takenB_two (cols : List Col) (s a : List UInt8) : qdw cols s [a, a] = qdw cols s [a] := by unfold qdw; simp
theorem takenB_nil (cols : List Col) (s : List UInt8) : qdw cols s [] = decide (0 ≤ findP cols s) := by unfold qdw; simp
section
variable (cols L : List Col) (f t : Nat) (hf : f ≤ cols.length) (ht : t ≤ cols.length) (hc : cols.length ≤ 1000) (hL : L.length ≤ 1000)
include hf ht hc hL
set_option maxHeartbeats 2000000 in
theorem rwith_g (R : List Col) (hR : cols.take f ++ L ++ cols.drop t = R) : Gives Tryz.prog 51 [.sl (cols.map Col.av), .int f, .int t, .sl (L.map Col.av)] (.sl (R.map Col.av)) := by
  have w1 : ∀ k, AV.wid (List.take k (cols.map Col.av)) 3 := fun k => AV.wid_take (Col.avs_wid cols) k
  have w2 : ∀ k, AV.wid (List.drop k (cols.map Col.av)) 3 := fun k => AV.wid_drop (Col.avs_wid cols) k
  have w3 : ∀ k, AV.elms (List.take k (cols.map Col.av)) := fun k y hy => Col.avs_elms cols y (List.mem_of_mem_take hy)
  have w4 : ∀ k, AV.elms (List.drop k (cols.map Col.av)) := fun k y hy => Col.avs_elms cols y (List.mem_of_mem_drop hy)
  have w5 : List.take cols.length (cols.map Col.av) = cols.map Col.av := List.take_of_length_le (by simp)
  refine qh Tryz.func51 Tryz.ntmps51 fun σ n0 hcl hft => ?_
  repeat' (first | ((first | ((with_reducible refine qf (fun hg => ?_) (fun hg => ?_)) <;> (try simp only [hg]) <;> (try simp only [gS] at hg) <;> (try (first | simp only [eq_false hg, gI] | simp only [eq_true hg, gI]))) | refine Stp.m ?_) <;> (try simp (disch := first | omega | simp) [qd, -qg, -ql, hf, ht, w1, w2, w3, w4, w5])) | refine sideA ?_ | refine qc fun K hK => ?_ | refine qa ?_ | refine qe ?_ | refine qb ?_ | (refine hK _ ?_; clear hK K) | clear hK K)
  rw [← hR]; simp
end
section
variable (row L : List Val) (f t : Nat) (hf : f ≤ row.length) (ht : t ≤ row.length) (hc : row.length ≤ 1000) (hL : L.length ≤ 1000)
include hf ht hc hL
set_option maxHeartbeats 2000000 in
theorem rput_g (R : List Val) (hR : row.take f ++ L ++ row.drop t = R) : Gives Tryz.prog 111 [.sl (row.map Val.av), .int f, .int t, .sl (L.map Val.av)] (.sl (R.map Val.av)) := by
  have w1 : ∀ k, AV.wid (List.take k (row.map Val.av)) 3 := fun k => AV.wid_take (Val.avs_wid row) k
  have w2 : ∀ k, AV.wid (List.drop k (row.map Val.av)) 3 := fun k => AV.wid_drop (Val.avs_wid row) k
  have w3 : ∀ k, AV.elms (List.take k (row.map Val.av)) := fun k y hy => Val.avs_elms row y (List.mem_of_mem_take hy)
  have w4 : ∀ k, AV.elms (List.drop k (row.map Val.av)) := fun k y hy => Val.avs_elms row y (List.mem_of_mem_drop hy)
  have w5 : List.take row.length (row.map Val.av) = row.map Val.av := List.take_of_length_le (by simp)
  refine qh Tryz.func111 Tryz.ntmps111 fun σ n0 hcl hft => ?_
  repeat' (first | ((first | ((with_reducible refine qf (fun hg => ?_) (fun hg => ?_)) <;> (try simp only [hg]) <;> (try simp only [gS] at hg) <;> (try (first | simp only [eq_false hg, gI] | simp only [eq_true hg, gI]))) | refine Stp.m ?_) <;> (try simp (disch := first | omega | simp) [qd, -qg, -ql, hf, ht, w1, w2, w3, w4, w5])) | refine sideA ?_ | refine qc fun K hK => ?_ | refine qa ?_ | refine qe ?_ | refine qb ?_ | (refine hK _ ?_; clear hK K) | clear hK K)
  rw [← hR]; simp
end
theorem rtext_g (s : ByteArray) (hs : s.size ≤ 9223372036854775807) : Gives Tryz.prog 113 [.str s] (cutV s.data.toList).av := by
  have hm : cutV s.data.toList = ⟨1, 0, s.extract 0 (min s.size 200)⟩ := by
    unfold cutV
    rw [← qgj]
    by_cases h : s.size ≤ 200
    · rw [Nat.min_eq_left h, qgj, qgj, List.take_of_length_le (by rw [Array.length_toList]; exact h), List.take_of_length_le (by rw [Array.length_toList]; exact Nat.le_refl _)]
    · rw [Nat.min_eq_right (by omega)]
  rw [hm]
  by_cases h : s.size ≤ 200
  · rw [Nat.min_eq_left h]
    have h2 : (if (200 : Int) < (s.size : Int) then (200 : Int) else (s.size : Int)) = s.size := if_neg (by omega)
    refine qh Tryz.func113 Tryz.ntmps113 fun σ n0 hcl hft => ?_
    repeat' (first | ((first | ((with_reducible refine qf (fun hg => ?_) (fun hg => ?_)) <;> (try simp only [hg]) <;> (try simp only [gS] at hg) <;> (try (first | simp only [eq_false hg, gI] | simp only [eq_true hg, gI]))) | refine Stp.m ?_) <;> (try simp (disch := first | omega | simp) [qd, -qg, -ql, h2])) | refine sideA ?_ | refine qc fun K hK => ?_ | refine qa ?_ | refine qe ?_ | refine qb ?_ | (refine hK _ ?_; clear hK K) | clear hK K)
    all_goals rfl
  · rw [Nat.min_eq_right (by omega)]
    have h2 : (if (200 : Int) < (s.size : Int) then (200 : Int) else (s.size : Int)) = 200 := if_pos (by omega)
    have h3 : 200 ≤ s.size := by omega
    refine qh Tryz.func113 Tryz.ntmps113 fun σ n0 hcl hft => ?_
    repeat' (first | ((first | ((with_reducible refine qf (fun hg => ?_) (fun hg => ?_)) <;> (try simp only [hg]) <;> (try simp only [gS] at hg) <;> (try (first | simp only [eq_false hg, gI] | simp only [eq_true hg, gI]))) | refine Stp.m ?_) <;> (try simp (disch := first | omega | simp) [qd, -qg, -ql, h2, h3])) | refine sideA ?_ | refine qc fun K hK => ?_ | refine qa ?_ | refine qe ?_ | refine qb ?_ | (refine hK _ ?_; clear hK K) | clear hK K)
    all_goals rfl
def splitL2 (s sep : List UInt8) : List Val := [(qdf s sep).1, (qdf s sep).2]
theorem occ_ext (s sep : ByteArray) (i : Nat) (h : i + sep.size ≤ s.size) : ((s.extract i (i + sep.size)).toList == sep.toList) = Lib.occAt s.data.toList sep.data.toList i := by
  rw [ext_sub s i (i + sep.size) h, qgf, ByteArray.toList_eq]
  unfold Lib.occAt
  have e : i + sep.size - i = sep.data.toList.length := by rw [qcw]; omega
  rw [e, Bool.eq_iff_iff, beq_iff_eq, List.isPrefixOf_iff_prefix, List.prefix_iff_eq_take]
  exact eq_comm
theorem occ_past (s sep : List UInt8) (i : Nat) (h : s.length < i + sep.length) (hs : sep ≠ []) : Lib.occAt s sep i = false := by
  unfold Lib.occAt
  rw [Bool.eq_false_iff]
  intro h2
  have h3 := (List.isPrefixOf_iff_prefix.1 h2).length_le
  rw [List.length_drop] at h3
  have h4 : 0 < sep.length := List.length_pos_iff.2 hs
  omega
set_option maxHeartbeats 2000000 in
theorem rsplit_g (s sep : ByteArray) (hs : s.size ≤ 1000000) (hp : sep.size ≤ 1000000) (hp0 : 1 ≤ sep.size) : Gives Tryz.prog 112 [.str s, .str sep] (.sl ((splitL2 s.data.toList sep.data.toList).map Val.av)) := by
  obtain ⟨R, hR⟩ : ∃ R, splitL2 s.data.toList sep.data.toList = R := ⟨_, rfl⟩
  rw [hR]
  unfold splitL2 qdf Lib.cut at hR
  have hne : sep.data.toList ≠ [] := fun e => by have := qcw sep; rw [e] at this; simp at this; omega
  have ct := fun t : ByteArray => rtext_g t
  refine qh Tryz.func112 Tryz.ntmps112 fun σ n0 hcl hft => ?_
  repeat' (first | ((first | ((with_reducible refine qf (fun hg => ?_) (fun hg => ?_)) <;> (try simp only [hg]) <;> (try simp only [gS] at hg) <;> (try (first | simp only [eq_false hg, gI] | simp only [eq_true hg, gI]))) | refine Stp.m ?_) <;> (try simp (disch := first | omega | simp) [qd, -qg, -ql])) | refine sideA ?_ | refine qc fun K hK => ?_ | refine qa ?_ | refine qe ?_ | refine qb ?_ | (refine hK _ ?_; clear hK K) | clear hK K)
  refine qt hcl (fun k : Nat => [(0, .str s), (1, .str sep), (5, .int k)]) (fun _ => [])
    (fun k => k ≤ s.size + 1 ∧ ∀ j, j < k → Lib.occAt s.data.toList sep.data.toList j = false) (fun k => s.size + 1 - k) 0 ⟨Nat.zero_le _, fun j h => absurd h (Nat.not_lt_zero _)⟩ (by simp) fun k ⟨hk, he⟩ => ?_
  by_cases hlt : k + sep.size ≤ s.size
  · have hlt' : (k : Int) + sep.size ≤ s.size := by omega
    have ho := occ_ext s sep k hlt
    have nn : (0 : Int) ≤ (k : Int) + sep.size := by omega
    have tn : ((k : Int) + sep.size).toNat = k + sep.size := by omega
    have hk2 : k ≤ s.size := by omega
    cases hoc : Lib.occAt s.data.toList sep.data.toList k with
    | true =>
      rw [hoc] at ho
      have hix := Lib.index_first (by rw [qcw]; exact hk2) hoc he
      have c1 := ct (s.extract 0 k) (by rw [ByteArray.size_extract]; omega)
      have c2 := ct (s.extract (k + sep.size) s.size) (by rw [ByteArray.size_extract]; omega)
      have e1 := qgj s k
      have e2 := ext_sub s (k + sep.size) s.size (Nat.le_refl _)
      rw [List.take_of_length_le (by rw [List.length_drop, qcw]; omega)] at e2
      rw [e1] at c1
      rw [e2] at c2
      rw [bA_data] at c1 c2
      rw [hix, if_pos (by omega), qcw] at hR
      have t2 : ((k : Int)).toNat = k := by omega
      rw [t2] at hR
      subst hR
      repeat' (first | ((first | ((with_reducible refine qf (fun hg => ?_) (fun hg => ?_)) <;> (try simp only [hg]) <;> (try simp only [gS] at hg) <;> (try (first | simp only [eq_false hg, gI] | simp only [eq_true hg, gI]))) | refine Stp.m ?_ | refine qi ?_ | refine agH ?_) <;> (try simp (disch := first | omega | simp) [qd, -qg, -ql, hlt', ho, nn, tn, hk2, hlt, e1, e2])) | refine sideA ?_ | refine qc fun K hK => ?_ | refine qa ?_ | refine qe ?_ | refine qb ?_ | (refine hK _ ?_; clear hK K) | clear hK K)
      all_goals rfl
    | false =>
      rw [hoc] at ho
      repeat' (first | ((first | ((with_reducible refine qf (fun hg => ?_) (fun hg => ?_)) <;> (try simp only [hg]) <;> (try simp only [gS] at hg) <;> (try (first | simp only [eq_false hg, gI] | simp only [eq_true hg, gI]))) | refine Stp.m ?_) <;> (try simp (disch := first | omega | simp) [qd, -qg, -ql, hlt', ho, nn, tn, hk2, hlt])) | refine sideA ?_ | refine qc fun K hK => ?_ | refine qa ?_ | refine qe ?_ | refine qb ?_ | (refine hK _ ?_; clear hK K) | clear hK K)
      refine ⟨k + 1, ⟨by omega, fun j h => ?_⟩, by omega, by simp⟩
      by_cases hjk : j = k
      · subst hjk; exact hoc
      · exact he j (by omega)
  · have hlt' : ¬ (k : Int) + sep.size ≤ s.size := by omega
    have hix := Lib.index_none (s := s.data.toList) (sub := sep.data.toList) (fun j hj => by
      by_cases h : j < k
      · exact he j h
      · exact occ_past _ _ _ (by rw [qcw, qcw]; omega) hne)
    rw [hix, if_neg (by omega)] at hR
    have c1 := ct s (by omega)
    have c2 := ct ⟨#[]⟩ (by decide)
    subst hR
    repeat' (first | ((first | ((with_reducible refine qf (fun hg => ?_) (fun hg => ?_)) <;> (try simp only [hg]) <;> (try simp only [gS] at hg) <;> (try (first | simp only [eq_false hg, gI] | simp only [eq_true hg, gI]))) | refine Stp.m ?_ | refine qi ?_ | refine agH ?_) <;> (try simp (disch := first | omega | simp) [qd, -qg, -ql, hlt'])) | refine sideA ?_ | refine qc fun K hK => ?_ | refine qa ?_ | refine qe ?_ | refine qb ?_ | (refine hK _ ?_; clear hK K) | clear hK K)
    all_goals rfl
set_option maxHeartbeats 4000000 in
theorem rconv_g (v : Val) (to : Int) (o : Val) (hn : i64 v.n) (hs : v.s.size ≤ 1000000) (ht : 0 ≤ to ∧ to < 3) (hb : to = 1 → v.k = 0 ∨ v.n = 0 ∨ v.n = 1) : Gives Tryz.prog 114 [v.av, .int to, o.av] (convP v to o).av := by
  have c1 := rint_g v.s hs
  have c2 := rdecimal_g v.n hn
  have c3 := rtext_g (qk (itoa v.n)) (by have := qm (itoa v.n); have := itoa_length_le v.n hn.1 hn.2; omega)
  have c4 := rtext_g (qk wTrue) (by decide)
  have c5 := rtext_g (qk qdx) (by decide)
  rw [bA_data] at c3 c4 c5
  have b1 : (v.s.toList == [102, 97, 108, 115, 101]) = decide (v.s.toList = qdx) := by rw [Bool.eq_iff_iff, beq_iff_eq, decide_eq_true_iff]; exact Iff.rfl
  have b2 : (v.s.toList == [116, 114, 117, 101]) = decide (v.s.toList = wTrue) := by rw [Bool.eq_iff_iff, beq_iff_eq, decide_eq_true_iff]; exact Iff.rfl
  obtain ⟨R, hR⟩ : ∃ R, convP v to o = R := ⟨_, rfl⟩
  rw [hR]
  unfold convP at hR
  have htc : to = 0 ∨ to = 1 ∨ to = 2 := by omega
  rcases htc with rfl | rfl | rfl
  · by_cases h2 : v.k = 2
    · simp only [h2, Int.reduceEq, reduceIte, and_self, and_false, false_and, true_and, and_true] at hR
      refine qh Tryz.func114 Tryz.ntmps114 fun σ n0 hcl hft => ?_
      repeat' (first | ((first | ((with_reducible refine qf (fun hg => ?_) (fun hg => ?_)) <;> (try simp only [hg]) <;> (try simp only [gS] at hg) <;> (try (first | simp only [eq_false hg, gI] | simp only [eq_true hg, gI]))) | refine Stp.m ?_ | refine qi ?_ | refine agH ?_) <;> (try simp (disch := first | omega | simp) [qd, -qg, -ql, h2])) | refine sideA ?_ | refine qc fun K hK => ?_ | refine qa ?_ | refine qe ?_ | refine qb ?_ | (refine hK _ ?_; clear hK K) | clear hK K)
      all_goals (subst hR; rfl)
    · simp only [h2, Int.reduceEq, reduceIte, and_self, and_false, false_and, true_and, and_true] at hR
      have d2 : (v.k == 2) = false := beq_eq_false_iff_ne.2 h2
      cases hi : intP v.s.data.toList with
      | some n =>
        rw [hi] at hR c1
        refine qh Tryz.func114 Tryz.ntmps114 fun σ n0 hcl hft => ?_
        repeat' (first | ((first | ((with_reducible refine qf (fun hg => ?_) (fun hg => ?_)) <;> (try simp only [hg]) <;> (try simp only [gS] at hg) <;> (try (first | simp only [eq_false hg, gI] | simp only [eq_true hg, gI]))) | refine Stp.m ?_ | refine qi ?_ | refine agH ?_) <;> (try simp (disch := first | omega | simp) [qd, -qg, -ql, d2])) | refine sideA ?_ | refine qc fun K hK => ?_ | refine qa ?_ | refine qe ?_ | refine qb ?_ | (refine hK _ ?_; clear hK K) | clear hK K)
        all_goals (subst hR; rfl)
      | none =>
        rw [hi] at hR c1
        refine qh Tryz.func114 Tryz.ntmps114 fun σ n0 hcl hft => ?_
        repeat' (first | ((first | ((with_reducible refine qf (fun hg => ?_) (fun hg => ?_)) <;> (try simp only [hg]) <;> (try simp only [gS] at hg) <;> (try (first | simp only [eq_false hg, gI] | simp only [eq_true hg, gI]))) | refine Stp.m ?_ | refine qi ?_ | refine agH ?_) <;> (try simp (disch := first | omega | simp) [qd, -qg, -ql, d2])) | refine sideA ?_ | refine qc fun K hK => ?_ | refine qa ?_ | refine qe ?_ | refine qb ?_ | (refine hK _ ?_; clear hK K) | clear hK K)
        all_goals (subst hR; rfl)
  · by_cases h0 : v.k = 0
    · simp only [h0, Int.reduceEq, reduceIte, and_self, and_false, false_and, true_and, and_true] at hR
      refine qh Tryz.func114 Tryz.ntmps114 fun σ n0 hcl hft => ?_
      repeat' (first | ((first | ((with_reducible refine qf (fun hg => ?_) (fun hg => ?_)) <;> (try simp only [hg]) <;> (try simp only [gS] at hg) <;> (try (first | simp only [eq_false hg, gI] | simp only [eq_true hg, gI]))) | refine Stp.m ?_ | refine qi ?_ | refine agH ?_) <;> (try simp (disch := first | omega | simp) [qd, -qg, -ql, h0])) | refine sideA ?_ | refine qc fun K hK => ?_ | refine qa ?_ | refine qe ?_ | refine qb ?_ | (refine hK _ ?_; clear hK K) | clear hK K)
      all_goals (subst hR; rfl)
    · simp only [h0, Int.reduceEq, reduceIte, and_self, and_false, false_and, true_and, and_true] at hR
      have d0 : (v.k == 0) = false := beq_eq_false_iff_ne.2 h0
      have wr1 : IntKind.i64.wrap ((1 : Int) % 2 ^ IntKind.i64.bits) = 1 := by decide
      rcases (hb rfl).resolve_left h0 with h1 | h1
      · simp only [h1, Int.reduceEq, reduceIte] at hR
        refine qh Tryz.func114 Tryz.ntmps114 fun σ n0 hcl hft => ?_
        repeat' (first | ((first | ((with_reducible refine qf (fun hg => ?_) (fun hg => ?_)) <;> (try simp only [hg]) <;> (try simp only [gS] at hg) <;> (try (first | simp only [eq_false hg, gI] | simp only [eq_true hg, gI]))) | refine Stp.m ?_ | refine qi ?_ | refine agH ?_) <;> (try simp (disch := first | omega | simp) [qd, -qg, -ql, d0, h1, wr1])) | refine sideA ?_ | refine qc fun K hK => ?_ | refine qa ?_ | refine qe ?_ | refine qb ?_ | (refine hK _ ?_; clear hK K) | clear hK K)
        all_goals (subst hR; rfl)
      · simp only [h1, Int.reduceEq, reduceIte] at hR
        refine qh Tryz.func114 Tryz.ntmps114 fun σ n0 hcl hft => ?_
        repeat' (first | ((first | ((with_reducible refine qf (fun hg => ?_) (fun hg => ?_)) <;> (try simp only [hg]) <;> (try simp only [gS] at hg) <;> (try (first | simp only [eq_false hg, gI] | simp only [eq_true hg, gI]))) | refine Stp.m ?_ | refine qi ?_ | refine agH ?_) <;> (try simp (disch := first | omega | simp) [qd, -qg, -ql, d0, h1, wr1])) | refine sideA ?_ | refine qc fun K hK => ?_ | refine qa ?_ | refine qe ?_ | refine qb ?_ | (refine hK _ ?_; clear hK K) | clear hK K)
        all_goals (subst hR; rfl)
  · by_cases h0 : v.k = 0
    · simp only [h0, Int.reduceEq, reduceIte, and_self, and_false, false_and, true_and, and_true] at hR
      by_cases hz : v.n = 0
      · refine qh Tryz.func114 Tryz.ntmps114 fun σ n0 hcl hft => ?_
        repeat' (first | ((first | ((with_reducible refine qf (fun hg => ?_) (fun hg => ?_)) <;> (try simp only [hg]) <;> (try simp only [gS] at hg) <;> (try (first | simp only [eq_false hg, gI] | simp only [eq_true hg, gI]))) | refine Stp.m ?_) <;> (try simp (disch := first | omega | simp) [qd, -qg, -ql, h0, hz])) | refine sideA ?_ | refine qc fun K hK => ?_ | refine qa ?_ | refine qe ?_ | refine qb ?_ | (refine hK _ ?_; clear hK K) | clear hK K)
        all_goals (subst hR; rw [hz]; rfl)
      · have dz : (v.n != 0) = true := by rw [bne_iff_ne]; exact hz
        refine qh Tryz.func114 Tryz.ntmps114 fun σ n0 hcl hft => ?_
        repeat' (first | ((first | ((with_reducible refine qf (fun hg => ?_) (fun hg => ?_)) <;> (try simp only [hg]) <;> (try simp only [gS] at hg) <;> (try (first | simp only [eq_false hg, gI] | simp only [eq_true hg, gI]))) | refine Stp.m ?_) <;> (try simp (disch := first | omega | simp) [qd, -qg, -ql, h0, dz])) | refine sideA ?_ | refine qc fun K hK => ?_ | refine qa ?_ | refine qe ?_ | refine qb ?_ | (refine hK _ ?_; clear hK K) | clear hK K)
        all_goals (subst hR; rw [decide_eq_true hz]; rfl)
    · simp only [h0, Int.reduceEq, reduceIte, and_self, and_false, false_and, true_and, and_true] at hR
      have d0 : (v.k == 0) = false := beq_eq_false_iff_ne.2 h0
      refine qh Tryz.func114 Tryz.ntmps114 fun σ n0 hcl hft => ?_
      repeat' (first | ((first | ((with_reducible refine qf (fun hg => ?_) (fun hg => ?_)) <;> (try simp only [hg]) <;> (try simp only [gS] at hg) <;> (try (first | simp only [eq_false hg, gI] | simp only [eq_true hg, gI]))) | refine Stp.m ?_) <;> (try simp (disch := first | omega | simp) [qd, -qg, -ql, d0])) | refine sideA ?_ | refine qc fun K hK => ?_ | refine qa ?_ | refine qe ?_ | refine qb ?_ | (refine hK _ ?_; clear hK K) | clear hK K)
      refine qt hcl (fun k : Nat => [(3, .ptr n0 0), (5, .ptr (n0 + 1) 0), (6, .ptr (n0 + 2) 0), (7, .sl [.str ⟨#[102, 97, 108, 115, 101]⟩, .str ⟨#[116, 114, 117, 101]⟩]), (10, .int k)]) (fun _ => [.cells [.int v.k, .int v.n, .str v.s] 27, .cells [.int o.k, .int o.n, .str o.s] 27, .cells [.int 0, .int 0, .str ByteArray.empty] 27])
        (fun k => k ≤ 2 ∧ (1 ≤ k → ¬ v.s.toList = qdx) ∧ (2 ≤ k → ¬ v.s.toList = wTrue)) (fun k => 2 - k) 0 ⟨by omega, fun h => by omega, fun h => by omega⟩ (by simp) fun k ⟨hk, e1, e2⟩ => ?_
      have hkc : k = 0 ∨ k = 1 ∨ k = 2 := by omega
      rcases hkc with rfl | rfl | rfl
      · by_cases hf : v.s.toList = qdx
        · have b1' := b1.trans (decide_eq_true hf)
          have hnt : ¬ qdx = wTrue := by decide
          rw [if_pos (.inr hf), hf, decide_eq_false hnt] at hR
          repeat' (first | ((first | ((with_reducible refine qf (fun hg => ?_) (fun hg => ?_)) <;> (try simp only [hg]) <;> (try simp only [gS] at hg) <;> (try (first | simp only [eq_false hg, gI] | simp only [eq_true hg, gI]))) | refine Stp.m ?_) <;> (try simp (disch := first | omega | simp) [qd, -qg, -ql, b1'])) | refine sideA ?_ | refine qc fun K hK => ?_ | refine qa ?_ | refine qe ?_ | refine qb ?_ | (refine hK _ ?_; clear hK K) | clear hK K)
          all_goals (subst hR; rfl)
        · have b1' := b1.trans (decide_eq_false hf)
          repeat' (first | ((first | ((with_reducible refine qf (fun hg => ?_) (fun hg => ?_)) <;> (try simp only [hg]) <;> (try simp only [gS] at hg) <;> (try (first | simp only [eq_false hg, gI] | simp only [eq_true hg, gI]))) | refine Stp.m ?_) <;> (try simp (disch := first | omega | simp) [qd, -qg, -ql, b1'])) | refine sideA ?_ | refine qc fun K hK => ?_ | refine qa ?_ | refine qe ?_ | refine qb ?_ | (refine hK _ ?_; clear hK K) | clear hK K)
          exact ⟨1, ⟨by omega, fun _ => hf, fun h => by omega⟩, by omega, by simp⟩
      · by_cases hf : v.s.toList = wTrue
        · have b2' := b2.trans (decide_eq_true hf)
          rw [if_pos (.inl hf), decide_eq_true hf] at hR
          repeat' (first | ((first | ((with_reducible refine qf (fun hg => ?_) (fun hg => ?_)) <;> (try simp only [hg]) <;> (try simp only [gS] at hg) <;> (try (first | simp only [eq_false hg, gI] | simp only [eq_true hg, gI]))) | refine Stp.m ?_) <;> (try simp (disch := first | omega | simp) [qd, -qg, -ql, b2'])) | refine sideA ?_ | refine qc fun K hK => ?_ | refine qa ?_ | refine qe ?_ | refine qb ?_ | (refine hK _ ?_; clear hK K) | clear hK K)
          all_goals (subst hR; rfl)
        · have b2' := b2.trans (decide_eq_false hf)
          repeat' (first | ((first | ((with_reducible refine qf (fun hg => ?_) (fun hg => ?_)) <;> (try simp only [hg]) <;> (try simp only [gS] at hg) <;> (try (first | simp only [eq_false hg, gI] | simp only [eq_true hg, gI]))) | refine Stp.m ?_) <;> (try simp (disch := first | omega | simp) [qd, -qg, -ql, b2'])) | refine sideA ?_ | refine qc fun K hK => ?_ | refine qa ?_ | refine qe ?_ | refine qb ?_ | (refine hK _ ?_; clear hK K) | clear hK K)
          exact ⟨2, ⟨by omega, fun _ => e1 (by omega), fun _ => hf⟩, by omega, by simp⟩
      · rw [if_neg (by rintro (h | h); exact e2 (by omega) h; exact e1 (by omega) h)] at hR
        subst hR
        repeat' (first | ((first | ((with_reducible refine qf (fun hg => ?_) (fun hg => ?_)) <;> (try simp only [hg]) <;> (try simp only [gS] at hg) <;> (try (first | simp only [eq_false hg, gI] | simp only [eq_true hg, gI]))) | refine Stp.m ?_) <;> (try simp (disch := first | omega | simp) [qd, -qg, -ql])) | refine sideA ?_ | refine qc fun K hK => ?_ | refine qa ?_ | refine qe ?_ | refine qb ?_ | (refine hK _ ?_; clear hK K) | clear hK K)
end Go.Proofs.YtbkkjlcclddpdaaGreatDoor

/- Layer 14 on plain data: a step that can be done, part by part. -/
namespace Go.Proofs.YtbkkjlcclddpdaaGreatDoor
open Go.RowKit Go.Lib
def nam (s : ByteArray) : Prop := ownP s.toList = true
structure At (x : Lens) (L : List Col) (i : Nat) (hi : i < L.length) : Prop where
  find : findP L x.a.toList = i
  name : L[i].name.toList = x.a.toList
inductive qeh (x : Lens) (L : List Col) : Prop
  | add (ho : x.op = 0) (ha : nam x.a) (hn : findP L x.a.toList < 0) (hl : L.length < 12) (hR : (oneP x L).1 = L ++ [⟨x.a, x.value.k, x.b⟩]) (hu : x.b.toList = [] ∨ nam x.b ∧ x.value.k = 0) (hv : qbh x.value = true)
  | drop (i : Nat) (hi : i < L.length) (ho : x.op = 1) (h : At x L i hi) (hk : L[i].type = x.value.k) (hl : 2 ≤ L.length) (hR : (oneP x L).1 = L.eraseIdx i) (hv : qbh x.value = true)
  | rename (i : Nat) (hi : i < L.length) (ho : x.op = 2) (h : At x L i hi) (hb : nam x.b) (hb2 : findP L x.b.toList < 0) (hR : (oneP x L).1 = L.set i ⟨x.b, L[i].type, L[i].unit⟩)
  | split (i : Nat) (hi : i < L.length) (ho : x.op = 3) (h : At x L i hi) (hk : L[i].type = 1) (hb : nam x.b) (hc : nam x.c) (hs : 1 ≤ x.sep.size ∧ x.sep.size ≤ 200) (hbc : x.b.toList ≠ x.c.toList) (hb2 : findP L x.b.toList < 0 ∨ x.b.toList = x.a.toList) (hc2 : findP L x.c.toList < 0 ∨ x.c.toList = x.a.toList) (hl : L.length < 12)
      (hR : (oneP x L).1 = L.take i ++ [⟨x.b, 1, ⟨#[]⟩⟩, ⟨x.c, 1, ⟨#[]⟩⟩] ++ L.drop (i + 1))
  | join (i k : Nat) (hi : i < L.length) (hk : k < L.length) (ho : x.op = 4) (h : At x L i hi) (hkf : findP L x.b.toList = k) (hkn : L[k].name.toList = x.b.toList) (hik : i ≠ k) (ti : L[i].type = 1) (tk : L[k].type = 1) (hc : nam x.c) (hs : 1 ≤ x.sep.size ∧ x.sep.size ≤ 200) (hc2 : findP L x.c.toList < 0 ∨ x.c.toList = x.a.toList ∨ x.c.toList = x.b.toList)
      (hR : (oneP x L).1 = (L.set i ⟨x.c, L[i].type, L[i].unit⟩).eraseIdx k)
  | retype (i : Nat) (hi : i < L.length) (ho : x.op = 5) (h : At x L i hi) (hn0 : 0 ≤ x.n) (hn3 : x.n < 3) (hv : qbh x.value = true) (hk : x.value.k = x.n) (ht : L[i].type ≠ x.n) (hR : (oneP x L).1 = L.set i ⟨L[i].name, x.n, ⟨#[]⟩⟩)
  | scale (i : Nat) (hi : i < L.length) (ho : x.op = 6) (h : At x L i hi) (ht : L[i].type = 0) (hn : x.n ≠ 0) (hu : x.b.toList = [] ∨ nam x.b) (hR : (oneP x L).1 = L.set i ⟨L[i].name, L[i].type, x.b⟩)
theorem takenB_no {L : List Col} {s : List UInt8} {bs : List (List UInt8)} (h : ¬ qdw L s bs = true) : findP L s < 0 ∨ s ∈ bs := by
  unfold qdw at h
  simp only [Bool.and_eq_true, decide_eq_true_eq, Bool.not_eq_true', not_and] at h
  by_cases h1 : 0 ≤ findP L s
  · exact .inr (by simpa using h h1)
  · exact .inl (by omega)
theorem optB {b : ByteArray} (h : (if !strE b then ownA b else strE b) = true) : b.toList = [] ∨ nam b := by
  by_cases hb : b.toList = []
  · exact .inl hb
  · have : strE b = false := by unfold strE; simp [hb]
    rw [this] at h
    exact .inr (by simpa [nam, ownA] using h)
theorem sepB_ok {s : ByteArray} (h : sepB s = true) : 1 ≤ s.size ∧ s.size ≤ 200 := by unfold sepB at h; simpa using h
theorem step_ok {x : Lens} {L : List Col} (h : (oneP x L).2 = 0) : qeh x L := by
  by_cases hr : qbz x = true
  · have hr' := hr
    unfold qbz at hr'
    rw [Bool.and_eq_true] at hr'
    obtain ⟨ha, hr'⟩ := hr'
    by_cases h0 : x.op = 0
    · rw [if_pos h0] at hr'
      simp only [usedB, Bool.and_eq_true, Bool.or_eq_true, Bool.true_or, Bool.false_eq_true, if_true, if_false, decide_eq_true_eq] at hr'
      obtain ⟨⟨⟨⟨⟨h1, h2⟩, h3⟩, h4⟩, h5⟩, h6⟩ := hr'
      have hR : (oneP x L).1 = _ := rfl
      unfold oneP at h
      conv at hR => rhs; unfold oneP
      rw [if_neg (by simp [hr]), if_pos h0] at h hR
      split at h
      · cases h
      · split at h
        · cases h
        · rename_i g1 g2
          rw [if_neg g1, if_neg g2] at hR
          refine .add h0 ha (by omega) (by omega) hR ?_ h5
          rcases optB h1 with h7 | h7
          · exact .inl h7
          · rcases h6 with h6 | h6
            · exact .inl (by unfold strE at h6; simpa using h6)
            · exact .inr ⟨h7, h6⟩
    · obtain ⟨i, hi1, hi, hn, hb, he, hR⟩ := oneP_ok hr h0 h
      have hat : At x L i hi := ⟨hi1, hn⟩
      have hci := qbu hi
      unfold qcx at he
      unfold nextP at hR
      rw [hci] at he hR
      rw [if_neg h0] at hr'
      rcases right_op hr with ho | ho | ho | ho | ho | ho | ho
      · exact absurd ho h0
      all_goals simp only [ho, if_pos, if_neg, reduceIte, Int.reduceEq, usedB, Bool.and_eq_true, Bool.or_eq_true, Bool.true_or, Bool.false_eq_true, if_true, if_false, decide_eq_true_eq] at hr' he hR
      · obtain ⟨⟨⟨⟨h1, h2⟩, h3⟩, h4⟩, h5⟩ := hr'
        split at he
        · cases he
        · split at he
          · cases he
          · rename_i g1 g2
            exact .drop i hi ho hat (Classical.byContradiction g1) (by omega) hR h5
      · obtain ⟨⟨⟨⟨h1, h2⟩, h3⟩, h4⟩, h5⟩ := hr'
        split at he
        · cases he
        · rename_i g
          exact .rename i hi ho hat h1 (by rcases takenB_no g with g | g; exact g; cases g) hR
      · obtain ⟨⟨⟨⟨h1, h2⟩, h3⟩, h4⟩, h5⟩ := hr'
        split at he
        · cases he
        · split at he
          · cases he
          · split at he
            · cases he
            · rename_i g1 g2 g3
              simp only [not_or] at g2
              obtain ⟨g2, g4, g5⟩ := g2
              refine .split i hi ho hat (Classical.byContradiction g1) h1 h2 (sepB_ok h3) g2 ?_ ?_ (by omega) hR
              · rcases takenB_no g4 with g | g; exact .inl g; exact .inr (by simpa using g)
              · rcases takenB_no g5 with g | g; exact .inl g; exact .inr (by simpa using g)
      · obtain ⟨⟨⟨⟨⟨h1, h2⟩, h3⟩, h4⟩, h5⟩, h6⟩ := hr'
        obtain ⟨k, hk1, hk, hkn⟩ := findI (hb ho)
        have ek : (findP L x.b.toList).toNat = k := by omega
        have hck := qbu hk
        rw [ek] at he hR
        rw [hck] at he
        split at he
        · cases he
        · split at he
          · cases he
          · rename_i g1 g2
            rw [not_or] at g1
            refine .join i k hi hk ho hat hk1 hkn (fun e => ?_) (Classical.byContradiction g1.1) (Classical.byContradiction g1.2) h2 (sepB_ok h3) ?_ hR
            · subst e; exact h6 (hn.symm.trans hkn)
            · rcases takenB_no g2 with g | g; exact .inl g; exact .inr (by simpa using g)
      · obtain ⟨⟨⟨⟨⟨h1, h2⟩, h3⟩, h4⟩, h5⟩, h6, h7, h8⟩ := hr'
        split at he
        · cases he
        · rename_i g
          exact .retype i hi ho hat h6 h7 h5 h8 g hR
      · obtain ⟨⟨⟨⟨⟨h1, h2⟩, h3⟩, h4⟩, h5⟩, h6⟩ := hr'
        split at he
        · cases he
        · rename_i g
          exact .scale i hi ho hat (Classical.byContradiction g) h6 (optB h1) hR
  · unfold oneP at h
    rw [if_pos (by simpa using hr)] at h
    cases h
theorem step_len {x : Lens} {L : List Col} (h : qeh x L) : (x.op = 0 → (oneP x L).1.length = L.length + 1) ∧ (x.op = 1 → (oneP x L).1.length + 1 = L.length) ∧ (x.op = 3 → (oneP x L).1.length = L.length + 1) ∧ (x.op = 4 → (oneP x L).1.length + 1 = L.length) ∧ (x.op = 2 ∨ x.op = 5 ∨ x.op = 6 → (oneP x L).1.length = L.length) := by
  cases h
  case add ho ha hn hl hR hu hv => rw [hR, ho]; simp
  case drop i hi ho h hk hl hR hv => rw [hR, ho, List.length_eraseIdx_of_lt hi]; simp; omega
  case rename i hi ho h hb hb2 hR => rw [hR, ho]; simp
  case split i hi ho h hk hb hc hs hbc hb2 hc2 hl hR => rw [hR, ho]; simp; omega
  case join i k hi hk ho h hkf hkn hik ti tk hc hs hc2 hR => rw [hR, ho, List.length_eraseIdx_of_lt (by rw [List.length_set]; exact hk), List.length_set]; simp; omega
  case retype i hi ho h hn0 hn3 hv hk ht hR => rw [hR, ho]; simp
  case scale i hi ho h ht hn hu hR => rw [hR, ho]; simp
end Go.Proofs.YtbkkjlcclddpdaaGreatDoor

/- Slice literals that grow. -/
namespace Go.Proofs.YtbkkjlcclddpdaaGreatDoor
open Go.RowKit Go.Lib
theorem EOp.frz {P : Program} {s : AS} {o : Op} {K : AV → AS → Prop} {r n : Nat} {l : List AV} {et : TypeId} {sz : Nat} (h : EOp P s o fun x s1 => x = .own r n ∧ n = l.length ∧ s1.st r = .vec l et sz ∧ K (.gs s1.nx l) ((s1.set r .dead).ext (some (.tail l.length et sz)))) : EOp P s o K := by
  intro X0 a w X oper ho hc Q
  refine OwpA.mono ?_ (h X0 a w X oper ho hc Q)
  rintro a' w' ⟨v, x, s1, X', e1, ⟨rfl, hn, hσ, hK⟩, hc', hr⟩
  obtain ⟨X2, hw, hc2, hF, hR⟩ := con_freeze hc' hσ
  exact ⟨v, _, _, X2, e1, hK, hc2, hR v n hn hr⟩
theorem ext_dead (s : AS) (ab cd : AB) : ((s.ext (some ab)).set s.nx .dead).ext (some cd) = (s.ext (some .dead)).ext (some cd) := by
  have h : (s.ext (some ab)).set s.nx .dead = s.ext (some .dead) := by
    unfold AS.set AS.ext AS.nx
    dsimp only
    rw [if_neg (by omega), Nat.add_sub_cancel_left]
    simp
  rw [h]
def aevZ (P : Program) (s : AS) (o : Op) (K : AV → AS → Prop) : Prop :=
  match o with
  | .buildSlice t n ⟨p :: ps⟩ => match vinfo P t with
    | some (e, sz, _) => n = (p :: ps).length ∧ n * sz ≤ 16777216 ∧ bldS sz 0 ((p :: ps).map fun p => (p.1, s.eval p.2)) ∧ AV.wid ((p :: ps).map fun p => (s.eval p.2).pub) sz ∧
        K (.gs (s.n0 + (s.L.length + 1)) ((p :: ps).map fun p => (s.eval p.2).pub)) ((s.ext (some .dead)).ext (some (.tail n e sz)))
    | none => False
  | o => aev P s o K
theorem aevZ_sound {P : Program} {s : AS} {o : Op} {K : AV → AS → Prop} (h : aevZ P s o K) : EOp P s o K := by
  unfold aevZ at h
  split at h
  · rename_i t n p ps
    split at h
    · rename_i e sz _ hv
      obtain ⟨h1, h2, h3, h4, h5⟩ := h
      have hlen : ((p :: ps).map fun p => (s.eval p.2).pub).length = n := by rw [List.length_map, h1]
      refine EOp.frz (r := s.nx) (n := n) (l := (p :: ps).map fun p => (s.eval p.2).pub) (et := e) (sz := sz) (eop_fun (nb := some _) (fop_litVec hv h1 h2 h3 h4) ⟨rfl, hlen.symm, ?_, ?_⟩)
      · show loc s.σ s.n0 (s.L ++ [_]) (s.n0 + s.L.length) = _
        rw [loc_add]; simp
      · rw [ext_dead, hlen]
        have : (s.ext (some (AB.vec ((p :: ps).map fun p => (s.eval p.2).pub) e sz))).nx = s.n0 + (s.L.length + 1) := by
          show s.n0 + (s.L ++ [_]).length = _
          simp
        rw [this]
        exact h5
    · exact h.elim
  · exact qce h
def aseqZ (P : Program) (ops : Array Oper) (K : AS → Prop) : List Oper → AS → Prop
  | [], s => K s
  | o :: l, s => match awant ops o s.t with
    | some b => qcb b (aevZ P s o.op (fun x s1 => dstOk o.dst s1.n ∧ aseqZ P ops K l (s1.put o.dst x))) (dstOk o.dst s.n ∧ aseqZ P ops K l (s.put o.dst (.v undef)))
    | none => False
theorem aseqZ_sound {P : Program} {ops : Array Oper} {K : AS → Prop} : ∀ {l : List Oper} {s : AS}, aseqZ P ops K l s → aseq P ops K l s
  | [], _, h => h
  | o :: l, s, h => by
    rw [aseqZ] at h
    rw [aseq]
    split at h
    · rename_i b hb
      cases b with
      | true => exact ⟨true, hb, (aevZ_sound (h.1 rfl)).mono fun x s1 ⟨h1, h2⟩ => ⟨h1, aseqZ_sound h2⟩⟩
      | false => exact ⟨false, hb, (h.2 rfl).1, aseqZ_sound (h.2 rfl).2⟩
    · exact h.elim
theorem awp_regionZ {P : Program} {s : AS} {id : Nat} {l : List Oper} {Q : Exit → AS → Prop} (h : aseqZ P l.toArray (Q .normal) l s) : awp P (.region id l.toArray false) Q s := qea (aseqZ_sound h)
instance {P : Program} {ops : Array Oper} {K : AS → Prop} {o : Oper} {l : List Oper} {s : AS} : Stp (aseqZ P ops K (o :: l) s) (match awant ops o s.t with
    | some b => qcb b (aevZ P s o.op (fun x s1 => dstOk o.dst s1.n ∧ aseqZ P ops K l (s1.put o.dst x))) (dstOk o.dst s.n ∧ aseqZ P ops K l (s.put o.dst (.v undef)))
    | none => False) := ⟨fun h => h⟩
instance {P : Program} {ops : Array Oper} {K : AS → Prop} {s : AS} : Stp (aseqZ P ops K [] s) (K s) := ⟨fun h => h⟩
attribute [simp] aevZ
end Go.Proofs.YtbkkjlcclddpdaaGreatDoor
