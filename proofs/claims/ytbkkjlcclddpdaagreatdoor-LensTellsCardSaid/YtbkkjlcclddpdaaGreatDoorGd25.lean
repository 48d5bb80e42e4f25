/- Walks of the reference of chapter 02: Decimal, Int. -/
import Derived.Test.YtbkkjlcclddpdaaGreatDoorGd12
import Derived.Test.YtbkkjlcclddpdaaGreatDoorGd18
import Derived.Test.YtbkkjlcclddpdaaGreatDoorGd19
set_option linter.unusedSimpArgs false
set_option linter.unusedVariables false
namespace Go.Proofs.YtbkkjlcclddpdaaGreatDoor
open Go.RowKit Go.Lib
theorem qge (x y : List UInt8) : qk (x ++ y) = qk x ++ qk y := (ba_eq (by simp)).symm
theorem itoa_small {n : Int} (h0 : 0 ≤ n) (h : n < 10) : itoa n = [UInt8.ofNat (48 + n.toNat)] := by
  unfold itoa
  rw [if_neg (by omega), qcn (by omega)]
theorem itoa_big {n : Int} (h : 10 ≤ n) : itoa n = itoa (n / 10) ++ itoa (n % 10) := by
  rw [itoa_small (n := n % 10) (by omega) (by omega)]
  unfold itoa
  rw [if_neg (by omega), if_neg (by omega), qda (by omega)]
  have e1 : n.toNat / 10 = (n / 10).toNat := by omega
  have e2 : n.toNat % 10 = (n % 10).toNat := by omega
  rw [e1, e2]
theorem itoa_neg {n : Int} (h : n < 0) : itoa n = 45 :: itoa (-n) := by
  unfold itoa
  rw [if_pos h, if_neg (by omega)]
  congr 2
  omega
theorem neg_lem (m : Int) (h : 0 ≤ m) : (-m).tdiv 10 = -(m / 10) ∧ (-m).tmod 10 = -(m % 10) := by
  rw [Int.neg_tdiv, Int.neg_tmod, Int.tdiv_eq_ediv_of_nonneg h, Int.tmod_eq_emod_of_nonneg h]; exact ⟨rfl, rfl⟩
theorem tdiv10 (n : Int) : n.tdiv 10 = if 0 ≤ n then n / 10 else -((-n) / 10) := by
  split
  · rw [Int.tdiv_eq_ediv_of_nonneg ‹_›]
  · have h := (neg_lem (-n) (by omega)).1
    rwa [Int.neg_neg] at h
theorem tmod10 (n : Int) : n.tmod 10 = if 0 ≤ n then n % 10 else -((-n) % 10) := by
  split
  · rw [Int.tmod_eq_emod_of_nonneg ‹_›]
  · have h := (neg_lem (-n) (by omega)).2
    rwa [Int.neg_neg] at h
theorem rdec_digit {n : Int} (h0 : 0 ≤ n) (h1 : n < 10) : Gives Tryz.prog 87 [.int n] (.str (qk (itoa n))) := by
  have hw : IntKind.u8.wrap (48 + n) = 48 + n := wrap_u8 (by omega) (by omega)
  have e : qk (itoa n) = ⟨#[UInt8.ofNat (48 + n).toNat]⟩ := by
    have e : (48 + n).toNat = 48 + n.toNat := by omega
    rw [itoa_small h0 h1, e]; rfl
  rw [e]
  refine qh Tryz.func87 Tryz.ntmps87 fun σ n0 hcl hft => ?_
  repeat' (first | ((first | ((with_reducible refine qf (fun hg => ?_) (fun hg => ?_)) <;> (try simp only [hg]) <;> (try simp only [gS] at hg) <;> (try (first | simp only [eq_false hg, gI] | simp only [eq_true hg, gI]))) | refine Stp.m ?_) <;> (try simp (disch := first | omega | simp) [qd, -qg, -ql, h0, h1, hw])) | refine sideA ?_ | refine qc fun K hK => ?_ | refine qa ?_ | refine qe ?_ | refine qb ?_ | (refine hK _ ?_; clear hK K) | clear hK K)
set_option maxHeartbeats 2000000 in
theorem rdecimal_k : ∀ (k : Nat) (n : Int), n.natAbs < k → i64 n → Gives Tryz.prog 87 [.int n] (.str (qk (itoa n))) := fun k => by
  induction k with
  | zero => intro n h; omega
  | succ k ih =>
    intro n hk hn
    have hn' := hn
    obtain ⟨hn1, hn2⟩ := hn
    have td := tdiv10 n
    have tm := tmod10 n
    by_cases h0 : 0 ≤ n
    · rw [if_pos h0] at td tm
      by_cases h1 : n < 10
      · exact rdec_digit h0 h1
      · have hq : IntKind.i64.wrap (n.tdiv 10) = n / 10 := by rw [td, qd (by omega) (by omega)]
        have c1 := ih (n / 10) (by omega) ⟨by omega, by omega⟩
        have c2 := ih (n % 10) (by omega) ⟨by omega, by omega⟩
        have l1 := (itoa_len (v := n / 10) ⟨by omega, by omega⟩).1
        have l2 := (itoa_len (v := n % 10) ⟨by omega, by omega⟩).1
        have z1 : (itoa (n / 10)).length + (itoa (n % 10)).length ≤ 9223372036854775807 := by omega
        have hp : 0 < n := by omega
        rw [itoa_big (by omega), qge]
        refine qh Tryz.func87 Tryz.ntmps87 fun σ n0 hcl hft => ?_
        repeat' (first | ((first | ((with_reducible refine qf (fun hg => ?_) (fun hg => ?_)) <;> (try simp only [hg]) <;> (try simp only [gS] at hg) <;> (try (first | simp only [eq_false hg, gI] | simp only [eq_true hg, gI]))) | refine Stp.m ?_ | refine qi ?_ | refine agH ?_) <;> (try simp (disch := first | omega | simp) [qd, -qg, -ql, h0, h1, hp, hq, tm, z1, qm])) | refine sideA ?_ | refine qc fun K hK => ?_ | refine qa ?_ | refine qe ?_ | refine qb ?_ | (refine hK _ ?_; clear hK K) | clear hK K)
    · rw [if_neg h0] at td tm
      have hp : ¬ 0 < n := by omega
      by_cases h1 : -10 < n
      · have c1 := rdec_digit (n := -n) (by omega) (by omega)
        have l1 := (itoa_len (v := -n) ⟨by omega, by omega⟩).1
        have z1 : (itoa (-n)).length + 1 ≤ 9223372036854775807 := by omega
        have z2 : 1 + (itoa (-n)).length ≤ 9223372036854775807 := by omega
        have e : qk (itoa n) = ⟨#[45]⟩ ++ qk (itoa (-n)) := by
          rw [itoa_neg (by omega)]
          show qk ([45] ++ itoa (-n)) = _
          rw [qge]; rfl
        rw [e]
        refine qh Tryz.func87 Tryz.ntmps87 fun σ n0 hcl hft => ?_
        repeat' (first | ((first | ((with_reducible refine qf (fun hg => ?_) (fun hg => ?_)) <;> (try simp only [hg]) <;> (try simp only [gS] at hg) <;> (try (first | simp only [eq_false hg, gI] | simp only [eq_true hg, gI]))) | refine Stp.m ?_ | refine qi ?_ | refine agH ?_) <;> (try simp (disch := first | omega | simp) [qd, -qg, -ql, h0, hp, h1, z1, z2, qm])) | refine sideA ?_ | refine qc fun K hK => ?_ | refine qa ?_ | refine qe ?_ | refine qb ?_ | (refine hK _ ?_; clear hK K) | clear hK K)
      · have hq : IntKind.i64.wrap (n.tdiv 10) = -((-n) / 10) := by rw [td, qd (by omega) (by omega)]
        have hr : IntKind.i64.wrap ((-n) % 10) = (-n) % 10 := qd (by omega) (by omega)
        have c1 := ih (-((-n) / 10)) (by omega) ⟨by omega, by omega⟩
        have c2 := rdec_digit (n := (-n) % 10) (by omega) (by omega)
        have l1 := (itoa_len (v := -((-n) / 10)) ⟨by omega, by omega⟩).1
        have l2 := (itoa_len (v := (-n) % 10) ⟨by omega, by omega⟩).1
        have z1 : (itoa (-((-n) / 10))).length + (itoa ((-n) % 10)).length ≤ 9223372036854775807 := by omega
        have e : qk (itoa n) = qk (itoa (-((-n) / 10))) ++ qk (itoa ((-n) % 10)) := by
          rw [← qge, itoa_neg (by omega), itoa_big (n := -n) (by omega), itoa_neg (n := -((-n) / 10)) (by omega), Int.neg_neg]; rfl
        rw [e]
        refine qh Tryz.func87 Tryz.ntmps87 fun σ n0 hcl hft => ?_
        repeat' (first | ((first | ((with_reducible refine qf (fun hg => ?_) (fun hg => ?_)) <;> (try simp only [hg]) <;> (try simp only [gS] at hg) <;> (try (first | simp only [eq_false hg, gI] | simp only [eq_true hg, gI]))) | refine Stp.m ?_ | refine qi ?_ | refine agH ?_) <;> (try simp (disch := first | omega | simp) [qd, -qg, -ql, h0, hp, h1, hq, tm, hr, z1, qm])) | refine sideA ?_ | refine qc fun K hK => ?_ | refine qa ?_ | refine qe ?_ | refine qb ?_ | (refine hK _ ?_; clear hK K) | clear hK K)
theorem rdecimal_g (n : Int) (h : i64 n) : Gives Tryz.prog 87 [.int n] (.str (qk (itoa n))) := rdecimal_k _ n (Nat.lt_succ_self _) h
set_option maxHeartbeats 2000000 in
theorem rint_g (s : ByteArray) (hs : s.size ≤ 1000000) : Gives Tryz.prog 93 [.str s] (.tup [.int ((intP s.data.toList).getD 0), .bool (intP s.data.toList).isSome]) := by
  rw [← rint_eq]
  obtain ⟨l, hl⟩ : ∃ l, l = s.data.toList := ⟨_, rfl⟩
  have hsz : l.length = s.size := by rw [hl, ← Lib.size_eq]
  obtain ⟨R, hR⟩ : ∃ R, R = rintP l := ⟨_, rfl⟩
  rw [← hl, ← hR]
  by_cases h0 : s.size = 0
  · have : l = [] := List.eq_nil_of_length_eq_zero (by omega)
    have hR0 : R = none := by rw [hR, this]; rfl
    subst hR0
    refine qh Tryz.func93 Tryz.ntmps93 fun σ n0 hcl hft => ?_
    repeat' (first | ((first | ((with_reducible refine qf (fun hg => ?_) (fun hg => ?_)) <;> (try simp only [hg]) <;> (try simp only [gS] at hg) <;> (try (first | simp only [eq_false hg, gI] | simp only [eq_true hg, gI]))) | refine Stp.m ?_) <;> (try simp (disch := first | omega | simp) [qd, -qg, -ql, h0])) | refine sideA ?_ | refine qc fun K hK => ?_ | refine qa ?_ | refine qe ?_ | refine qb ?_ | (refine hK _ ?_; clear hK K) | clear hK K)
    all_goals exact ⟨rfl, rfl⟩
  · by_cases h20 : 20 < s.size
    · have hR0 : R = none := by rw [hR]; unfold rintP; rw [if_pos (.inr (by omega))]
      subst hR0
      have h20' : (20 : Int) < s.size := by omega
      refine qh Tryz.func93 Tryz.ntmps93 fun σ n0 hcl hft => ?_
      repeat' (first | ((first | ((with_reducible refine qf (fun hg => ?_) (fun hg => ?_)) <;> (try simp only [hg]) <;> (try simp only [gS] at hg) <;> (try (first | simp only [eq_false hg, gI] | simp only [eq_true hg, gI]))) | refine Stp.m ?_) <;> (try simp (disch := first | omega | simp) [qd, -qg, -ql, h0, h20'])) | refine sideA ?_ | refine qc fun K hK => ?_ | refine qa ?_ | refine qe ?_ | refine qb ?_ | (refine hK _ ?_; clear hK K) | clear hK K)
      all_goals exact ⟨rfl, rfl⟩
    · have h20' : ¬ (20 : Int) < s.size := by omega
      have h0' : ¬ (s.size : Int) = 0 := by omega
      have hb0 : ((s.size : Int) == 0) = false := by simpa using h0
      have hpos : 0 < s.size := by omega
      have hpos' : 0 < s.data.size := hpos
      obtain ⟨c0, r0, hc0⟩ : ∃ c r, l = c :: r := by
        cases hl2 : l with
        | nil => rw [hl2] at hsz; simp at hsz; omega
        | cons c r => exact ⟨c, r, rfl⟩
      have hg0 : s.data[0] = c0 := by
        have : s.data.toList[0]'(by rw [← hl]; omega) = c0 := by simp only [← hl, hc0]; rfl
        rw [← this, Array.getElem_toList]
      have hRv : R = match rfold (rbody l) 0 with
          | none => none
          | some n => if itoa (if l.head? = some 45 then n else IntKind.i64.wrap (-n)) = l then some (if l.head? = some 45 then n else IntKind.i64.wrap (-n)) else none := by
        rw [hR]; unfold rintP; rw [if_neg (by rintro (h | h); rw [h] at hc0; cases hc0; omega)]; rfl
      have nn : ∀ a k : UInt8, a ≠ k → ¬ (a.toNat : Int) = k.toNat := fun a k h h2 => h (UInt8.toNat_inj.1 (by omega))
      have hrb : c0 ≠ 45 → rbody l = l := fun h => by unfold rbody; rw [hc0, if_neg]; simpa using h
      have hrb2 : c0 = 45 → rbody l = l.drop 1 := fun h => by unfold rbody; rw [hc0, h]; rfl
      refine qh Tryz.func93 Tryz.ntmps93 fun σ n0 hcl hft => ?_
      repeat' (first | ((first | ((with_reducible refine qf (fun hg => ?_) (fun hg => ?_)) <;> (try simp only [hg]) <;> (try simp only [gS] at hg) <;> (try (first | simp only [eq_false hg, gI] | simp only [eq_true hg, gI]))) | refine Stp.m ?_) <;> (try simp (disch := first | omega | simp) [qd, -qg, -ql, h0, h0', hb0, h20'])) | refine sideA ?_ | refine qc fun K hK => ?_ | refine qa ?_ | refine qe ?_ | refine qb ?_ | (refine hK _ ?_; clear hK K) | clear hK K)
      any_goals (first | exact absurd (by assumption) h0' | skip)
      refine qt hcl (fun x : Nat × Int => [(0, .str s), (4, .int x.2), (5, .int x.1)]) (fun _ => []) (fun x => x.1 ≤ s.size ∧ rfold (if x.1 = 0 then rbody l else l.drop x.1) x.2 = rfold (rbody l) 0 ∧ i64 x.2) (fun x => s.size - x.1) (0, 0) ⟨Nat.zero_le _, rfl, by unfold i64; omega⟩ (by simp) fun ⟨i, n⟩ ⟨hi, hf, hn6⟩ => ?_
      dsimp only at hi hf hn6 ⊢
      by_cases hlt : i < s.size
      · have hlt3 : i < s.data.size := hlt
        have hgi : l[i]'(by omega) = s.data[i] := by simp only [hl]; rw [Array.getElem_toList]
        have hd : l.drop i = s.data[i] :: l.drop (i + 1) := by rw [List.drop_eq_getElem_cons (by omega), hgi]
        by_cases hm : i = 0 ∧ c0 = 45
        · obtain ⟨rfl, h45⟩ := hm
          have g45 : s.data[0].toNat = 45 := by rw [hg0, h45]; rfl
          repeat' (first | ((first | ((with_reducible refine qf (fun hg => ?_) (fun hg => ?_)) <;> (try simp only [hg]) <;> (try simp only [gS] at hg) <;> (try (first | simp only [eq_false hg, gI] | simp only [eq_true hg, gI]))) | refine Stp.m ?_) <;> (try simp (disch := first | omega | simp) [qd, -qg, -ql, hlt, hlt3, hpos, hpos', g45])) | refine sideA ?_ | refine qc fun K hK => ?_ | refine qa ?_ | refine qe ?_ | refine qb ?_ | (refine hK _ ?_; clear hK K) | clear hK K)
          all_goals exact ⟨1, n, ⟨by omega, by
            rw [if_neg (by decide), ← hrb2 h45]
            rw [if_pos rfl] at hf
            exact hf, hn6⟩, by omega, rfl, rfl⟩
        · have hf2 : rfold (s.data[i] :: l.drop (i + 1)) n = rfold (rbody l) 0 := by
            rw [← hd, ← hf]
            by_cases hi0 : i = 0
            · subst hi0
              rw [if_pos rfl, hrb fun h => hm ⟨rfl, h⟩, List.drop_zero]
            · rw [if_neg hi0]
          have hc8 := s.data[i].toNat_lt
          have g45 : ¬ ((i : Int) = 0 ∧ (s.data[0].toNat : Int) = 45) := by
            rintro ⟨h1, h2⟩
            refine hm ⟨by omega, UInt8.toNat_inj.1 ?_⟩
            rw [← hg0]
            have e : (45 : UInt8).toNat = 45 := rfl
            omega
          rw [rfold] at hf2
          by_cases hbad : s.data[i].toNat < 48 ∨ 57 < s.data[i].toNat
          · rw [if_pos hbad] at hf2
            have hR0 : R = none := by rw [hRv, ← hf2]
            by_cases hi0 : i = 0
            · subst hi0
              have g45' : ¬ (s.data[0].toNat : Int) = 45 := fun h => g45 ⟨rfl, h⟩
              repeat' (first | ((first | ((with_reducible refine qf (fun hg => ?_) (fun hg => ?_)) <;> (try simp only [hg]) <;> (try simp only [gS] at hg) <;> (try (first | simp only [eq_false hg, gI] | simp only [eq_true hg, gI]))) | refine Stp.m ?_) <;> (try simp (disch := first | omega | simp) [qd, -qg, -ql, hlt, hlt3, hpos, hpos', g45'])) | refine sideA ?_ | refine qc fun K hK => ?_ | refine qa ?_ | refine qe ?_ | refine qb ?_ | (refine hK _ ?_; clear hK K) | clear hK K)
              all_goals first | exact absurd (by assumption) g45' | (exfalso; omega) | (rw [hR0]; exact ⟨rfl, rfl⟩)
            · have hi0' : ¬ (i : Int) = 0 := by omega
              repeat' (first | ((first | ((with_reducible refine qf (fun hg => ?_) (fun hg => ?_)) <;> (try simp only [hg]) <;> (try simp only [gS] at hg) <;> (try (first | simp only [eq_false hg, gI] | simp only [eq_true hg, gI]))) | refine Stp.m ?_) <;> (try simp (disch := first | omega | simp) [qd, -qg, -ql, hlt, hlt3, hpos, hpos', hi0'])) | refine sideA ?_ | refine qc fun K hK => ?_ | refine qa ?_ | refine qe ?_ | refine qb ?_ | (refine hK _ ?_; clear hK K) | clear hK K)
              all_goals first | exact absurd (by assumption) hi0' | (exfalso; omega) | (rw [hR0]; exact ⟨rfl, rfl⟩)
          · rw [if_neg hbad] at hf2
            have b1 : ¬ (s.data[i].toNat : Int) < 48 := by omega
            have b2 : ¬ (57 : Int) < s.data[i].toNat := by omega
            have w1 : IntKind.u8.wrap ((s.data[i].toNat : Int) - 48) = (s.data[i].toNat : Int) - 48 := wrap_u8 (by omega) (by omega)
            have e1 : ((s.data[i].toNat - 48 : Nat) : Int) = (s.data[i].toNat : Int) - 48 := by omega
            rw [e1] at hf2
            by_cases hi0 : i = 0
            · subst hi0
              have g45' : ¬ (s.data[0].toNat : Int) = 45 := fun h => g45 ⟨rfl, h⟩
              repeat' (first | ((first | ((with_reducible refine qf (fun hg => ?_) (fun hg => ?_)) <;> (try simp only [hg]) <;> (try simp only [gS] at hg) <;> (try (first | simp only [eq_false hg, gI] | simp only [eq_true hg, gI]))) | refine Stp.m ?_) <;> (try simp (disch := first | omega | simp) [qd, -qg, -ql, hlt, hlt3, hpos, hpos', g45', b1, b2, w1])) | refine sideA ?_ | refine qc fun K hK => ?_ | refine qa ?_ | refine qe ?_ | refine qb ?_ | (refine hK _ ?_; clear hK K) | clear hK K)
              all_goals first | exact absurd (by assumption) g45' | (exfalso; omega) | exact ⟨1, _, ⟨by omega, by rw [if_neg (by decide)]; exact hf2, qfz _⟩, by omega, rfl, rfl⟩
            · have hi0' : ¬ (i : Int) = 0 := by omega
              repeat' (first | ((first | ((with_reducible refine qf (fun hg => ?_) (fun hg => ?_)) <;> (try simp only [hg]) <;> (try simp only [gS] at hg) <;> (try (first | simp only [eq_false hg, gI] | simp only [eq_true hg, gI]))) | refine Stp.m ?_) <;> (try simp (disch := first | omega | simp) [qd, -qg, -ql, hlt, hlt3, hpos, hpos', hi0', b1, b2, w1])) | refine sideA ?_ | refine qc fun K hK => ?_ | refine qa ?_ | refine qe ?_ | refine qb ?_ | (refine hK _ ?_; clear hK K) | clear hK K)
              all_goals first | exact absurd (by assumption) hi0' | (exfalso; omega) | exact ⟨i + 1, _, ⟨by omega, by rw [if_neg (by omega)]; exact hf2, qfz _⟩, by omega, rfl, by omega⟩
      · obtain rfl : i = s.size := by omega
        have hi0 : ¬ s.size = 0 := h0
        rw [if_neg hi0, List.drop_of_length_le (by omega), rfold] at hf
        rw [← hf] at hRv
        dsimp only at hRv
        have key : ∀ v : Int, R = (if itoa v = l then some v else none) → (itoa v = s.toList → R = some v) ∧ (¬ itoa v = s.toList → R = none) := fun v h => by
          rw [ByteArray.toList_eq, ← hl]
          exact ⟨fun e => by rw [h, if_pos e], fun e => by rw [h, if_neg e]⟩
        by_cases h45 : c0 = 45
        · have g45 : s.data[0].toNat = 45 := by rw [hg0, h45]; rfl
          have hh : l.head? = some 45 := by rw [hc0, h45]; rfl
          rw [if_pos hh] at hRv
          have c1 := rdecimal_g n hn6
          obtain ⟨k1, k2⟩ := key n hRv
          by_cases he : itoa n = s.toList
          · have hR1 := k1 he
            repeat' (first | ((first | ((with_reducible refine qf (fun hg => ?_) (fun hg => ?_)) <;> (try simp only [hg]) <;> (try simp only [gS] at hg) <;> (try (first | simp only [eq_false hg, gI] | simp only [eq_true hg, gI]))) | refine Stp.m ?_ | refine qi ?_ | refine agH ?_) <;> (try simp (disch := first | omega | simp) [qd, -qg, -ql, hlt, hpos, hpos', g45, he])) | refine sideA ?_ | refine qc fun K hK => ?_ | refine qa ?_ | refine qe ?_ | refine qb ?_ | (refine hK _ ?_; clear hK K) | clear hK K)
            all_goals (rw [hR1]; exact ⟨rfl, rfl⟩)
          · have hR1 := k2 he
            have he2 : (itoa n == s.toList) = false := by simpa using he
            repeat' (first | ((first | ((with_reducible refine qf (fun hg => ?_) (fun hg => ?_)) <;> (try simp only [hg]) <;> (try simp only [gS] at hg) <;> (try (first | simp only [eq_false hg, gI] | simp only [eq_true hg, gI]))) | refine Stp.m ?_ | refine qi ?_ | refine agH ?_) <;> (try simp (disch := first | omega | simp) [qd, -qg, -ql, hlt, hpos, hpos', g45, he, he2])) | refine sideA ?_ | refine qc fun K hK => ?_ | refine qa ?_ | refine qe ?_ | refine qb ?_ | (refine hK _ ?_; clear hK K) | clear hK K)
            all_goals first | exact absurd (by assumption) he | (rw [hR1]; exact ⟨rfl, rfl⟩)
        · have g45 : ¬ (s.data[0].toNat : Int) = 45 := fun h => h45 (by rw [← hg0]; exact UInt8.toNat_inj.1 (by have e : (45 : UInt8).toNat = 45 := rfl; omega))
          have hh : ¬ l.head? = some 45 := by rw [hc0]; simpa using h45
          rw [if_neg hh] at hRv
          have c1 := rdecimal_g (IntKind.i64.wrap (-n)) (qfz _)
          obtain ⟨k1, k2⟩ := key _ hRv
          by_cases he : itoa (IntKind.i64.wrap (-n)) = s.toList
          · have hR1 := k1 he
            repeat' (first | ((first | ((with_reducible refine qf (fun hg => ?_) (fun hg => ?_)) <;> (try simp only [hg]) <;> (try simp only [gS] at hg) <;> (try (first | simp only [eq_false hg, gI] | simp only [eq_true hg, gI]))) | refine Stp.m ?_ | refine qi ?_ | refine agH ?_) <;> (try simp (disch := first | omega | simp) [qd, -qg, -ql, hlt, hpos, hpos', g45, he])) | refine sideA ?_ | refine qc fun K hK => ?_ | refine qa ?_ | refine qe ?_ | refine qb ?_ | (refine hK _ ?_; clear hK K) | clear hK K)
            all_goals first | exact absurd (by assumption) g45 | (rw [hR1]; exact ⟨rfl, rfl⟩)
          · have hR1 := k2 he
            have he2 : (itoa (IntKind.i64.wrap (-n)) == s.toList) = false := by simpa using he
            repeat' (first | ((first | ((with_reducible refine qf (fun hg => ?_) (fun hg => ?_)) <;> (try simp only [hg]) <;> (try simp only [gS] at hg) <;> (try (first | simp only [eq_false hg, gI] | simp only [eq_true hg, gI]))) | refine Stp.m ?_ | refine qi ?_ | refine agH ?_) <;> (try simp (disch := first | omega | simp) [qd, -qg, -ql, hlt, hpos, hpos', g45, he, he2])) | refine sideA ?_ | refine qc fun K hK => ?_ | refine qa ?_ | refine qe ?_ | refine qb ?_ | (refine hK _ ?_; clear hK K) | clear hK K)
            all_goals first | exact absurd (by assumption) g45 | exact absurd (by assumption) he | (rw [hR1]; exact ⟨rfl, rfl⟩)
end Go.Proofs.YtbkkjlcclddpdaaGreatDoor
