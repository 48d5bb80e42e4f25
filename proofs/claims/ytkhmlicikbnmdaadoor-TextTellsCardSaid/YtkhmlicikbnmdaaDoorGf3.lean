/- Walks of the reference of chapter 02: Parts, Magic, Plain. -/
import Derived.Test.YtkhmlicikbnmdaaDoorGa24
import Derived.Test.YtkhmlicikbnmdaaDoorGf2
set_option linter.unusedSimpArgs false
set_option linter.unusedVariables false
namespace Go.Proofs.YtkhmlicikbnmdaaDoor
open Go.RowKit Go.Lib

def rpF : Nat → List UInt8 → List (Pt × List UInt8)
  | 0, _ => []
  | n + 1, p => if p = [] then [] else ((head p).1, p.take (head p).2) :: rpF n (p.drop (head p).2)
def rpP (p : List UInt8) : List (Pt × List UInt8) := rpF p.length p
theorem rpF_any : ∀ {n m : Nat} {p : List UInt8}, p.length ≤ n → p.length ≤ m → rpF n p = rpF m p
  | 0, 0, _, _, _ => rfl
  | 0, m + 1, p, h, _ => by
    have : p = [] := List.eq_nil_of_length_eq_zero (by omega)
    subst this; rfl
  | n + 1, 0, p, _, h => by
    have : p = [] := List.eq_nil_of_length_eq_zero (by omega)
    subst this; rfl
  | n + 1, m + 1, p, h1, h2 => by
    unfold rpF
    by_cases hp : p = []
    · rw [if_pos hp, if_pos hp]
    · rw [if_neg hp, if_neg hp]
      have := head_len hp
      rw [rpF_any (n := n) (m := m) (by rw [List.length_drop]; omega) (by rw [List.length_drop]; omega)]
theorem rpP_nil : rpP [] = [] := rfl
theorem rpP_cons {p : List UInt8} (h : p ≠ []) : rpP p = ((head p).1, p.take (head p).2) :: rpP (p.drop (head p).2) := by
  have hl := head_len h
  unfold rpP
  obtain ⟨n, hn⟩ : ∃ n, p.length = n + 1 := ⟨p.length - 1, by omega⟩
  rw [hn, rpF, if_neg h, rpF_any (n := n) (m := (p.drop (head p).2).length) (by rw [List.length_drop]; omega) (Nat.le_refl _)]
theorem rp_at {l : List UInt8} {i : Nat} (hi : i < l.length) : rpP (l.drop i) = ((head (l.drop i)).1, (l.drop i).take (head (l.drop i)).2) :: rpP (l.drop (i + (head (l.drop i)).2)) := by
  rw [rpP_cons (drop_ne hi), List.drop_drop]
theorem rpF_len : ∀ (n : Nat) (p : List UInt8), (rpF n p).length ≤ p.length
  | 0, _ => Nat.zero_le _
  | n + 1, p => by
    unfold rpF
    split
    · exact Nat.zero_le _
    · rename_i h
      have h2 := head_len h
      have h3 := rpF_len n (p.drop (head p).2)
      rw [List.length_drop] at h3
      rw [List.length_cons]; omega
theorem rp_parts : ∀ (n : Nat) (p : List UInt8), p.length ≤ n → (rpP p).map (·.1) = partsP p := fun n => by
  induction n with
  | zero =>
    intro p h
    have : p = [] := List.eq_nil_of_length_eq_zero (by omega)
    subst this; rfl
  | succ n ih =>
    intro p h
    by_cases hp : p = []
    · subst hp; rfl
    · have hl := head_len hp
      rw [rpP_cons hp, partsP_cons hp, List.map_cons, ih _ (by rw [List.length_drop]; omega)]
abbrev rps (L : List (Pt × List UInt8)) : List AV := L.map partAv
theorem partAv_width (x : Pt × List UInt8) : (partAv x).width = 5 := by
  obtain ⟨x, t⟩ := x
  cases x <;> rfl
@[simp] theorem rps_cls (L : List (Pt × List UInt8)) (n : Nat) : AV.cls n (L.map partAv) := AV.cls_map (fun x => by obtain ⟨x, t⟩ := x; cases x <;> simp [partAv]) L
@[simp] theorem rps_wid (L : List (Pt × List UInt8)) : AV.wid (L.map partAv) 5 := AV.wid_map (f := partAv) partAv_width L
@[simp] theorem rps_elms (L : List (Pt × List UInt8)) : AV.elms (L.map partAv) := AV.elms_map (f := partAv) (fun x => by obtain ⟨x, t⟩ := x; cases x <;> rfl) L
set_option maxHeartbeats 4000000 in
theorem rparts_g (s : ByteArray) (hs : s.size ≤ 1000000) : Gives Tryd.prog 63 [.str s] (.sl (rps (rpP s.data.toList))) := by
  obtain ⟨R, hR⟩ : ∃ R, R = rpP s.data.toList := ⟨_, rfl⟩
  have hss : s.data.toList.length = s.size := by rw [← Lib.size_eq]
  have hRl : R.length ≤ s.size := by rw [hR, ← hss]; exact rpF_len _ _
  rw [← hR]
  have e92 : (92 : UInt8).toNat = 92 := rfl
  have e42 : (42 : UInt8).toNat = 42 := rfl
  have e63 : (63 : UInt8).toNat = 63 := rfl
  have e91 : (91 : UInt8).toNat = 91 := rfl
  have nn : ∀ a k : UInt8, a ≠ k → ¬ (a.toNat : Int) = k.toNat := fun a k h h2 => h (UInt8.toNat_inj.1 (by omega))
  refine gives_of_awp Tryd.func63 Tryd.ntmps63 rfl rfl (by decide) rfl (by intro n; simp) fun σ n0 hcl hft => ?_
  repeat' (first | ((first | ((with_reducible refine aguard (fun hg => ?_) (fun hg => ?_)) <;> (try simp only [hg]) <;> (try simp only [beq_iff_eq, beq_eq_false_iff_ne, ne_eq, decide_eq_true_eq, decide_eq_false_iff_not, bne_iff_ne, bne_eq_false_iff_eq] at hg) <;> (try (first | simp only [eq_false hg, if_true, if_false] | simp only [eq_true hg, if_true, if_false]))) | with_reducible refine aseq_step ?_ | with_reducible refine any_step' ?_ | with_reducible refine aseq_end ?_ | with_reducible refine any_end' ?_ | refine awp_condC ?_ | refine awp_exit ?_ | refine awp_skip ?_ | refine awp_ret ?_) <;> (try simp (disch := first | omega | simp) [wrap_i64, -aseqC, -anyC])) | ((first | with_reducible refine sideG ?_ ?_ | with_reducible refine sideG2 ?_ ?_ | with_reducible refine sideS ?_ ?_ | with_reducible refine sideS2 ?_ ?_ | with_reducible refine sideS3 ?_ ?_ | with_reducible refine sideA ?_ ?_ | with_reducible refine sideA2 ?_ ?_ | with_reducible refine sideA3 ?_ ?_); (first | omega | assumption | (simp; done))) | (refine awp_seq_k fun K hK => ?_) | (refine awp_regionC ?_) | (refine awp_anyA true (by kernel_rfl) (by kernel_rfl) ?_) | (refine hK _ ?_; clear hK; clear K) | (clear hK; clear K; refine hK _ ?_; clear hK; clear K) | (clear hK; clear K; clear hK; clear K; refine hK _ ?_; clear hK; clear K) | refine awp_block ?_)
  refine awp_adoptR 3 84 5 (by simp) ?_
  refine awp_loopC hcl (fun x : List (Pt × List UInt8) × Nat => [(0, .str s), (3, .gs n0 (rps x.1)), (4, .int x.2)]) (fun x => [.tail x.1.length 84 5])
    (fun x => x.2 ≤ s.size ∧ x.1 ++ rpP (s.data.toList.drop x.2) = R) (fun x => s.size - x.2) ([], 0) ⟨Nat.zero_le _, by rw [hR]; rfl⟩ (by simp [rps]) fun ⟨acc, i⟩ ⟨hi, hin⟩ => ?_
  dsimp only at hi hin ⊢
  have hal : acc.length ≤ s.size := by have := congrArg List.length hin; rw [List.length_append] at this; omega
  by_cases hlt : i < s.size
  · have hlt3 : i < s.data.size := hlt
    have hgi : s.data.toList[i]'(by omega) = s.data[i] := by rw [Array.getElem_toList]
    have hd1 : s.data.toList.drop i = s.data[i] :: s.data.toList.drop (i + 1) := by rw [List.drop_eq_getElem_cons (by omega), hgi]
    rw [rp_at (by omega)] at hin
    have hx1 : s.extract i (i + 1) = bytesA [s.data[i]] := by
      rw [extract_bytes, Nat.add_sub_cancel_left, hd1]; rfl
    have q0 : (0 : Int) ≤ (i : Int) + 1 := by omega
    have q2 : (0 : Int) ≤ (i : Int) + 2 := by omega
    have t2 : ((i : Int) + 2).toNat = i + 2 := by omega
    have hi1 : i + 1 ≤ s.size := by omega
    have hb1 : ∀ c : UInt8, (bytesA [c]).size = 1 := fun c => bytesA_size _
    have one : ∀ x : Pt, head (s.data.toList.drop i) = (x, 1) → acc ++ [(x, [s.data[i]])] ++ rpP (s.data.toList.drop (i + 1)) = R := fun x hx => by
      rw [hx] at hin
      dsimp only at hin
      rw [hd1, List.take_succ_cons, List.take_zero] at hin
      rw [← hin]; simp
    have fin : ∀ x : Pt, head (s.data.toList.drop i) = (x, 1) → ∀ A : AV, A = partAv (x, [s.data[i]]) → ∃ a b, (b ≤ s.size ∧ a ++ rpP (s.data.toList.drop b) = R) ∧ s.size - b < s.size - i ∧ acc.length + 1 = a.length ∧ rps acc ++ [A] = rps a ∧ (i : Int) + 1 = (b : Int) := fun x hx A hA =>
      ⟨acc ++ [(x, [s.data[i]])], i + 1, ⟨by omega, one x hx⟩, by omega, by simp, by rw [hA]; simp, by omega⟩
    by_cases h92 : s.data[i] = 92 ∧ i + 1 < s.size
    · obtain ⟨h92, hl⟩ := h92
      have g92 : s.data[i].toNat = 92 := by rw [h92]; rfl
      have hl' : (i : Int) + 1 < s.size := by omega
      have hl3 : i + 1 < s.data.size := hl
      have hl2 : i + 2 ≤ s.size := by omega
      have hd2 : s.data.toList.drop i = 92 :: s.data[i + 1] :: s.data.toList.drop (i + 2) := by
        rw [hd1, h92, List.drop_eq_getElem_cons (by omega), Array.getElem_toList]
      have hh : head (s.data.toList.drop i) = (.byte s.data[i + 1], 2) := by rw [hd2]; rfl
      have hx2 : s.extract i (i + 2) = bytesA [92, s.data[i + 1]] := by
        rw [extract_bytes, Nat.add_sub_cancel_left, hd2]; rfl
      have hb2 : ∀ c d : UInt8, (bytesA [c, d]).size = 2 := fun c d => bytesA_size _
      rw [hh] at hin
      dsimp only at hin
      rw [hd2, List.take_succ_cons, List.take_succ_cons, List.take_zero] at hin
      repeat' (first | ((first | ((with_reducible refine aguard (fun hg => ?_) (fun hg => ?_)) <;> (try simp only [hg]) <;> (try simp only [beq_iff_eq, beq_eq_false_iff_ne, ne_eq, decide_eq_true_eq, decide_eq_false_iff_not, bne_iff_ne, bne_eq_false_iff_eq] at hg) <;> (try (first | simp only [eq_false hg, if_true, if_false] | simp only [eq_true hg, if_true, if_false]))) | with_reducible refine aseq_step ?_ | with_reducible refine any_step' ?_ | with_reducible refine aseq_end ?_ | with_reducible refine any_end' ?_ | refine awp_condC ?_ | refine awp_exit ?_ | refine awp_skip ?_ | refine awp_ret ?_) <;> (try simp (disch := first | omega | simp) [wrap_i64, -aseqC, -anyC, hlt, hlt3, g92, hl, hl', hl3, hl2, q0, q2, t2, hi1, hx1, hx2, hb2])) | ((first | with_reducible refine sideG ?_ ?_ | with_reducible refine sideG2 ?_ ?_ | with_reducible refine sideS ?_ ?_ | with_reducible refine sideS2 ?_ ?_ | with_reducible refine sideS3 ?_ ?_ | with_reducible refine sideA ?_ ?_ | with_reducible refine sideA2 ?_ ?_ | with_reducible refine sideA3 ?_ ?_); (first | omega | assumption | (simp; done))) | (refine awp_seq_k fun K hK => ?_) | (refine awp_regionC ?_) | (refine awp_anyA true (by kernel_rfl) (by kernel_rfl) ?_) | (refine hK _ ?_; clear hK; clear K) | (clear hK; clear K; refine hK _ ?_; clear hK; clear K) | (clear hK; clear K; clear hK; clear K; refine hK _ ?_; clear hK; clear K) | refine awp_block ?_)
      all_goals exact ⟨acc ++ [(.byte s.data[i + 1], [92, s.data[i + 1]])], i + 2, ⟨by omega, by rw [← hin]; simp⟩, by omega, by simp, by simp [partAv, AV.byte] <;> rfl, by omega⟩
    · have h92' : s.data[i] = 92 → ¬ (i : Int) + 1 < s.size := fun h h2 => h92 ⟨h, by omega⟩
      by_cases h9 : s.data[i] = 92
      · have g92 : s.data[i].toNat = 92 := by rw [h9]; rfl
        have hl' := h92' h9
        have hh : head (s.data.toList.drop i) = (.byte s.data[i], 1) := by
          rw [hd1, head_plain (by rw [h9]; decide) (by rw [h9]; decide) (by rw [h9]; decide) (.inr (List.drop_of_length_le (by omega)))]
        repeat' (first | ((first | ((with_reducible refine aguard (fun hg => ?_) (fun hg => ?_)) <;> (try simp only [hg]) <;> (try simp only [beq_iff_eq, beq_eq_false_iff_ne, ne_eq, decide_eq_true_eq, decide_eq_false_iff_not, bne_iff_ne, bne_eq_false_iff_eq] at hg) <;> (try (first | simp only [eq_false hg, if_true, if_false] | simp only [eq_true hg, if_true, if_false]))) | with_reducible refine aseq_step ?_ | with_reducible refine any_step' ?_ | with_reducible refine aseq_end ?_ | with_reducible refine any_end' ?_ | refine awp_condC ?_ | refine awp_exit ?_ | refine awp_skip ?_ | refine awp_ret ?_) <;> (try simp (disch := first | omega | simp) [wrap_i64, -aseqC, -anyC, hlt, hlt3, g92, hl', q0, hi1, hx1, hb1])) | ((first | with_reducible refine sideG ?_ ?_ | with_reducible refine sideG2 ?_ ?_ | with_reducible refine sideS ?_ ?_ | with_reducible refine sideS2 ?_ ?_ | with_reducible refine sideS3 ?_ ?_ | with_reducible refine sideA ?_ ?_ | with_reducible refine sideA2 ?_ ?_ | with_reducible refine sideA3 ?_ ?_); (first | omega | assumption | (simp; done))) | (refine awp_seq_k fun K hK => ?_) | (refine awp_regionC ?_) | (refine awp_anyA true (by kernel_rfl) (by kernel_rfl) ?_) | (refine hK _ ?_; clear hK; clear K) | (clear hK; clear K; refine hK _ ?_; clear hK; clear K) | (clear hK; clear K; clear hK; clear K; refine hK _ ?_; clear hK; clear K) | refine awp_block ?_)
        all_goals first | exact fin _ hh _ (by simp [partAv, AV.byte] <;> first | rfl | omega)
      · have g92 : ¬ (s.data[i].toNat : Int) = 92 := nn _ _ h9
        by_cases h42 : s.data[i] = 42
        · have g42 : s.data[i].toNat = 42 := by rw [h42]; rfl
          have hh : head (s.data.toList.drop i) = (.star, 1) := by rw [hd1, h42]; rfl
          repeat' (first | ((first | ((with_reducible refine aguard (fun hg => ?_) (fun hg => ?_)) <;> (try simp only [hg]) <;> (try simp only [beq_iff_eq, beq_eq_false_iff_ne, ne_eq, decide_eq_true_eq, decide_eq_false_iff_not, bne_iff_ne, bne_eq_false_iff_eq] at hg) <;> (try (first | simp only [eq_false hg, if_true, if_false] | simp only [eq_true hg, if_true, if_false]))) | with_reducible refine aseq_step ?_ | with_reducible refine any_step' ?_ | with_reducible refine aseq_end ?_ | with_reducible refine any_end' ?_ | refine awp_condC ?_ | refine awp_exit ?_ | refine awp_skip ?_ | refine awp_ret ?_) <;> (try simp (disch := first | omega | simp) [wrap_i64, -aseqC, -anyC, hlt, hlt3, g92, g42, q0, hi1, hx1, hb1])) | ((first | with_reducible refine sideG ?_ ?_ | with_reducible refine sideG2 ?_ ?_ | with_reducible refine sideS ?_ ?_ | with_reducible refine sideS2 ?_ ?_ | with_reducible refine sideS3 ?_ ?_ | with_reducible refine sideA ?_ ?_ | with_reducible refine sideA2 ?_ ?_ | with_reducible refine sideA3 ?_ ?_); (first | omega | assumption | (simp; done))) | (refine awp_seq_k fun K hK => ?_) | (refine awp_regionC ?_) | (refine awp_anyA true (by kernel_rfl) (by kernel_rfl) ?_) | (refine hK _ ?_; clear hK; clear K) | (clear hK; clear K; refine hK _ ?_; clear hK; clear K) | (clear hK; clear K; clear hK; clear K; refine hK _ ?_; clear hK; clear K) | refine awp_block ?_)
          all_goals first | exact absurd (by assumption) g92 | exact fin _ hh _ (by simp [partAv, AV.byte] <;> first | rfl | omega)
        · have g42 : ¬ (s.data[i].toNat : Int) = 42 := nn _ _ h42
          by_cases h63 : s.data[i] = 63
          · have g63 : s.data[i].toNat = 63 := by rw [h63]; rfl
            have hh : head (s.data.toList.drop i) = (.any, 1) := by rw [hd1, h63]; rfl
            repeat' (first | ((first | ((with_reducible refine aguard (fun hg => ?_) (fun hg => ?_)) <;> (try simp only [hg]) <;> (try simp only [beq_iff_eq, beq_eq_false_iff_ne, ne_eq, decide_eq_true_eq, decide_eq_false_iff_not, bne_iff_ne, bne_eq_false_iff_eq] at hg) <;> (try (first | simp only [eq_false hg, if_true, if_false] | simp only [eq_true hg, if_true, if_false]))) | with_reducible refine aseq_step ?_ | with_reducible refine any_step' ?_ | with_reducible refine aseq_end ?_ | with_reducible refine any_end' ?_ | refine awp_condC ?_ | refine awp_exit ?_ | refine awp_skip ?_ | refine awp_ret ?_) <;> (try simp (disch := first | omega | simp) [wrap_i64, -aseqC, -anyC, hlt, hlt3, g92, g42, g63, q0, hi1, hx1, hb1])) | ((first | with_reducible refine sideG ?_ ?_ | with_reducible refine sideG2 ?_ ?_ | with_reducible refine sideS ?_ ?_ | with_reducible refine sideS2 ?_ ?_ | with_reducible refine sideS3 ?_ ?_ | with_reducible refine sideA ?_ ?_ | with_reducible refine sideA2 ?_ ?_ | with_reducible refine sideA3 ?_ ?_); (first | omega | assumption | (simp; done))) | (refine awp_seq_k fun K hK => ?_) | (refine awp_regionC ?_) | (refine awp_anyA true (by kernel_rfl) (by kernel_rfl) ?_) | (refine hK _ ?_; clear hK; clear K) | (clear hK; clear K; refine hK _ ?_; clear hK; clear K) | (clear hK; clear K; clear hK; clear K; refine hK _ ?_; clear hK; clear K) | refine awp_block ?_)
            all_goals first | exact absurd (by assumption) g92 | exact absurd (by assumption) g42 | exact fin _ hh _ (by simp [partAv, AV.byte] <;> first | rfl | omega)
          · have g63 : ¬ (s.data[i].toNat : Int) = 63 := nn _ _ h63
            by_cases h91 : s.data[i] = 91
            · have g91 : s.data[i].toNat = 91 := by rw [h91]; rfl
              have hh := head_cls (l := s.data.toList) (i := i) (by omega) (by rw [hgi, h91])
              have c1 := rclosing_g s (i + 2) hs (by omega)
              have c2 := rclosing_g s (i + 1) hs (by omega)
              have w1 : (i : Int) + 2 = ((i + 2 : Nat) : Int) := by omega
              have w2 : (i : Int) + 1 = ((i + 1 : Nat) : Int) := by omega
              rw [← w1] at c1
              rw [← w2] at c2
              have second : ∀ (h33 : (if s.data.toList[i + 1]? = some 33 then closeI (s.data.toList.drop (i + 2)) else none) = none), classAt s.data.toList i = match closeI (s.data.toList.drop (i + 1)) with
                | some n => some (i + 1 + n, false, (s.data.toList.drop (i + 1)).take n)
                | none => none := fun h33 => by unfold classAt; rw [h33]; rfl
              by_cases hlt2 : i + 1 < s.size
              · have hlt' : (i : Int) + 1 < s.size := by omega
                have hlt4 : i + 1 < s.data.size := hlt2
                have hget : s.data.toList[i + 1]? = some s.data[i + 1] := by rw [List.getElem?_eq_getElem (by omega), Array.getElem_toList]
                by_cases h33 : s.data[i + 1] = 33
                · have g33 : s.data[i + 1].toNat = 33 := by rw [h33]; rfl
                  cases hc : closeI (s.data.toList.drop (i + 2)) with
                  | some n =>
                    have hn := closeI_lt hc
                    rw [List.length_drop] at hn
                    obtain ⟨e, he⟩ : ∃ e, e = i + 2 + n := ⟨_, rfl⟩
                    have hv1 : closeAt s.data.toList (i + 2) = (e : Int) := by unfold closeAt; rw [hc, he]; dsimp only; omega
                    have hcl : classAt s.data.toList i = some (e, true, (s.data.toList.drop (i + 2)).take n) := by
                      unfold classAt; rw [hget, h33, if_pos rfl, hc, he]
                    rw [hv1] at c1
                    rw [hcl] at hh
                    dsimp only at hh
                    have hA : e - (i + 2) = n := by omega
                    have hl1 : e < s.data.toList.length := by omega
                    have hxt := extract_bytes s i (e + 1)
                    have hxs := extract_bytes s (i + 2) e
                    rw [hA] at hxs
                    obtain ⟨X, hX⟩ : ∃ X, X = (s.data.toList.drop i).take (e + 1 - i) := ⟨_, rfl⟩
                    obtain ⟨Y, hY⟩ : ∃ Y, Y = (s.data.toList.drop (i + 2)).take n := ⟨_, rfl⟩
                    have hXl : X.length = e + 1 - i := by rw [hX, List.length_take, List.length_drop]; omega
                    have hXs : (bytesA X).size = e + 1 - i := by rw [bytesA_size, hXl]
                    rw [hh] at hin
                    dsimp only at hin
                    have e3 : i + (e + 1 - i) = e + 1 := by omega
                    rw [e3, ← hX, ← hY] at hin
                    rw [← hX] at hxt
                    rw [← hY] at hxs
                    have f1 : e + 1 ≤ s.size := by omega
                    have f2 : i ≤ e + 1 := by omega
                    have f3 : i + 2 ≤ e := by omega
                    have f4 : e ≤ s.size := by omega
                    have f5 : ¬ (e : Int) < 0 := by omega
                    have f6 : (0 : Int) ≤ (e : Int) + 1 := by omega
                    repeat' (first | ((first | ((with_reducible refine aguard (fun hg => ?_) (fun hg => ?_)) <;> (try simp only [hg]) <;> (try simp only [beq_iff_eq, beq_eq_false_iff_ne, ne_eq, decide_eq_true_eq, decide_eq_false_iff_not, bne_iff_ne, bne_eq_false_iff_eq] at hg) <;> (try (first | simp only [eq_false hg, if_true, if_false] | simp only [eq_true hg, if_true, if_false]))) | with_reducible refine aseq_step ?_ | with_reducible refine any_step' ?_ | with_reducible refine aseq_end ?_ | with_reducible refine any_end' ?_ | refine acall (c1) ?_ | refine agives (c1) ?_ | refine acall (c2) ?_ | refine agives (c2) ?_ | refine awp_condC ?_ | refine awp_exit ?_ | refine awp_skip ?_ | refine awp_ret ?_) <;> (try simp (disch := first | omega | simp) [wrap_i64, -aseqC, -anyC, hlt, hlt3, g92, g42, g63, g91, q0, q2, hi1, hx1, hb1, hlt', hlt2, hlt4, g33, t2, hxt, hxs, hXs, f1, f2, f3, f4, f5, f6])) | ((first | with_reducible refine sideG ?_ ?_ | with_reducible refine sideG2 ?_ ?_ | with_reducible refine sideS ?_ ?_ | with_reducible refine sideS2 ?_ ?_ | with_reducible refine sideS3 ?_ ?_ | with_reducible refine sideA ?_ ?_ | with_reducible refine sideA2 ?_ ?_ | with_reducible refine sideA3 ?_ ?_); (first | omega | assumption | (simp; done))) | (refine awp_seq_k fun K hK => ?_) | (refine awp_regionC ?_) | (refine awp_anyA true (by kernel_rfl) (by kernel_rfl) ?_) | (refine hK _ ?_; clear hK; clear K) | (clear hK; clear K; refine hK _ ?_; clear hK; clear K) | (clear hK; clear K; clear hK; clear K; refine hK _ ?_; clear hK; clear K) | refine awp_block ?_)
                    all_goals first | exact absurd (by assumption) g92 | exact absurd (by assumption) g42 | exact absurd (by assumption) g63 | exact absurd (by assumption) g33 | exact ⟨acc ++ [(.cls Y true, X)], e + 1, ⟨by omega, by rw [← hin]; simp⟩, by omega, by simp, by simp [partAv, AV.byte] <;> rfl, by omega⟩
                  | none =>
                    have hv1 : closeAt s.data.toList (i + 2) = -1 := by unfold closeAt; rw [hc]
                    have hcl := second (by rw [hget, h33, if_pos rfl, hc])
                    rw [hv1] at c1
                    rw [hcl] at hh
                    cases hd : closeI (s.data.toList.drop (i + 1)) with
                    | some n =>
                      have hn := closeI_lt hd
                      rw [List.length_drop] at hn
                      obtain ⟨e, he⟩ : ∃ e, e = i + 1 + n := ⟨_, rfl⟩
                      have hv2 : closeAt s.data.toList (i + 1) = (e : Int) := by unfold closeAt; rw [hd, he]; dsimp only; omega
                      rw [hv2] at c2
                      rw [hd] at hh
                      dsimp only at hh
                      rw [← he] at hh
                      have hA : e - (i + 1) = n := by omega
                      have hl1 : e < s.data.toList.length := by omega
                      have hxt := extract_bytes s i (e + 1)
                      have hxs := extract_bytes s (i + 1) e
                      rw [hA] at hxs
                      obtain ⟨X, hX⟩ : ∃ X, X = (s.data.toList.drop i).take (e + 1 - i) := ⟨_, rfl⟩
                      obtain ⟨Y, hY⟩ : ∃ Y, Y = (s.data.toList.drop (i + 1)).take n := ⟨_, rfl⟩
                      have hXl : X.length = e + 1 - i := by rw [hX, List.length_take, List.length_drop]; omega
                      have hXs : (bytesA X).size = e + 1 - i := by rw [bytesA_size, hXl]
                      rw [hh] at hin
                      dsimp only at hin
                      have e3 : i + (e + 1 - i) = e + 1 := by omega
                      rw [e3, ← hX, ← hY] at hin
                      rw [← hX] at hxt
                      rw [← hY] at hxs
                      have f1 : e + 1 ≤ s.size := by omega
                      have f2 : i ≤ e + 1 := by omega
                      have f3 : (i + 1) ≤ e := by omega
                      have f4 : e ≤ s.size := by omega
                      have f5 : ¬ (e : Int) < 0 := by omega
                      have f6 : (0 : Int) ≤ (e : Int) + 1 := by omega
                      repeat' (first | ((first | ((with_reducible refine aguard (fun hg => ?_) (fun hg => ?_)) <;> (try simp only [hg]) <;> (try simp only [beq_iff_eq, beq_eq_false_iff_ne, ne_eq, decide_eq_true_eq, decide_eq_false_iff_not, bne_iff_ne, bne_eq_false_iff_eq] at hg) <;> (try (first | simp only [eq_false hg, if_true, if_false] | simp only [eq_true hg, if_true, if_false]))) | with_reducible refine aseq_step ?_ | with_reducible refine any_step' ?_ | with_reducible refine aseq_end ?_ | with_reducible refine any_end' ?_ | refine acall (c1) ?_ | refine agives (c1) ?_ | refine acall (c2) ?_ | refine agives (c2) ?_ | refine awp_condC ?_ | refine awp_exit ?_ | refine awp_skip ?_ | refine awp_ret ?_) <;> (try simp (disch := first | omega | simp) [wrap_i64, -aseqC, -anyC, hlt, hlt3, g92, g42, g63, g91, q0, q2, hi1, hx1, hb1, hlt', hlt2, hlt4, g33, t2, hxt, hxs, hXs, f1, f2, f3, f4, f5, f6])) | ((first | with_reducible refine sideG ?_ ?_ | with_reducible refine sideG2 ?_ ?_ | with_reducible refine sideS ?_ ?_ | with_reducible refine sideS2 ?_ ?_ | with_reducible refine sideS3 ?_ ?_ | with_reducible refine sideA ?_ ?_ | with_reducible refine sideA2 ?_ ?_ | with_reducible refine sideA3 ?_ ?_); (first | omega | assumption | (simp; done))) | (refine awp_seq_k fun K hK => ?_) | (refine awp_regionC ?_) | (refine awp_anyA true (by kernel_rfl) (by kernel_rfl) ?_) | (refine hK _ ?_; clear hK; clear K) | (clear hK; clear K; refine hK _ ?_; clear hK; clear K) | (clear hK; clear K; clear hK; clear K; refine hK _ ?_; clear hK; clear K) | refine awp_block ?_)
                      all_goals first | exact absurd (by assumption) g92 | exact absurd (by assumption) g42 | exact absurd (by assumption) g63 | exact absurd (by assumption) g33 | exact ⟨acc ++ [(.cls Y false, X)], e + 1, ⟨by omega, by rw [← hin]; simp⟩, by omega, by simp, by simp [partAv, AV.byte] <;> rfl, by omega⟩
                    | none =>
                      have hv2 : closeAt s.data.toList (i + 1) = -1 := by unfold closeAt; rw [hd]
                      rw [hv2] at c2
                      rw [hd] at hh
                      dsimp only at hh
                      repeat' (first | ((first | ((with_reducible refine aguard (fun hg => ?_) (fun hg => ?_)) <;> (try simp only [hg]) <;> (try simp only [beq_iff_eq, beq_eq_false_iff_ne, ne_eq, decide_eq_true_eq, decide_eq_false_iff_not, bne_iff_ne, bne_eq_false_iff_eq] at hg) <;> (try (first | simp only [eq_false hg, if_true, if_false] | simp only [eq_true hg, if_true, if_false]))) | with_reducible refine aseq_step ?_ | with_reducible refine any_step' ?_ | with_reducible refine aseq_end ?_ | with_reducible refine any_end' ?_ | refine acall (c1) ?_ | refine agives (c1) ?_ | refine acall (c2) ?_ | refine agives (c2) ?_ | refine awp_condC ?_ | refine awp_exit ?_ | refine awp_skip ?_ | refine awp_ret ?_) <;> (try simp (disch := first | omega | simp) [wrap_i64, -aseqC, -anyC, hlt, hlt3, g92, g42, g63, g91, q0, q2, hi1, hx1, hb1, hlt', hlt2, hlt4, g33])) | ((first | with_reducible refine sideG ?_ ?_ | with_reducible refine sideG2 ?_ ?_ | with_reducible refine sideS ?_ ?_ | with_reducible refine sideS2 ?_ ?_ | with_reducible refine sideS3 ?_ ?_ | with_reducible refine sideA ?_ ?_ | with_reducible refine sideA2 ?_ ?_ | with_reducible refine sideA3 ?_ ?_); (first | omega | assumption | (simp; done))) | (refine awp_seq_k fun K hK => ?_) | (refine awp_regionC ?_) | (refine awp_anyA true (by kernel_rfl) (by kernel_rfl) ?_) | (refine hK _ ?_; clear hK; clear K) | (clear hK; clear K; refine hK _ ?_; clear hK; clear K) | (clear hK; clear K; clear hK; clear K; refine hK _ ?_; clear hK; clear K) | refine awp_block ?_)
                      all_goals first | exact absurd (by assumption) g92 | exact absurd (by assumption) g42 | exact absurd (by assumption) g63 | exact absurd (by assumption) g33 | exact fin _ hh _ (by simp [partAv, AV.byte, g91] <;> first | rfl | omega)
                · have g33 : ¬ (s.data[i + 1].toNat : Int) = 33 := nn _ _ h33
                  have hcl := second (by rw [hget, if_neg (by simpa using h33)])
                  rw [hcl] at hh
                  cases hd : closeI (s.data.toList.drop (i + 1)) with
                  | some n =>
                    have hn := closeI_lt hd
                    rw [List.length_drop] at hn
                    obtain ⟨e, he⟩ : ∃ e, e = i + 1 + n := ⟨_, rfl⟩
                    have hv2 : closeAt s.data.toList (i + 1) = (e : Int) := by unfold closeAt; rw [hd, he]; dsimp only; omega
                    rw [hv2] at c2
                    rw [hd] at hh
                    dsimp only at hh
                    rw [← he] at hh
                    have hA : e - (i + 1) = n := by omega
                    have hl1 : e < s.data.toList.length := by omega
                    have hxt := extract_bytes s i (e + 1)
                    have hxs := extract_bytes s (i + 1) e
                    rw [hA] at hxs
                    obtain ⟨X, hX⟩ : ∃ X, X = (s.data.toList.drop i).take (e + 1 - i) := ⟨_, rfl⟩
                    obtain ⟨Y, hY⟩ : ∃ Y, Y = (s.data.toList.drop (i + 1)).take n := ⟨_, rfl⟩
                    have hXl : X.length = e + 1 - i := by rw [hX, List.length_take, List.length_drop]; omega
                    have hXs : (bytesA X).size = e + 1 - i := by rw [bytesA_size, hXl]
                    rw [hh] at hin
                    dsimp only at hin
                    have e3 : i + (e + 1 - i) = e + 1 := by omega
                    rw [e3, ← hX, ← hY] at hin
                    rw [← hX] at hxt
                    rw [← hY] at hxs
                    have f1 : e + 1 ≤ s.size := by omega
                    have f2 : i ≤ e + 1 := by omega
                    have f3 : (i + 1) ≤ e := by omega
                    have f4 : e ≤ s.size := by omega
                    have f5 : ¬ (e : Int) < 0 := by omega
                    have f6 : (0 : Int) ≤ (e : Int) + 1 := by omega
                    repeat' (first | ((first | ((with_reducible refine aguard (fun hg => ?_) (fun hg => ?_)) <;> (try simp only [hg]) <;> (try simp only [beq_iff_eq, beq_eq_false_iff_ne, ne_eq, decide_eq_true_eq, decide_eq_false_iff_not, bne_iff_ne, bne_eq_false_iff_eq] at hg) <;> (try (first | simp only [eq_false hg, if_true, if_false] | simp only [eq_true hg, if_true, if_false]))) | with_reducible refine aseq_step ?_ | with_reducible refine any_step' ?_ | with_reducible refine aseq_end ?_ | with_reducible refine any_end' ?_ | refine acall (c1) ?_ | refine agives (c1) ?_ | refine acall (c2) ?_ | refine agives (c2) ?_ | refine awp_condC ?_ | refine awp_exit ?_ | refine awp_skip ?_ | refine awp_ret ?_) <;> (try simp (disch := first | omega | simp) [wrap_i64, -aseqC, -anyC, hlt, hlt3, g92, g42, g63, g91, q0, q2, hi1, hx1, hb1, hlt', hlt2, hlt4, g33, t2, hxt, hxs, hXs, f1, f2, f3, f4, f5, f6])) | ((first | with_reducible refine sideG ?_ ?_ | with_reducible refine sideG2 ?_ ?_ | with_reducible refine sideS ?_ ?_ | with_reducible refine sideS2 ?_ ?_ | with_reducible refine sideS3 ?_ ?_ | with_reducible refine sideA ?_ ?_ | with_reducible refine sideA2 ?_ ?_ | with_reducible refine sideA3 ?_ ?_); (first | omega | assumption | (simp; done))) | (refine awp_seq_k fun K hK => ?_) | (refine awp_regionC ?_) | (refine awp_anyA true (by kernel_rfl) (by kernel_rfl) ?_) | (refine hK _ ?_; clear hK; clear K) | (clear hK; clear K; refine hK _ ?_; clear hK; clear K) | (clear hK; clear K; clear hK; clear K; refine hK _ ?_; clear hK; clear K) | refine awp_block ?_)
                    all_goals first | exact absurd (by assumption) g92 | exact absurd (by assumption) g42 | exact absurd (by assumption) g63 | exact absurd (by assumption) g33 | exact ⟨acc ++ [(.cls Y false, X)], e + 1, ⟨by omega, by rw [← hin]; simp⟩, by omega, by simp, by simp [partAv, AV.byte] <;> rfl, by omega⟩
                  | none =>
                    have hv2 : closeAt s.data.toList (i + 1) = -1 := by unfold closeAt; rw [hd]
                    rw [hv2] at c2
                    rw [hd] at hh
                    dsimp only at hh
                    repeat' (first | ((first | ((with_reducible refine aguard (fun hg => ?_) (fun hg => ?_)) <;> (try simp only [hg]) <;> (try simp only [beq_iff_eq, beq_eq_false_iff_ne, ne_eq, decide_eq_true_eq, decide_eq_false_iff_not, bne_iff_ne, bne_eq_false_iff_eq] at hg) <;> (try (first | simp only [eq_false hg, if_true, if_false] | simp only [eq_true hg, if_true, if_false]))) | with_reducible refine aseq_step ?_ | with_reducible refine any_step' ?_ | with_reducible refine aseq_end ?_ | with_reducible refine any_end' ?_ | refine acall (c1) ?_ | refine agives (c1) ?_ | refine acall (c2) ?_ | refine agives (c2) ?_ | refine awp_condC ?_ | refine awp_exit ?_ | refine awp_skip ?_ | refine awp_ret ?_) <;> (try simp (disch := first | omega | simp) [wrap_i64, -aseqC, -anyC, hlt, hlt3, g92, g42, g63, g91, q0, q2, hi1, hx1, hb1, hlt', hlt2, hlt4, g33])) | ((first | with_reducible refine sideG ?_ ?_ | with_reducible refine sideG2 ?_ ?_ | with_reducible refine sideS ?_ ?_ | with_reducible refine sideS2 ?_ ?_ | with_reducible refine sideS3 ?_ ?_ | with_reducible refine sideA ?_ ?_ | with_reducible refine sideA2 ?_ ?_ | with_reducible refine sideA3 ?_ ?_); (first | omega | assumption | (simp; done))) | (refine awp_seq_k fun K hK => ?_) | (refine awp_regionC ?_) | (refine awp_anyA true (by kernel_rfl) (by kernel_rfl) ?_) | (refine hK _ ?_; clear hK; clear K) | (clear hK; clear K; refine hK _ ?_; clear hK; clear K) | (clear hK; clear K; clear hK; clear K; refine hK _ ?_; clear hK; clear K) | refine awp_block ?_)
                    all_goals first | exact absurd (by assumption) g92 | exact absurd (by assumption) g42 | exact absurd (by assumption) g63 | exact absurd (by assumption) g33 | exact fin _ hh _ (by simp [partAv, AV.byte, g91] <;> first | rfl | omega)
              · have hlt' : ¬ (i : Int) + 1 < s.size := by omega
                have hcl := second (by rw [List.getElem?_eq_none (by omega)]; rfl)
                have hd : closeI (s.data.toList.drop (i + 1)) = none := by rw [List.drop_of_length_le (by omega)]; rfl
                have hv2 : closeAt s.data.toList (i + 1) = -1 := by unfold closeAt; rw [hd]
                rw [hcl, hd] at hh
                dsimp only at hh
                rw [hv2] at c2
                repeat' (first | ((first | ((with_reducible refine aguard (fun hg => ?_) (fun hg => ?_)) <;> (try simp only [hg]) <;> (try simp only [beq_iff_eq, beq_eq_false_iff_ne, ne_eq, decide_eq_true_eq, decide_eq_false_iff_not, bne_iff_ne, bne_eq_false_iff_eq] at hg) <;> (try (first | simp only [eq_false hg, if_true, if_false] | simp only [eq_true hg, if_true, if_false]))) | with_reducible refine aseq_step ?_ | with_reducible refine any_step' ?_ | with_reducible refine aseq_end ?_ | with_reducible refine any_end' ?_ | refine acall (c1) ?_ | refine agives (c1) ?_ | refine acall (c2) ?_ | refine agives (c2) ?_ | refine awp_condC ?_ | refine awp_exit ?_ | refine awp_skip ?_ | refine awp_ret ?_) <;> (try simp (disch := first | omega | simp) [wrap_i64, -aseqC, -anyC, hlt, hlt3, g92, g42, g63, g91, q0, q2, hi1, hx1, hb1, hlt'])) | ((first | with_reducible refine sideG ?_ ?_ | with_reducible refine sideG2 ?_ ?_ | with_reducible refine sideS ?_ ?_ | with_reducible refine sideS2 ?_ ?_ | with_reducible refine sideS3 ?_ ?_ | with_reducible refine sideA ?_ ?_ | with_reducible refine sideA2 ?_ ?_ | with_reducible refine sideA3 ?_ ?_); (first | omega | assumption | (simp; done))) | (refine awp_seq_k fun K hK => ?_) | (refine awp_regionC ?_) | (refine awp_anyA true (by kernel_rfl) (by kernel_rfl) ?_) | (refine hK _ ?_; clear hK; clear K) | (clear hK; clear K; refine hK _ ?_; clear hK; clear K) | (clear hK; clear K; clear hK; clear K; refine hK _ ?_; clear hK; clear K) | refine awp_block ?_)
                all_goals first | exact absurd (by assumption) g92 | exact absurd (by assumption) g42 | exact absurd (by assumption) g63 | exact absurd (by assumption) g33 | exact fin _ hh _ (by simp [partAv, AV.byte, g91] <;> first | rfl | omega)
            · have g91 : ¬ (s.data[i].toNat : Int) = 91 := nn _ _ h91
              have hh : head (s.data.toList.drop i) = (.byte s.data[i], 1) := by rw [hd1, head_plain h42 h63 h91 (.inl h9)]
              repeat' (first | ((first | ((with_reducible refine aguard (fun hg => ?_) (fun hg => ?_)) <;> (try simp only [hg]) <;> (try simp only [beq_iff_eq, beq_eq_false_iff_ne, ne_eq, decide_eq_true_eq, decide_eq_false_iff_not, bne_iff_ne, bne_eq_false_iff_eq] at hg) <;> (try (first | simp only [eq_false hg, if_true, if_false] | simp only [eq_true hg, if_true, if_false]))) | with_reducible refine aseq_step ?_ | with_reducible refine any_step' ?_ | with_reducible refine aseq_end ?_ | with_reducible refine any_end' ?_ | refine awp_condC ?_ | refine awp_exit ?_ | refine awp_skip ?_ | refine awp_ret ?_) <;> (try simp (disch := first | omega | simp) [wrap_i64, -aseqC, -anyC, hlt, hlt3, g92, g42, g63, g91, q0, hi1, hx1, hb1])) | ((first | with_reducible refine sideG ?_ ?_ | with_reducible refine sideG2 ?_ ?_ | with_reducible refine sideS ?_ ?_ | with_reducible refine sideS2 ?_ ?_ | with_reducible refine sideS3 ?_ ?_ | with_reducible refine sideA ?_ ?_ | with_reducible refine sideA2 ?_ ?_ | with_reducible refine sideA3 ?_ ?_); (first | omega | assumption | (simp; done))) | (refine awp_seq_k fun K hK => ?_) | (refine awp_regionC ?_) | (refine awp_anyA true (by kernel_rfl) (by kernel_rfl) ?_) | (refine hK _ ?_; clear hK; clear K) | (clear hK; clear K; refine hK _ ?_; clear hK; clear K) | (clear hK; clear K; clear hK; clear K; refine hK _ ?_; clear hK; clear K) | refine awp_block ?_)
              all_goals first | exact absurd (by assumption) g92 | exact absurd (by assumption) g42 | exact absurd (by assumption) g63 | exact absurd (by assumption) g91 | exact fin _ hh _ (by simp [partAv, AV.byte] <;> first | rfl | omega)
  · rw [List.drop_of_length_le (show s.data.toList.length ≤ i by omega), rpP_nil, List.append_nil] at hin
    repeat' (first | ((first | ((with_reducible refine aguard (fun hg => ?_) (fun hg => ?_)) <;> (try simp only [hg]) <;> (try simp only [beq_iff_eq, beq_eq_false_iff_ne, ne_eq, decide_eq_true_eq, decide_eq_false_iff_not, bne_iff_ne, bne_eq_false_iff_eq] at hg) <;> (try (first | simp only [eq_false hg, if_true, if_false] | simp only [eq_true hg, if_true, if_false]))) | with_reducible refine aseq_step ?_ | with_reducible refine any_step' ?_ | with_reducible refine aseq_end ?_ | with_reducible refine any_end' ?_ | refine awp_condC ?_ | refine awp_exit ?_ | refine awp_skip ?_ | refine awp_ret ?_) <;> (try simp (disch := first | omega | simp) [wrap_i64, -aseqC, -anyC, hlt])) | ((first | with_reducible refine sideG ?_ ?_ | with_reducible refine sideG2 ?_ ?_ | with_reducible refine sideS ?_ ?_ | with_reducible refine sideS2 ?_ ?_ | with_reducible refine sideS3 ?_ ?_ | with_reducible refine sideA ?_ ?_ | with_reducible refine sideA2 ?_ ?_ | with_reducible refine sideA3 ?_ ?_); (first | omega | assumption | (simp; done))) | (refine awp_seq_k fun K hK => ?_) | (refine awp_regionC ?_) | (refine awp_anyA true (by kernel_rfl) (by kernel_rfl) ?_) | (refine hK _ ?_; clear hK; clear K) | (clear hK; clear K; refine hK _ ?_; clear hK; clear K) | (clear hK; clear K; clear hK; clear K; refine hK _ ?_; clear hK; clear K) | refine awp_block ?_)
    all_goals (rw [hin])
end Go.Proofs.YtkhmlicikbnmdaaDoor
