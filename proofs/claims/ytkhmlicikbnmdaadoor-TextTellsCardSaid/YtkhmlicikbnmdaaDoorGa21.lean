/- Walk: one part of a pattern and a byte, of the program. -/
import Derived.Test.YtkhmlicikbnmdaaDoorGa20
set_option linter.unusedSimpArgs false
set_option linter.unusedVariables false
namespace Go.Proofs.YtkhmlicikbnmdaaDoor
open Go.RowKit Go.Lib

theorem head_cls {l : List UInt8} {i : Nat} (hi : i < l.length) (h : l[i] = 91) : head (l.drop i) = match classAt l i with
    | some (e, neg, set) => (.cls set neg, e + 1 - i)
    | none => (.byte 91, 1) := by
  rw [List.drop_eq_getElem_cons hi, h]
  unfold classAt
  by_cases h1 : i + 1 < l.length
  · have hd : l.drop (i + 1) = l[i + 1] :: l.drop (i + 2) := List.drop_eq_getElem_cons h1
    rw [List.getElem?_eq_getElem h1]
    by_cases h33 : l[i + 1] = 33
    · rw [h33, if_pos rfl, hd, h33, head_91]
      cases closeI (l.drop (i + 2)) with
      | some n => dsimp only; congr 1; omega
      | none =>
        dsimp only
        cases closeI (33 :: l.drop (i + 2)) with
        | some n => dsimp only; congr 1; omega
        | none => rfl
    · rw [if_neg (by simpa using h33), hd, head_91' h33]
      dsimp only
      cases closeI (l[i + 1] :: l.drop (i + 2)) with
      | some n => dsimp only; congr 1; omega
      | none => rfl
  · rw [List.getElem?_eq_none (by omega), List.drop_of_length_le (by omega)]
    rfl
theorem head_plain {c : UInt8} {r : List UInt8} (h1 : c ≠ 42) (h2 : c ≠ 63) (h3 : c ≠ 91) (h4 : c ≠ 92 ∨ r = []) : head (c :: r) = (.byte c, 1) := by
  by_cases hc : c = 92
  · subst hc
    rcases h4 with h4 | rfl
    · exact absurd rfl h4
    · rfl
  · exact head_byte (by simp [h1, h2, h3, hc])
theorem byte_eq (a c : UInt8) : fitsP (.byte a) c = ((a.toNat : Int) == (c.toNat : Int)) := by
  unfold fitsP
  rw [Bool.eq_iff_iff, beq_iff_eq, beq_iff_eq]
  exact ⟨fun h => by rw [h], fun h => UInt8.toNat_inj.1 (by omega)⟩
theorem closeI_le {r : List UInt8} {n : Nat} (h : closeI r = some n) : n < r.length := (closeI_lt h).2.1
theorem classAt_le {l : List UInt8} {i e : Nat} {b : Bool} {t : List UInt8} (h : classAt l i = some (e, b, t)) : e < l.length ∧ t.length ≤ l.length ∧ i < e := by
  unfold classAt at h
  split at h
  · rename_i n hn
    split at hn
    · have := closeI_lt hn
      rw [List.length_drop] at this
      cases h
      refine ⟨by omega, by rw [List.length_take, List.length_drop]; omega, by omega⟩
    · cases hn
  · split at h
    · rename_i n hn
      have := closeI_lt hn
      rw [List.length_drop] at this
      cases h
      refine ⟨by omega, by rw [List.length_take, List.length_drop]; omega, by omega⟩
    · cases h
set_option maxHeartbeats 2000000 in
theorem one_g (s : ByteArray) (i : Nat) (c : UInt8) (hs : s.size ≤ 1000000) (hi : i < s.size) (h42 : s.data.toList[i]? ≠ some 42) : Gives Tryd.prog 51 [.str s, .int i, .v (.int .u8 c.toNat)] (.tup [.int (head (s.data.toList.drop i)).2, .bool (fitsP (head (s.data.toList.drop i)).1 c)]) := by
  have hsz : s.data.toList.length = s.size := by rw [← Lib.size_eq]
  have hi3 : i < s.data.size := hi
  have hgi : s.data.toList[i]'(by omega) = s.data[i] := by rw [Array.getElem_toList]
  have hd1 : s.data.toList.drop i = s.data[i] :: s.data.toList.drop (i + 1) := by rw [List.drop_eq_getElem_cons (by omega), hgi]
  have h42' : s.data[i] ≠ 42 := fun h => h42 (by rw [List.getElem?_eq_getElem (by omega), hgi, h])
  have e92 : (92 : UInt8).toNat = 92 := rfl
  have e63 : (63 : UInt8).toNat = 63 := rfl
  have e91 : (91 : UInt8).toNat = 91 := rfl
  have nn : ∀ k : UInt8, s.data[i] ≠ k → ¬ (s.data[i].toNat : Int) = k.toNat := fun k h h2 => h (UInt8.toNat_inj.1 (by omega))
  have q0 : (0 : Int) ≤ (i : Int) + 1 := by omega
  have ceq : ∀ a b : UInt8, ((a.toNat : Int) = b.toNat) ↔ a = b := fun a b => ⟨fun h => UInt8.toNat_inj.1 (by omega), fun h => by rw [h]⟩
  by_cases h92 : s.data[i] = 92
  · have g92 : s.data[i].toNat = 92 := by rw [h92]; rfl
    by_cases hl : i + 1 < s.size
    · have hl' : (i : Int) + 1 < s.size := by omega
      have hl3 : i + 1 < s.data.size := hl
      have hh : head (s.data.toList.drop i) = (.byte s.data[i + 1], 2) := by
        rw [hd1, h92, List.drop_eq_getElem_cons (by omega), Array.getElem_toList]; rfl
      rw [hh]
      refine gives_of_awp Tryd.func51 Tryd.ntmps51 rfl rfl (by decide) rfl (by intro n; simp) fun σ n0 hcl hft => ?_
      repeat' (first | ((with_reducible refine aguard (fun hg => ?_) (fun hg => ?_)) <;> (try simp only [hg]) <;> (try simp only [beq_iff_eq, beq_eq_false_iff_ne, ne_eq, decide_eq_true_eq, decide_eq_false_iff_not, bne_iff_ne, bne_eq_false_iff_eq] at hg) <;> (try (first | simp only [eq_false hg, if_true, if_false] | simp only [eq_true hg, if_true, if_false])) <;> (try simp (disch := first | omega | simp) [wrap_i64, -aseqC, -anyC, hi, hi3, g92, hl, hl', hl3, q0])) | (with_reducible refine aseq_step ?_; try simp (disch := first | omega | simp) [wrap_i64, -aseqC, -anyC, hi, hi3, g92, hl, hl', hl3, q0]) | (with_reducible refine any_step' ?_; try simp (disch := first | omega | simp) [wrap_i64, -aseqC, -anyC, hi, hi3, g92, hl, hl', hl3, q0]) | (with_reducible refine aseq_end ?_; try simp (disch := first | omega | simp) [wrap_i64, -aseqC, -anyC, hi, hi3, g92, hl, hl', hl3, q0]) | (with_reducible refine any_end' ?_; try simp (disch := first | omega | simp) [wrap_i64, -aseqC, -anyC, hi, hi3, g92, hl, hl', hl3, q0]) | ((first | with_reducible refine sideG ?_ ?_ | with_reducible refine sideG2 ?_ ?_ | with_reducible refine sideS ?_ ?_ | with_reducible refine sideS2 ?_ ?_ | with_reducible refine sideS3 ?_ ?_ | with_reducible refine sideA ?_ ?_ | with_reducible refine sideA2 ?_ ?_ | with_reducible refine sideA3 ?_ ?_); (first | omega | assumption | (simp; done))) | (refine awp_seq_k fun K hK => ?_) | (refine awp_regionC ?_) | (refine awp_anyA true (by kernel_rfl) (by kernel_rfl) ?_) | (refine awp_anyA false (by kernel_rfl) (by kernel_rfl) ?_) | (refine hK _ ?_; clear hK; clear K) | (clear hK; clear K; refine hK _ ?_; clear hK; clear K) | (clear hK; clear K; clear hK; clear K; refine hK _ ?_; clear hK; clear K) | refine awp_block ?_ | (refine awp_condC ?_; simp (disch := first | omega | simp) [wrap_i64, -aseqC, -anyC, hi, hi3, g92, hl, hl', hl3, q0]) | (refine awp_exit ?_; try simp (disch := first | omega | simp) [wrap_i64, -aseqC, -anyC, hi, hi3, g92, hl, hl', hl3, q0]) | (refine awp_skip ?_; try simp (disch := first | omega | simp) [wrap_i64, -aseqC, -anyC, hi, hi3, g92, hl, hl', hl3, q0]) | (refine awp_ret ?_; try simp (disch := first | omega | simp) [wrap_i64, -aseqC, -anyC, hi, hi3, g92, hl, hl', hl3, q0]))
      all_goals exact byte_eq _ _
    · have hl' : ¬ (i : Int) + 1 < s.size := by omega
      have hh : head (s.data.toList.drop i) = (.byte s.data[i], 1) := by
        rw [hd1, head_plain h42' (by rw [h92]; decide) (by rw [h92]; decide) (.inr (List.drop_of_length_le (by omega)))]
      rw [hh]
      refine gives_of_awp Tryd.func51 Tryd.ntmps51 rfl rfl (by decide) rfl (by intro n; simp) fun σ n0 hcl hft => ?_
      have hb := byte_eq s.data[i] c
      rw [g92] at hb
      repeat' (first | ((with_reducible refine aguard (fun hg => ?_) (fun hg => ?_)) <;> (try simp only [hg]) <;> (try simp only [beq_iff_eq, beq_eq_false_iff_ne, ne_eq, decide_eq_true_eq, decide_eq_false_iff_not, bne_iff_ne, bne_eq_false_iff_eq] at hg) <;> (try (first | simp only [eq_false hg, if_true, if_false] | simp only [eq_true hg, if_true, if_false])) <;> (try simp (disch := first | omega | simp) [wrap_i64, -aseqC, -anyC, hi, hi3, g92, hl, hl', q0])) | (with_reducible refine aseq_step ?_; try simp (disch := first | omega | simp) [wrap_i64, -aseqC, -anyC, hi, hi3, g92, hl, hl', q0]) | (with_reducible refine any_step' ?_; try simp (disch := first | omega | simp) [wrap_i64, -aseqC, -anyC, hi, hi3, g92, hl, hl', q0]) | (with_reducible refine aseq_end ?_; try simp (disch := first | omega | simp) [wrap_i64, -aseqC, -anyC, hi, hi3, g92, hl, hl', q0]) | (with_reducible refine any_end' ?_; try simp (disch := first | omega | simp) [wrap_i64, -aseqC, -anyC, hi, hi3, g92, hl, hl', q0]) | ((first | with_reducible refine sideG ?_ ?_ | with_reducible refine sideG2 ?_ ?_ | with_reducible refine sideS ?_ ?_ | with_reducible refine sideS2 ?_ ?_ | with_reducible refine sideS3 ?_ ?_ | with_reducible refine sideA ?_ ?_ | with_reducible refine sideA2 ?_ ?_ | with_reducible refine sideA3 ?_ ?_); (first | omega | assumption | (simp; done))) | (refine awp_seq_k fun K hK => ?_) | (refine awp_regionC ?_) | (refine awp_anyA true (by kernel_rfl) (by kernel_rfl) ?_) | (refine awp_anyA false (by kernel_rfl) (by kernel_rfl) ?_) | (refine hK _ ?_; clear hK; clear K) | (clear hK; clear K; refine hK _ ?_; clear hK; clear K) | (clear hK; clear K; clear hK; clear K; refine hK _ ?_; clear hK; clear K) | refine awp_block ?_ | (refine awp_condC ?_; simp (disch := first | omega | simp) [wrap_i64, -aseqC, -anyC, hi, hi3, g92, hl, hl', q0]) | (refine awp_exit ?_; try simp (disch := first | omega | simp) [wrap_i64, -aseqC, -anyC, hi, hi3, g92, hl, hl', q0]) | (refine awp_skip ?_; try simp (disch := first | omega | simp) [wrap_i64, -aseqC, -anyC, hi, hi3, g92, hl, hl', q0]) | (refine awp_ret ?_; try simp (disch := first | omega | simp) [wrap_i64, -aseqC, -anyC, hi, hi3, g92, hl, hl', q0]))
      all_goals exact hb
  · have g92 : ¬ (s.data[i].toNat : Int) = 92 := fun h => h92 (UInt8.toNat_inj.1 (by rw [e92]; omega))
    by_cases h63 : s.data[i] = 63
    · have g63 : s.data[i].toNat = 63 := by rw [h63]; rfl
      have hh : head (s.data.toList.drop i) = (.any, 1) := by rw [hd1, h63]; rfl
      rw [hh]
      refine gives_of_awp Tryd.func51 Tryd.ntmps51 rfl rfl (by decide) rfl (by intro n; simp) fun σ n0 hcl hft => ?_
      repeat' (first | ((with_reducible refine aguard (fun hg => ?_) (fun hg => ?_)) <;> (try simp only [hg]) <;> (try simp only [beq_iff_eq, beq_eq_false_iff_ne, ne_eq, decide_eq_true_eq, decide_eq_false_iff_not, bne_iff_ne, bne_eq_false_iff_eq] at hg) <;> (try (first | simp only [eq_false hg, if_true, if_false] | simp only [eq_true hg, if_true, if_false])) <;> (try simp (disch := first | omega | simp) [wrap_i64, -aseqC, -anyC, hi, hi3, g92, g63, q0])) | (with_reducible refine aseq_step ?_; try simp (disch := first | omega | simp) [wrap_i64, -aseqC, -anyC, hi, hi3, g92, g63, q0]) | (with_reducible refine any_step' ?_; try simp (disch := first | omega | simp) [wrap_i64, -aseqC, -anyC, hi, hi3, g92, g63, q0]) | (with_reducible refine aseq_end ?_; try simp (disch := first | omega | simp) [wrap_i64, -aseqC, -anyC, hi, hi3, g92, g63, q0]) | (with_reducible refine any_end' ?_; try simp (disch := first | omega | simp) [wrap_i64, -aseqC, -anyC, hi, hi3, g92, g63, q0]) | ((first | with_reducible refine sideG ?_ ?_ | with_reducible refine sideG2 ?_ ?_ | with_reducible refine sideS ?_ ?_ | with_reducible refine sideS2 ?_ ?_ | with_reducible refine sideS3 ?_ ?_ | with_reducible refine sideA ?_ ?_ | with_reducible refine sideA2 ?_ ?_ | with_reducible refine sideA3 ?_ ?_); (first | omega | assumption | (simp; done))) | (refine awp_seq_k fun K hK => ?_) | (refine awp_regionC ?_) | (refine awp_anyA true (by kernel_rfl) (by kernel_rfl) ?_) | (refine awp_anyA false (by kernel_rfl) (by kernel_rfl) ?_) | (refine hK _ ?_; clear hK; clear K) | (clear hK; clear K; refine hK _ ?_; clear hK; clear K) | (clear hK; clear K; clear hK; clear K; refine hK _ ?_; clear hK; clear K) | refine awp_block ?_ | (refine awp_condC ?_; simp (disch := first | omega | simp) [wrap_i64, -aseqC, -anyC, hi, hi3, g92, g63, q0]) | (refine awp_exit ?_; try simp (disch := first | omega | simp) [wrap_i64, -aseqC, -anyC, hi, hi3, g92, g63, q0]) | (refine awp_skip ?_; try simp (disch := first | omega | simp) [wrap_i64, -aseqC, -anyC, hi, hi3, g92, g63, q0]) | (refine awp_ret ?_; try simp (disch := first | omega | simp) [wrap_i64, -aseqC, -anyC, hi, hi3, g92, g63, q0]))
      all_goals first | exact absurd (by assumption) g92 | rfl | trace_state
    · have g63 : ¬ (s.data[i].toNat : Int) = 63 := fun h => h63 (UInt8.toNat_inj.1 (by rw [e63]; omega))
      by_cases h91 : s.data[i] = 91
      · have g91 : s.data[i].toNat = 91 := by rw [h91]; rfl
        have hcg := class_g s i hs hi
        have hh := head_cls (l := s.data.toList) (i := i) (by omega) (by rw [hgi, h91])
        cases hc : classAt s.data.toList i with
        | some x =>
          obtain ⟨e, neg, set⟩ := x
          rw [hc] at hcg hh
          dsimp only at hh
          rw [hh]
          obtain ⟨l1, l2, l3⟩ := classAt_le hc
          have hin := in_g (bytesA set) c (by rw [bytesA_size]; omega)
          rw [bytesA_data] at hin
          have hcg' : Gives Tryd.prog 56 [.str s, .int i] (.tup [.int e, .bool neg, .str (bytesA set), .bool true]) := hcg
          obtain ⟨d, hd⟩ : ∃ d, d = e + 1 - i := ⟨_, rfl⟩
          have hd' : (e : Int) + 1 - i = d := by omega
          rw [← hd]
          refine gives_of_awp Tryd.func51 Tryd.ntmps51 rfl rfl (by decide) rfl (by intro n; simp) fun σ n0 hcl hft => ?_
          repeat' (first | ((with_reducible refine aguard (fun hg => ?_) (fun hg => ?_)) <;> (try simp only [hg]) <;> (try simp only [beq_iff_eq, beq_eq_false_iff_ne, ne_eq, decide_eq_true_eq, decide_eq_false_iff_not, bne_iff_ne, bne_eq_false_iff_eq] at hg) <;> (try (first | simp only [eq_false hg, if_true, if_false] | simp only [eq_true hg, if_true, if_false])) <;> (try simp (disch := first | omega | simp) [wrap_i64, -aseqC, -anyC, hi, hi3, g92, g63, g91, q0, hd'])) | (with_reducible refine aseq_step ?_; try simp (disch := first | omega | simp) [wrap_i64, -aseqC, -anyC, hi, hi3, g92, g63, g91, q0, hd']) | (with_reducible refine any_step' ?_; try simp (disch := first | omega | simp) [wrap_i64, -aseqC, -anyC, hi, hi3, g92, g63, g91, q0, hd']) | (with_reducible refine aseq_end ?_; try simp (disch := first | omega | simp) [wrap_i64, -aseqC, -anyC, hi, hi3, g92, g63, g91, q0, hd']) | (with_reducible refine any_end' ?_; try simp (disch := first | omega | simp) [wrap_i64, -aseqC, -anyC, hi, hi3, g92, g63, g91, q0, hd']) | ((first | with_reducible refine sideG ?_ ?_ | with_reducible refine sideG2 ?_ ?_ | with_reducible refine sideS ?_ ?_ | with_reducible refine sideS2 ?_ ?_ | with_reducible refine sideS3 ?_ ?_ | with_reducible refine sideA ?_ ?_ | with_reducible refine sideA2 ?_ ?_ | with_reducible refine sideA3 ?_ ?_); (first | omega | assumption | (simp; done))) | (refine acall (hcg') ?_; try simp (disch := first | omega | simp) [wrap_i64, -aseqC, -anyC, hi, hi3, g92, g63, g91, q0, hd']) | (refine agives (hcg') ?_; try simp (disch := first | omega | simp) [wrap_i64, -aseqC, -anyC, hi, hi3, g92, g63, g91, q0, hd']) | (refine acallAt (hcg') ?_; try simp (disch := first | omega | simp) [wrap_i64, -aseqC, -anyC, hi, hi3, g92, g63, g91, q0, hd']) | (refine acall (hin) ?_; try simp (disch := first | omega | simp) [wrap_i64, -aseqC, -anyC, hi, hi3, g92, g63, g91, q0, hd']) | (refine agives (hin) ?_; try simp (disch := first | omega | simp) [wrap_i64, -aseqC, -anyC, hi, hi3, g92, g63, g91, q0, hd']) | (refine acallAt (hin) ?_; try simp (disch := first | omega | simp) [wrap_i64, -aseqC, -anyC, hi, hi3, g92, g63, g91, q0, hd']) | (refine awp_seq_k fun K hK => ?_) | (refine awp_regionC ?_) | (refine awp_anyA true (by kernel_rfl) (by kernel_rfl) ?_) | (refine awp_anyA false (by kernel_rfl) (by kernel_rfl) ?_) | (refine hK _ ?_; clear hK; clear K) | (clear hK; clear K; refine hK _ ?_; clear hK; clear K) | (clear hK; clear K; clear hK; clear K; refine hK _ ?_; clear hK; clear K) | refine awp_block ?_ | (refine awp_condC ?_; simp (disch := first | omega | simp) [wrap_i64, -aseqC, -anyC, hi, hi3, g92, g63, g91, q0, hd']) | (refine awp_exit ?_; try simp (disch := first | omega | simp) [wrap_i64, -aseqC, -anyC, hi, hi3, g92, g63, g91, q0, hd']) | (refine awp_skip ?_; try simp (disch := first | omega | simp) [wrap_i64, -aseqC, -anyC, hi, hi3, g92, g63, g91, q0, hd']) | (refine awp_ret ?_; try simp (disch := first | omega | simp) [wrap_i64, -aseqC, -anyC, hi, hi3, g92, g63, g91, q0, hd']))
          all_goals rfl
        | none =>
          rw [hc] at hcg hh
          dsimp only at hh
          rw [hh]
          have hcg' : Gives Tryd.prog 56 [.str s, .int i] (.tup [.int 0, .bool false, .str ⟨#[]⟩, .bool false]) := hcg
          have hb := byte_eq s.data[i] c
          rw [g91, h91] at hb
          refine gives_of_awp Tryd.func51 Tryd.ntmps51 rfl rfl (by decide) rfl (by intro n; simp) fun σ n0 hcl hft => ?_
          repeat' (first | ((with_reducible refine aguard (fun hg => ?_) (fun hg => ?_)) <;> (try simp only [hg]) <;> (try simp only [beq_iff_eq, beq_eq_false_iff_ne, ne_eq, decide_eq_true_eq, decide_eq_false_iff_not, bne_iff_ne, bne_eq_false_iff_eq] at hg) <;> (try (first | simp only [eq_false hg, if_true, if_false] | simp only [eq_true hg, if_true, if_false])) <;> (try simp (disch := first | omega | simp) [wrap_i64, -aseqC, -anyC, hi, hi3, g92, g63, g91, q0])) | (with_reducible refine aseq_step ?_; try simp (disch := first | omega | simp) [wrap_i64, -aseqC, -anyC, hi, hi3, g92, g63, g91, q0]) | (with_reducible refine any_step' ?_; try simp (disch := first | omega | simp) [wrap_i64, -aseqC, -anyC, hi, hi3, g92, g63, g91, q0]) | (with_reducible refine aseq_end ?_; try simp (disch := first | omega | simp) [wrap_i64, -aseqC, -anyC, hi, hi3, g92, g63, g91, q0]) | (with_reducible refine any_end' ?_; try simp (disch := first | omega | simp) [wrap_i64, -aseqC, -anyC, hi, hi3, g92, g63, g91, q0]) | ((first | with_reducible refine sideG ?_ ?_ | with_reducible refine sideG2 ?_ ?_ | with_reducible refine sideS ?_ ?_ | with_reducible refine sideS2 ?_ ?_ | with_reducible refine sideS3 ?_ ?_ | with_reducible refine sideA ?_ ?_ | with_reducible refine sideA2 ?_ ?_ | with_reducible refine sideA3 ?_ ?_); (first | omega | assumption | (simp; done))) | (refine acall (hcg') ?_; try simp (disch := first | omega | simp) [wrap_i64, -aseqC, -anyC, hi, hi3, g92, g63, g91, q0]) | (refine agives (hcg') ?_; try simp (disch := first | omega | simp) [wrap_i64, -aseqC, -anyC, hi, hi3, g92, g63, g91, q0]) | (refine acallAt (hcg') ?_; try simp (disch := first | omega | simp) [wrap_i64, -aseqC, -anyC, hi, hi3, g92, g63, g91, q0]) | (refine awp_seq_k fun K hK => ?_) | (refine awp_regionC ?_) | (refine awp_anyA true (by kernel_rfl) (by kernel_rfl) ?_) | (refine awp_anyA false (by kernel_rfl) (by kernel_rfl) ?_) | (refine hK _ ?_; clear hK; clear K) | (clear hK; clear K; refine hK _ ?_; clear hK; clear K) | (clear hK; clear K; clear hK; clear K; refine hK _ ?_; clear hK; clear K) | refine awp_block ?_ | (refine awp_condC ?_; simp (disch := first | omega | simp) [wrap_i64, -aseqC, -anyC, hi, hi3, g92, g63, g91, q0]) | (refine awp_exit ?_; try simp (disch := first | omega | simp) [wrap_i64, -aseqC, -anyC, hi, hi3, g92, g63, g91, q0]) | (refine awp_skip ?_; try simp (disch := first | omega | simp) [wrap_i64, -aseqC, -anyC, hi, hi3, g92, g63, g91, q0]) | (refine awp_ret ?_; try simp (disch := first | omega | simp) [wrap_i64, -aseqC, -anyC, hi, hi3, g92, g63, g91, q0]))
          all_goals exact hb
      · have g91 : ¬ (s.data[i].toNat : Int) = 91 := fun h => h91 (UInt8.toNat_inj.1 (by rw [e91]; omega))
        have hh : head (s.data.toList.drop i) = (.byte s.data[i], 1) := by rw [hd1, head_plain h42' h63 h91 (.inl h92)]
        rw [hh]
        refine gives_of_awp Tryd.func51 Tryd.ntmps51 rfl rfl (by decide) rfl (by intro n; simp) fun σ n0 hcl hft => ?_
        repeat' (first | ((with_reducible refine aguard (fun hg => ?_) (fun hg => ?_)) <;> (try simp only [hg]) <;> (try simp only [beq_iff_eq, beq_eq_false_iff_ne, ne_eq, decide_eq_true_eq, decide_eq_false_iff_not, bne_iff_ne, bne_eq_false_iff_eq] at hg) <;> (try (first | simp only [eq_false hg, if_true, if_false] | simp only [eq_true hg, if_true, if_false])) <;> (try simp (disch := first | omega | simp) [wrap_i64, -aseqC, -anyC, hi, hi3, g92, g63, g91, q0])) | (with_reducible refine aseq_step ?_; try simp (disch := first | omega | simp) [wrap_i64, -aseqC, -anyC, hi, hi3, g92, g63, g91, q0]) | (with_reducible refine any_step' ?_; try simp (disch := first | omega | simp) [wrap_i64, -aseqC, -anyC, hi, hi3, g92, g63, g91, q0]) | (with_reducible refine aseq_end ?_; try simp (disch := first | omega | simp) [wrap_i64, -aseqC, -anyC, hi, hi3, g92, g63, g91, q0]) | (with_reducible refine any_end' ?_; try simp (disch := first | omega | simp) [wrap_i64, -aseqC, -anyC, hi, hi3, g92, g63, g91, q0]) | ((first | with_reducible refine sideG ?_ ?_ | with_reducible refine sideG2 ?_ ?_ | with_reducible refine sideS ?_ ?_ | with_reducible refine sideS2 ?_ ?_ | with_reducible refine sideS3 ?_ ?_ | with_reducible refine sideA ?_ ?_ | with_reducible refine sideA2 ?_ ?_ | with_reducible refine sideA3 ?_ ?_); (first | omega | assumption | (simp; done))) | (refine awp_seq_k fun K hK => ?_) | (refine awp_regionC ?_) | (refine awp_anyA true (by kernel_rfl) (by kernel_rfl) ?_) | (refine awp_anyA false (by kernel_rfl) (by kernel_rfl) ?_) | (refine hK _ ?_; clear hK; clear K) | (clear hK; clear K; refine hK _ ?_; clear hK; clear K) | (clear hK; clear K; clear hK; clear K; refine hK _ ?_; clear hK; clear K) | refine awp_block ?_ | (refine awp_condC ?_; simp (disch := first | omega | simp) [wrap_i64, -aseqC, -anyC, hi, hi3, g92, g63, g91, q0]) | (refine awp_exit ?_; try simp (disch := first | omega | simp) [wrap_i64, -aseqC, -anyC, hi, hi3, g92, g63, g91, q0]) | (refine awp_skip ?_; try simp (disch := first | omega | simp) [wrap_i64, -aseqC, -anyC, hi, hi3, g92, g63, g91, q0]) | (refine awp_ret ?_; try simp (disch := first | omega | simp) [wrap_i64, -aseqC, -anyC, hi, hi3, g92, g63, g91, q0]))
        all_goals first | exact absurd (by assumption) g92 | exact absurd (by assumption) g63 | exact absurd (by assumption) g91 | exact byte_eq _ _ | trace_state
end Go.Proofs.YtkhmlicikbnmdaaDoor
