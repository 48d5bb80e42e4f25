/- Walk: Plain, of the program. -/
import Derived.Test.YtkhmlicikbnmdaaDoorGa22
import Derived.Test.YtkhmlicikbnmdaaDoorGa23
set_option linter.unusedSimpArgs false
set_option linter.unusedVariables false
namespace Go.Proofs.YtkhmlicikbnmdaaDoor
open Go.RowKit Go.Lib

/-- what Plain keeps of the part at the head of a pattern -/
def ptxt (p : List UInt8) : List UInt8 := match head p with
  | (.byte b, 2) => [b]
  | (_, n) => p.take n
def plainF : Nat → List UInt8 → List UInt8
  | 0, _ => []
  | n + 1, p => if p = [] then [] else ptxt p ++ plainF n (p.drop (head p).2)
def plainP (p : List UInt8) : List UInt8 := plainF p.length p
theorem plainF_any : ∀ {n m : Nat} {p : List UInt8}, p.length ≤ n → p.length ≤ m → plainF n p = plainF m p
  | 0, 0, _, _, _ => rfl
  | 0, m + 1, p, h, _ => by
    have : p = [] := List.eq_nil_of_length_eq_zero (by omega)
    subst this; rfl
  | n + 1, 0, p, _, h => by
    have : p = [] := List.eq_nil_of_length_eq_zero (by omega)
    subst this; rfl
  | n + 1, m + 1, p, h1, h2 => by
    unfold plainF
    by_cases hp : p = []
    · rw [if_pos hp, if_pos hp]
    · rw [if_neg hp, if_neg hp]
      have := head_len hp
      rw [plainF_any (n := n) (m := m) (by rw [List.length_drop]; omega) (by rw [List.length_drop]; omega)]
theorem plainP_nil : plainP [] = [] := rfl
theorem plainP_cons {p : List UInt8} (h : p ≠ []) : plainP p = ptxt p ++ plainP (p.drop (head p).2) := by
  have hl := head_len h
  unfold plainP
  obtain ⟨n, hn⟩ : ∃ n, p.length = n + 1 := ⟨p.length - 1, by omega⟩
  rw [hn, plainF, if_neg h, plainF_any (n := n) (m := (p.drop (head p).2).length) (by rw [List.length_drop]; omega) (Nat.le_refl _)]
theorem ptxt_len {p : List UInt8} (h : p ≠ []) : (ptxt p).length ≤ (head p).2 := by
  unfold ptxt
  split
  · rename_i e; rw [e]; simp
  · rename_i e; rw [e]; simp; omega
theorem plainF_len : ∀ (n : Nat) (p : List UInt8), (plainF n p).length ≤ p.length
  | 0, _ => Nat.zero_le _
  | n + 1, p => by
    unfold plainF
    split
    · exact Nat.zero_le _
    · rename_i h
      have h1 := ptxt_len h
      have h2 := head_len h
      have h3 := plainF_len n (p.drop (head p).2)
      rw [List.length_drop] at h3
      rw [List.length_append]; omega
theorem plain_at {l : List UInt8} {i : Nat} (hi : i < l.length) : plainP (l.drop i) = ptxt (l.drop i) ++ plainP (l.drop (i + (head (l.drop i)).2)) := by
  rw [plainP_cons (drop_ne hi), List.drop_drop]
set_option maxHeartbeats 4000000 in
theorem plain_g (s : ByteArray) (hs : s.size ≤ 1000000) : Gives Tryd.prog 25 [.str s] (.str (bytesA (plainP s.data.toList))) := by
  obtain ⟨R, hR⟩ : ∃ R, R = plainP s.data.toList := ⟨_, rfl⟩
  have hRl : R.length ≤ 1000000 := by
    rw [hR]
    have := plainF_len s.data.toList.length s.data.toList
    rw [← Lib.size_eq] at this
    unfold plainP
    rw [← Lib.size_eq]; omega
  rw [← hR]
  have hss : s.data.toList.length = s.size := by rw [← Lib.size_eq]
  have e92 : (92 : UInt8).toNat = 92 := rfl
  have e91 : (91 : UInt8).toNat = 91 := rfl
  refine gives_of_awp Tryd.func25 Tryd.ntmps25 rfl rfl (by decide) rfl (by intro n; simp) fun σ n0 hcl hft => ?_
  repeat' (first | (refine awp_adoptC 0 1 5 1 (by rfl) (by rfl) ?_; try simp (disch := first | omega | simp) [wrap_i64, -aseqC, -anyC]) | ((with_reducible refine aguard (fun hg => ?_) (fun hg => ?_)) <;> (try simp only [hg]) <;> (try simp only [beq_iff_eq, beq_eq_false_iff_ne, ne_eq, decide_eq_true_eq, decide_eq_false_iff_not, bne_iff_ne, bne_eq_false_iff_eq] at hg) <;> (try (first | simp only [eq_false hg, if_true, if_false] | simp only [eq_true hg, if_true, if_false])) <;> (try simp (disch := first | omega | simp) [wrap_i64, -aseqC, -anyC])) | (with_reducible refine aseq_step ?_; try simp (disch := first | omega | simp) [wrap_i64, -aseqC, -anyC]) | (with_reducible refine any_step' ?_; try simp (disch := first | omega | simp) [wrap_i64, -aseqC, -anyC]) | (with_reducible refine aseq_end ?_; try simp (disch := first | omega | simp) [wrap_i64, -aseqC, -anyC]) | (with_reducible refine any_end' ?_; try simp (disch := first | omega | simp) [wrap_i64, -aseqC, -anyC]) | ((first | with_reducible refine sideG ?_ ?_ | with_reducible refine sideG2 ?_ ?_ | with_reducible refine sideS ?_ ?_ | with_reducible refine sideS2 ?_ ?_ | with_reducible refine sideS3 ?_ ?_ | with_reducible refine sideA ?_ ?_ | with_reducible refine sideA2 ?_ ?_ | with_reducible refine sideA3 ?_ ?_); (first | omega | assumption | (simp; done))) | (refine bld_byte (i := 0) (j := 1) _ (by rfl) (by rfl) (by first | rfl | (simp; done) | omega | (simp; omega)) (by first | (simp; done) | assumption) (by first | (simp; done) | assumption) (by first | omega | (simp; done) | (simp; omega)) ?_; try simp (disch := first | omega | simp) [wrap_i64, -aseqC, -anyC]) | (refine bld_string (i := 0) (j := 1) _ (by rfl) (by rfl) (by first | rfl | (simp; done) | omega | (simp; omega)) (by first | (simp; done) | assumption) (by first | (simp; done) | assumption) (by first | omega | (simp; done) | (simp; omega)) ?_; try simp (disch := first | omega | simp) [wrap_i64, -aseqC, -anyC]) | (refine awp_seq_k fun K hK => ?_) | (refine awp_regionC ?_) | (refine awp_anyA true (by kernel_rfl) (by kernel_rfl) ?_) | (refine awp_anyA false (by kernel_rfl) (by kernel_rfl) ?_) | (refine hK _ ?_; clear hK; clear K) | (clear hK; clear K; refine hK _ ?_; clear hK; clear K) | (clear hK; clear K; clear hK; clear K; refine hK _ ?_; clear hK; clear K) | refine awp_block ?_ | (refine awp_condC ?_; simp (disch := first | omega | simp) [wrap_i64, -aseqC, -anyC]) | (refine awp_exit ?_; try simp (disch := first | omega | simp) [wrap_i64, -aseqC, -anyC]) | (refine awp_skip ?_; try simp (disch := first | omega | simp) [wrap_i64, -aseqC, -anyC]) | (refine awp_ret ?_; try simp (disch := first | omega | simp) [wrap_i64, -aseqC, -anyC]))
  refine awp_loopC hcl (fun x : Nat × List UInt8 × AV => [(0, .str s), (3, .ptr n0 0), (4, .int x.1)]) (fun x => [.cells [x.2.2, .gs (n0 + 1) (x.2.1.map AV.byte)] 54, .tail x.2.1.length 5 1])
    (fun x => x.1 ≤ s.size ∧ x.2.1 ++ plainP (s.data.toList.drop x.1) = R ∧ (x.2.2 = .v (.pointer none) ∨ x.2.2 = .ptr n0 0)) (fun x => s.size - x.1) (0, [], .v (.pointer none)) ⟨Nat.zero_le _, by rw [hR]; rfl, .inl rfl⟩ (by simp) fun ⟨i, acc, P⟩ ⟨hi, hin, hP⟩ => ?_
  dsimp only at hi hin hP ⊢
  have hal : acc.length ≤ 1000000 := by have := congrArg List.length hin; rw [List.length_append] at this; omega
  by_cases hlt : i < s.size
  · have hlt3 : i < s.data.size := hlt
    have hgi : s.data.toList[i]'(by omega) = s.data[i] := by rw [Array.getElem_toList]
    have hd1 : s.data.toList.drop i = s.data[i] :: s.data.toList.drop (i + 1) := by rw [List.drop_eq_getElem_cons (by omega), hgi]
    have hm := plain_at (l := s.data.toList) (i := i) (by omega)
    rw [hm] at hin
    have q0 : (0 : Int) ≤ (i : Int) + 1 := by omega
    by_cases h92 : s.data[i] = 92 ∧ i + 1 < s.size
    · obtain ⟨h92, hl⟩ := h92
      have g92 : s.data[i].toNat = 92 := by rw [h92]; rfl
      have hl' : (i : Int) + 1 < s.size := by omega
      have hl3 : i + 1 < s.data.size := hl
      have hd2 : s.data.toList.drop i = 92 :: s.data[i + 1] :: s.data.toList.drop (i + 2) := by
        rw [hd1, h92, List.drop_eq_getElem_cons (by omega), Array.getElem_toList]
      have e1 : head (92 :: s.data[i + 1] :: s.data.toList.drop (i + 2)) = (.byte s.data[i + 1], 2) := rfl
      have e2 : ptxt (s.data.toList.drop i) = [s.data[i + 1]] := by rw [hd2]; unfold ptxt; rw [e1]; rfl
      have e3 : (head (s.data.toList.drop i)).2 = 2 := by rw [hd2, e1]
      rw [e2, e3] at hin
      repeat' (first | (refine awp_adoptC 0 1 5 1 (by rfl) (by rfl) ?_; try simp (disch := first | omega | simp) [wrap_i64, -aseqC, -anyC, hlt, hlt3, g92, hl, hl', hl3, q0]) | ((with_reducible refine aguard (fun hg => ?_) (fun hg => ?_)) <;> (try simp only [hg]) <;> (try simp only [beq_iff_eq, beq_eq_false_iff_ne, ne_eq, decide_eq_true_eq, decide_eq_false_iff_not, bne_iff_ne, bne_eq_false_iff_eq] at hg) <;> (try (first | simp only [eq_false hg, if_true, if_false] | simp only [eq_true hg, if_true, if_false])) <;> (try simp (disch := first | omega | simp) [wrap_i64, -aseqC, -anyC, hlt, hlt3, g92, hl, hl', hl3, q0])) | (with_reducible refine aseq_step ?_; try simp (disch := first | omega | simp) [wrap_i64, -aseqC, -anyC, hlt, hlt3, g92, hl, hl', hl3, q0]) | (with_reducible refine any_step' ?_; try simp (disch := first | omega | simp) [wrap_i64, -aseqC, -anyC, hlt, hlt3, g92, hl, hl', hl3, q0]) | (with_reducible refine aseq_end ?_; try simp (disch := first | omega | simp) [wrap_i64, -aseqC, -anyC, hlt, hlt3, g92, hl, hl', hl3, q0]) | (with_reducible refine any_end' ?_; try simp (disch := first | omega | simp) [wrap_i64, -aseqC, -anyC, hlt, hlt3, g92, hl, hl', hl3, q0]) | ((first | with_reducible refine sideG ?_ ?_ | with_reducible refine sideG2 ?_ ?_ | with_reducible refine sideS ?_ ?_ | with_reducible refine sideS2 ?_ ?_ | with_reducible refine sideS3 ?_ ?_ | with_reducible refine sideA ?_ ?_ | with_reducible refine sideA2 ?_ ?_ | with_reducible refine sideA3 ?_ ?_); (first | omega | assumption | (simp; done))) | (refine bld_byte (i := 0) (j := 1) _ (by rfl) (by rfl) (by first | rfl | (simp; done) | omega | (simp; omega)) (by first | (simp; done) | assumption) (by first | (simp; done) | assumption) (by first | omega | (simp; done) | (simp; omega)) ?_; try simp (disch := first | omega | simp) [wrap_i64, -aseqC, -anyC, hlt, hlt3, g92, hl, hl', hl3, q0]) | (refine bld_string (i := 0) (j := 1) _ (by rfl) (by rfl) (by first | rfl | (simp; done) | omega | (simp; omega)) (by first | (simp; done) | assumption) (by first | (simp; done) | assumption) (by first | omega | (simp; done) | (simp; omega)) ?_; try simp (disch := first | omega | simp) [wrap_i64, -aseqC, -anyC, hlt, hlt3, g92, hl, hl', hl3, q0]) | (refine awp_seq_k fun K hK => ?_) | (refine awp_regionC ?_) | (refine awp_anyA true (by kernel_rfl) (by kernel_rfl) ?_) | (refine awp_anyA false (by kernel_rfl) (by kernel_rfl) ?_) | (refine hK _ ?_; clear hK; clear K) | (clear hK; clear K; refine hK _ ?_; clear hK; clear K) | (clear hK; clear K; clear hK; clear K; refine hK _ ?_; clear hK; clear K) | refine awp_block ?_ | (refine awp_condC ?_; simp (disch := first | omega | simp) [wrap_i64, -aseqC, -anyC, hlt, hlt3, g92, hl, hl', hl3, q0]) | (refine awp_exit ?_; try simp (disch := first | omega | simp) [wrap_i64, -aseqC, -anyC, hlt, hlt3, g92, hl, hl', hl3, q0]) | (refine awp_skip ?_; try simp (disch := first | omega | simp) [wrap_i64, -aseqC, -anyC, hlt, hlt3, g92, hl, hl', hl3, q0]) | (refine awp_ret ?_; try simp (disch := first | omega | simp) [wrap_i64, -aseqC, -anyC, hlt, hlt3, g92, hl, hl', hl3, q0]))
      all_goals exact ⟨i + 2, acc ++ [s.data[i + 1]], .ptr n0 0, ⟨by omega, by rw [List.append_assoc]; exact hin, .inr rfl⟩, by omega, by simp, by simp, by omega⟩
    · have h92' : s.data[i] = 92 → ¬ (i : Int) + 1 < s.size := fun h h2 => h92 ⟨h, by omega⟩
      have eh : s.data[i] ≠ 91 → head (s.data.toList.drop i) = (if s.data[i] = 42 then .star else if s.data[i] = 63 then .any else .byte s.data[i], 1) := fun h => by
        rw [hd1]
        by_cases h42 : s.data[i] = 42
        · rw [if_pos h42, h42]; rfl
        · rw [if_neg h42]
          by_cases h63 : s.data[i] = 63
          · rw [if_pos h63, h63]; rfl
          · rw [if_neg h63]
            refine head_plain h42 h63 h ?_
            by_cases h9 : s.data[i] = 92
            · exact .inr (List.drop_of_length_le (by have := h92' h9; omega))
            · exact .inl h9
      have one : ∀ x, head (s.data.toList.drop i) = (x, 1) → acc ++ [s.data[i]] ++ plainP (s.data.toList.drop (i + 1)) = R := fun x hx => by
        have e2 : ptxt (s.data.toList.drop i) = [s.data[i]] := by
          unfold ptxt
          rw [hx, hd1]
          cases x <;> rfl
        rw [e2, hx] at hin
        rw [List.append_assoc]; exact hin
      by_cases h91 : s.data[i] = 91
      · have g91 : s.data[i].toNat = 91 := by rw [h91]; rfl
        have g92 : ¬ (s.data[i].toNat : Int) = 92 := by rw [g91]; decide
        have hcg := class_g s i hs hlt
        have hh := head_cls (l := s.data.toList) (i := i) (by omega) (by rw [hgi, h91])
        cases hc : classAt s.data.toList i with
        | some x =>
          obtain ⟨e, neg, set⟩ := x
          rw [hc] at hcg hh
          dsimp only at hh
          obtain ⟨l1, l2, l3⟩ := classAt_le hc
          have hcg' : Gives Tryd.prog 56 [.str s, .int i] (.tup [.int e, .bool neg, .str (bytesA set), .bool true]) := hcg
          have e2 : ptxt (s.data.toList.drop i) = (s.data.toList.drop i).take (e - i) ++ [s.data[e]'(by show e < s.size; omega)] := by
            unfold ptxt
            rw [hh]
            have : e + 1 - i = (e - i) + 1 := by omega
            rw [this]
            show (s.data.toList.drop i).take (e - i + 1) = _
            rw [List.take_succ_eq_append_getElem (by rw [List.length_drop]; omega), List.getElem_drop]
            congr 2
            have : i + (e - i) = e := by omega
            simp only [this, Array.getElem_toList]
          rw [e2, hh] at hin
          have e3 : i + (e + 1 - i) = e + 1 := by omega
          dsimp only at hin
          rw [e3] at hin
          have q1 : e < s.size := by omega
          have q2 : e < s.data.size := q1
          have q3 : i ≤ e := by omega
          have q4 : e ≤ s.size := by omega
          have ex := extract_bytes s i e
          have exl : ((s.data.toList.drop i).take (e - i)).length = e - i := by rw [List.length_take, List.length_drop]; omega
          have exs : (bytesA ((s.data.toList.drop i).take (e - i))).size = e - i := by rw [bytesA_size, exl]
          obtain ⟨X, hX⟩ : ∃ X, X = (s.data.toList.drop i).take (e - i) := ⟨_, rfl⟩
          rw [← hX] at ex exl exs hin
          repeat' (first | (refine awp_adoptC 0 1 5 1 (by rfl) (by rfl) ?_; try simp (disch := first | omega | simp) [wrap_i64, -aseqC, -anyC, hlt, hlt3, g92, g91, q1, q2, q3, q4, ex, exs]) | ((with_reducible refine aguard (fun hg => ?_) (fun hg => ?_)) <;> (try simp only [hg]) <;> (try simp only [beq_iff_eq, beq_eq_false_iff_ne, ne_eq, decide_eq_true_eq, decide_eq_false_iff_not, bne_iff_ne, bne_eq_false_iff_eq] at hg) <;> (try (first | simp only [eq_false hg, if_true, if_false] | simp only [eq_true hg, if_true, if_false])) <;> (try simp (disch := first | omega | simp) [wrap_i64, -aseqC, -anyC, hlt, hlt3, g92, g91, q1, q2, q3, q4, ex, exs])) | (with_reducible refine aseq_step ?_; try simp (disch := first | omega | simp) [wrap_i64, -aseqC, -anyC, hlt, hlt3, g92, g91, q1, q2, q3, q4, ex, exs]) | (with_reducible refine any_step' ?_; try simp (disch := first | omega | simp) [wrap_i64, -aseqC, -anyC, hlt, hlt3, g92, g91, q1, q2, q3, q4, ex, exs]) | (with_reducible refine aseq_end ?_; try simp (disch := first | omega | simp) [wrap_i64, -aseqC, -anyC, hlt, hlt3, g92, g91, q1, q2, q3, q4, ex, exs]) | (with_reducible refine any_end' ?_; try simp (disch := first | omega | simp) [wrap_i64, -aseqC, -anyC, hlt, hlt3, g92, g91, q1, q2, q3, q4, ex, exs]) | ((first | with_reducible refine sideG ?_ ?_ | with_reducible refine sideG2 ?_ ?_ | with_reducible refine sideS ?_ ?_ | with_reducible refine sideS2 ?_ ?_ | with_reducible refine sideS3 ?_ ?_ | with_reducible refine sideA ?_ ?_ | with_reducible refine sideA2 ?_ ?_ | with_reducible refine sideA3 ?_ ?_); (first | omega | assumption | (simp; done))) | (refine acall (hcg') ?_; try simp (disch := first | omega | simp) [wrap_i64, -aseqC, -anyC, hlt, hlt3, g92, g91, q1, q2, q3, q4, ex, exs]) | (refine agives (hcg') ?_; try simp (disch := first | omega | simp) [wrap_i64, -aseqC, -anyC, hlt, hlt3, g92, g91, q1, q2, q3, q4, ex, exs]) | (refine acallAt (hcg') ?_; try simp (disch := first | omega | simp) [wrap_i64, -aseqC, -anyC, hlt, hlt3, g92, g91, q1, q2, q3, q4, ex, exs]) | (refine bld_byte (i := 0) (j := 1) _ (by rfl) (by rfl) (by first | rfl | (simp; done) | omega | (simp; omega)) (by first | (simp; done) | assumption) (by first | (simp; done) | assumption) (by first | omega | (simp; done) | (simp; omega)) ?_; try simp (disch := first | omega | simp) [wrap_i64, -aseqC, -anyC, hlt, hlt3, g92, g91, q1, q2, q3, q4, ex, exs]) | (refine bld_string (i := 0) (j := 1) _ (by rfl) (by rfl) (by first | rfl | (simp; done) | omega | (simp; omega)) (by first | (simp; done) | assumption) (by first | (simp; done) | assumption) (by first | omega | (simp; done) | (simp; omega)) ?_; try simp (disch := first | omega | simp) [wrap_i64, -aseqC, -anyC, hlt, hlt3, g92, g91, q1, q2, q3, q4, ex, exs]) | (refine awp_seq_k fun K hK => ?_) | (refine awp_regionC ?_) | (refine awp_anyA true (by kernel_rfl) (by kernel_rfl) ?_) | (refine awp_anyA false (by kernel_rfl) (by kernel_rfl) ?_) | (refine hK _ ?_; clear hK; clear K) | (clear hK; clear K; refine hK _ ?_; clear hK; clear K) | (clear hK; clear K; clear hK; clear K; refine hK _ ?_; clear hK; clear K) | refine awp_block ?_ | (refine awp_condC ?_; simp (disch := first | omega | simp) [wrap_i64, -aseqC, -anyC, hlt, hlt3, g92, g91, q1, q2, q3, q4, ex, exs]) | (refine awp_exit ?_; try simp (disch := first | omega | simp) [wrap_i64, -aseqC, -anyC, hlt, hlt3, g92, g91, q1, q2, q3, q4, ex, exs]) | (refine awp_skip ?_; try simp (disch := first | omega | simp) [wrap_i64, -aseqC, -anyC, hlt, hlt3, g92, g91, q1, q2, q3, q4, ex, exs]) | (refine awp_ret ?_; try simp (disch := first | omega | simp) [wrap_i64, -aseqC, -anyC, hlt, hlt3, g92, g91, q1, q2, q3, q4, ex, exs]))
          all_goals exact ⟨e + 1, acc ++ X ++ [s.data[e]], .ptr n0 0, ⟨by omega, by rw [← hin]; simp, .inr rfl⟩, by omega, by (first | omega | (simp [AV.byte] <;> omega)), by (first | omega | (simp [AV.byte] <;> omega)), by (first | omega | (simp [AV.byte] <;> omega))⟩
        | none =>
          rw [hc] at hcg hh
          dsimp only at hh
          have hcg' : Gives Tryd.prog 56 [.str s, .int i] (.tup [.int 0, .bool false, .str ⟨#[]⟩, .bool false]) := hcg
          have h1 := one _ hh
          repeat' (first | (refine awp_adoptC 0 1 5 1 (by rfl) (by rfl) ?_; try simp (disch := first | omega | simp) [wrap_i64, -aseqC, -anyC, hlt, hlt3, g92, g91]) | ((with_reducible refine aguard (fun hg => ?_) (fun hg => ?_)) <;> (try simp only [hg]) <;> (try simp only [beq_iff_eq, beq_eq_false_iff_ne, ne_eq, decide_eq_true_eq, decide_eq_false_iff_not, bne_iff_ne, bne_eq_false_iff_eq] at hg) <;> (try (first | simp only [eq_false hg, if_true, if_false] | simp only [eq_true hg, if_true, if_false])) <;> (try simp (disch := first | omega | simp) [wrap_i64, -aseqC, -anyC, hlt, hlt3, g92, g91])) | (with_reducible refine aseq_step ?_; try simp (disch := first | omega | simp) [wrap_i64, -aseqC, -anyC, hlt, hlt3, g92, g91]) | (with_reducible refine any_step' ?_; try simp (disch := first | omega | simp) [wrap_i64, -aseqC, -anyC, hlt, hlt3, g92, g91]) | (with_reducible refine aseq_end ?_; try simp (disch := first | omega | simp) [wrap_i64, -aseqC, -anyC, hlt, hlt3, g92, g91]) | (with_reducible refine any_end' ?_; try simp (disch := first | omega | simp) [wrap_i64, -aseqC, -anyC, hlt, hlt3, g92, g91]) | ((first | with_reducible refine sideG ?_ ?_ | with_reducible refine sideG2 ?_ ?_ | with_reducible refine sideS ?_ ?_ | with_reducible refine sideS2 ?_ ?_ | with_reducible refine sideS3 ?_ ?_ | with_reducible refine sideA ?_ ?_ | with_reducible refine sideA2 ?_ ?_ | with_reducible refine sideA3 ?_ ?_); (first | omega | assumption | (simp; done))) | (refine acall (hcg') ?_; try simp (disch := first | omega | simp) [wrap_i64, -aseqC, -anyC, hlt, hlt3, g92, g91]) | (refine agives (hcg') ?_; try simp (disch := first | omega | simp) [wrap_i64, -aseqC, -anyC, hlt, hlt3, g92, g91]) | (refine acallAt (hcg') ?_; try simp (disch := first | omega | simp) [wrap_i64, -aseqC, -anyC, hlt, hlt3, g92, g91]) | (refine bld_byte (i := 0) (j := 1) _ (by rfl) (by rfl) (by first | rfl | (simp; done) | omega | (simp; omega)) (by first | (simp; done) | assumption) (by first | (simp; done) | assumption) (by first | omega | (simp; done) | (simp; omega)) ?_; try simp (disch := first | omega | simp) [wrap_i64, -aseqC, -anyC, hlt, hlt3, g92, g91]) | (refine bld_string (i := 0) (j := 1) _ (by rfl) (by rfl) (by first | rfl | (simp; done) | omega | (simp; omega)) (by first | (simp; done) | assumption) (by first | (simp; done) | assumption) (by first | omega | (simp; done) | (simp; omega)) ?_; try simp (disch := first | omega | simp) [wrap_i64, -aseqC, -anyC, hlt, hlt3, g92, g91]) | (refine awp_seq_k fun K hK => ?_) | (refine awp_regionC ?_) | (refine awp_anyA true (by kernel_rfl) (by kernel_rfl) ?_) | (refine awp_anyA false (by kernel_rfl) (by kernel_rfl) ?_) | (refine hK _ ?_; clear hK; clear K) | (clear hK; clear K; refine hK _ ?_; clear hK; clear K) | (clear hK; clear K; clear hK; clear K; refine hK _ ?_; clear hK; clear K) | refine awp_block ?_ | (refine awp_condC ?_; simp (disch := first | omega | simp) [wrap_i64, -aseqC, -anyC, hlt, hlt3, g92, g91]) | (refine awp_exit ?_; try simp (disch := first | omega | simp) [wrap_i64, -aseqC, -anyC, hlt, hlt3, g92, g91]) | (refine awp_skip ?_; try simp (disch := first | omega | simp) [wrap_i64, -aseqC, -anyC, hlt, hlt3, g92, g91]) | (refine awp_ret ?_; try simp (disch := first | omega | simp) [wrap_i64, -aseqC, -anyC, hlt, hlt3, g92, g91]))
          all_goals first | exact absurd (by assumption) g91 | exact absurd (by assumption) g92 | exact ⟨i + 1, acc ++ [s.data[i]], .ptr n0 0, ⟨by omega, h1, .inr rfl⟩, by omega, by (first | omega | (simp [AV.byte] <;> omega)), by (first | omega | (simp [AV.byte] <;> omega)), by (first | omega | (simp [AV.byte] <;> omega))⟩
      · have g91 : ¬ (s.data[i].toNat : Int) = 91 := fun h => h91 (UInt8.toNat_inj.1 (by rw [e91]; omega))
        have h1 := one _ (eh h91)
        by_cases h9 : s.data[i] = 92
        · have g92 : s.data[i].toNat = 92 := by rw [h9]; rfl
          have hl' := h92' h9
          repeat' (first | (refine awp_adoptC 0 1 5 1 (by rfl) (by rfl) ?_; try simp (disch := first | omega | simp) [wrap_i64, -aseqC, -anyC, hlt, hlt3, g92, hl']) | ((with_reducible refine aguard (fun hg => ?_) (fun hg => ?_)) <;> (try simp only [hg]) <;> (try simp only [beq_iff_eq, beq_eq_false_iff_ne, ne_eq, decide_eq_true_eq, decide_eq_false_iff_not, bne_iff_ne, bne_eq_false_iff_eq] at hg) <;> (try (first | simp only [eq_false hg, if_true, if_false] | simp only [eq_true hg, if_true, if_false])) <;> (try simp (disch := first | omega | simp) [wrap_i64, -aseqC, -anyC, hlt, hlt3, g92, hl'])) | (with_reducible refine aseq_step ?_; try simp (disch := first | omega | simp) [wrap_i64, -aseqC, -anyC, hlt, hlt3, g92, hl']) | (with_reducible refine any_step' ?_; try simp (disch := first | omega | simp) [wrap_i64, -aseqC, -anyC, hlt, hlt3, g92, hl']) | (with_reducible refine aseq_end ?_; try simp (disch := first | omega | simp) [wrap_i64, -aseqC, -anyC, hlt, hlt3, g92, hl']) | (with_reducible refine any_end' ?_; try simp (disch := first | omega | simp) [wrap_i64, -aseqC, -anyC, hlt, hlt3, g92, hl']) | ((first | with_reducible refine sideG ?_ ?_ | with_reducible refine sideG2 ?_ ?_ | with_reducible refine sideS ?_ ?_ | with_reducible refine sideS2 ?_ ?_ | with_reducible refine sideS3 ?_ ?_ | with_reducible refine sideA ?_ ?_ | with_reducible refine sideA2 ?_ ?_ | with_reducible refine sideA3 ?_ ?_); (first | omega | assumption | (simp; done))) | (refine bld_byte (i := 0) (j := 1) _ (by rfl) (by rfl) (by first | rfl | (simp; done) | omega | (simp; omega)) (by first | (simp; done) | assumption) (by first | (simp; done) | assumption) (by first | omega | (simp; done) | (simp; omega)) ?_; try simp (disch := first | omega | simp) [wrap_i64, -aseqC, -anyC, hlt, hlt3, g92, hl']) | (refine bld_string (i := 0) (j := 1) _ (by rfl) (by rfl) (by first | rfl | (simp; done) | omega | (simp; omega)) (by first | (simp; done) | assumption) (by first | (simp; done) | assumption) (by first | omega | (simp; done) | (simp; omega)) ?_; try simp (disch := first | omega | simp) [wrap_i64, -aseqC, -anyC, hlt, hlt3, g92, hl']) | (refine awp_seq_k fun K hK => ?_) | (refine awp_regionC ?_) | (refine awp_anyA true (by kernel_rfl) (by kernel_rfl) ?_) | (refine awp_anyA false (by kernel_rfl) (by kernel_rfl) ?_) | (refine hK _ ?_; clear hK; clear K) | (clear hK; clear K; refine hK _ ?_; clear hK; clear K) | (clear hK; clear K; clear hK; clear K; refine hK _ ?_; clear hK; clear K) | refine awp_block ?_ | (refine awp_condC ?_; simp (disch := first | omega | simp) [wrap_i64, -aseqC, -anyC, hlt, hlt3, g92, hl']) | (refine awp_exit ?_; try simp (disch := first | omega | simp) [wrap_i64, -aseqC, -anyC, hlt, hlt3, g92, hl']) | (refine awp_skip ?_; try simp (disch := first | omega | simp) [wrap_i64, -aseqC, -anyC, hlt, hlt3, g92, hl']) | (refine awp_ret ?_; try simp (disch := first | omega | simp) [wrap_i64, -aseqC, -anyC, hlt, hlt3, g92, hl']))
          all_goals first | exact absurd (by assumption) g91 | exact absurd (by assumption) g92 | exact ⟨i + 1, acc ++ [s.data[i]], .ptr n0 0, ⟨by omega, h1, .inr rfl⟩, by omega, by (first | omega | (simp [AV.byte] <;> omega)), by (first | omega | (simp [AV.byte] <;> omega)), by (first | omega | (simp [AV.byte] <;> omega))⟩
        · have g92 : ¬ (s.data[i].toNat : Int) = 92 := fun h => h9 (UInt8.toNat_inj.1 (by rw [e92]; omega))
          repeat' (first | (refine awp_adoptC 0 1 5 1 (by rfl) (by rfl) ?_; try simp (disch := first | omega | simp) [wrap_i64, -aseqC, -anyC, hlt, hlt3, g92, g91]) | ((with_reducible refine aguard (fun hg => ?_) (fun hg => ?_)) <;> (try simp only [hg]) <;> (try simp only [beq_iff_eq, beq_eq_false_iff_ne, ne_eq, decide_eq_true_eq, decide_eq_false_iff_not, bne_iff_ne, bne_eq_false_iff_eq] at hg) <;> (try (first | simp only [eq_false hg, if_true, if_false] | simp only [eq_true hg, if_true, if_false])) <;> (try simp (disch := first | omega | simp) [wrap_i64, -aseqC, -anyC, hlt, hlt3, g92, g91])) | (with_reducible refine aseq_step ?_; try simp (disch := first | omega | simp) [wrap_i64, -aseqC, -anyC, hlt, hlt3, g92, g91]) | (with_reducible refine any_step' ?_; try simp (disch := first | omega | simp) [wrap_i64, -aseqC, -anyC, hlt, hlt3, g92, g91]) | (with_reducible refine aseq_end ?_; try simp (disch := first | omega | simp) [wrap_i64, -aseqC, -anyC, hlt, hlt3, g92, g91]) | (with_reducible refine any_end' ?_; try simp (disch := first | omega | simp) [wrap_i64, -aseqC, -anyC, hlt, hlt3, g92, g91]) | ((first | with_reducible refine sideG ?_ ?_ | with_reducible refine sideG2 ?_ ?_ | with_reducible refine sideS ?_ ?_ | with_reducible refine sideS2 ?_ ?_ | with_reducible refine sideS3 ?_ ?_ | with_reducible refine sideA ?_ ?_ | with_reducible refine sideA2 ?_ ?_ | with_reducible refine sideA3 ?_ ?_); (first | omega | assumption | (simp; done))) | (refine bld_byte (i := 0) (j := 1) _ (by rfl) (by rfl) (by first | rfl | (simp; done) | omega | (simp; omega)) (by first | (simp; done) | assumption) (by first | (simp; done) | assumption) (by first | omega | (simp; done) | (simp; omega)) ?_; try simp (disch := first | omega | simp) [wrap_i64, -aseqC, -anyC, hlt, hlt3, g92, g91]) | (refine bld_string (i := 0) (j := 1) _ (by rfl) (by rfl) (by first | rfl | (simp; done) | omega | (simp; omega)) (by first | (simp; done) | assumption) (by first | (simp; done) | assumption) (by first | omega | (simp; done) | (simp; omega)) ?_; try simp (disch := first | omega | simp) [wrap_i64, -aseqC, -anyC, hlt, hlt3, g92, g91]) | (refine awp_seq_k fun K hK => ?_) | (refine awp_regionC ?_) | (refine awp_anyA true (by kernel_rfl) (by kernel_rfl) ?_) | (refine awp_anyA false (by kernel_rfl) (by kernel_rfl) ?_) | (refine hK _ ?_; clear hK; clear K) | (clear hK; clear K; refine hK _ ?_; clear hK; clear K) | (clear hK; clear K; clear hK; clear K; refine hK _ ?_; clear hK; clear K) | refine awp_block ?_ | (refine awp_condC ?_; simp (disch := first | omega | simp) [wrap_i64, -aseqC, -anyC, hlt, hlt3, g92, g91]) | (refine awp_exit ?_; try simp (disch := first | omega | simp) [wrap_i64, -aseqC, -anyC, hlt, hlt3, g92, g91]) | (refine awp_skip ?_; try simp (disch := first | omega | simp) [wrap_i64, -aseqC, -anyC, hlt, hlt3, g92, g91]) | (refine awp_ret ?_; try simp (disch := first | omega | simp) [wrap_i64, -aseqC, -anyC, hlt, hlt3, g92, g91]))
          all_goals first | exact absurd (by assumption) g91 | exact absurd (by assumption) g92 | exact ⟨i + 1, acc ++ [s.data[i]], .ptr n0 0, ⟨by omega, h1, .inr rfl⟩, by omega, by simp, by simp [AV.byte], by omega⟩
  · rw [List.drop_of_length_le (by omega), plainP_nil, List.append_nil] at hin
    subst hin
    repeat' (first | ((with_reducible refine aguard (fun hg => ?_) (fun hg => ?_)) <;> (try simp only [hg]) <;> (try simp only [beq_iff_eq, beq_eq_false_iff_ne, ne_eq, decide_eq_true_eq, decide_eq_false_iff_not, bne_iff_ne, bne_eq_false_iff_eq] at hg) <;> (try (first | simp only [eq_false hg, if_true, if_false] | simp only [eq_true hg, if_true, if_false])) <;> (try simp (disch := first | omega | simp) [wrap_i64, -aseqC, -anyC, hlt])) | (with_reducible refine aseq_step ?_; try simp (disch := first | omega | simp) [wrap_i64, -aseqC, -anyC, hlt]) | (with_reducible refine any_step' ?_; try simp (disch := first | omega | simp) [wrap_i64, -aseqC, -anyC, hlt]) | (with_reducible refine aseq_end ?_; try simp (disch := first | omega | simp) [wrap_i64, -aseqC, -anyC, hlt]) | (with_reducible refine any_end' ?_; try simp (disch := first | omega | simp) [wrap_i64, -aseqC, -anyC, hlt]) | ((first | with_reducible refine sideG ?_ ?_ | with_reducible refine sideG2 ?_ ?_ | with_reducible refine sideS ?_ ?_ | with_reducible refine sideS2 ?_ ?_ | with_reducible refine sideS3 ?_ ?_ | with_reducible refine sideA ?_ ?_ | with_reducible refine sideA2 ?_ ?_ | with_reducible refine sideA3 ?_ ?_); (first | omega | assumption | (simp; done))) | (refine acall (bld_read (i := 0) (j := 1) acc (by rfl) (by rfl) (by simp) (by simp)) ?_; try simp (disch := first | omega | simp) [wrap_i64, -aseqC, -anyC, hlt]) | (refine agives (bld_read (i := 0) (j := 1) acc (by rfl) (by rfl) (by simp) (by simp)) ?_; try simp (disch := first | omega | simp) [wrap_i64, -aseqC, -anyC, hlt]) | (refine acallAt (bld_read (i := 0) (j := 1) acc (by rfl) (by rfl) (by simp) (by simp)) ?_; try simp (disch := first | omega | simp) [wrap_i64, -aseqC, -anyC, hlt]) | (refine awp_seq_k fun K hK => ?_) | (refine awp_regionC ?_) | (refine awp_anyA true (by kernel_rfl) (by kernel_rfl) ?_) | (refine awp_anyA false (by kernel_rfl) (by kernel_rfl) ?_) | (refine hK _ ?_; clear hK; clear K) | (clear hK; clear K; refine hK _ ?_; clear hK; clear K) | (clear hK; clear K; clear hK; clear K; refine hK _ ?_; clear hK; clear K) | refine awp_block ?_ | (refine awp_condC ?_; simp (disch := first | omega | simp) [wrap_i64, -aseqC, -anyC, hlt]) | (refine awp_exit ?_; try simp (disch := first | omega | simp) [wrap_i64, -aseqC, -anyC, hlt]) | (refine awp_skip ?_; try simp (disch := first | omega | simp) [wrap_i64, -aseqC, -anyC, hlt]) | (refine awp_ret ?_; try simp (disch := first | omega | simp) [wrap_i64, -aseqC, -anyC, hlt]))
    all_goals rfl
end Go.Proofs.YtkhmlicikbnmdaaDoor
