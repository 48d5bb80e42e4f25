/- Walks: patterns, of the program. -/
import Derived.Test.YtkhmlicikbnmdaaDoorGa18
set_option linter.unusedSimpArgs false
set_option linter.unusedVariables false
namespace Go.Proofs.YtkhmlicikbnmdaaDoor
open Go.RowKit Go.Lib

/-- the place of the ] that closes a class -/
def closeAt (l : List UInt8) (i : Nat) : Int := match closeI (l.drop i) with
  | some n => (i : Int) + n
  | none => -1
theorem indexByte_eq (c : UInt8) : ∀ l : List UInt8, Lib.indexByte l c = match l.findIdx? (· == c) with | some n => (n : Int) | none => -1
  | [] => rfl
  | d :: l => by
    have ih := indexByte_eq c l
    rw [Lib.indexByte, List.findIdx?_cons]
    by_cases h : d == c
    · rw [if_pos h, if_pos h]
      all_goals rfl
    · rw [if_neg h, if_neg h, ih]
      cases l.findIdx? (· == c) with
      | none => rfl
      | some n =>
        dsimp only [Option.map]
        rw [if_neg (by first | (simp; done) | (simp; omega))]
        all_goals rfl
theorem closing_g (s : ByteArray) (i : Nat) (hs : s.size ≤ 1000000) (hi : i ≤ 2000000) : Gives Tryd.prog 74 [.str s, .int i] (.int (closeAt s.data.toList i)) := by
  have hsz : s.data.toList.length = s.size := by rw [← Lib.size_eq]
  by_cases h1 : i < s.size
  · have h1' : ¬ (s.size : Int) < i + 1 := by omega
    have i0 : (0 : Int) ≤ (i : Int) + 1 := by omega
    have i1 : i + 1 ≤ s.size := by omega
    have c1 := indexByte_g (s.extract (i + 1) s.size) 93
    have e93 : ((93 : Int)).toNat.toUInt8 = 93 := rfl
    have ex : (s.extract (i + 1) s.size).data.toList = s.data.toList.drop (i + 1) := by
      rw [ByteArray.data_extract, Array.toList_extract, List.extract_eq_take_drop, List.take_of_length_le (by rw [List.length_drop]; omega)]
    rw [e93, ex, indexByte_eq] at c1
    have hd : s.data.toList.drop i = s.data.toList[i] :: s.data.toList.drop (i + 1) := List.drop_eq_getElem_cons (by omega)
    have hval : closeAt s.data.toList i = match (s.data.toList.drop (i + 1)).findIdx? (· == 93) with | some n => (i : Int) + (n + 1 : Nat) | none => -1 := by
      unfold closeAt
      rw [hd, closeI]
      cases (s.data.toList.drop (i + 1)).findIdx? (· == 93) <;> rfl
    cases hf : (s.data.toList.drop (i + 1)).findIdx? (· == 93) with
    | some n =>
      rw [hf] at c1 hval
      dsimp only at c1 hval
      have hn := (findIdx_lt hf).1
      rw [List.length_drop] at hn
      have hn0 : ¬ (n : Int) < 0 := by omega
      rw [hval]
      refine gives_of_awp Tryd.func74 Tryd.ntmps74 rfl rfl (by decide) rfl (by intro n; simp) fun σ n0 hcl hft => ?_
      repeat' (first | ((with_reducible refine aguard (fun hg => ?_) (fun hg => ?_)) <;> (try simp only [hg]) <;> (try simp only [beq_iff_eq, beq_eq_false_iff_ne, ne_eq, decide_eq_true_eq, decide_eq_false_iff_not, bne_iff_ne, bne_eq_false_iff_eq] at hg) <;> (try (first | simp only [eq_false hg, if_true, if_false] | simp only [eq_true hg, if_true, if_false])) <;> (try simp (disch := first | omega | simp) [wrap_i64, -aseqC, -anyC, h1', hn0, i0, i1])) | (with_reducible refine aseq_step ?_; try simp (disch := first | omega | simp) [wrap_i64, -aseqC, -anyC, h1', hn0, i0, i1]) | (with_reducible refine any_step' ?_; try simp (disch := first | omega | simp) [wrap_i64, -aseqC, -anyC, h1', hn0, i0, i1]) | (with_reducible refine aseq_end ?_; try simp (disch := first | omega | simp) [wrap_i64, -aseqC, -anyC, h1', hn0, i0, i1]) | (with_reducible refine any_end' ?_; try simp (disch := first | omega | simp) [wrap_i64, -aseqC, -anyC, h1', hn0, i0, i1]) | ((first | with_reducible refine sideG ?_ ?_ | with_reducible refine sideG2 ?_ ?_ | with_reducible refine sideS ?_ ?_ | with_reducible refine sideS2 ?_ ?_ | with_reducible refine sideS3 ?_ ?_ | with_reducible refine sideA ?_ ?_ | with_reducible refine sideA2 ?_ ?_ | with_reducible refine sideA3 ?_ ?_); (first | omega | assumption | (simp; done))) | (refine acall (c1) ?_; try simp (disch := first | omega | simp) [wrap_i64, -aseqC, -anyC, h1', hn0, i0, i1]) | (refine agives (c1) ?_; try simp (disch := first | omega | simp) [wrap_i64, -aseqC, -anyC, h1', hn0, i0, i1]) | (refine acallAt (c1) ?_; try simp (disch := first | omega | simp) [wrap_i64, -aseqC, -anyC, h1', hn0, i0, i1]) | (refine awp_seq_k fun K hK => ?_) | (refine awp_regionC ?_) | (refine awp_anyA true (by kernel_rfl) (by kernel_rfl) ?_) | (refine awp_anyA false (by kernel_rfl) (by kernel_rfl) ?_) | (refine hK _ ?_; clear hK; clear K) | (clear hK; clear K; refine hK _ ?_; clear hK; clear K) | (clear hK; clear K; clear hK; clear K; refine hK _ ?_; clear hK; clear K) | refine awp_block ?_ | (refine awp_condC ?_; simp (disch := first | omega | simp) [wrap_i64, -aseqC, -anyC, h1', hn0, i0, i1]) | (refine awp_exit ?_; try simp (disch := first | omega | simp) [wrap_i64, -aseqC, -anyC, h1', hn0, i0, i1]) | (refine awp_skip ?_; try simp (disch := first | omega | simp) [wrap_i64, -aseqC, -anyC, h1', hn0, i0, i1]) | (refine awp_ret ?_; try simp (disch := first | omega | simp) [wrap_i64, -aseqC, -anyC, h1', hn0, i0, i1]))
      all_goals first | omega | rw [Int.add_assoc, Int.add_comm 1]
    | none =>
      rw [hf] at c1 hval
      dsimp only at c1 hval
      rw [hval]
      refine gives_of_awp Tryd.func74 Tryd.ntmps74 rfl rfl (by decide) rfl (by intro n; simp) fun σ n0 hcl hft => ?_
      repeat' (first | ((with_reducible refine aguard (fun hg => ?_) (fun hg => ?_)) <;> (try simp only [hg]) <;> (try simp only [beq_iff_eq, beq_eq_false_iff_ne, ne_eq, decide_eq_true_eq, decide_eq_false_iff_not, bne_iff_ne, bne_eq_false_iff_eq] at hg) <;> (try (first | simp only [eq_false hg, if_true, if_false] | simp only [eq_true hg, if_true, if_false])) <;> (try simp (disch := first | omega | simp) [wrap_i64, -aseqC, -anyC, h1', i0, i1])) | (with_reducible refine aseq_step ?_; try simp (disch := first | omega | simp) [wrap_i64, -aseqC, -anyC, h1', i0, i1]) | (with_reducible refine any_step' ?_; try simp (disch := first | omega | simp) [wrap_i64, -aseqC, -anyC, h1', i0, i1]) | (with_reducible refine aseq_end ?_; try simp (disch := first | omega | simp) [wrap_i64, -aseqC, -anyC, h1', i0, i1]) | (with_reducible refine any_end' ?_; try simp (disch := first | omega | simp) [wrap_i64, -aseqC, -anyC, h1', i0, i1]) | ((first | with_reducible refine sideG ?_ ?_ | with_reducible refine sideG2 ?_ ?_ | with_reducible refine sideS ?_ ?_ | with_reducible refine sideS2 ?_ ?_ | with_reducible refine sideS3 ?_ ?_ | with_reducible refine sideA ?_ ?_ | with_reducible refine sideA2 ?_ ?_ | with_reducible refine sideA3 ?_ ?_); (first | omega | assumption | (simp; done))) | (refine acall (c1) ?_; try simp (disch := first | omega | simp) [wrap_i64, -aseqC, -anyC, h1', i0, i1]) | (refine agives (c1) ?_; try simp (disch := first | omega | simp) [wrap_i64, -aseqC, -anyC, h1', i0, i1]) | (refine acallAt (c1) ?_; try simp (disch := first | omega | simp) [wrap_i64, -aseqC, -anyC, h1', i0, i1]) | (refine awp_seq_k fun K hK => ?_) | (refine awp_regionC ?_) | (refine awp_anyA true (by kernel_rfl) (by kernel_rfl) ?_) | (refine awp_anyA false (by kernel_rfl) (by kernel_rfl) ?_) | (refine hK _ ?_; clear hK; clear K) | (clear hK; clear K; refine hK _ ?_; clear hK; clear K) | (clear hK; clear K; clear hK; clear K; refine hK _ ?_; clear hK; clear K) | refine awp_block ?_ | (refine awp_condC ?_; simp (disch := first | omega | simp) [wrap_i64, -aseqC, -anyC, h1', i0, i1]) | (refine awp_exit ?_; try simp (disch := first | omega | simp) [wrap_i64, -aseqC, -anyC, h1', i0, i1]) | (refine awp_skip ?_; try simp (disch := first | omega | simp) [wrap_i64, -aseqC, -anyC, h1', i0, i1]) | (refine awp_ret ?_; try simp (disch := first | omega | simp) [wrap_i64, -aseqC, -anyC, h1', i0, i1]))
  · have h1' : (s.size : Int) < i + 1 := by omega
    have hval : closeAt s.data.toList i = -1 := by
      unfold closeAt
      rw [List.drop_of_length_le (by omega)]; rfl
    rw [hval]
    refine gives_of_awp Tryd.func74 Tryd.ntmps74 rfl rfl (by decide) rfl (by intro n; simp) fun σ n0 hcl hft => ?_
    repeat' (first | ((with_reducible refine aguard (fun hg => ?_) (fun hg => ?_)) <;> (try simp only [hg]) <;> (try simp only [beq_iff_eq, beq_eq_false_iff_ne, ne_eq, decide_eq_true_eq, decide_eq_false_iff_not, bne_iff_ne, bne_eq_false_iff_eq] at hg) <;> (try (first | simp only [eq_false hg, if_true, if_false] | simp only [eq_true hg, if_true, if_false])) <;> (try simp (disch := first | omega | simp) [wrap_i64, -aseqC, -anyC, h1'])) | (with_reducible refine aseq_step ?_; try simp (disch := first | omega | simp) [wrap_i64, -aseqC, -anyC, h1']) | (with_reducible refine any_step' ?_; try simp (disch := first | omega | simp) [wrap_i64, -aseqC, -anyC, h1']) | (with_reducible refine aseq_end ?_; try simp (disch := first | omega | simp) [wrap_i64, -aseqC, -anyC, h1']) | (with_reducible refine any_end' ?_; try simp (disch := first | omega | simp) [wrap_i64, -aseqC, -anyC, h1']) | ((first | with_reducible refine sideG ?_ ?_ | with_reducible refine sideG2 ?_ ?_ | with_reducible refine sideS ?_ ?_ | with_reducible refine sideS2 ?_ ?_ | with_reducible refine sideS3 ?_ ?_ | with_reducible refine sideA ?_ ?_ | with_reducible refine sideA2 ?_ ?_ | with_reducible refine sideA3 ?_ ?_); (first | omega | assumption | (simp; done))) | (refine awp_seq_k fun K hK => ?_) | (refine awp_regionC ?_) | (refine awp_anyA true (by kernel_rfl) (by kernel_rfl) ?_) | (refine awp_anyA false (by kernel_rfl) (by kernel_rfl) ?_) | (refine hK _ ?_; clear hK; clear K) | (clear hK; clear K; refine hK _ ?_; clear hK; clear K) | (clear hK; clear K; clear hK; clear K; refine hK _ ?_; clear hK; clear K) | refine awp_block ?_ | (refine awp_condC ?_; simp (disch := first | omega | simp) [wrap_i64, -aseqC, -anyC, h1']) | (refine awp_exit ?_; try simp (disch := first | omega | simp) [wrap_i64, -aseqC, -anyC, h1']) | (refine awp_skip ?_; try simp (disch := first | omega | simp) [wrap_i64, -aseqC, -anyC, h1']) | (refine awp_ret ?_; try simp (disch := first | omega | simp) [wrap_i64, -aseqC, -anyC, h1']))
/-- a class at a place: its end, whether it is negated, its set -/
def classAt (l : List UInt8) (i : Nat) : Option (Nat × Bool × List UInt8) :=
  match (if l[i + 1]? = some 33 then closeI (l.drop (i + 2)) else none) with
  | some n => some (i + 2 + n, true, (l.drop (i + 2)).take n)
  | none => match closeI (l.drop (i + 1)) with
    | some n => some (i + 1 + n, false, (l.drop (i + 1)).take n)
    | none => none
def clsAv : Option (Nat × Bool × List UInt8) → AV
  | some (n, b, t) => .tup [.int n, .bool b, .str (bytesA t), .bool true]
  | none => .tup [.int 0, .bool false, .str ⟨#[]⟩, .bool false]
theorem extract_bytes (s : ByteArray) (a b : Nat) : s.extract a b = bytesA ((s.data.toList.drop a).take (b - a)) := by
  refine ba_eq ?_
  rw [ByteArray.data_extract, Array.toList_extract, List.extract_eq_take_drop]
set_option maxHeartbeats 2000000 in
theorem class_g (s : ByteArray) (i : Nat) (hs : s.size ≤ 1000000) (hi : i < s.size) : Gives Tryd.prog 56 [.str s, .int i] (clsAv (classAt s.data.toList i)) := by
  have hsz : s.data.toList.length = s.size := by rw [← Lib.size_eq]
  have c1 := closing_g s (i + 2) hs (by omega)
  have c2 := closing_g s (i + 1) hs (by omega)
  have w1 : (i : Int) + 1 + 1 = ((i + 2 : Nat) : Int) := by omega
  have w2 : (i : Int) + 1 = ((i + 1 : Nat) : Int) := by omega
  rw [← w1] at c1
  rw [← w2] at c2
  have second : ∀ (h33 : (if s.data.toList[i + 1]? = some 33 then closeI (s.data.toList.drop (i + 2)) else none) = none), classAt s.data.toList i = match closeI (s.data.toList.drop (i + 1)) with
    | some n => some (i + 1 + n, false, (s.data.toList.drop (i + 1)).take n)
    | none => none := fun h33 => by unfold classAt; rw [h33]
  by_cases hlt : i + 1 < s.size
  · have hlt' : (i : Int) + 1 < s.size := by omega
    have hlt3 : i + 1 < s.data.size := hlt
    have hget : s.data.toList[i + 1]? = some s.data[i + 1] := by rw [List.getElem?_eq_getElem (by omega), Array.getElem_toList]
    by_cases h33 : s.data[i + 1] = 33
    · have g33 : s.data[i + 1].toNat = 33 := by rw [h33]; rfl
      cases hc : closeI (s.data.toList.drop (i + 2)) with
      | some n =>
        have hn := closeI_lt hc
        rw [List.length_drop] at hn
        obtain ⟨e, he⟩ : ∃ e, e = i + 2 + n := ⟨_, rfl⟩
        have hv1 : closeAt s.data.toList (i + 2) = (e : Int) := by unfold closeAt; rw [hc, he]; dsimp only; omega
        have hcl : classAt s.data.toList i = some (e, true, (s.data.toList.drop (i + 2)).take n) := by
          unfold classAt; rw [hget, h33, if_pos rfl, hc, he]
        rw [hv1] at c1
        rw [hcl]
        show Gives _ _ _ (.tup [.int e, .bool true, .str (bytesA ((s.data.toList.drop (i + 2)).take n)), .bool true])
        have q1 : 0 < e := by omega
        have q2 : (0 : Int) ≤ (i : Int) + 1 + 1 := by omega
        have q3 : ((i : Int) + 1 + 1).toNat = i + 2 := by omega
        have q4 : i + 2 ≤ e := by omega
        have q5 : e ≤ s.size := by omega
        have ex := extract_bytes s (i + 2) e
        rw [he, Nat.add_sub_cancel_left, ← he] at ex
        refine gives_of_awp Tryd.func56 Tryd.ntmps56 rfl rfl (by decide) rfl (by intro n; simp) fun σ n0 hcl hft => ?_
        repeat' (first | ((with_reducible refine aguard (fun hg => ?_) (fun hg => ?_)) <;> (try simp only [hg]) <;> (try simp only [beq_iff_eq, beq_eq_false_iff_ne, ne_eq, decide_eq_true_eq, decide_eq_false_iff_not, bne_iff_ne, bne_eq_false_iff_eq] at hg) <;> (try (first | simp only [eq_false hg, if_true, if_false] | simp only [eq_true hg, if_true, if_false])) <;> (try simp (disch := first | omega | simp) [wrap_i64, -aseqC, -anyC, hlt', hlt, hlt3, g33, q1, q2, q3, q4, q5, ex])) | (with_reducible refine aseq_step ?_; try simp (disch := first | omega | simp) [wrap_i64, -aseqC, -anyC, hlt', hlt, hlt3, g33, q1, q2, q3, q4, q5, ex]) | (with_reducible refine any_step' ?_; try simp (disch := first | omega | simp) [wrap_i64, -aseqC, -anyC, hlt', hlt, hlt3, g33, q1, q2, q3, q4, q5, ex]) | (with_reducible refine aseq_end ?_; try simp (disch := first | omega | simp) [wrap_i64, -aseqC, -anyC, hlt', hlt, hlt3, g33, q1, q2, q3, q4, q5, ex]) | (with_reducible refine any_end' ?_; try simp (disch := first | omega | simp) [wrap_i64, -aseqC, -anyC, hlt', hlt, hlt3, g33, q1, q2, q3, q4, q5, ex]) | ((first | with_reducible refine sideG ?_ ?_ | with_reducible refine sideG2 ?_ ?_ | with_reducible refine sideS ?_ ?_ | with_reducible refine sideS2 ?_ ?_ | with_reducible refine sideS3 ?_ ?_ | with_reducible refine sideA ?_ ?_ | with_reducible refine sideA2 ?_ ?_ | with_reducible refine sideA3 ?_ ?_); (first | omega | assumption | (simp; done))) | (refine acall (c1) ?_; try simp (disch := first | omega | simp) [wrap_i64, -aseqC, -anyC, hlt', hlt, hlt3, g33, q1, q2, q3, q4, q5, ex]) | (refine agives (c1) ?_; try simp (disch := first | omega | simp) [wrap_i64, -aseqC, -anyC, hlt', hlt, hlt3, g33, q1, q2, q3, q4, q5, ex]) | (refine acallAt (c1) ?_; try simp (disch := first | omega | simp) [wrap_i64, -aseqC, -anyC, hlt', hlt, hlt3, g33, q1, q2, q3, q4, q5, ex]) | (refine acall (c2) ?_; try simp (disch := first | omega | simp) [wrap_i64, -aseqC, -anyC, hlt', hlt, hlt3, g33, q1, q2, q3, q4, q5, ex]) | (refine agives (c2) ?_; try simp (disch := first | omega | simp) [wrap_i64, -aseqC, -anyC, hlt', hlt, hlt3, g33, q1, q2, q3, q4, q5, ex]) | (refine acallAt (c2) ?_; try simp (disch := first | omega | simp) [wrap_i64, -aseqC, -anyC, hlt', hlt, hlt3, g33, q1, q2, q3, q4, q5, ex]) | (refine awp_seq_k fun K hK => ?_) | (refine awp_regionC ?_) | (refine awp_anyA true (by kernel_rfl) (by kernel_rfl) ?_) | (refine awp_anyA false (by kernel_rfl) (by kernel_rfl) ?_) | (refine hK _ ?_; clear hK; clear K) | (clear hK; clear K; refine hK _ ?_; clear hK; clear K) | (clear hK; clear K; clear hK; clear K; refine hK _ ?_; clear hK; clear K) | refine awp_block ?_ | (refine awp_condC ?_; simp (disch := first | omega | simp) [wrap_i64, -aseqC, -anyC, hlt', hlt, hlt3, g33, q1, q2, q3, q4, q5, ex]) | (refine awp_exit ?_; try simp (disch := first | omega | simp) [wrap_i64, -aseqC, -anyC, hlt', hlt, hlt3, g33, q1, q2, q3, q4, q5, ex]) | (refine awp_skip ?_; try simp (disch := first | omega | simp) [wrap_i64, -aseqC, -anyC, hlt', hlt, hlt3, g33, q1, q2, q3, q4, q5, ex]) | (refine awp_ret ?_; try simp (disch := first | omega | simp) [wrap_i64, -aseqC, -anyC, hlt', hlt, hlt3, g33, q1, q2, q3, q4, q5, ex]))
        all_goals first | omega | (exfalso; simp_all; done) | (exfalso; simp_all; omega) | trace_state
      | none =>
        have hv1 : closeAt s.data.toList (i + 2) = -1 := by unfold closeAt; rw [hc]
        have hcl := second (by rw [hget, h33, if_pos rfl, hc])
        rw [hv1] at c1
        rw [hcl]
        cases hd : closeI (s.data.toList.drop (i + 1)) with
        | some n =>
          have hn := closeI_lt hd
          rw [List.length_drop] at hn
          obtain ⟨e, he⟩ : ∃ e, e = i + 1 + n := ⟨_, rfl⟩
          have hv2 : closeAt s.data.toList (i + 1) = (e : Int) := by unfold closeAt; rw [hd, he]; dsimp only; omega
          rw [hv2] at c2
          dsimp only
          rw [← he]
          show Gives _ _ _ (.tup [.int e, .bool false, .str (bytesA ((s.data.toList.drop (i + 1)).take n)), .bool true])
          have q2 : (0 : Int) ≤ (i : Int) + 1 := by omega
          have q4 : i + 1 ≤ e := by omega
          have q5 : e ≤ s.size := by omega
          have ex := extract_bytes s (i + 1) e
          rw [he, Nat.add_sub_cancel_left, ← he] at ex
          refine gives_of_awp Tryd.func56 Tryd.ntmps56 rfl rfl (by decide) rfl (by intro n; simp) fun σ n0 hcl hft => ?_
          repeat' (first | ((with_reducible refine aguard (fun hg => ?_) (fun hg => ?_)) <;> (try simp only [hg]) <;> (try simp only [beq_iff_eq, beq_eq_false_iff_ne, ne_eq, decide_eq_true_eq, decide_eq_false_iff_not, bne_iff_ne, bne_eq_false_iff_eq] at hg) <;> (try (first | simp only [eq_false hg, if_true, if_false] | simp only [eq_true hg, if_true, if_false])) <;> (try simp (disch := first | omega | simp) [wrap_i64, -aseqC, -anyC, hlt', hlt, hlt3, g33, q2, q4, q5, ex])) | (with_reducible refine aseq_step ?_; try simp (disch := first | omega | simp) [wrap_i64, -aseqC, -anyC, hlt', hlt, hlt3, g33, q2, q4, q5, ex]) | (with_reducible refine any_step' ?_; try simp (disch := first | omega | simp) [wrap_i64, -aseqC, -anyC, hlt', hlt, hlt3, g33, q2, q4, q5, ex]) | (with_reducible refine aseq_end ?_; try simp (disch := first | omega | simp) [wrap_i64, -aseqC, -anyC, hlt', hlt, hlt3, g33, q2, q4, q5, ex]) | (with_reducible refine any_end' ?_; try simp (disch := first | omega | simp) [wrap_i64, -aseqC, -anyC, hlt', hlt, hlt3, g33, q2, q4, q5, ex]) | ((first | with_reducible refine sideG ?_ ?_ | with_reducible refine sideG2 ?_ ?_ | with_reducible refine sideS ?_ ?_ | with_reducible refine sideS2 ?_ ?_ | with_reducible refine sideS3 ?_ ?_ | with_reducible refine sideA ?_ ?_ | with_reducible refine sideA2 ?_ ?_ | with_reducible refine sideA3 ?_ ?_); (first | omega | assumption | (simp; done))) | (refine acall (c1) ?_; try simp (disch := first | omega | simp) [wrap_i64, -aseqC, -anyC, hlt', hlt, hlt3, g33, q2, q4, q5, ex]) | (refine agives (c1) ?_; try simp (disch := first | omega | simp) [wrap_i64, -aseqC, -anyC, hlt', hlt, hlt3, g33, q2, q4, q5, ex]) | (refine acallAt (c1) ?_; try simp (disch := first | omega | simp) [wrap_i64, -aseqC, -anyC, hlt', hlt, hlt3, g33, q2, q4, q5, ex]) | (refine acall (c2) ?_; try simp (disch := first | omega | simp) [wrap_i64, -aseqC, -anyC, hlt', hlt, hlt3, g33, q2, q4, q5, ex]) | (refine agives (c2) ?_; try simp (disch := first | omega | simp) [wrap_i64, -aseqC, -anyC, hlt', hlt, hlt3, g33, q2, q4, q5, ex]) | (refine acallAt (c2) ?_; try simp (disch := first | omega | simp) [wrap_i64, -aseqC, -anyC, hlt', hlt, hlt3, g33, q2, q4, q5, ex]) | (refine awp_seq_k fun K hK => ?_) | (refine awp_regionC ?_) | (refine awp_anyA true (by kernel_rfl) (by kernel_rfl) ?_) | (refine awp_anyA false (by kernel_rfl) (by kernel_rfl) ?_) | (refine hK _ ?_; clear hK; clear K) | (clear hK; clear K; refine hK _ ?_; clear hK; clear K) | (clear hK; clear K; clear hK; clear K; refine hK _ ?_; clear hK; clear K) | refine awp_block ?_ | (refine awp_condC ?_; simp (disch := first | omega | simp) [wrap_i64, -aseqC, -anyC, hlt', hlt, hlt3, g33, q2, q4, q5, ex]) | (refine awp_exit ?_; try simp (disch := first | omega | simp) [wrap_i64, -aseqC, -anyC, hlt', hlt, hlt3, g33, q2, q4, q5, ex]) | (refine awp_skip ?_; try simp (disch := first | omega | simp) [wrap_i64, -aseqC, -anyC, hlt', hlt, hlt3, g33, q2, q4, q5, ex]) | (refine awp_ret ?_; try simp (disch := first | omega | simp) [wrap_i64, -aseqC, -anyC, hlt', hlt, hlt3, g33, q2, q4, q5, ex]))
          all_goals first | omega | (exfalso; simp_all; done) | (exfalso; simp_all; omega) | trace_state
        | none =>
          have hv2 : closeAt s.data.toList (i + 1) = -1 := by unfold closeAt; rw [hd]
          rw [hv2] at c2
          show Gives _ _ _ (.tup [.int 0, .bool false, .str ⟨#[]⟩, .bool false])
          refine gives_of_awp Tryd.func56 Tryd.ntmps56 rfl rfl (by decide) rfl (by intro n; simp) fun σ n0 hcl hft => ?_
          repeat' (first | ((with_reducible refine aguard (fun hg => ?_) (fun hg => ?_)) <;> (try simp only [hg]) <;> (try simp only [beq_iff_eq, beq_eq_false_iff_ne, ne_eq, decide_eq_true_eq, decide_eq_false_iff_not, bne_iff_ne, bne_eq_false_iff_eq] at hg) <;> (try (first | simp only [eq_false hg, if_true, if_false] | simp only [eq_true hg, if_true, if_false])) <;> (try simp (disch := first | omega | simp) [wrap_i64, -aseqC, -anyC, hlt', hlt, hlt3, g33])) | (with_reducible refine aseq_step ?_; try simp (disch := first | omega | simp) [wrap_i64, -aseqC, -anyC, hlt', hlt, hlt3, g33]) | (with_reducible refine any_step' ?_; try simp (disch := first | omega | simp) [wrap_i64, -aseqC, -anyC, hlt', hlt, hlt3, g33]) | (with_reducible refine aseq_end ?_; try simp (disch := first | omega | simp) [wrap_i64, -aseqC, -anyC, hlt', hlt, hlt3, g33]) | (with_reducible refine any_end' ?_; try simp (disch := first | omega | simp) [wrap_i64, -aseqC, -anyC, hlt', hlt, hlt3, g33]) | ((first | with_reducible refine sideG ?_ ?_ | with_reducible refine sideG2 ?_ ?_ | with_reducible refine sideS ?_ ?_ | with_reducible refine sideS2 ?_ ?_ | with_reducible refine sideS3 ?_ ?_ | with_reducible refine sideA ?_ ?_ | with_reducible refine sideA2 ?_ ?_ | with_reducible refine sideA3 ?_ ?_); (first | omega | assumption | (simp; done))) | (refine acall (c1) ?_; try simp (disch := first | omega | simp) [wrap_i64, -aseqC, -anyC, hlt', hlt, hlt3, g33]) | (refine agives (c1) ?_; try simp (disch := first | omega | simp) [wrap_i64, -aseqC, -anyC, hlt', hlt, hlt3, g33]) | (refine acallAt (c1) ?_; try simp (disch := first | omega | simp) [wrap_i64, -aseqC, -anyC, hlt', hlt, hlt3, g33]) | (refine acall (c2) ?_; try simp (disch := first | omega | simp) [wrap_i64, -aseqC, -anyC, hlt', hlt, hlt3, g33]) | (refine agives (c2) ?_; try simp (disch := first | omega | simp) [wrap_i64, -aseqC, -anyC, hlt', hlt, hlt3, g33]) | (refine acallAt (c2) ?_; try simp (disch := first | omega | simp) [wrap_i64, -aseqC, -anyC, hlt', hlt, hlt3, g33]) | (refine awp_seq_k fun K hK => ?_) | (refine awp_regionC ?_) | (refine awp_anyA true (by kernel_rfl) (by kernel_rfl) ?_) | (refine awp_anyA false (by kernel_rfl) (by kernel_rfl) ?_) | (refine hK _ ?_; clear hK; clear K) | (clear hK; clear K; refine hK _ ?_; clear hK; clear K) | (clear hK; clear K; clear hK; clear K; refine hK _ ?_; clear hK; clear K) | refine awp_block ?_ | (refine awp_condC ?_; simp (disch := first | omega | simp) [wrap_i64, -aseqC, -anyC, hlt', hlt, hlt3, g33]) | (refine awp_exit ?_; try simp (disch := first | omega | simp) [wrap_i64, -aseqC, -anyC, hlt', hlt, hlt3, g33]) | (refine awp_skip ?_; try simp (disch := first | omega | simp) [wrap_i64, -aseqC, -anyC, hlt', hlt, hlt3, g33]) | (refine awp_ret ?_; try simp (disch := first | omega | simp) [wrap_i64, -aseqC, -anyC, hlt', hlt, hlt3, g33]))
          all_goals first | omega | (exfalso; simp_all; done) | (exfalso; simp_all; omega) | trace_state
    · have g33 : ¬ (s.data[i + 1].toNat : Int) = 33 := fun h => h33 (UInt8.toNat_inj.1 (by have e33 : (33 : UInt8).toNat = 33 := rfl; omega))
      have hcl := second (by rw [hget, if_neg (by simpa using h33)])
      rw [hcl]
      cases hd : closeI (s.data.toList.drop (i + 1)) with
      | some n =>
        have hn := closeI_lt hd
        rw [List.length_drop] at hn
        obtain ⟨e, he⟩ : ∃ e, e = i + 1 + n := ⟨_, rfl⟩
        have hv2 : closeAt s.data.toList (i + 1) = (e : Int) := by unfold closeAt; rw [hd, he]; dsimp only; omega
        rw [hv2] at c2
        dsimp only
        rw [← he]
        show Gives _ _ _ (.tup [.int e, .bool false, .str (bytesA ((s.data.toList.drop (i + 1)).take n)), .bool true])
        have q2 : (0 : Int) ≤ (i : Int) + 1 := by omega
        have q4 : i + 1 ≤ e := by omega
        have q5 : e ≤ s.size := by omega
        have ex := extract_bytes s (i + 1) e
        rw [he, Nat.add_sub_cancel_left, ← he] at ex
        refine gives_of_awp Tryd.func56 Tryd.ntmps56 rfl rfl (by decide) rfl (by intro n; simp) fun σ n0 hcl hft => ?_
        repeat' (first | ((with_reducible refine aguard (fun hg => ?_) (fun hg => ?_)) <;> (try simp only [hg]) <;> (try simp only [beq_iff_eq, beq_eq_false_iff_ne, ne_eq, decide_eq_true_eq, decide_eq_false_iff_not, bne_iff_ne, bne_eq_false_iff_eq] at hg) <;> (try (first | simp only [eq_false hg, if_true, if_false] | simp only [eq_true hg, if_true, if_false])) <;> (try simp (disch := first | omega | simp) [wrap_i64, -aseqC, -anyC, hlt', hlt, hlt3, g33, q2, q4, q5, ex])) | (with_reducible refine aseq_step ?_; try simp (disch := first | omega | simp) [wrap_i64, -aseqC, -anyC, hlt', hlt, hlt3, g33, q2, q4, q5, ex]) | (with_reducible refine any_step' ?_; try simp (disch := first | omega | simp) [wrap_i64, -aseqC, -anyC, hlt', hlt, hlt3, g33, q2, q4, q5, ex]) | (with_reducible refine aseq_end ?_; try simp (disch := first | omega | simp) [wrap_i64, -aseqC, -anyC, hlt', hlt, hlt3, g33, q2, q4, q5, ex]) | (with_reducible refine any_end' ?_; try simp (disch := first | omega | simp) [wrap_i64, -aseqC, -anyC, hlt', hlt, hlt3, g33, q2, q4, q5, ex]) | ((first | with_reducible refine sideG ?_ ?_ | with_reducible refine sideG2 ?_ ?_ | with_reducible refine sideS ?_ ?_ | with_reducible refine sideS2 ?_ ?_ | with_reducible refine sideS3 ?_ ?_ | with_reducible refine sideA ?_ ?_ | with_reducible refine sideA2 ?_ ?_ | with_reducible refine sideA3 ?_ ?_); (first | omega | assumption | (simp; done))) | (refine acall (c1) ?_; try simp (disch := first | omega | simp) [wrap_i64, -aseqC, -anyC, hlt', hlt, hlt3, g33, q2, q4, q5, ex]) | (refine agives (c1) ?_; try simp (disch := first | omega | simp) [wrap_i64, -aseqC, -anyC, hlt', hlt, hlt3, g33, q2, q4, q5, ex]) | (refine acallAt (c1) ?_; try simp (disch := first | omega | simp) [wrap_i64, -aseqC, -anyC, hlt', hlt, hlt3, g33, q2, q4, q5, ex]) | (refine acall (c2) ?_; try simp (disch := first | omega | simp) [wrap_i64, -aseqC, -anyC, hlt', hlt, hlt3, g33, q2, q4, q5, ex]) | (refine agives (c2) ?_; try simp (disch := first | omega | simp) [wrap_i64, -aseqC, -anyC, hlt', hlt, hlt3, g33, q2, q4, q5, ex]) | (refine acallAt (c2) ?_; try simp (disch := first | omega | simp) [wrap_i64, -aseqC, -anyC, hlt', hlt, hlt3, g33, q2, q4, q5, ex]) | (refine awp_seq_k fun K hK => ?_) | (refine awp_regionC ?_) | (refine awp_anyA true (by kernel_rfl) (by kernel_rfl) ?_) | (refine awp_anyA false (by kernel_rfl) (by kernel_rfl) ?_) | (refine hK _ ?_; clear hK; clear K) | (clear hK; clear K; refine hK _ ?_; clear hK; clear K) | (clear hK; clear K; clear hK; clear K; refine hK _ ?_; clear hK; clear K) | refine awp_block ?_ | (refine awp_condC ?_; simp (disch := first | omega | simp) [wrap_i64, -aseqC, -anyC, hlt', hlt, hlt3, g33, q2, q4, q5, ex]) | (refine awp_exit ?_; try simp (disch := first | omega | simp) [wrap_i64, -aseqC, -anyC, hlt', hlt, hlt3, g33, q2, q4, q5, ex]) | (refine awp_skip ?_; try simp (disch := first | omega | simp) [wrap_i64, -aseqC, -anyC, hlt', hlt, hlt3, g33, q2, q4, q5, ex]) | (refine awp_ret ?_; try simp (disch := first | omega | simp) [wrap_i64, -aseqC, -anyC, hlt', hlt, hlt3, g33, q2, q4, q5, ex]))
        all_goals first | omega | (exfalso; simp_all; done) | (exfalso; simp_all; omega) | trace_state
      | none =>
        have hv2 : closeAt s.data.toList (i + 1) = -1 := by unfold closeAt; rw [hd]
        rw [hv2] at c2
        show Gives _ _ _ (.tup [.int 0, .bool false, .str ⟨#[]⟩, .bool false])
        refine gives_of_awp Tryd.func56 Tryd.ntmps56 rfl rfl (by decide) rfl (by intro n; simp) fun σ n0 hcl hft => ?_
        repeat' (first | ((with_reducible refine aguard (fun hg => ?_) (fun hg => ?_)) <;> (try simp only [hg]) <;> (try simp only [beq_iff_eq, beq_eq_false_iff_ne, ne_eq, decide_eq_true_eq, decide_eq_false_iff_not, bne_iff_ne, bne_eq_false_iff_eq] at hg) <;> (try (first | simp only [eq_false hg, if_true, if_false] | simp only [eq_true hg, if_true, if_false])) <;> (try simp (disch := first | omega | simp) [wrap_i64, -aseqC, -anyC, hlt', hlt, hlt3, g33])) | (with_reducible refine aseq_step ?_; try simp (disch := first | omega | simp) [wrap_i64, -aseqC, -anyC, hlt', hlt, hlt3, g33]) | (with_reducible refine any_step' ?_; try simp (disch := first | omega | simp) [wrap_i64, -aseqC, -anyC, hlt', hlt, hlt3, g33]) | (with_reducible refine aseq_end ?_; try simp (disch := first | omega | simp) [wrap_i64, -aseqC, -anyC, hlt', hlt, hlt3, g33]) | (with_reducible refine any_end' ?_; try simp (disch := first | omega | simp) [wrap_i64, -aseqC, -anyC, hlt', hlt, hlt3, g33]) | ((first | with_reducible refine sideG ?_ ?_ | with_reducible refine sideG2 ?_ ?_ | with_reducible refine sideS ?_ ?_ | with_reducible refine sideS2 ?_ ?_ | with_reducible refine sideS3 ?_ ?_ | with_reducible refine sideA ?_ ?_ | with_reducible refine sideA2 ?_ ?_ | with_reducible refine sideA3 ?_ ?_); (first | omega | assumption | (simp; done))) | (refine acall (c1) ?_; try simp (disch := first | omega | simp) [wrap_i64, -aseqC, -anyC, hlt', hlt, hlt3, g33]) | (refine agives (c1) ?_; try simp (disch := first | omega | simp) [wrap_i64, -aseqC, -anyC, hlt', hlt, hlt3, g33]) | (refine acallAt (c1) ?_; try simp (disch := first | omega | simp) [wrap_i64, -aseqC, -anyC, hlt', hlt, hlt3, g33]) | (refine acall (c2) ?_; try simp (disch := first | omega | simp) [wrap_i64, -aseqC, -anyC, hlt', hlt, hlt3, g33]) | (refine agives (c2) ?_; try simp (disch := first | omega | simp) [wrap_i64, -aseqC, -anyC, hlt', hlt, hlt3, g33]) | (refine acallAt (c2) ?_; try simp (disch := first | omega | simp) [wrap_i64, -aseqC, -anyC, hlt', hlt, hlt3, g33]) | (refine awp_seq_k fun K hK => ?_) | (refine awp_regionC ?_) | (refine awp_anyA true (by kernel_rfl) (by kernel_rfl) ?_) | (refine awp_anyA false (by kernel_rfl) (by kernel_rfl) ?_) | (refine hK _ ?_; clear hK; clear K) | (clear hK; clear K; refine hK _ ?_; clear hK; clear K) | (clear hK; clear K; clear hK; clear K; refine hK _ ?_; clear hK; clear K) | refine awp_block ?_ | (refine awp_condC ?_; simp (disch := first | omega | simp) [wrap_i64, -aseqC, -anyC, hlt', hlt, hlt3, g33]) | (refine awp_exit ?_; try simp (disch := first | omega | simp) [wrap_i64, -aseqC, -anyC, hlt', hlt, hlt3, g33]) | (refine awp_skip ?_; try simp (disch := first | omega | simp) [wrap_i64, -aseqC, -anyC, hlt', hlt, hlt3, g33]) | (refine awp_ret ?_; try simp (disch := first | omega | simp) [wrap_i64, -aseqC, -anyC, hlt', hlt, hlt3, g33]))
        all_goals first | omega | (exfalso; simp_all; done) | (exfalso; simp_all; omega) | trace_state
  · have hlt' : ¬ (i : Int) + 1 < s.size := by omega
    have hcl := second (by rw [List.getElem?_eq_none (by omega)]; rfl)
    have hd : closeI (s.data.toList.drop (i + 1)) = none := by rw [List.drop_of_length_le (by omega)]; rfl
    rw [hcl, hd]
    have hv2 : closeAt s.data.toList (i + 1) = -1 := by unfold closeAt; rw [hd]
    rw [hv2] at c2
    show Gives _ _ _ (.tup [.int 0, .bool false, .str ⟨#[]⟩, .bool false])
    refine gives_of_awp Tryd.func56 Tryd.ntmps56 rfl rfl (by decide) rfl (by intro n; simp) fun σ n0 hcl hft => ?_
    repeat' (first | ((with_reducible refine aguard (fun hg => ?_) (fun hg => ?_)) <;> (try simp only [hg]) <;> (try simp only [beq_iff_eq, beq_eq_false_iff_ne, ne_eq, decide_eq_true_eq, decide_eq_false_iff_not, bne_iff_ne, bne_eq_false_iff_eq] at hg) <;> (try (first | simp only [eq_false hg, if_true, if_false] | simp only [eq_true hg, if_true, if_false])) <;> (try simp (disch := first | omega | simp) [wrap_i64, -aseqC, -anyC, hlt'])) | (with_reducible refine aseq_step ?_; try simp (disch := first | omega | simp) [wrap_i64, -aseqC, -anyC, hlt']) | (with_reducible refine any_step' ?_; try simp (disch := first | omega | simp) [wrap_i64, -aseqC, -anyC, hlt']) | (with_reducible refine aseq_end ?_; try simp (disch := first | omega | simp) [wrap_i64, -aseqC, -anyC, hlt']) | (with_reducible refine any_end' ?_; try simp (disch := first | omega | simp) [wrap_i64, -aseqC, -anyC, hlt']) | ((first | with_reducible refine sideG ?_ ?_ | with_reducible refine sideG2 ?_ ?_ | with_reducible refine sideS ?_ ?_ | with_reducible refine sideS2 ?_ ?_ | with_reducible refine sideS3 ?_ ?_ | with_reducible refine sideA ?_ ?_ | with_reducible refine sideA2 ?_ ?_ | with_reducible refine sideA3 ?_ ?_); (first | omega | assumption | (simp; done))) | (refine acall (c1) ?_; try simp (disch := first | omega | simp) [wrap_i64, -aseqC, -anyC, hlt']) | (refine agives (c1) ?_; try simp (disch := first | omega | simp) [wrap_i64, -aseqC, -anyC, hlt']) | (refine acallAt (c1) ?_; try simp (disch := first | omega | simp) [wrap_i64, -aseqC, -anyC, hlt']) | (refine acall (c2) ?_; try simp (disch := first | omega | simp) [wrap_i64, -aseqC, -anyC, hlt']) | (refine agives (c2) ?_; try simp (disch := first | omega | simp) [wrap_i64, -aseqC, -anyC, hlt']) | (refine acallAt (c2) ?_; try simp (disch := first | omega | simp) [wrap_i64, -aseqC, -anyC, hlt']) | (refine awp_seq_k fun K hK => ?_) | (refine awp_regionC ?_) | (refine awp_anyA true (by kernel_rfl) (by kernel_rfl) ?_) | (refine awp_anyA false (by kernel_rfl) (by kernel_rfl) ?_) | (refine hK _ ?_; clear hK; clear K) | (clear hK; clear K; refine hK _ ?_; clear hK; clear K) | (clear hK; clear K; clear hK; clear K; refine hK _ ?_; clear hK; clear K) | refine awp_block ?_ | (refine awp_condC ?_; simp (disch := first | omega | simp) [wrap_i64, -aseqC, -anyC, hlt']) | (refine awp_exit ?_; try simp (disch := first | omega | simp) [wrap_i64, -aseqC, -anyC, hlt']) | (refine awp_skip ?_; try simp (disch := first | omega | simp) [wrap_i64, -aseqC, -anyC, hlt']) | (refine awp_ret ?_; try simp (disch := first | omega | simp) [wrap_i64, -aseqC, -anyC, hlt']))
    all_goals first | omega | (exfalso; simp_all; done) | (exfalso; simp_all; omega) | trace_state
end Go.Proofs.YtkhmlicikbnmdaaDoor
