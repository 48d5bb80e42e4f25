/- Walk: the reference's Print. -/
import Derived.Test.YtinmkhgadekabaaDoorGa20
namespace Go.Proofs.YtinmkhgadekabaaDoor
open Go.RowKit Go.Lib

/-- the text of the first k columns -/
def preB (L : List Col) (k : Nat) : List UInt8 := Lib.join ((L.take k).map fun c => (colA c).data.toList) [44, 32]
theorem join_snoc (sep : List UInt8) : ∀ (l : List (List UInt8)) (x : List UInt8), Lib.join (l ++ [x]) sep = if l = [] then x else Lib.join l sep ++ sep ++ x
  | [], x => by rw [if_pos rfl]; exact Lib.join_one _ _
  | [y], x => by
    rw [if_neg (by simp)]
    show Lib.join [y, x] sep = _
    rw [join_two, Lib.join_one, Lib.join_one]
  | y :: z :: l, x => by
    rw [if_neg (by simp)]
    show Lib.join (y :: z :: (l ++ [x])) sep = _
    rw [join_two, join_two]
    have := join_snoc sep (z :: l) x
    rw [if_neg (by simp), List.cons_append] at this
    rw [this]; simp
theorem preB_succ {L : List Col} {k : Nat} (h : k < L.length) : preB L (k + 1) = (if k = 0 then [] else preB L k ++ [44, 32]) ++ (colA L[k]).data.toList := by
  unfold preB
  rw [List.take_succ_eq_append_getElem h, List.map_append, List.map_cons, List.map_nil, join_snoc]
  by_cases hk : k = 0
  · subst hk; simp
  · rw [if_neg hk, if_neg (by intro e; have := congrArg List.length e; rw [List.length_map, List.length_take, List.length_nil] at this; omega)]
theorem preB_zero (L : List Col) : preB L 0 = [] := rfl
theorem colA_ref {c : Col} (h : OkCol c) : (colA c).data.toList = c.name.toList ++ (32 :: typeNameP c.type) ++ (if c.unit.toList = [] then [] else 32 :: c.unit.toList) := by
  rw [colA_words h]
  unfold wordsC
  by_cases hu : c.unit.toList = []
  · rw [if_pos hu, if_pos hu, List.append_nil, join_two, Lib.join_one]; simp
  · rw [if_neg hu, if_neg hu]
    show Lib.join [c.name.toList, typeNameP c.type, c.unit.toList] [32] = _
    rw [join_two, join_two, Lib.join_one]; simp
theorem ba_eq {s : ByteArray} {l : List UInt8} (h : s.data.toList = l) : s = bytesA l := by rw [← h, bytesA_eq]
set_option maxHeartbeats 2000000 in
theorem rprint_g (L : List Col) (hL : L.length ≤ 1000000) (hs : ∀ c ∈ L, c.name.size ≤ 1000000 ∧ c.unit.size ≤ 1000000) : Gives Tryd.prog 30 [.sl (L.map Col.av)] (.str (bytesA (printP L))) := by
  have hr := rright_g L hL hs
  cases hb : rightP L with
  | false =>
    have hp : printP L = [] := by unfold printP; rw [hb]; rfl
    rw [hb] at hr; rw [hp]
    refine gives_of_awp Tryd.func30 Tryd.ntmps30 rfl rfl (by decide) rfl (by intro n; simp) fun σ n0 hcl hft => ?_
    repeat' (first | ((with_reducible refine aguard (fun hg => ?_) (fun hg => ?_)) <;> (try simp only [hg]) <;> (try simp only [beq_iff_eq, beq_eq_false_iff_ne, ne_eq, decide_eq_true_eq, decide_eq_false_iff_not, bne_iff_ne, bne_eq_false_iff_eq] at hg) <;> (try (first | simp only [eq_false hg, if_true, if_false] | simp only [eq_true hg, if_true, if_false])) <;> (try simp (disch := first | omega | simp) [wrap_i64, -aseqC, -anyC])) | (with_reducible refine aseq_step ?_; try simp (disch := first | omega | simp) [wrap_i64, -aseqC, -anyC]) | (with_reducible refine any_step' ?_; try simp (disch := first | omega | simp) [wrap_i64, -aseqC, -anyC]) | (with_reducible refine aseq_end ?_; try simp (disch := first | omega | simp) [wrap_i64, -aseqC, -anyC]) | (with_reducible refine any_end' ?_; try simp (disch := first | omega | simp) [wrap_i64, -aseqC, -anyC]) | ((first | with_reducible refine sideG ?_ ?_ | with_reducible refine sideG2 ?_ ?_ | with_reducible refine sideS ?_ ?_ | with_reducible refine sideS2 ?_ ?_ | with_reducible refine sideS3 ?_ ?_ | with_reducible refine sideA ?_ ?_ | with_reducible refine sideA2 ?_ ?_ | with_reducible refine sideA3 ?_ ?_); (first | omega | assumption | (simp; done))) | (refine acall (hr) ?_; try simp (disch := first | omega | simp) [wrap_i64, -aseqC, -anyC]) | (refine agives (hr) ?_; try simp (disch := first | omega | simp) [wrap_i64, -aseqC, -anyC]) | (refine acallAt (hr) ?_; try simp (disch := first | omega | simp) [wrap_i64, -aseqC, -anyC]) | (refine awp_seq_k fun K hK => ?_) | (refine awp_regionC ?_) | (refine awp_anyA true (by kernel_rfl) (by kernel_rfl) ?_) | (refine awp_anyA false (by kernel_rfl) (by kernel_rfl) ?_) | (refine hK _ ?_; clear hK; clear K) | (clear hK; clear K; refine hK _ ?_; clear hK; clear K) | (clear hK; clear K; clear hK; clear K; refine hK _ ?_; clear hK; clear K) | refine awp_block ?_ | (refine awp_condC ?_; simp (disch := first | omega | simp) [wrap_i64, -aseqC, -anyC]) | (refine awp_exit ?_; try simp (disch := first | omega | simp) [wrap_i64, -aseqC, -anyC]) | (refine awp_skip ?_; try simp (disch := first | omega | simp) [wrap_i64, -aseqC, -anyC]) | (refine awp_ret ?_; try simp (disch := first | omega | simp) [wrap_i64, -aseqC, -anyC]))
    all_goals rfl
  | true =>
    have hp : printP L = preB L L.length := by unfold printP preB; rw [hb, List.take_length]; rfl
    have hok := right_cols hb
    obtain ⟨-, -, h12⟩ := right_ok hb
    rw [hb] at hr; rw [hp]
    refine gives_of_awp Tryd.func30 Tryd.ntmps30 rfl rfl (by decide) rfl (by intro n; simp) fun σ n0 hcl hft => ?_
    repeat' (first | ((with_reducible refine aguard (fun hg => ?_) (fun hg => ?_)) <;> (try simp only [hg]) <;> (try simp only [beq_iff_eq, beq_eq_false_iff_ne, ne_eq, decide_eq_true_eq, decide_eq_false_iff_not, bne_iff_ne, bne_eq_false_iff_eq] at hg) <;> (try (first | simp only [eq_false hg, if_true, if_false] | simp only [eq_true hg, if_true, if_false])) <;> (try simp (disch := first | omega | simp) [wrap_i64, -aseqC, -anyC])) | (with_reducible refine aseq_step ?_; try simp (disch := first | omega | simp) [wrap_i64, -aseqC, -anyC]) | (with_reducible refine any_step' ?_; try simp (disch := first | omega | simp) [wrap_i64, -aseqC, -anyC]) | (with_reducible refine aseq_end ?_; try simp (disch := first | omega | simp) [wrap_i64, -aseqC, -anyC]) | (with_reducible refine any_end' ?_; try simp (disch := first | omega | simp) [wrap_i64, -aseqC, -anyC]) | ((first | with_reducible refine sideG ?_ ?_ | with_reducible refine sideG2 ?_ ?_ | with_reducible refine sideS ?_ ?_ | with_reducible refine sideS2 ?_ ?_ | with_reducible refine sideS3 ?_ ?_ | with_reducible refine sideA ?_ ?_ | with_reducible refine sideA2 ?_ ?_ | with_reducible refine sideA3 ?_ ?_); (first | omega | assumption | (simp; done))) | (refine acall (hr) ?_; try simp (disch := first | omega | simp) [wrap_i64, -aseqC, -anyC]) | (refine agives (hr) ?_; try simp (disch := first | omega | simp) [wrap_i64, -aseqC, -anyC]) | (refine acallAt (hr) ?_; try simp (disch := first | omega | simp) [wrap_i64, -aseqC, -anyC]) | (refine awp_seq_k fun K hK => ?_) | (refine awp_regionC ?_) | (refine awp_anyA true (by kernel_rfl) (by kernel_rfl) ?_) | (refine awp_anyA false (by kernel_rfl) (by kernel_rfl) ?_) | (refine hK _ ?_; clear hK; clear K) | (clear hK; clear K; refine hK _ ?_; clear hK; clear K) | (clear hK; clear K; clear hK; clear K; refine hK _ ?_; clear hK; clear K) | refine awp_block ?_ | (refine awp_condC ?_; simp (disch := first | omega | simp) [wrap_i64, -aseqC, -anyC]) | (refine awp_exit ?_; try simp (disch := first | omega | simp) [wrap_i64, -aseqC, -anyC]) | (refine awp_skip ?_; try simp (disch := first | omega | simp) [wrap_i64, -aseqC, -anyC]) | (refine awp_ret ?_; try simp (disch := first | omega | simp) [wrap_i64, -aseqC, -anyC]))
    refine awp_loopC hcl (fun k : Nat => [(0, .sl (L.map Col.av)), (3, .str (bytesA (preB L k))), (4, .int k)]) (fun _ => [])
      (fun k => k ≤ L.length) (fun k => L.length - k) 0 (by simp) (by simp; rfl) fun k hk => ?_
    by_cases hlt : k < L.length
    · have hsz := hs _ (List.getElem_mem hlt)
      have hts := typeName_size L[k].type
      have e2 : (⟨#[44, 32]⟩ : ByteArray).size = 2 := rfl
      have e1 : (⟨#[32]⟩ : ByteArray).size = 1 := rfl
      have hps : (bytesA (preB L k)).size ≤ 24000100 := by
        have h1 : (preB L k).length ≤ ((L.take k).map fun c => (colA c).data.toList).length * (2000006 + 2) := join_le (N := 2000006) (sep := [44, 32]) fun x hx => by
          obtain ⟨c, hc, rfl⟩ := List.mem_map.1 hx
          exact colA_size c (hs c (List.mem_of_mem_take hc))
        rw [List.length_map, List.length_take] at h1
        have h2 : (bytesA (preB L k)).size = (preB L k).length := by simp [bytesA, ByteArray.size]
        rw [h2]
        refine Nat.le_trans h1 (Nat.le_trans (Nat.mul_le_mul_right _ (show min k L.length ≤ 12 by omega)) (by omega))
      repeat' (first | ((with_reducible refine aguard (fun hg => ?_) (fun hg => ?_)) <;> (try simp only [hg]) <;> (try simp only [beq_iff_eq, beq_eq_false_iff_ne, ne_eq, decide_eq_true_eq, decide_eq_false_iff_not, bne_iff_ne, bne_eq_false_iff_eq] at hg) <;> (try (first | simp only [eq_false hg, if_true, if_false] | simp only [eq_true hg, if_true, if_false])) <;> (try simp (disch := first | omega | simp) [wrap_i64, -aseqC, -anyC, hlt, ByteArray.size_append, e1, e2])) | (with_reducible refine aseq_step ?_; try simp (disch := first | omega | simp) [wrap_i64, -aseqC, -anyC, hlt, ByteArray.size_append, e1, e2]) | (with_reducible refine any_step' ?_; try simp (disch := first | omega | simp) [wrap_i64, -aseqC, -anyC, hlt, ByteArray.size_append, e1, e2]) | (with_reducible refine aseq_end ?_; try simp (disch := first | omega | simp) [wrap_i64, -aseqC, -anyC, hlt, ByteArray.size_append, e1, e2]) | (with_reducible refine any_end' ?_; try simp (disch := first | omega | simp) [wrap_i64, -aseqC, -anyC, hlt, ByteArray.size_append, e1, e2]) | ((first | with_reducible refine sideG ?_ ?_ | with_reducible refine sideG2 ?_ ?_ | with_reducible refine sideS ?_ ?_ | with_reducible refine sideS2 ?_ ?_ | with_reducible refine sideS3 ?_ ?_ | with_reducible refine sideA ?_ ?_ | with_reducible refine sideA2 ?_ ?_ | with_reducible refine sideA3 ?_ ?_); (first | omega | assumption | (simp; done))) | (refine acall (rtypeName_g _) ?_; try simp (disch := first | omega | simp) [wrap_i64, -aseqC, -anyC, hlt, ByteArray.size_append, e1, e2]) | (refine agives (rtypeName_g _) ?_; try simp (disch := first | omega | simp) [wrap_i64, -aseqC, -anyC, hlt, ByteArray.size_append, e1, e2]) | (refine acallAt (rtypeName_g _) ?_; try simp (disch := first | omega | simp) [wrap_i64, -aseqC, -anyC, hlt, ByteArray.size_append, e1, e2]) | (refine awp_seq_k fun K hK => ?_) | (refine awp_regionC ?_) | (refine awp_anyA true (by kernel_rfl) (by kernel_rfl) ?_) | (refine awp_anyA false (by kernel_rfl) (by kernel_rfl) ?_) | (refine hK _ ?_; clear hK; clear K) | (clear hK; clear K; refine hK _ ?_; clear hK; clear K) | (clear hK; clear K; clear hK; clear K; refine hK _ ?_; clear hK; clear K) | refine awp_block ?_ | (refine awp_condC ?_; simp (disch := first | omega | simp) [wrap_i64, -aseqC, -anyC, hlt, ByteArray.size_append, e1, e2]) | (refine awp_exit ?_; try simp (disch := first | omega | simp) [wrap_i64, -aseqC, -anyC, hlt, ByteArray.size_append, e1, e2]) | (refine awp_skip ?_; try simp (disch := first | omega | simp) [wrap_i64, -aseqC, -anyC, hlt, ByteArray.size_append, e1, e2]) | (refine awp_ret ?_; try simp (disch := first | omega | simp) [wrap_i64, -aseqC, -anyC, hlt, ByteArray.size_append, e1, e2]))
      all_goals
        refine ⟨k + 1, by omega, by omega, ba_eq ?_, by omega⟩
        rw [preB_succ hlt, colA_ref (hok _ (List.getElem_mem hlt))]
        simp only [ByteArray.data_append, Array.toList_append, bytesA_data]
        simp only [ByteArray.toList_eq] at *
        by_cases hk0 : k = 0
        · subst hk0
          first | (exfalso; omega) | (simp_all [preB_zero]; done)
        · first | (exfalso; omega) | (simp_all; done)
    · obtain rfl : k = L.length := by omega
      repeat' (first | ((with_reducible refine aguard (fun hg => ?_) (fun hg => ?_)) <;> (try simp only [hg]) <;> (try simp only [beq_iff_eq, beq_eq_false_iff_ne, ne_eq, decide_eq_true_eq, decide_eq_false_iff_not, bne_iff_ne, bne_eq_false_iff_eq] at hg) <;> (try (first | simp only [eq_false hg, if_true, if_false] | simp only [eq_true hg, if_true, if_false])) <;> (try simp (disch := first | omega | simp) [wrap_i64, -aseqC, -anyC, hlt])) | (with_reducible refine aseq_step ?_; try simp (disch := first | omega | simp) [wrap_i64, -aseqC, -anyC, hlt]) | (with_reducible refine any_step' ?_; try simp (disch := first | omega | simp) [wrap_i64, -aseqC, -anyC, hlt]) | (with_reducible refine aseq_end ?_; try simp (disch := first | omega | simp) [wrap_i64, -aseqC, -anyC, hlt]) | (with_reducible refine any_end' ?_; try simp (disch := first | omega | simp) [wrap_i64, -aseqC, -anyC, hlt]) | ((first | with_reducible refine sideG ?_ ?_ | with_reducible refine sideG2 ?_ ?_ | with_reducible refine sideS ?_ ?_ | with_reducible refine sideS2 ?_ ?_ | with_reducible refine sideS3 ?_ ?_ | with_reducible refine sideA ?_ ?_ | with_reducible refine sideA2 ?_ ?_ | with_reducible refine sideA3 ?_ ?_); (first | omega | assumption | (simp; done))) | (refine awp_seq_k fun K hK => ?_) | (refine awp_regionC ?_) | (refine awp_anyA true (by kernel_rfl) (by kernel_rfl) ?_) | (refine awp_anyA false (by kernel_rfl) (by kernel_rfl) ?_) | (refine hK _ ?_; clear hK; clear K) | (clear hK; clear K; refine hK _ ?_; clear hK; clear K) | (clear hK; clear K; clear hK; clear K; refine hK _ ?_; clear hK; clear K) | refine awp_block ?_ | (refine awp_condC ?_; simp (disch := first | omega | simp) [wrap_i64, -aseqC, -anyC, hlt]) | (refine awp_exit ?_; try simp (disch := first | omega | simp) [wrap_i64, -aseqC, -anyC, hlt]) | (refine awp_skip ?_; try simp (disch := first | omega | simp) [wrap_i64, -aseqC, -anyC, hlt]) | (refine awp_ret ?_; try simp (disch := first | omega | simp) [wrap_i64, -aseqC, -anyC, hlt]))
      all_goals rfl
end Go.Proofs.YtinmkhgadekabaaDoor

/- Walk: the reference's words: a string split at its spaces. -/
namespace Go.Proofs.YtinmkhgadekabaaDoor
open Go.RowKit Go.Lib

/-- the words of a string -/
def wordsP (s : ByteArray) : List ByteArray := (Lib.split s.data.toList [32]).map bytesA
theorem split_at {l : List UInt8} {a i : Nat} (ha : a ≤ i) (hi : i < l.length) (hsp : l[i] = 32) (hno : ∀ j (h : j < l.length), a ≤ j → j < i → l[j] ≠ 32) : Lib.split (l.drop a) [32] = (l.drop a).take (i - a) :: Lib.split (l.drop (i + 1)) [32] := by
  have h1 : l.drop a = (l.drop a).take (i - a) ++ [32] ++ l.drop (i + 1) := by
    have h2 : l.drop a = (l.drop a).take (i - a) ++ (l.drop a).drop (i - a) := (List.take_append_drop _ _).symm
    rw [List.drop_drop, show a + (i - a) = i by omega, List.drop_eq_getElem_cons hi, hsp] at h2
    rw [List.append_assoc]; exact h2
  have h3 : (32 : UInt8) ∉ (l.drop a).take (i - a) := by
    intro hm
    obtain ⟨j, hj, he⟩ := List.getElem_of_mem hm
    rw [List.length_take, List.length_drop] at hj
    rw [List.getElem_take, List.getElem_drop] at he
    exact hno (a + j) (by omega) (by omega) (by omega) he
  have h4 := splitL_cons (t := []) (r := l.drop (i + 1)) h3
  rw [← h4, ← h1]
theorem split_end {l : List UInt8} {a : Nat} (hno : ∀ j (h : j < l.length), a ≤ j → l[j] ≠ 32) : Lib.split (l.drop a) [32] = [l.drop a] := by
  refine splitL_none (t := []) ?_
  intro hm
  obtain ⟨j, hj, he⟩ := List.getElem_of_mem hm
  rw [List.length_drop] at hj
  rw [List.getElem_drop] at he
  exact hno (a + j) (by omega) (by omega) he
theorem ext_bytes (s : ByteArray) (a i : Nat) : s.extract a i = bytesA ((s.data.toList.drop a).take (i - a)) := by
  refine ba_eq ?_
  rw [ByteArray.data_extract, Array.toList_extract, List.extract_eq_take_drop]
set_option maxHeartbeats 1000000 in
theorem rwords_g (s : ByteArray) (hs : s.size ≤ 1000000) : Gives Tryd.prog 40 [.str s] (.sl ((wordsP s).map AV.str)) := by
  have hsz : s.data.toList.length = s.size := by rw [← Lib.size_eq]
  refine gives_of_awp Tryd.func40 Tryd.ntmps40 rfl rfl (by decide) rfl (by intro n; simp) fun σ n0 hcl hft => ?_
  repeat' (first | ((with_reducible refine aguard (fun hg => ?_) (fun hg => ?_)) <;> (try simp only [hg]) <;> (try simp only [beq_iff_eq, beq_eq_false_iff_ne, ne_eq, decide_eq_true_eq, decide_eq_false_iff_not, bne_iff_ne, bne_eq_false_iff_eq] at hg) <;> (try (first | simp only [eq_false hg, if_true, if_false] | simp only [eq_true hg, if_true, if_false])) <;> (try simp (disch := first | omega | simp) [wrap_i64, -aseqC, -anyC])) | (with_reducible refine aseq_step ?_; try simp (disch := first | omega | simp) [wrap_i64, -aseqC, -anyC]) | (with_reducible refine any_step' ?_; try simp (disch := first | omega | simp) [wrap_i64, -aseqC, -anyC]) | (with_reducible refine aseq_end ?_; try simp (disch := first | omega | simp) [wrap_i64, -aseqC, -anyC]) | (with_reducible refine any_end' ?_; try simp (disch := first | omega | simp) [wrap_i64, -aseqC, -anyC]) | ((first | with_reducible refine sideG ?_ ?_ | with_reducible refine sideG2 ?_ ?_ | with_reducible refine sideS ?_ ?_ | with_reducible refine sideS2 ?_ ?_ | with_reducible refine sideS3 ?_ ?_ | with_reducible refine sideA ?_ ?_ | with_reducible refine sideA2 ?_ ?_ | with_reducible refine sideA3 ?_ ?_); (first | omega | assumption | (simp; done))) | (refine awp_seq_k fun K hK => ?_) | (refine awp_regionC ?_) | (refine awp_anyA true (by kernel_rfl) (by kernel_rfl) ?_) | (refine awp_anyA false (by kernel_rfl) (by kernel_rfl) ?_) | (refine hK _ ?_; clear hK; clear K) | (clear hK; clear K; refine hK _ ?_; clear hK; clear K) | (clear hK; clear K; clear hK; clear K; refine hK _ ?_; clear hK; clear K) | refine awp_block ?_ | (refine awp_condC ?_; simp (disch := first | omega | simp) [wrap_i64, -aseqC, -anyC]) | (refine awp_exit ?_; try simp (disch := first | omega | simp) [wrap_i64, -aseqC, -anyC]) | (refine awp_skip ?_; try simp (disch := first | omega | simp) [wrap_i64, -aseqC, -anyC]) | (refine awp_ret ?_; try simp (disch := first | omega | simp) [wrap_i64, -aseqC, -anyC]))
  refine awp_adoptR 3 9 1 (by simp) ?_
  refine awp_loopC hcl (fun x : List ByteArray × Nat × Nat => [(0, .str s), (3, .gs n0 (x.1.map AV.str)), (4, .int x.2.1), (5, .int x.2.2)]) (fun x => [.tail x.1.length 9 1])
    (fun x => x.2.1 ≤ x.2.2 ∧ x.2.2 ≤ s.size + 1 ∧ x.1.length ≤ x.2.2 ∧ (x.2.2 ≤ s.size → wordsP s = x.1 ++ (Lib.split (s.data.toList.drop x.2.1) [32]).map bytesA ∧ ∀ j (h : j < s.data.toList.length), x.2.1 ≤ j → j < x.2.2 → s.data.toList[j] ≠ 32) ∧ (x.2.2 = s.size + 1 → x.1 = wordsP s))
    (fun x => s.size + 1 - x.2.2) ([], 0, 0) (by simp [wordsP]; try omega) (by simp) fun ⟨r, a, i⟩ ⟨h1, h2, h3, h4, h5⟩ => ?_
  dsimp only at h1 h2 h3 h4 h5 ⊢
  by_cases hlt : i ≤ s.size
  · obtain ⟨h6, h7⟩ := h4 hlt
    by_cases he : i = s.size
    · have hw : wordsP s = r ++ [s.extract a s.size] := by
        rw [h6, split_end fun j hj haj => h7 j hj haj (by omega), List.map_cons, List.map_nil, ext_bytes, List.take_of_length_le (by rw [List.length_drop]; omega)]
      repeat' (first | ((with_reducible refine aguard (fun hg => ?_) (fun hg => ?_)) <;> (try simp only [hg]) <;> (try simp only [beq_iff_eq, beq_eq_false_iff_ne, ne_eq, decide_eq_true_eq, decide_eq_false_iff_not, bne_iff_ne, bne_eq_false_iff_eq] at hg) <;> (try (first | simp only [eq_false hg, if_true, if_false] | simp only [eq_true hg, if_true, if_false])) <;> (try simp (disch := first | omega | simp) [wrap_i64, -aseqC, -anyC, hlt, he])) | (with_reducible refine aseq_step ?_; try simp (disch := first | omega | simp) [wrap_i64, -aseqC, -anyC, hlt, he]) | (with_reducible refine any_step' ?_; try simp (disch := first | omega | simp) [wrap_i64, -aseqC, -anyC, hlt, he]) | (with_reducible refine aseq_end ?_; try simp (disch := first | omega | simp) [wrap_i64, -aseqC, -anyC, hlt, he]) | (with_reducible refine any_end' ?_; try simp (disch := first | omega | simp) [wrap_i64, -aseqC, -anyC, hlt, he]) | ((first | with_reducible refine sideG ?_ ?_ | with_reducible refine sideG2 ?_ ?_ | with_reducible refine sideS ?_ ?_ | with_reducible refine sideS2 ?_ ?_ | with_reducible refine sideS3 ?_ ?_ | with_reducible refine sideA ?_ ?_ | with_reducible refine sideA2 ?_ ?_ | with_reducible refine sideA3 ?_ ?_); (first | omega | assumption | (simp; done))) | (refine awp_seq_k fun K hK => ?_) | (refine awp_regionC ?_) | (refine awp_anyA true (by kernel_rfl) (by kernel_rfl) ?_) | (refine awp_anyA false (by kernel_rfl) (by kernel_rfl) ?_) | (refine hK _ ?_; clear hK; clear K) | (clear hK; clear K; refine hK _ ?_; clear hK; clear K) | (clear hK; clear K; clear hK; clear K; refine hK _ ?_; clear hK; clear K) | refine awp_block ?_ | (refine awp_condC ?_; simp (disch := first | omega | simp) [wrap_i64, -aseqC, -anyC, hlt, he]) | (refine awp_exit ?_; try simp (disch := first | omega | simp) [wrap_i64, -aseqC, -anyC, hlt, he]) | (refine awp_skip ?_; try simp (disch := first | omega | simp) [wrap_i64, -aseqC, -anyC, hlt, he]) | (refine awp_ret ?_; try simp (disch := first | omega | simp) [wrap_i64, -aseqC, -anyC, hlt, he]))
      all_goals exact ⟨r ++ [s.extract a s.size], s.size + 1, s.size + 1, ⟨by omega, by omega, by simp; omega, fun h => absurd h (by omega), fun _ => hw.symm⟩, by omega, by simp, by simp, by omega, by omega⟩
    · have hi : i < s.data.toList.length := by omega
      have hi2 : i < s.data.size := by rw [← Array.length_toList]; exact hi
      have hget : s.data.toList[i] = s.data[i] := by rw [Array.getElem_toList]
      have he' : ¬ (i : Int) = s.size := by omega
      have hword : s.data[i] = 32 → wordsP s = (r ++ [s.extract a i]) ++ (Lib.split (s.data.toList.drop (i + 1)) [32]).map bytesA := fun h => by
        rw [h6, split_at h1 hi (by rw [hget]; exact h) h7, List.map_cons, ext_bytes]; simp
      repeat' (first | ((with_reducible refine aguard (fun hg => ?_) (fun hg => ?_)) <;> (try simp only [hg]) <;> (try simp only [beq_iff_eq, beq_eq_false_iff_ne, ne_eq, decide_eq_true_eq, decide_eq_false_iff_not, bne_iff_ne, bne_eq_false_iff_eq] at hg) <;> (try (first | simp only [eq_false hg, if_true, if_false] | simp only [eq_true hg, if_true, if_false])) <;> (try simp (disch := first | omega | simp) [wrap_i64, -aseqC, -anyC, hlt, he', hi2])) | (with_reducible refine aseq_step ?_; try simp (disch := first | omega | simp) [wrap_i64, -aseqC, -anyC, hlt, he', hi2]) | (with_reducible refine any_step' ?_; try simp (disch := first | omega | simp) [wrap_i64, -aseqC, -anyC, hlt, he', hi2]) | (with_reducible refine aseq_end ?_; try simp (disch := first | omega | simp) [wrap_i64, -aseqC, -anyC, hlt, he', hi2]) | (with_reducible refine any_end' ?_; try simp (disch := first | omega | simp) [wrap_i64, -aseqC, -anyC, hlt, he', hi2]) | ((first | with_reducible refine sideG ?_ ?_ | with_reducible refine sideG2 ?_ ?_ | with_reducible refine sideS ?_ ?_ | with_reducible refine sideS2 ?_ ?_ | with_reducible refine sideS3 ?_ ?_ | with_reducible refine sideA ?_ ?_ | with_reducible refine sideA2 ?_ ?_ | with_reducible refine sideA3 ?_ ?_); (first | omega | assumption | (simp; done))) | (refine awp_seq_k fun K hK => ?_) | (refine awp_regionC ?_) | (refine awp_anyA true (by kernel_rfl) (by kernel_rfl) ?_) | (refine awp_anyA false (by kernel_rfl) (by kernel_rfl) ?_) | (refine hK _ ?_; clear hK; clear K) | (clear hK; clear K; refine hK _ ?_; clear hK; clear K) | (clear hK; clear K; clear hK; clear K; refine hK _ ?_; clear hK; clear K) | refine awp_block ?_ | (refine awp_condC ?_; simp (disch := first | omega | simp) [wrap_i64, -aseqC, -anyC, hlt, he', hi2]) | (refine awp_exit ?_; try simp (disch := first | omega | simp) [wrap_i64, -aseqC, -anyC, hlt, he', hi2]) | (refine awp_skip ?_; try simp (disch := first | omega | simp) [wrap_i64, -aseqC, -anyC, hlt, he', hi2]) | (refine awp_ret ?_; try simp (disch := first | omega | simp) [wrap_i64, -aseqC, -anyC, hlt, he', hi2]))
      all_goals
        first
        | (exfalso; omega)
        | (have h32 : s.data[i] = 32 := UInt8.toNat_inj.1 (by have : (32 : UInt8).toNat = 32 := rfl; omega)
           exact ⟨r ++ [s.extract a i], i + 1, i + 1, ⟨by omega, by omega, by simp; omega, fun h => ⟨hword h32, fun j hj h8 h9 => by omega⟩, fun h => by omega⟩, by omega, by simp, by simp, by omega, by omega⟩)
        | (have h32 : ¬ s.data[i] = 32 := fun h => by rw [h] at hg; exact absurd rfl hg
           exact ⟨r, a, i + 1, ⟨by omega, by omega, by omega, fun h => ⟨h6, fun j hj h8 h9 => by
             by_cases hji : j = i
             · subst hji; exact h32
             · have := h7 j (by omega) h8 (by omega)
               simpa using this⟩, fun h => by omega⟩, by omega, by simp, by simp⟩)
  · repeat' (first | ((with_reducible refine aguard (fun hg => ?_) (fun hg => ?_)) <;> (try simp only [hg]) <;> (try simp only [beq_iff_eq, beq_eq_false_iff_ne, ne_eq, decide_eq_true_eq, decide_eq_false_iff_not, bne_iff_ne, bne_eq_false_iff_eq] at hg) <;> (try (first | simp only [eq_false hg, if_true, if_false] | simp only [eq_true hg, if_true, if_false])) <;> (try simp (disch := first | omega | simp) [wrap_i64, -aseqC, -anyC, hlt])) | (with_reducible refine aseq_step ?_; try simp (disch := first | omega | simp) [wrap_i64, -aseqC, -anyC, hlt]) | (with_reducible refine any_step' ?_; try simp (disch := first | omega | simp) [wrap_i64, -aseqC, -anyC, hlt]) | (with_reducible refine aseq_end ?_; try simp (disch := first | omega | simp) [wrap_i64, -aseqC, -anyC, hlt]) | (with_reducible refine any_end' ?_; try simp (disch := first | omega | simp) [wrap_i64, -aseqC, -anyC, hlt]) | ((first | with_reducible refine sideG ?_ ?_ | with_reducible refine sideG2 ?_ ?_ | with_reducible refine sideS ?_ ?_ | with_reducible refine sideS2 ?_ ?_ | with_reducible refine sideS3 ?_ ?_ | with_reducible refine sideA ?_ ?_ | with_reducible refine sideA2 ?_ ?_ | with_reducible refine sideA3 ?_ ?_); (first | omega | assumption | (simp; done))) | (refine awp_seq_k fun K hK => ?_) | (refine awp_regionC ?_) | (refine awp_anyA true (by kernel_rfl) (by kernel_rfl) ?_) | (refine awp_anyA false (by kernel_rfl) (by kernel_rfl) ?_) | (refine hK _ ?_; clear hK; clear K) | (clear hK; clear K; refine hK _ ?_; clear hK; clear K) | (clear hK; clear K; clear hK; clear K; refine hK _ ?_; clear hK; clear K) | refine awp_block ?_ | (refine awp_condC ?_; simp (disch := first | omega | simp) [wrap_i64, -aseqC, -anyC, hlt]) | (refine awp_exit ?_; try simp (disch := first | omega | simp) [wrap_i64, -aseqC, -anyC, hlt]) | (refine awp_skip ?_; try simp (disch := first | omega | simp) [wrap_i64, -aseqC, -anyC, hlt]) | (refine awp_ret ?_; try simp (disch := first | omega | simp) [wrap_i64, -aseqC, -anyC, hlt]))
    all_goals (rw [h5 (by omega)])
end Go.Proofs.YtinmkhgadekabaaDoor
