/- Walks of the program's text package: Lines, Unlines, Fields, Escape. -/
import Derived.Test.YtkhmlicikbnmdaaDoorGa17
set_option linter.unusedSimpArgs false
set_option linter.unusedVariables false
namespace Go.Proofs.YtkhmlicikbnmdaaDoor
open Go.RowKit Go.Lib

/- splitting -/
theorem idx_none {b : UInt8} {t : List UInt8} : ∀ {l : List UInt8}, b ∉ l → Lib.index l (b :: t) = -1
  | [], _ => rfl
  | c :: l, h => by
    have h1 : ¬ b = c := fun e => h (by simp [e])
    have ih := idx_none (b := b) (t := t) (l := l) fun e => h (List.mem_cons_of_mem _ e)
    unfold Lib.index
    rw [if_neg (by simp [List.isPrefixOf, h1]), ih]; rfl
theorem idx_at {b : UInt8} {t r : List UInt8} : ∀ {x : List UInt8}, b ∉ x → Lib.index (x ++ (b :: t) ++ r) (b :: t) = x.length
  | [], _ => by
    show Lib.index (b :: (t ++ r)) (b :: t) = _
    unfold Lib.index
    rw [if_pos (by simp [List.isPrefixOf])]; rfl
  | c :: x, h => by
    have h1 : ¬ b = c := fun e => h (by simp [e])
    have ih := idx_at (b := b) (t := t) (r := r) (x := x) fun e => h (List.mem_cons_of_mem _ e)
    show Lib.index (c :: (x ++ (b :: t) ++ r)) (b :: t) = _
    unfold Lib.index
    rw [if_neg (by simp [List.isPrefixOf, h1]), ih, if_neg (by simp <;> omega)]
    simp
theorem splitL_none {b : UInt8} {t x : List UInt8} (h : b ∉ x) : Lib.split x (b :: t) = [x] := by
  unfold Lib.split
  rw [Lib.count_miss (idx_none h)]; rfl
theorem splitL_cons {b : UInt8} {t x r : List UInt8} (h : b ∉ x) : Lib.split (x ++ (b :: t) ++ r) (b :: t) = x :: Lib.split r (b :: t) := by
  have hi := idx_at (t := t) (r := r) h
  have hd : (x ++ (b :: t) ++ r).drop (x.length + (b :: t).length) = r := by
    have : (x ++ (b :: t)).length = x.length + (b :: t).length := by simp
    rw [← this]; exact List.drop_left
  have hK : ∀ n (s : List UInt8), Lib.splitK (b :: t) 0 (n + 1) s = if Lib.index s (b :: t) == -1 then [s] else s.take ((Lib.index s (b :: t)).toNat + 0) :: Lib.splitK (b :: t) 0 n (s.drop ((Lib.index s (b :: t)).toNat + (b :: t).length)) := fun _ _ => rfl
  unfold Lib.split
  rw [Lib.count_hit (by simp) hi, hd, Nat.add_comm, hK, hi, if_neg (by simp <;> omega)]
  simp only [Int.toNat_natCast, Nat.add_zero]
  rw [hd]
  congr 1
  rw [List.append_assoc]; exact List.take_left
theorem split_brk (b : UInt8) : ∀ (n : Nat) (l : List UInt8), l.length ≤ n → Lib.split l [b] = brk b l := fun n => by
  induction n with
  | zero =>
    intro l h
    have : l = [] := List.eq_nil_of_length_eq_zero (by omega)
    subst this
    exact splitL_none (by simp)
  | succ n ih =>
    intro l h
    by_cases hb : b ∈ l
    · obtain ⟨x, r, rfl, hx⟩ := List.eq_append_cons_of_mem hb
      rw [brk_app hx, ← ih r (by simp at h; omega)]
      have := splitL_cons (t := []) (r := r) hx
      rw [← this]
      simp
    · rw [splitL_none hb, brk_none hb]
theorem map_bytes {l : List ByteArray} {m : List (List UInt8)} (h : l.map (·.data.toList) = m) : l = m.map bytesA := by
  subst h
  rw [List.map_map]
  conv => lhs; rw [← List.map_id l]
  exact List.map_congr_left fun x _ => (bytesA_eq x).symm
def splitA (sep s : ByteArray) : List ByteArray := Lib.splitB sep 0 (Lib.countB s sep) s
theorem splitA_length (sep s : ByteArray) (h1 : 1 ≤ sep.size) : (splitA sep s).length = Lib.countB s sep + 1 := Lib.splitB_all sep h1 0 _ s rfl
theorem splitA_brk (b : UInt8) (s : ByteArray) : splitA ⟨#[b]⟩ s = (brk b s.data.toList).map bytesA := by
  refine map_bytes ?_
  rw [← split_brk b _ _ (Nat.le_refl _)]
  unfold splitA
  rw [Lib.splitB_data]; rfl
theorem rcs_strs {X : St} : ∀ l : List ByteArray, RCs X (l.map AV.str) (l.map Value.string)
  | [] => rfl
  | c :: l => ⟨[_], _, rfl, by rw [RC], rcs_strs l⟩
theorem split_g (s sep : ByteArray) (hs : s.size < 4294967281) (h1 : 1 ≤ sep.size) : Gives Tryd.prog 44 [.str s, .str sep] (.sl ((splitA sep s).map AV.str)) :=
  gives_ofS fun X vals hS ha => by
    obtain ⟨v0, _, rfl, h2, v1, _, rfl, h3, h4⟩ := ha
    cases h4
    cases arg_vv h2; cases arg_vv h3
    obtain ⟨⟨m, hm⟩, -⟩ := hS.glob
    refine (Tryd.strings_Split s sep m X.w hs hm.1.1 h1).mono ?_
    rintro e w' ⟨rfl, rfl⟩
    have hE := (Ext.refl X.w).alloc (.cells ((splitA sep s).map Value.string).toArray 9)
    refine ⟨hE, _, rfl, ?_⟩
    show RC _ (.sl _) [_]
    rw [RC]
    have hlen := splitA_length sep s h1
    have hc := Lib.countB_le sep h1 _ s (Nat.le_refl _)
    refine ⟨_, _, X.w.heap.size, 0, by rw [List.length_map, hlen], by rw [List.length_map, hlen]; exact Nat.le_refl _, by omega, fun _ => rfl, ?_⟩
    refine RM.of (rcs_strs _) (cellsS_of _ 0 fun j u hj => ⟨?_, .inr ⟨Nat.le_refl _, by simp [World.size_alloc]⟩⟩)
    have := cells_new X.w ((splitA sep s).map Value.string).toArray 9 j u (by simpa using hj)
    rwa [addr_add] at this
/-- lists of strings -/
abbrev strA (l : List UInt8) : AV := AV.str (bytesA l)
abbrev strs (L : List (List UInt8)) : List AV := L.map strA
theorem trim_eq (l : List UInt8) : Lib.trimSuffix l [10] = if l.getLast? = some 10 then l.dropLast else l := by
  have hs : Lib.hasSuffix l [10] = (l.getLast? == some 10) := by
    unfold Lib.hasSuffix
    rw [Bool.eq_iff_iff]
    simp only [List.isSuffixOf_iff_suffix, beq_iff_eq]
    constructor
    · rintro ⟨t, rfl⟩; simp
    · intro h
      obtain ⟨ys, rfl⟩ := List.getLast?_eq_some_iff.1 h
      exact List.suffix_append _ _
  unfold Lib.trimSuffix
  rw [hs]
  by_cases h : l.getLast? = some 10
  · rw [if_pos (by simp [h]), if_pos h, List.dropLast_eq_take]; rfl
  · rw [if_neg (by simp [h]), if_neg h]
@[simp] theorem strs_cls (L : List (List UInt8)) (n : Nat) : AV.cls n (L.map strA) := AV.cls_map (fun f => by simp) L
@[simp] theorem strs_wid (L : List (List UInt8)) : AV.wid (L.map strA) 1 := AV.wid_map (f := strA) (fun _ => rfl) L
@[simp] theorem strs_elms (L : List (List UInt8)) : AV.elms (L.map strA) := AV.elms_map (f := strA) (fun _ => rfl) L
theorem trim_le (s p : List UInt8) : (Lib.trimSuffix s p).length ≤ s.length := by
  unfold Lib.trimSuffix
  split
  · rw [List.length_take]; omega
  · exact Nat.le_refl _
theorem bytesA_size (l : List UInt8) : (bytesA l).size = l.length := by rw [Lib.size_eq, bytesA_data]
theorem lines_g (s : ByteArray) (hs : s.size ≤ 1000000) : Gives Tryd.prog 15 [.str s] (.sl (strs (linesP s.data.toList))) := by
  by_cases h0 : s.data.toList = []
  · have h0' : s.toList = [] := by rw [ByteArray.toList_eq]; exact h0
    rw [h0]
    refine gives_of_awp Tryd.func15 Tryd.ntmps15 rfl rfl (by decide) rfl (by intro n; simp) fun σ n0 hcl hft => ?_
    repeat' (first | ((with_reducible refine aguard (fun hg => ?_) (fun hg => ?_)) <;> (try simp only [hg]) <;> (try simp only [beq_iff_eq, beq_eq_false_iff_ne, ne_eq, decide_eq_true_eq, decide_eq_false_iff_not, bne_iff_ne, bne_eq_false_iff_eq] at hg) <;> (try (first | simp only [eq_false hg, if_true, if_false] | simp only [eq_true hg, if_true, if_false])) <;> (try simp (disch := first | omega | simp) [wrap_i64, -aseqC, -anyC, h0'])) | (with_reducible refine aseq_step ?_; try simp (disch := first | omega | simp) [wrap_i64, -aseqC, -anyC, h0']) | (with_reducible refine any_step' ?_; try simp (disch := first | omega | simp) [wrap_i64, -aseqC, -anyC, h0']) | (with_reducible refine aseq_end ?_; try simp (disch := first | omega | simp) [wrap_i64, -aseqC, -anyC, h0']) | (with_reducible refine any_end' ?_; try simp (disch := first | omega | simp) [wrap_i64, -aseqC, -anyC, h0']) | ((first | with_reducible refine sideG ?_ ?_ | with_reducible refine sideG2 ?_ ?_ | with_reducible refine sideS ?_ ?_ | with_reducible refine sideS2 ?_ ?_ | with_reducible refine sideS3 ?_ ?_ | with_reducible refine sideA ?_ ?_ | with_reducible refine sideA2 ?_ ?_ | with_reducible refine sideA3 ?_ ?_); (first | omega | assumption | (simp; done))) | (refine awp_seq_k fun K hK => ?_) | (refine awp_regionC ?_) | (refine awp_anyA true (by kernel_rfl) (by kernel_rfl) ?_) | (refine awp_anyA false (by kernel_rfl) (by kernel_rfl) ?_) | (refine hK _ ?_; clear hK; clear K) | (clear hK; clear K; refine hK _ ?_; clear hK; clear K) | (clear hK; clear K; clear hK; clear K; refine hK _ ?_; clear hK; clear K) | refine awp_block ?_ | (refine awp_condC ?_; simp (disch := first | omega | simp) [wrap_i64, -aseqC, -anyC, h0']) | (refine awp_exit ?_; try simp (disch := first | omega | simp) [wrap_i64, -aseqC, -anyC, h0']) | (refine awp_skip ?_; try simp (disch := first | omega | simp) [wrap_i64, -aseqC, -anyC, h0']) | (refine awp_ret ?_; try simp (disch := first | omega | simp) [wrap_i64, -aseqC, -anyC, h0']))
    all_goals rfl
  · have h0' : ¬ s.toList = [] := by rw [ByteArray.toList_eq]; exact h0
    have h1' : s.toList.isEmpty = false := by simpa using h0'
    have c1 := trimSuffix_g s ⟨#[10]⟩ (by omega)
    have hle := trim_le s.data.toList (⟨#[10]⟩ : ByteArray).data.toList
    rw [← Lib.size_eq] at hle
    have c2 := split_g (bytesA (Lib.trimSuffix s.data.toList (⟨#[10]⟩ : ByteArray).data.toList)) ⟨#[10]⟩ (by rw [bytesA_size]; omega) (by decide)
    have e : (splitA ⟨#[10]⟩ (bytesA (Lib.trimSuffix s.data.toList (⟨#[10]⟩ : ByteArray).data.toList))).map AV.str = strs (linesP s.data.toList) := by
      rw [splitA_brk, bytesA_data, trim_eq]
      unfold linesP strs
      rw [if_neg h0, List.map_map]; rfl
    rw [e] at c2
    refine gives_of_awp Tryd.func15 Tryd.ntmps15 rfl rfl (by decide) rfl (by intro n; simp) fun σ n0 hcl hft => ?_
    repeat' (first | ((with_reducible refine aguard (fun hg => ?_) (fun hg => ?_)) <;> (try simp only [hg]) <;> (try simp only [beq_iff_eq, beq_eq_false_iff_ne, ne_eq, decide_eq_true_eq, decide_eq_false_iff_not, bne_iff_ne, bne_eq_false_iff_eq] at hg) <;> (try (first | simp only [eq_false hg, if_true, if_false] | simp only [eq_true hg, if_true, if_false])) <;> (try simp (disch := first | omega | simp) [wrap_i64, -aseqC, -anyC, h0', h1'])) | (with_reducible refine aseq_step ?_; try simp (disch := first | omega | simp) [wrap_i64, -aseqC, -anyC, h0', h1']) | (with_reducible refine any_step' ?_; try simp (disch := first | omega | simp) [wrap_i64, -aseqC, -anyC, h0', h1']) | (with_reducible refine aseq_end ?_; try simp (disch := first | omega | simp) [wrap_i64, -aseqC, -anyC, h0', h1']) | (with_reducible refine any_end' ?_; try simp (disch := first | omega | simp) [wrap_i64, -aseqC, -anyC, h0', h1']) | ((first | with_reducible refine sideG ?_ ?_ | with_reducible refine sideG2 ?_ ?_ | with_reducible refine sideS ?_ ?_ | with_reducible refine sideS2 ?_ ?_ | with_reducible refine sideS3 ?_ ?_ | with_reducible refine sideA ?_ ?_ | with_reducible refine sideA2 ?_ ?_ | with_reducible refine sideA3 ?_ ?_); (first | omega | assumption | (simp; done))) | (refine acall (c1) ?_; try simp (disch := first | omega | simp) [wrap_i64, -aseqC, -anyC, h0', h1']) | (refine agives (c1) ?_; try simp (disch := first | omega | simp) [wrap_i64, -aseqC, -anyC, h0', h1']) | (refine acallAt (c1) ?_; try simp (disch := first | omega | simp) [wrap_i64, -aseqC, -anyC, h0', h1']) | (refine acall (c2) ?_; try simp (disch := first | omega | simp) [wrap_i64, -aseqC, -anyC, h0', h1']) | (refine agives (c2) ?_; try simp (disch := first | omega | simp) [wrap_i64, -aseqC, -anyC, h0', h1']) | (refine acallAt (c2) ?_; try simp (disch := first | omega | simp) [wrap_i64, -aseqC, -anyC, h0', h1']) | (refine awp_seq_k fun K hK => ?_) | (refine awp_regionC ?_) | (refine awp_anyA true (by kernel_rfl) (by kernel_rfl) ?_) | (refine awp_anyA false (by kernel_rfl) (by kernel_rfl) ?_) | (refine hK _ ?_; clear hK; clear K) | (clear hK; clear K; refine hK _ ?_; clear hK; clear K) | (clear hK; clear K; clear hK; clear K; refine hK _ ?_; clear hK; clear K) | refine awp_block ?_ | (refine awp_condC ?_; simp (disch := first | omega | simp) [wrap_i64, -aseqC, -anyC, h0', h1']) | (refine awp_exit ?_; try simp (disch := first | omega | simp) [wrap_i64, -aseqC, -anyC, h0', h1']) | (refine awp_skip ?_; try simp (disch := first | omega | simp) [wrap_i64, -aseqC, -anyC, h0', h1']) | (refine awp_ret ?_; try simp (disch := first | omega | simp) [wrap_i64, -aseqC, -anyC, h0', h1']))
@[simp] theorem unlinesP_nil : unlinesP [] = [] := rfl
theorem unlinesP_append (a b : List (List UInt8)) : unlinesP (a ++ b) = unlinesP a ++ unlinesP b := by unfold unlinesP; rw [List.flatMap_append]
theorem unlines_take {L : List (List UInt8)} {k : Nat} (h : k < L.length) : unlinesP (L.take (k + 1)) = unlinesP (L.take k) ++ (L[k] ++ [10]) := by
  rw [List.take_succ_eq_append_getElem h, unlinesP_append]; simp [unlinesP]
theorem unlines_le {L : List (List UInt8)} (k : Nat) : (unlinesP (L.take k)).length ≤ (unlinesP L).length := by
  have h : unlinesP L = unlinesP (L.take k) ++ unlinesP (L.drop k) := by rw [← unlinesP_append, List.take_append_drop]
  rw [h, List.length_append]; omega
set_option maxHeartbeats 2000000 in
theorem unlines_g (L : List (List UInt8)) (hL : L.length ≤ 1000000) (hs : (unlinesP L).length ≤ 1000000000) : Gives Tryd.prog 16 [.sl (strs L)] (.str (bytesA (unlinesP L))) := by
  refine gives_of_awp Tryd.func16 Tryd.ntmps16 rfl rfl (by decide) rfl (by intro n; simp) fun σ n0 hcl hft => ?_
  repeat' (first | (refine awp_adoptC 0 1 5 1 (by rfl) (by rfl) ?_; try simp (disch := first | omega | simp) [wrap_i64, -aseqC, -anyC]) | ((with_reducible refine aguard (fun hg => ?_) (fun hg => ?_)) <;> (try simp only [hg]) <;> (try simp only [beq_iff_eq, beq_eq_false_iff_ne, ne_eq, decide_eq_true_eq, decide_eq_false_iff_not, bne_iff_ne, bne_eq_false_iff_eq] at hg) <;> (try (first | simp only [eq_false hg, if_true, if_false] | simp only [eq_true hg, if_true, if_false])) <;> (try simp (disch := first | omega | simp) [wrap_i64, -aseqC, -anyC])) | (with_reducible refine aseq_step ?_; try simp (disch := first | omega | simp) [wrap_i64, -aseqC, -anyC]) | (with_reducible refine any_step' ?_; try simp (disch := first | omega | simp) [wrap_i64, -aseqC, -anyC]) | (with_reducible refine aseq_end ?_; try simp (disch := first | omega | simp) [wrap_i64, -aseqC, -anyC]) | (with_reducible refine any_end' ?_; try simp (disch := first | omega | simp) [wrap_i64, -aseqC, -anyC]) | ((first | with_reducible refine sideG ?_ ?_ | with_reducible refine sideG2 ?_ ?_ | with_reducible refine sideS ?_ ?_ | with_reducible refine sideS2 ?_ ?_ | with_reducible refine sideS3 ?_ ?_ | with_reducible refine sideA ?_ ?_ | with_reducible refine sideA2 ?_ ?_ | with_reducible refine sideA3 ?_ ?_); (first | omega | assumption | (simp; done))) | (refine bld_byte (i := 0) (j := 1) _ (by rfl) (by rfl) (by first | rfl | (simp; done) | omega | (simp; omega)) (by first | (simp; done) | assumption) (by first | (simp; done) | assumption) (by first | omega | (simp; done) | (simp; omega)) ?_; try simp (disch := first | omega | simp) [wrap_i64, -aseqC, -anyC]) | (refine bld_string (i := 0) (j := 1) _ (by rfl) (by rfl) (by first | rfl | (simp; done) | omega | (simp; omega)) (by first | (simp; done) | assumption) (by first | (simp; done) | assumption) (by first | omega | (simp; done) | (simp; omega)) ?_; try simp (disch := first | omega | simp) [wrap_i64, -aseqC, -anyC]) | (refine awp_seq_k fun K hK => ?_) | (refine awp_regionC ?_) | (refine awp_anyA true (by kernel_rfl) (by kernel_rfl) ?_) | (refine awp_anyA false (by kernel_rfl) (by kernel_rfl) ?_) | (refine hK _ ?_; clear hK; clear K) | (clear hK; clear K; refine hK _ ?_; clear hK; clear K) | (clear hK; clear K; clear hK; clear K; refine hK _ ?_; clear hK; clear K) | refine awp_block ?_ | (refine awp_condC ?_; simp (disch := first | omega | simp) [wrap_i64, -aseqC, -anyC]) | (refine awp_exit ?_; try simp (disch := first | omega | simp) [wrap_i64, -aseqC, -anyC]) | (refine awp_skip ?_; try simp (disch := first | omega | simp) [wrap_i64, -aseqC, -anyC]) | (refine awp_ret ?_; try simp (disch := first | omega | simp) [wrap_i64, -aseqC, -anyC]))
  refine awp_loopC hcl (fun k : Nat => [(0, .sl (strs L)), (3, .ptr n0 0), (6, .sl (strs L)), (7, .int L.length), (8, .int k)]) (fun k => [.cells [if k = 0 then .v (.pointer none) else .ptr n0 0, .gs (n0 + 1) ((unlinesP (L.take k)).map AV.byte)] 54, .tail (unlinesP (L.take k)).length 5 1])
    (fun k => k ≤ L.length) (fun k => L.length - k) 0 (Nat.zero_le _) (by simp [unlinesP]) fun k hk => ?_
  have hle := unlines_le (L := L) k
  by_cases hlt : k < L.length
  · have hle2 := unlines_le (L := L) (k + 1)
    have ht := unlines_take hlt
    have htl := congrArg List.length ht
    rw [List.length_append, List.length_append, List.length_singleton] at htl
    have hsz := bytesA_size L[k]
    by_cases hk0 : k = 0
    · subst hk0
      repeat' (first | (refine awp_adoptC 0 1 5 1 (by rfl) (by rfl) ?_; try simp (disch := first | omega | simp) [wrap_i64, -aseqC, -anyC, hlt, hsz]) | ((with_reducible refine aguard (fun hg => ?_) (fun hg => ?_)) <;> (try simp only [hg]) <;> (try simp only [beq_iff_eq, beq_eq_false_iff_ne, ne_eq, decide_eq_true_eq, decide_eq_false_iff_not, bne_iff_ne, bne_eq_false_iff_eq] at hg) <;> (try (first | simp only [eq_false hg, if_true, if_false] | simp only [eq_true hg, if_true, if_false])) <;> (try simp (disch := first | omega | simp) [wrap_i64, -aseqC, -anyC, hlt, hsz])) | (with_reducible refine aseq_step ?_; try simp (disch := first | omega | simp) [wrap_i64, -aseqC, -anyC, hlt, hsz]) | (with_reducible refine any_step' ?_; try simp (disch := first | omega | simp) [wrap_i64, -aseqC, -anyC, hlt, hsz]) | (with_reducible refine aseq_end ?_; try simp (disch := first | omega | simp) [wrap_i64, -aseqC, -anyC, hlt, hsz]) | (with_reducible refine any_end' ?_; try simp (disch := first | omega | simp) [wrap_i64, -aseqC, -anyC, hlt, hsz]) | ((first | with_reducible refine sideG ?_ ?_ | with_reducible refine sideG2 ?_ ?_ | with_reducible refine sideS ?_ ?_ | with_reducible refine sideS2 ?_ ?_ | with_reducible refine sideS3 ?_ ?_ | with_reducible refine sideA ?_ ?_ | with_reducible refine sideA2 ?_ ?_ | with_reducible refine sideA3 ?_ ?_); (first | omega | assumption | (simp; done))) | (refine bld_byte (i := 0) (j := 1) _ (by rfl) (by rfl) (by first | rfl | (simp; done) | omega | (simp; omega)) (by first | (simp; done) | assumption) (by first | (simp; done) | assumption) (by first | omega | (simp; done) | (simp; omega)) ?_; try simp (disch := first | omega | simp) [wrap_i64, -aseqC, -anyC, hlt, hsz]) | (refine bld_string (i := 0) (j := 1) _ (by rfl) (by rfl) (by first | rfl | (simp; done) | omega | (simp; omega)) (by first | (simp; done) | assumption) (by first | (simp; done) | assumption) (by first | omega | (simp; done) | (simp; omega)) ?_; try simp (disch := first | omega | simp) [wrap_i64, -aseqC, -anyC, hlt, hsz]) | (refine awp_seq_k fun K hK => ?_) | (refine awp_regionC ?_) | (refine awp_anyA true (by kernel_rfl) (by kernel_rfl) ?_) | (refine awp_anyA false (by kernel_rfl) (by kernel_rfl) ?_) | (refine hK _ ?_; clear hK; clear K) | (clear hK; clear K; refine hK _ ?_; clear hK; clear K) | (clear hK; clear K; clear hK; clear K; refine hK _ ?_; clear hK; clear K) | refine awp_block ?_ | (refine awp_condC ?_; simp (disch := first | omega | simp) [wrap_i64, -aseqC, -anyC, hlt, hsz]) | (refine awp_exit ?_; try simp (disch := first | omega | simp) [wrap_i64, -aseqC, -anyC, hlt, hsz]) | (refine awp_skip ?_; try simp (disch := first | omega | simp) [wrap_i64, -aseqC, -anyC, hlt, hsz]) | (refine awp_ret ?_; try simp (disch := first | omega | simp) [wrap_i64, -aseqC, -anyC, hlt, hsz]))
      all_goals
        refine ⟨1, by omega, by omega, ?_⟩
        rw [ht] 
        simp
    · repeat' (first | (refine awp_adoptC 0 1 5 1 (by rfl) (by rfl) ?_; try simp (disch := first | omega | simp) [wrap_i64, -aseqC, -anyC, hlt, hsz, hk0]) | ((with_reducible refine aguard (fun hg => ?_) (fun hg => ?_)) <;> (try simp only [hg]) <;> (try simp only [beq_iff_eq, beq_eq_false_iff_ne, ne_eq, decide_eq_true_eq, decide_eq_false_iff_not, bne_iff_ne, bne_eq_false_iff_eq] at hg) <;> (try (first | simp only [eq_false hg, if_true, if_false] | simp only [eq_true hg, if_true, if_false])) <;> (try simp (disch := first | omega | simp) [wrap_i64, -aseqC, -anyC, hlt, hsz, hk0])) | (with_reducible refine aseq_step ?_; try simp (disch := first | omega | simp) [wrap_i64, -aseqC, -anyC, hlt, hsz, hk0]) | (with_reducible refine any_step' ?_; try simp (disch := first | omega | simp) [wrap_i64, -aseqC, -anyC, hlt, hsz, hk0]) | (with_reducible refine aseq_end ?_; try simp (disch := first | omega | simp) [wrap_i64, -aseqC, -anyC, hlt, hsz, hk0]) | (with_reducible refine any_end' ?_; try simp (disch := first | omega | simp) [wrap_i64, -aseqC, -anyC, hlt, hsz, hk0]) | ((first | with_reducible refine sideG ?_ ?_ | with_reducible refine sideG2 ?_ ?_ | with_reducible refine sideS ?_ ?_ | with_reducible refine sideS2 ?_ ?_ | with_reducible refine sideS3 ?_ ?_ | with_reducible refine sideA ?_ ?_ | with_reducible refine sideA2 ?_ ?_ | with_reducible refine sideA3 ?_ ?_); (first | omega | assumption | (simp; done))) | (refine bld_byte (i := 0) (j := 1) _ (by rfl) (by rfl) (by first | rfl | (simp; done) | omega | (simp; omega)) (by first | (simp; done) | assumption) (by first | (simp; done) | assumption) (by first | omega | (simp; done) | (simp; omega)) ?_; try simp (disch := first | omega | simp) [wrap_i64, -aseqC, -anyC, hlt, hsz, hk0]) | (refine bld_string (i := 0) (j := 1) _ (by rfl) (by rfl) (by first | rfl | (simp; done) | omega | (simp; omega)) (by first | (simp; done) | assumption) (by first | (simp; done) | assumption) (by first | omega | (simp; done) | (simp; omega)) ?_; try simp (disch := first | omega | simp) [wrap_i64, -aseqC, -anyC, hlt, hsz, hk0]) | (refine awp_seq_k fun K hK => ?_) | (refine awp_regionC ?_) | (refine awp_anyA true (by kernel_rfl) (by kernel_rfl) ?_) | (refine awp_anyA false (by kernel_rfl) (by kernel_rfl) ?_) | (refine hK _ ?_; clear hK; clear K) | (clear hK; clear K; refine hK _ ?_; clear hK; clear K) | (clear hK; clear K; clear hK; clear K; refine hK _ ?_; clear hK; clear K) | refine awp_block ?_ | (refine awp_condC ?_; simp (disch := first | omega | simp) [wrap_i64, -aseqC, -anyC, hlt, hsz, hk0]) | (refine awp_exit ?_; try simp (disch := first | omega | simp) [wrap_i64, -aseqC, -anyC, hlt, hsz, hk0]) | (refine awp_skip ?_; try simp (disch := first | omega | simp) [wrap_i64, -aseqC, -anyC, hlt, hsz, hk0]) | (refine awp_ret ?_; try simp (disch := first | omega | simp) [wrap_i64, -aseqC, -anyC, hlt, hsz, hk0]))
      all_goals
        refine ⟨k + 1, by omega, by omega, ⟨⟨by omega, ?_⟩, ?_⟩, by simp, by omega⟩
        · rw [ht]; simp [AV.byte]
        · rw [htl]; omega
  · obtain rfl : k = L.length := by omega
    by_cases hk0 : L.length = 0
    · have hL0 : L = [] := List.eq_nil_of_length_eq_zero hk0
      subst hL0
      repeat' (first | ((with_reducible refine aguard (fun hg => ?_) (fun hg => ?_)) <;> (try simp only [hg]) <;> (try simp only [beq_iff_eq, beq_eq_false_iff_ne, ne_eq, decide_eq_true_eq, decide_eq_false_iff_not, bne_iff_ne, bne_eq_false_iff_eq] at hg) <;> (try (first | simp only [eq_false hg, if_true, if_false] | simp only [eq_true hg, if_true, if_false])) <;> (try simp (disch := first | omega | simp) [wrap_i64, -aseqC, -anyC, hk0])) | (with_reducible refine aseq_step ?_; try simp (disch := first | omega | simp) [wrap_i64, -aseqC, -anyC, hk0]) | (with_reducible refine any_step' ?_; try simp (disch := first | omega | simp) [wrap_i64, -aseqC, -anyC, hk0]) | (with_reducible refine aseq_end ?_; try simp (disch := first | omega | simp) [wrap_i64, -aseqC, -anyC, hk0]) | (with_reducible refine any_end' ?_; try simp (disch := first | omega | simp) [wrap_i64, -aseqC, -anyC, hk0]) | ((first | with_reducible refine sideG ?_ ?_ | with_reducible refine sideG2 ?_ ?_ | with_reducible refine sideS ?_ ?_ | with_reducible refine sideS2 ?_ ?_ | with_reducible refine sideS3 ?_ ?_ | with_reducible refine sideA ?_ ?_ | with_reducible refine sideA2 ?_ ?_ | with_reducible refine sideA3 ?_ ?_); (first | omega | assumption | (simp; done))) | (refine acall (bld_read (i := 0) (j := 1) [] (by rfl) (by rfl) (by simp) (by simp)) ?_; try simp (disch := first | omega | simp) [wrap_i64, -aseqC, -anyC, hk0]) | (refine agives (bld_read (i := 0) (j := 1) [] (by rfl) (by rfl) (by simp) (by simp)) ?_; try simp (disch := first | omega | simp) [wrap_i64, -aseqC, -anyC, hk0]) | (refine acallAt (bld_read (i := 0) (j := 1) [] (by rfl) (by rfl) (by simp) (by simp)) ?_; try simp (disch := first | omega | simp) [wrap_i64, -aseqC, -anyC, hk0]) | (refine awp_seq_k fun K hK => ?_) | (refine awp_regionC ?_) | (refine awp_anyA true (by kernel_rfl) (by kernel_rfl) ?_) | (refine awp_anyA false (by kernel_rfl) (by kernel_rfl) ?_) | (refine hK _ ?_; clear hK; clear K) | (clear hK; clear K; refine hK _ ?_; clear hK; clear K) | (clear hK; clear K; clear hK; clear K; refine hK _ ?_; clear hK; clear K) | refine awp_block ?_ | (refine awp_condC ?_; simp (disch := first | omega | simp) [wrap_i64, -aseqC, -anyC, hk0]) | (refine awp_exit ?_; try simp (disch := first | omega | simp) [wrap_i64, -aseqC, -anyC, hk0]) | (refine awp_skip ?_; try simp (disch := first | omega | simp) [wrap_i64, -aseqC, -anyC, hk0]) | (refine awp_ret ?_; try simp (disch := first | omega | simp) [wrap_i64, -aseqC, -anyC, hk0]))
      all_goals rfl
    · repeat' (first | ((with_reducible refine aguard (fun hg => ?_) (fun hg => ?_)) <;> (try simp only [hg]) <;> (try simp only [beq_iff_eq, beq_eq_false_iff_ne, ne_eq, decide_eq_true_eq, decide_eq_false_iff_not, bne_iff_ne, bne_eq_false_iff_eq] at hg) <;> (try (first | simp only [eq_false hg, if_true, if_false] | simp only [eq_true hg, if_true, if_false])) <;> (try simp (disch := first | omega | simp) [wrap_i64, -aseqC, -anyC, hk0])) | (with_reducible refine aseq_step ?_; try simp (disch := first | omega | simp) [wrap_i64, -aseqC, -anyC, hk0]) | (with_reducible refine any_step' ?_; try simp (disch := first | omega | simp) [wrap_i64, -aseqC, -anyC, hk0]) | (with_reducible refine aseq_end ?_; try simp (disch := first | omega | simp) [wrap_i64, -aseqC, -anyC, hk0]) | (with_reducible refine any_end' ?_; try simp (disch := first | omega | simp) [wrap_i64, -aseqC, -anyC, hk0]) | ((first | with_reducible refine sideG ?_ ?_ | with_reducible refine sideG2 ?_ ?_ | with_reducible refine sideS ?_ ?_ | with_reducible refine sideS2 ?_ ?_ | with_reducible refine sideS3 ?_ ?_ | with_reducible refine sideA ?_ ?_ | with_reducible refine sideA2 ?_ ?_ | with_reducible refine sideA3 ?_ ?_); (first | omega | assumption | (simp; done))) | (refine acall (bld_read (i := 0) (j := 1) (unlinesP L) (by rfl) (by rfl) (by simp) (by simp)) ?_; try simp (disch := first | omega | simp) [wrap_i64, -aseqC, -anyC, hk0]) | (refine agives (bld_read (i := 0) (j := 1) (unlinesP L) (by rfl) (by rfl) (by simp) (by simp)) ?_; try simp (disch := first | omega | simp) [wrap_i64, -aseqC, -anyC, hk0]) | (refine acallAt (bld_read (i := 0) (j := 1) (unlinesP L) (by rfl) (by rfl) (by simp) (by simp)) ?_; try simp (disch := first | omega | simp) [wrap_i64, -aseqC, -anyC, hk0]) | (refine awp_seq_k fun K hK => ?_) | (refine awp_regionC ?_) | (refine awp_anyA true (by kernel_rfl) (by kernel_rfl) ?_) | (refine awp_anyA false (by kernel_rfl) (by kernel_rfl) ?_) | (refine hK _ ?_; clear hK; clear K) | (clear hK; clear K; refine hK _ ?_; clear hK; clear K) | (clear hK; clear K; clear hK; clear K; refine hK _ ?_; clear hK; clear K) | refine awp_block ?_ | (refine awp_condC ?_; simp (disch := first | omega | simp) [wrap_i64, -aseqC, -anyC, hk0]) | (refine awp_exit ?_; try simp (disch := first | omega | simp) [wrap_i64, -aseqC, -anyC, hk0]) | (refine awp_skip ?_; try simp (disch := first | omega | simp) [wrap_i64, -aseqC, -anyC, hk0]) | (refine awp_ret ?_; try simp (disch := first | omega | simp) [wrap_i64, -aseqC, -anyC, hk0]))
      all_goals rfl
theorem esc_append (a b : List UInt8) : escP (a ++ b) = escP a ++ escP b := by
  induction a with
  | nil => rfl
  | cons c a ih => rw [List.cons_append, escP, escP, ih]; split <;> rfl
theorem esc_take {l : List UInt8} {k : Nat} (h : k < l.length) : escP (l.take (k + 1)) = escP (l.take k) ++ (if l[k] = 42 ∨ l[k] = 63 ∨ l[k] = 91 ∨ l[k] = 92 then [92, l[k]] else [l[k]]) := by
  rw [List.take_succ_eq_append_getElem h, esc_append]
  have e : escP [l[k]] = if l[k] = 42 ∨ l[k] = 63 ∨ l[k] = 91 ∨ l[k] = 92 then [92, l[k]] else [l[k]] := by
    unfold escP
    rfl
  rw [e]
theorem esc_len : ∀ l : List UInt8, (escP l).length ≤ 2 * l.length
  | [] => Nat.le_refl _
  | c :: l => by
    have := esc_len l
    rw [escP]
    split
    · simp; omega
    · simp; omega
@[simp] theorem escP_nil : escP [] = [] := rfl
theorem special_g (c : UInt8) : Gives Tryd.prog 52 [.str ⟨#[42, 63, 91, 92]⟩, .v (.int .u8 c.toNat)] (.int (Lib.indexByte [42, 63, 91, 92] c)) := by
  have := indexByte_g ⟨#[42, 63, 91, 92]⟩ c.toNat
  have e : ((c.toNat : Int)).toNat.toUInt8 = c := by simp
  rw [e] at this
  exact this
theorem special_iff (c : UInt8) : 0 ≤ Lib.indexByte [42, 63, 91, 92] c ↔ c = 42 ∨ c = 63 ∨ c = 91 ∨ c = 92 := by
  have : ∀ n : _root_.Fin 256, (0 ≤ Lib.indexByte [42, 63, 91, 92] (UInt8.ofNat n.1) ↔ UInt8.ofNat n.1 = 42 ∨ UInt8.ofNat n.1 = 63 ∨ UInt8.ofNat n.1 = 91 ∨ UInt8.ofNat n.1 = 92) := by decide +kernel
  have h := this ⟨c.toNat, c.toNat_lt⟩
  simpa using h
set_option maxHeartbeats 2000000 in
theorem escape_g (s : ByteArray) (hs : s.size ≤ 1000000) : Gives Tryd.prog 19 [.str s] (.str (bytesA (escP s.data.toList))) := by
  obtain ⟨l, hl⟩ : ∃ l, l = s.data.toList := ⟨_, rfl⟩
  have hsz : l.length = s.size := by rw [hl, ← Lib.size_eq]
  rw [← hl]
  refine gives_of_awp Tryd.func19 Tryd.ntmps19 rfl rfl (by decide) rfl (by intro n; simp) fun σ n0 hcl hft => ?_
  repeat' (first | (refine awp_adoptC 0 1 5 1 (by rfl) (by rfl) ?_; try simp (disch := first | omega | simp) [wrap_i64, -aseqC, -anyC]) | ((with_reducible refine aguard (fun hg => ?_) (fun hg => ?_)) <;> (try simp only [hg]) <;> (try simp only [beq_iff_eq, beq_eq_false_iff_ne, ne_eq, decide_eq_true_eq, decide_eq_false_iff_not, bne_iff_ne, bne_eq_false_iff_eq] at hg) <;> (try (first | simp only [eq_false hg, if_true, if_false] | simp only [eq_true hg, if_true, if_false])) <;> (try simp (disch := first | omega | simp) [wrap_i64, -aseqC, -anyC])) | (with_reducible refine aseq_step ?_; try simp (disch := first | omega | simp) [wrap_i64, -aseqC, -anyC]) | (with_reducible refine any_step' ?_; try simp (disch := first | omega | simp) [wrap_i64, -aseqC, -anyC]) | (with_reducible refine aseq_end ?_; try simp (disch := first | omega | simp) [wrap_i64, -aseqC, -anyC]) | (with_reducible refine any_end' ?_; try simp (disch := first | omega | simp) [wrap_i64, -aseqC, -anyC]) | ((first | with_reducible refine sideG ?_ ?_ | with_reducible refine sideG2 ?_ ?_ | with_reducible refine sideS ?_ ?_ | with_reducible refine sideS2 ?_ ?_ | with_reducible refine sideS3 ?_ ?_ | with_reducible refine sideA ?_ ?_ | with_reducible refine sideA2 ?_ ?_ | with_reducible refine sideA3 ?_ ?_); (first | omega | assumption | (simp; done))) | (refine bld_byte (i := 0) (j := 1) _ (by rfl) (by rfl) (by first | rfl | (simp; done) | omega | (simp; omega)) (by first | (simp; done) | assumption) (by first | (simp; done) | assumption) (by first | omega | (simp; done) | (simp; omega)) ?_; try simp (disch := first | omega | simp) [wrap_i64, -aseqC, -anyC]) | (refine bld_string (i := 0) (j := 1) _ (by rfl) (by rfl) (by first | rfl | (simp; done) | omega | (simp; omega)) (by first | (simp; done) | assumption) (by first | (simp; done) | assumption) (by first | omega | (simp; done) | (simp; omega)) ?_; try simp (disch := first | omega | simp) [wrap_i64, -aseqC, -anyC]) | (refine awp_seq_k fun K hK => ?_) | (refine awp_regionC ?_) | (refine awp_anyA true (by kernel_rfl) (by kernel_rfl) ?_) | (refine awp_anyA false (by kernel_rfl) (by kernel_rfl) ?_) | (refine hK _ ?_; clear hK; clear K) | (clear hK; clear K; refine hK _ ?_; clear hK; clear K) | (clear hK; clear K; clear hK; clear K; refine hK _ ?_; clear hK; clear K) | refine awp_block ?_ | (refine awp_condC ?_; simp (disch := first | omega | simp) [wrap_i64, -aseqC, -anyC]) | (refine awp_exit ?_; try simp (disch := first | omega | simp) [wrap_i64, -aseqC, -anyC]) | (refine awp_skip ?_; try simp (disch := first | omega | simp) [wrap_i64, -aseqC, -anyC]) | (refine awp_ret ?_; try simp (disch := first | omega | simp) [wrap_i64, -aseqC, -anyC]))
  refine awp_loopC hcl (fun k : Nat => [(0, .str s), (3, .ptr n0 0), (6, .int s.size), (7, .int k)]) (fun k => [.cells [if k = 0 then .v (.pointer none) else .ptr n0 0, .gs (n0 + 1) ((escP (l.take k)).map AV.byte)] 54, .tail (escP (l.take k)).length 5 1])
    (fun k => k ≤ l.length) (fun k => l.length - k) 0 (Nat.zero_le _) (by simp) fun k hk => ?_
  have hq := esc_len (l.take k)
  rw [List.length_take] at hq
  by_cases hlt : k < l.length
  · have hlt2 : k < s.size := by omega
    have hlt3 : k < s.data.size := hlt2
    have hget : s.data[k] = l[k] := by simp [hl]
    have ht := esc_take hlt
    have htl := congrArg List.length ht
    rw [List.length_append] at htl
    have hsp := special_g l[k]
    have hsi := special_iff l[k]
    by_cases hc : l[k] = 42 ∨ l[k] = 63 ∨ l[k] = 91 ∨ l[k] = 92
    · have hi := hsi.2 hc
      rw [if_pos hc] at ht htl
      by_cases hk0 : k = 0
      · subst hk0
        repeat' (first | (refine awp_adoptC 0 1 5 1 (by rfl) (by rfl) ?_; try simp (disch := first | omega | simp) [wrap_i64, -aseqC, -anyC, hlt, hlt2, hlt3, hget, hi]) | ((with_reducible refine aguard (fun hg => ?_) (fun hg => ?_)) <;> (try simp only [hg]) <;> (try simp only [beq_iff_eq, beq_eq_false_iff_ne, ne_eq, decide_eq_true_eq, decide_eq_false_iff_not, bne_iff_ne, bne_eq_false_iff_eq] at hg) <;> (try (first | simp only [eq_false hg, if_true, if_false] | simp only [eq_true hg, if_true, if_false])) <;> (try simp (disch := first | omega | simp) [wrap_i64, -aseqC, -anyC, hlt, hlt2, hlt3, hget, hi])) | (with_reducible refine aseq_step ?_; try simp (disch := first | omega | simp) [wrap_i64, -aseqC, -anyC, hlt, hlt2, hlt3, hget, hi]) | (with_reducible refine any_step' ?_; try simp (disch := first | omega | simp) [wrap_i64, -aseqC, -anyC, hlt, hlt2, hlt3, hget, hi]) | (with_reducible refine aseq_end ?_; try simp (disch := first | omega | simp) [wrap_i64, -aseqC, -anyC, hlt, hlt2, hlt3, hget, hi]) | (with_reducible refine any_end' ?_; try simp (disch := first | omega | simp) [wrap_i64, -aseqC, -anyC, hlt, hlt2, hlt3, hget, hi]) | ((first | with_reducible refine sideG ?_ ?_ | with_reducible refine sideG2 ?_ ?_ | with_reducible refine sideS ?_ ?_ | with_reducible refine sideS2 ?_ ?_ | with_reducible refine sideS3 ?_ ?_ | with_reducible refine sideA ?_ ?_ | with_reducible refine sideA2 ?_ ?_ | with_reducible refine sideA3 ?_ ?_); (first | omega | assumption | (simp; done))) | (refine acall (hsp) ?_; try simp (disch := first | omega | simp) [wrap_i64, -aseqC, -anyC, hlt, hlt2, hlt3, hget, hi]) | (refine agives (hsp) ?_; try simp (disch := first | omega | simp) [wrap_i64, -aseqC, -anyC, hlt, hlt2, hlt3, hget, hi]) | (refine acallAt (hsp) ?_; try simp (disch := first | omega | simp) [wrap_i64, -aseqC, -anyC, hlt, hlt2, hlt3, hget, hi]) | (refine bld_byte (i := 0) (j := 1) _ (by rfl) (by rfl) (by first | rfl | (simp; done) | omega | (simp; omega)) (by first | (simp; done) | assumption) (by first | (simp; done) | assumption) (by first | omega | (simp; done) | (simp; omega)) ?_; try simp (disch := first | omega | simp) [wrap_i64, -aseqC, -anyC, hlt, hlt2, hlt3, hget, hi]) | (refine bld_string (i := 0) (j := 1) _ (by rfl) (by rfl) (by first | rfl | (simp; done) | omega | (simp; omega)) (by first | (simp; done) | assumption) (by first | (simp; done) | assumption) (by first | omega | (simp; done) | (simp; omega)) ?_; try simp (disch := first | omega | simp) [wrap_i64, -aseqC, -anyC, hlt, hlt2, hlt3, hget, hi]) | (refine awp_seq_k fun K hK => ?_) | (refine awp_regionC ?_) | (refine awp_anyA true (by kernel_rfl) (by kernel_rfl) ?_) | (refine awp_anyA false (by kernel_rfl) (by kernel_rfl) ?_) | (refine hK _ ?_; clear hK; clear K) | (clear hK; clear K; refine hK _ ?_; clear hK; clear K) | (clear hK; clear K; clear hK; clear K; refine hK _ ?_; clear hK; clear K) | refine awp_block ?_ | (refine awp_condC ?_; simp (disch := first | omega | simp) [wrap_i64, -aseqC, -anyC, hlt, hlt2, hlt3, hget, hi]) | (refine awp_exit ?_; try simp (disch := first | omega | simp) [wrap_i64, -aseqC, -anyC, hlt, hlt2, hlt3, hget, hi]) | (refine awp_skip ?_; try simp (disch := first | omega | simp) [wrap_i64, -aseqC, -anyC, hlt, hlt2, hlt3, hget, hi]) | (refine awp_ret ?_; try simp (disch := first | omega | simp) [wrap_i64, -aseqC, -anyC, hlt, hlt2, hlt3, hget, hi]))
        all_goals
          refine ⟨1, by omega, by omega, ?_⟩
          rw [ht]
          simp [AV.byte]
      · repeat' (first | (refine awp_adoptC 0 1 5 1 (by rfl) (by rfl) ?_; try simp (disch := first | omega | simp) [wrap_i64, -aseqC, -anyC, hlt, hlt2, hlt3, hget, hk0, hi]) | ((with_reducible refine aguard (fun hg => ?_) (fun hg => ?_)) <;> (try simp only [hg]) <;> (try simp only [beq_iff_eq, beq_eq_false_iff_ne, ne_eq, decide_eq_true_eq, decide_eq_false_iff_not, bne_iff_ne, bne_eq_false_iff_eq] at hg) <;> (try (first | simp only [eq_false hg, if_true, if_false] | simp only [eq_true hg, if_true, if_false])) <;> (try simp (disch := first | omega | simp) [wrap_i64, -aseqC, -anyC, hlt, hlt2, hlt3, hget, hk0, hi])) | (with_reducible refine aseq_step ?_; try simp (disch := first | omega | simp) [wrap_i64, -aseqC, -anyC, hlt, hlt2, hlt3, hget, hk0, hi]) | (with_reducible refine any_step' ?_; try simp (disch := first | omega | simp) [wrap_i64, -aseqC, -anyC, hlt, hlt2, hlt3, hget, hk0, hi]) | (with_reducible refine aseq_end ?_; try simp (disch := first | omega | simp) [wrap_i64, -aseqC, -anyC, hlt, hlt2, hlt3, hget, hk0, hi]) | (with_reducible refine any_end' ?_; try simp (disch := first | omega | simp) [wrap_i64, -aseqC, -anyC, hlt, hlt2, hlt3, hget, hk0, hi]) | ((first | with_reducible refine sideG ?_ ?_ | with_reducible refine sideG2 ?_ ?_ | with_reducible refine sideS ?_ ?_ | with_reducible refine sideS2 ?_ ?_ | with_reducible refine sideS3 ?_ ?_ | with_reducible refine sideA ?_ ?_ | with_reducible refine sideA2 ?_ ?_ | with_reducible refine sideA3 ?_ ?_); (first | omega | assumption | (simp; done))) | (refine acall (hsp) ?_; try simp (disch := first | omega | simp) [wrap_i64, -aseqC, -anyC, hlt, hlt2, hlt3, hget, hk0, hi]) | (refine agives (hsp) ?_; try simp (disch := first | omega | simp) [wrap_i64, -aseqC, -anyC, hlt, hlt2, hlt3, hget, hk0, hi]) | (refine acallAt (hsp) ?_; try simp (disch := first | omega | simp) [wrap_i64, -aseqC, -anyC, hlt, hlt2, hlt3, hget, hk0, hi]) | (refine bld_byte (i := 0) (j := 1) _ (by rfl) (by rfl) (by first | rfl | (simp; done) | omega | (simp; omega)) (by first | (simp; done) | assumption) (by first | (simp; done) | assumption) (by first | omega | (simp; done) | (simp; omega)) ?_; try simp (disch := first | omega | simp) [wrap_i64, -aseqC, -anyC, hlt, hlt2, hlt3, hget, hk0, hi]) | (refine bld_string (i := 0) (j := 1) _ (by rfl) (by rfl) (by first | rfl | (simp; done) | omega | (simp; omega)) (by first | (simp; done) | assumption) (by first | (simp; done) | assumption) (by first | omega | (simp; done) | (simp; omega)) ?_; try simp (disch := first | omega | simp) [wrap_i64, -aseqC, -anyC, hlt, hlt2, hlt3, hget, hk0, hi]) | (refine awp_seq_k fun K hK => ?_) | (refine awp_regionC ?_) | (refine awp_anyA true (by kernel_rfl) (by kernel_rfl) ?_) | (refine awp_anyA false (by kernel_rfl) (by kernel_rfl) ?_) | (refine hK _ ?_; clear hK; clear K) | (clear hK; clear K; refine hK _ ?_; clear hK; clear K) | (clear hK; clear K; clear hK; clear K; refine hK _ ?_; clear hK; clear K) | refine awp_block ?_ | (refine awp_condC ?_; simp (disch := first | omega | simp) [wrap_i64, -aseqC, -anyC, hlt, hlt2, hlt3, hget, hk0, hi]) | (refine awp_exit ?_; try simp (disch := first | omega | simp) [wrap_i64, -aseqC, -anyC, hlt, hlt2, hlt3, hget, hk0, hi]) | (refine awp_skip ?_; try simp (disch := first | omega | simp) [wrap_i64, -aseqC, -anyC, hlt, hlt2, hlt3, hget, hk0, hi]) | (refine awp_ret ?_; try simp (disch := first | omega | simp) [wrap_i64, -aseqC, -anyC, hlt, hlt2, hlt3, hget, hk0, hi]))
        all_goals
          refine ⟨k + 1, by omega, by omega, ⟨⟨by omega, ?_⟩, ?_⟩, by simp, by omega⟩
          · rw [ht]; simp [AV.byte]
          · rw [htl]; simp
    · have hi : ¬ 0 ≤ Lib.indexByte [42, 63, 91, 92] l[k] := fun h => hc (hsi.1 h)
      rw [if_neg hc] at ht htl
      by_cases hk0 : k = 0
      · subst hk0
        repeat' (first | (refine awp_adoptC 0 1 5 1 (by rfl) (by rfl) ?_; try simp (disch := first | omega | simp) [wrap_i64, -aseqC, -anyC, hlt, hlt2, hlt3, hget, hi]) | ((with_reducible refine aguard (fun hg => ?_) (fun hg => ?_)) <;> (try simp only [hg]) <;> (try simp only [beq_iff_eq, beq_eq_false_iff_ne, ne_eq, decide_eq_true_eq, decide_eq_false_iff_not, bne_iff_ne, bne_eq_false_iff_eq] at hg) <;> (try (first | simp only [eq_false hg, if_true, if_false] | simp only [eq_true hg, if_true, if_false])) <;> (try simp (disch := first | omega | simp) [wrap_i64, -aseqC, -anyC, hlt, hlt2, hlt3, hget, hi])) | (with_reducible refine aseq_step ?_; try simp (disch := first | omega | simp) [wrap_i64, -aseqC, -anyC, hlt, hlt2, hlt3, hget, hi]) | (with_reducible refine any_step' ?_; try simp (disch := first | omega | simp) [wrap_i64, -aseqC, -anyC, hlt, hlt2, hlt3, hget, hi]) | (with_reducible refine aseq_end ?_; try simp (disch := first | omega | simp) [wrap_i64, -aseqC, -anyC, hlt, hlt2, hlt3, hget, hi]) | (with_reducible refine any_end' ?_; try simp (disch := first | omega | simp) [wrap_i64, -aseqC, -anyC, hlt, hlt2, hlt3, hget, hi]) | ((first | with_reducible refine sideG ?_ ?_ | with_reducible refine sideG2 ?_ ?_ | with_reducible refine sideS ?_ ?_ | with_reducible refine sideS2 ?_ ?_ | with_reducible refine sideS3 ?_ ?_ | with_reducible refine sideA ?_ ?_ | with_reducible refine sideA2 ?_ ?_ | with_reducible refine sideA3 ?_ ?_); (first | omega | assumption | (simp; done))) | (refine acall (hsp) ?_; try simp (disch := first | omega | simp) [wrap_i64, -aseqC, -anyC, hlt, hlt2, hlt3, hget, hi]) | (refine agives (hsp) ?_; try simp (disch := first | omega | simp) [wrap_i64, -aseqC, -anyC, hlt, hlt2, hlt3, hget, hi]) | (refine acallAt (hsp) ?_; try simp (disch := first | omega | simp) [wrap_i64, -aseqC, -anyC, hlt, hlt2, hlt3, hget, hi]) | (refine bld_byte (i := 0) (j := 1) _ (by rfl) (by rfl) (by first | rfl | (simp; done) | omega | (simp; omega)) (by first | (simp; done) | assumption) (by first | (simp; done) | assumption) (by first | omega | (simp; done) | (simp; omega)) ?_; try simp (disch := first | omega | simp) [wrap_i64, -aseqC, -anyC, hlt, hlt2, hlt3, hget, hi]) | (refine bld_string (i := 0) (j := 1) _ (by rfl) (by rfl) (by first | rfl | (simp; done) | omega | (simp; omega)) (by first | (simp; done) | assumption) (by first | (simp; done) | assumption) (by first | omega | (simp; done) | (simp; omega)) ?_; try simp (disch := first | omega | simp) [wrap_i64, -aseqC, -anyC, hlt, hlt2, hlt3, hget, hi]) | (refine awp_seq_k fun K hK => ?_) | (refine awp_regionC ?_) | (refine awp_anyA true (by kernel_rfl) (by kernel_rfl) ?_) | (refine awp_anyA false (by kernel_rfl) (by kernel_rfl) ?_) | (refine hK _ ?_; clear hK; clear K) | (clear hK; clear K; refine hK _ ?_; clear hK; clear K) | (clear hK; clear K; clear hK; clear K; refine hK _ ?_; clear hK; clear K) | refine awp_block ?_ | (refine awp_condC ?_; simp (disch := first | omega | simp) [wrap_i64, -aseqC, -anyC, hlt, hlt2, hlt3, hget, hi]) | (refine awp_exit ?_; try simp (disch := first | omega | simp) [wrap_i64, -aseqC, -anyC, hlt, hlt2, hlt3, hget, hi]) | (refine awp_skip ?_; try simp (disch := first | omega | simp) [wrap_i64, -aseqC, -anyC, hlt, hlt2, hlt3, hget, hi]) | (refine awp_ret ?_; try simp (disch := first | omega | simp) [wrap_i64, -aseqC, -anyC, hlt, hlt2, hlt3, hget, hi]))
        all_goals
          refine ⟨1, by omega, by omega, ?_⟩
          rw [ht]
          simp [AV.byte]
      · repeat' (first | (refine awp_adoptC 0 1 5 1 (by rfl) (by rfl) ?_; try simp (disch := first | omega | simp) [wrap_i64, -aseqC, -anyC, hlt, hlt2, hlt3, hget, hk0, hi]) | ((with_reducible refine aguard (fun hg => ?_) (fun hg => ?_)) <;> (try simp only [hg]) <;> (try simp only [beq_iff_eq, beq_eq_false_iff_ne, ne_eq, decide_eq_true_eq, decide_eq_false_iff_not, bne_iff_ne, bne_eq_false_iff_eq] at hg) <;> (try (first | simp only [eq_false hg, if_true, if_false] | simp only [eq_true hg, if_true, if_false])) <;> (try simp (disch := first | omega | simp) [wrap_i64, -aseqC, -anyC, hlt, hlt2, hlt3, hget, hk0, hi])) | (with_reducible refine aseq_step ?_; try simp (disch := first | omega | simp) [wrap_i64, -aseqC, -anyC, hlt, hlt2, hlt3, hget, hk0, hi]) | (with_reducible refine any_step' ?_; try simp (disch := first | omega | simp) [wrap_i64, -aseqC, -anyC, hlt, hlt2, hlt3, hget, hk0, hi]) | (with_reducible refine aseq_end ?_; try simp (disch := first | omega | simp) [wrap_i64, -aseqC, -anyC, hlt, hlt2, hlt3, hget, hk0, hi]) | (with_reducible refine any_end' ?_; try simp (disch := first | omega | simp) [wrap_i64, -aseqC, -anyC, hlt, hlt2, hlt3, hget, hk0, hi]) | ((first | with_reducible refine sideG ?_ ?_ | with_reducible refine sideG2 ?_ ?_ | with_reducible refine sideS ?_ ?_ | with_reducible refine sideS2 ?_ ?_ | with_reducible refine sideS3 ?_ ?_ | with_reducible refine sideA ?_ ?_ | with_reducible refine sideA2 ?_ ?_ | with_reducible refine sideA3 ?_ ?_); (first | omega | assumption | (simp; done))) | (refine acall (hsp) ?_; try simp (disch := first | omega | simp) [wrap_i64, -aseqC, -anyC, hlt, hlt2, hlt3, hget, hk0, hi]) | (refine agives (hsp) ?_; try simp (disch := first | omega | simp) [wrap_i64, -aseqC, -anyC, hlt, hlt2, hlt3, hget, hk0, hi]) | (refine acallAt (hsp) ?_; try simp (disch := first | omega | simp) [wrap_i64, -aseqC, -anyC, hlt, hlt2, hlt3, hget, hk0, hi]) | (refine bld_byte (i := 0) (j := 1) _ (by rfl) (by rfl) (by first | rfl | (simp; done) | omega | (simp; omega)) (by first | (simp; done) | assumption) (by first | (simp; done) | assumption) (by first | omega | (simp; done) | (simp; omega)) ?_; try simp (disch := first | omega | simp) [wrap_i64, -aseqC, -anyC, hlt, hlt2, hlt3, hget, hk0, hi]) | (refine bld_string (i := 0) (j := 1) _ (by rfl) (by rfl) (by first | rfl | (simp; done) | omega | (simp; omega)) (by first | (simp; done) | assumption) (by first | (simp; done) | assumption) (by first | omega | (simp; done) | (simp; omega)) ?_; try simp (disch := first | omega | simp) [wrap_i64, -aseqC, -anyC, hlt, hlt2, hlt3, hget, hk0, hi]) | (refine awp_seq_k fun K hK => ?_) | (refine awp_regionC ?_) | (refine awp_anyA true (by kernel_rfl) (by kernel_rfl) ?_) | (refine awp_anyA false (by kernel_rfl) (by kernel_rfl) ?_) | (refine hK _ ?_; clear hK; clear K) | (clear hK; clear K; refine hK _ ?_; clear hK; clear K) | (clear hK; clear K; clear hK; clear K; refine hK _ ?_; clear hK; clear K) | refine awp_block ?_ | (refine awp_condC ?_; simp (disch := first | omega | simp) [wrap_i64, -aseqC, -anyC, hlt, hlt2, hlt3, hget, hk0, hi]) | (refine awp_exit ?_; try simp (disch := first | omega | simp) [wrap_i64, -aseqC, -anyC, hlt, hlt2, hlt3, hget, hk0, hi]) | (refine awp_skip ?_; try simp (disch := first | omega | simp) [wrap_i64, -aseqC, -anyC, hlt, hlt2, hlt3, hget, hk0, hi]) | (refine awp_ret ?_; try simp (disch := first | omega | simp) [wrap_i64, -aseqC, -anyC, hlt, hlt2, hlt3, hget, hk0, hi]))
        all_goals
          refine ⟨k + 1, by omega, by omega, ⟨⟨by omega, ?_⟩, ?_⟩, by simp, by omega⟩
          · rw [ht]; simp [AV.byte]
          · rw [htl]; simp
  · obtain rfl : k = l.length := by omega
    have hnlt : ¬ l.length < s.size := by omega
    rw [List.take_length]
    by_cases hk0 : l.length = 0
    · have hL0 : l = [] := List.eq_nil_of_length_eq_zero hk0
      subst hL0
      have hs0 : s.size = 0 := hsz.symm
      repeat' (first | ((with_reducible refine aguard (fun hg => ?_) (fun hg => ?_)) <;> (try simp only [hg]) <;> (try simp only [beq_iff_eq, beq_eq_false_iff_ne, ne_eq, decide_eq_true_eq, decide_eq_false_iff_not, bne_iff_ne, bne_eq_false_iff_eq] at hg) <;> (try (first | simp only [eq_false hg, if_true, if_false] | simp only [eq_true hg, if_true, if_false])) <;> (try simp (disch := first | omega | simp) [wrap_i64, -aseqC, -anyC, hs0])) | (with_reducible refine aseq_step ?_; try simp (disch := first | omega | simp) [wrap_i64, -aseqC, -anyC, hs0]) | (with_reducible refine any_step' ?_; try simp (disch := first | omega | simp) [wrap_i64, -aseqC, -anyC, hs0]) | (with_reducible refine aseq_end ?_; try simp (disch := first | omega | simp) [wrap_i64, -aseqC, -anyC, hs0]) | (with_reducible refine any_end' ?_; try simp (disch := first | omega | simp) [wrap_i64, -aseqC, -anyC, hs0]) | ((first | with_reducible refine sideG ?_ ?_ | with_reducible refine sideG2 ?_ ?_ | with_reducible refine sideS ?_ ?_ | with_reducible refine sideS2 ?_ ?_ | with_reducible refine sideS3 ?_ ?_ | with_reducible refine sideA ?_ ?_ | with_reducible refine sideA2 ?_ ?_ | with_reducible refine sideA3 ?_ ?_); (first | omega | assumption | (simp; done))) | (refine acall (bld_read (i := 0) (j := 1) [] (by rfl) (by rfl) (by simp) (by simp)) ?_; try simp (disch := first | omega | simp) [wrap_i64, -aseqC, -anyC, hs0]) | (refine agives (bld_read (i := 0) (j := 1) [] (by rfl) (by rfl) (by simp) (by simp)) ?_; try simp (disch := first | omega | simp) [wrap_i64, -aseqC, -anyC, hs0]) | (refine acallAt (bld_read (i := 0) (j := 1) [] (by rfl) (by rfl) (by simp) (by simp)) ?_; try simp (disch := first | omega | simp) [wrap_i64, -aseqC, -anyC, hs0]) | (refine awp_seq_k fun K hK => ?_) | (refine awp_regionC ?_) | (refine awp_anyA true (by kernel_rfl) (by kernel_rfl) ?_) | (refine awp_anyA false (by kernel_rfl) (by kernel_rfl) ?_) | (refine hK _ ?_; clear hK; clear K) | (clear hK; clear K; refine hK _ ?_; clear hK; clear K) | (clear hK; clear K; clear hK; clear K; refine hK _ ?_; clear hK; clear K) | refine awp_block ?_ | (refine awp_condC ?_; simp (disch := first | omega | simp) [wrap_i64, -aseqC, -anyC, hs0]) | (refine awp_exit ?_; try simp (disch := first | omega | simp) [wrap_i64, -aseqC, -anyC, hs0]) | (refine awp_skip ?_; try simp (disch := first | omega | simp) [wrap_i64, -aseqC, -anyC, hs0]) | (refine awp_ret ?_; try simp (disch := first | omega | simp) [wrap_i64, -aseqC, -anyC, hs0]))
      all_goals rfl
    · repeat' (first | ((with_reducible refine aguard (fun hg => ?_) (fun hg => ?_)) <;> (try simp only [hg]) <;> (try simp only [beq_iff_eq, beq_eq_false_iff_ne, ne_eq, decide_eq_true_eq, decide_eq_false_iff_not, bne_iff_ne, bne_eq_false_iff_eq] at hg) <;> (try (first | simp only [eq_false hg, if_true, if_false] | simp only [eq_true hg, if_true, if_false])) <;> (try simp (disch := first | omega | simp) [wrap_i64, -aseqC, -anyC, hk0, hnlt])) | (with_reducible refine aseq_step ?_; try simp (disch := first | omega | simp) [wrap_i64, -aseqC, -anyC, hk0, hnlt]) | (with_reducible refine any_step' ?_; try simp (disch := first | omega | simp) [wrap_i64, -aseqC, -anyC, hk0, hnlt]) | (with_reducible refine aseq_end ?_; try simp (disch := first | omega | simp) [wrap_i64, -aseqC, -anyC, hk0, hnlt]) | (with_reducible refine any_end' ?_; try simp (disch := first | omega | simp) [wrap_i64, -aseqC, -anyC, hk0, hnlt]) | ((first | with_reducible refine sideG ?_ ?_ | with_reducible refine sideG2 ?_ ?_ | with_reducible refine sideS ?_ ?_ | with_reducible refine sideS2 ?_ ?_ | with_reducible refine sideS3 ?_ ?_ | with_reducible refine sideA ?_ ?_ | with_reducible refine sideA2 ?_ ?_ | with_reducible refine sideA3 ?_ ?_); (first | omega | assumption | (simp; done))) | (refine acall (bld_read (i := 0) (j := 1) (escP l) (by rfl) (by rfl) (by simp) (by simp)) ?_; try simp (disch := first | omega | simp) [wrap_i64, -aseqC, -anyC, hk0, hnlt]) | (refine agives (bld_read (i := 0) (j := 1) (escP l) (by rfl) (by rfl) (by simp) (by simp)) ?_; try simp (disch := first | omega | simp) [wrap_i64, -aseqC, -anyC, hk0, hnlt]) | (refine acallAt (bld_read (i := 0) (j := 1) (escP l) (by rfl) (by rfl) (by simp) (by simp)) ?_; try simp (disch := first | omega | simp) [wrap_i64, -aseqC, -anyC, hk0, hnlt]) | (refine awp_seq_k fun K hK => ?_) | (refine awp_regionC ?_) | (refine awp_anyA true (by kernel_rfl) (by kernel_rfl) ?_) | (refine awp_anyA false (by kernel_rfl) (by kernel_rfl) ?_) | (refine hK _ ?_; clear hK; clear K) | (clear hK; clear K; refine hK _ ?_; clear hK; clear K) | (clear hK; clear K; clear hK; clear K; refine hK _ ?_; clear hK; clear K) | refine awp_block ?_ | (refine awp_condC ?_; simp (disch := first | omega | simp) [wrap_i64, -aseqC, -anyC, hk0, hnlt]) | (refine awp_exit ?_; try simp (disch := first | omega | simp) [wrap_i64, -aseqC, -anyC, hk0, hnlt]) | (refine awp_skip ?_; try simp (disch := first | omega | simp) [wrap_i64, -aseqC, -anyC, hk0, hnlt]) | (refine awp_ret ?_; try simp (disch := first | omega | simp) [wrap_i64, -aseqC, -anyC, hk0, hnlt]))
      all_goals rfl
set_option maxRecDepth 100000 in
set_option maxHeartbeats 2000000 in
theorem white_c (W : World) (x : Int) (r : Bool) (h : (x = 32 ∧ r = true) ∨ ((x == 32) = false ∧ (x == 9) = true ∧ r = true) ∨ ((x == 32) = false ∧ (x == 9) = false ∧ (x == 10) = r)) : Calls Tryd.prog 50 #[.int .i32 x] W fun e w' => e = .returned (.bool r) ∧ w' = W := by
  rcases h with ⟨rfl, rfl⟩ | ⟨h1, h2, rfl⟩ | ⟨h1, h2, h3⟩
  · go_enter Tryd.func50, Tryd.ntmps50
    go_wp2
    go_ret
    exact ⟨rfl, rfl⟩
  · go_enter Tryd.func50, Tryd.ntmps50
    go_wp2
    go_ret
    exact ⟨rfl, rfl⟩
  · go_enter Tryd.func50, Tryd.ntmps50
    go_wp2
    go_ret
    exact ⟨rfl, rfl⟩
theorem white_at (w : World) : PredAtRunes Tryd.prog 50 #[] whiteR w := fun W x _ _ => by
  have e : ∀ k : Nat, ((x : Int) == (k : Int)) = (x == k) := fun k => by
    rw [Bool.eq_iff_iff, beq_iff_eq, beq_iff_eq]; omega
  refine (white_c W x (whiteR x) ?_).mono ?_
  · by_cases h1 : x = 32
    · subst h1; exact .inl ⟨rfl, rfl⟩
    · by_cases h2 : x = 9
      · subst h2; exact .inr (.inl ⟨rfl, rfl, rfl⟩)
      · refine .inr (.inr ⟨?_, ?_, ?_⟩)
        · rw [beq_eq_false_iff_ne]; omega
        · rw [beq_eq_false_iff_ne]; omega
        · have : whiteR x = (x == 10) := by
            unfold whiteR
            rw [beq_eq_false_iff_ne.2 h1, beq_eq_false_iff_ne.2 h2]; rfl
          rw [this]; exact e 10
  · rintro e' w' ⟨rfl, rfl⟩
    exact ⟨rfl, 0, rfl⟩
theorem fields_g (s : ByteArray) (hs : s.size ≤ 1000000) : Gives Tryd.prog 17 [.str s] (.sl (strs (fieldsP s.data.toList))) := by
  have hf : Gives Tryd.prog 49 [.str s, .fn 50 []] (.sl (strs (fieldsP s.data.toList))) :=
    gives_ofS fun X vals hS ha => by
      obtain ⟨v0, _, rfl, h2, v1, _, rfl, h3, h4⟩ := ha
      cases h4
      cases arg_vv h2
      change RC X (.fn _ []) [v1] at h3
      rw [RC] at h3
      obtain ⟨vs, hv, hvs⟩ := h3
      rw [R1s] at hvs
      subst hvs
      have hv' : v1 = .func (.func 50) #[] #[] := by simpa using hv
      subst hv'
      refine (Tryd.strings_FieldsFunc_runes 50 #[] (fun args w => enters_run (by kernel_rfl) args w) whiteR s X.w (by omega) (white_at X.w)).mono ?_
      rintro e w' ⟨A, rfl, hA, hO, hE⟩
      refine ⟨hE, _, rfl, ?_⟩
      have hmap : (goFieldsP whiteR s) = (fieldsP s.data.toList).map bytesA := map_bytes (fields_goP s)
      have hlen : (goFieldsP whiteR s).length = (fieldsP s.data.toList).length := by rw [hmap, List.length_map]
      show RC _ (.sl _) [_]
      rw [RC]
      refine ⟨some ⟨A, 0, none⟩, _, A, 0, by rw [List.length_map, hlen], by rw [List.length_map]; exact Nat.le_refl _, ?_, fun _ => rfl, ?_⟩
      · rcases hO.2 with ⟨h, -⟩ | ⟨g, cap, cur, h, -, -, -, hcm, -⟩
        · cases h
        · injection h with _ _ hcap
          rw [← hlen, hcap]
          unfold maxLen at hcm
          omega
      · rw [show strs (fieldsP s.data.toList) = (goFieldsP whiteR s).map AV.str by rw [hmap, List.map_map]; rfl]
        refine RM.of (rcs_strs _) (cellsS_of _ 0 fun j u hj => ⟨?_, .inr ⟨hA, ?_⟩⟩)
        · have := hO.cells (g := A) rfl j u hj
          rwa [addr_add] at this
        · exact (hO.lt A rfl).2
  refine gives_of_awp Tryd.func17 Tryd.ntmps17 rfl rfl (by decide) rfl (by intro n; simp) fun σ n0 hcl hft => ?_
  repeat' (first | ((with_reducible refine aguard (fun hg => ?_) (fun hg => ?_)) <;> (try simp only [hg]) <;> (try simp only [beq_iff_eq, beq_eq_false_iff_ne, ne_eq, decide_eq_true_eq, decide_eq_false_iff_not, bne_iff_ne, bne_eq_false_iff_eq] at hg) <;> (try (first | simp only [eq_false hg, if_true, if_false] | simp only [eq_true hg, if_true, if_false])) <;> (try simp (disch := first | omega | simp) [wrap_i64, -aseqC, -anyC])) | (with_reducible refine aseq_step ?_; try simp (disch := first | omega | simp) [wrap_i64, -aseqC, -anyC]) | (with_reducible refine any_step' ?_; try simp (disch := first | omega | simp) [wrap_i64, -aseqC, -anyC]) | (with_reducible refine aseq_end ?_; try simp (disch := first | omega | simp) [wrap_i64, -aseqC, -anyC]) | (with_reducible refine any_end' ?_; try simp (disch := first | omega | simp) [wrap_i64, -aseqC, -anyC]) | ((first | with_reducible refine sideG ?_ ?_ | with_reducible refine sideG2 ?_ ?_ | with_reducible refine sideS ?_ ?_ | with_reducible refine sideS2 ?_ ?_ | with_reducible refine sideS3 ?_ ?_ | with_reducible refine sideA ?_ ?_ | with_reducible refine sideA2 ?_ ?_ | with_reducible refine sideA3 ?_ ?_); (first | omega | assumption | (simp; done))) | (refine acall (hf) ?_; try simp (disch := first | omega | simp) [wrap_i64, -aseqC, -anyC]) | (refine agives (hf) ?_; try simp (disch := first | omega | simp) [wrap_i64, -aseqC, -anyC]) | (refine acallAt (hf) ?_; try simp (disch := first | omega | simp) [wrap_i64, -aseqC, -anyC]) | (refine awp_seq_k fun K hK => ?_) | (refine awp_regionC ?_) | (refine awp_anyA true (by kernel_rfl) (by kernel_rfl) ?_) | (refine awp_anyA false (by kernel_rfl) (by kernel_rfl) ?_) | (refine hK _ ?_; clear hK; clear K) | (clear hK; clear K; refine hK _ ?_; clear hK; clear K) | (clear hK; clear K; clear hK; clear K; refine hK _ ?_; clear hK; clear K) | refine awp_block ?_ | (refine awp_condC ?_; simp (disch := first | omega | simp) [wrap_i64, -aseqC, -anyC]) | (refine awp_exit ?_; try simp (disch := first | omega | simp) [wrap_i64, -aseqC, -anyC]) | (refine awp_skip ?_; try simp (disch := first | omega | simp) [wrap_i64, -aseqC, -anyC]) | (refine awp_ret ?_; try simp (disch := first | omega | simp) [wrap_i64, -aseqC, -anyC]))
end Go.Proofs.YtkhmlicikbnmdaaDoor
