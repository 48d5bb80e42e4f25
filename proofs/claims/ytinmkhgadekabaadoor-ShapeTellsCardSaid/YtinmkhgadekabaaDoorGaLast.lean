/- Plain: the reference's Parse is the program's. -/
import Derived.Test.YtinmkhgadekabaaDoorProg
import Derived.KernelRfl
import Derived.Test.YtinmkhgadekabaaDoorCards
import Derived.Test.YtinmkhgadekabaaDoorTie
import Derived.SevenTiedAt
import Derived.Stop.Joined
import Derived.Test.YtinmkhgadekabaaDoorGa1
import Derived.Test.YtinmkhgadekabaaDoorGa2
import Derived.Test.YtinmkhgadekabaaDoorGa11
import Derived.Test.YtinmkhgadekabaaDoorGa22
namespace Go.Proofs.YtinmkhgadekabaaDoor
open Go.RowKit Go.Lib

/-- the words of a column that another one follows -/
def wordsM (c : Col) : List (List UInt8) := if c.unit.toList = [] then [c.name.toList, typeNameP c.type ++ [44]] else [c.name.toList, typeNameP c.type, c.unit.toList ++ [44]]
/-- the words of the text of columns -/
def wordsL : List Col → List (List UInt8)
  | [] => []
  | [c] => wordsC c
  | c :: d :: L => wordsM c ++ wordsL (d :: L)
theorem wordsL_ne : ∀ {L : List Col}, L ≠ [] → wordsL L ≠ []
  | [], h => absurd rfl h
  | [c], _ => by unfold wordsL wordsC; simp
  | c :: d :: L, _ => by rw [wordsL]; unfold wordsM; split <;> simp
theorem joinM {c : Col} (h : OkCol c) {r : List (List UInt8)} (hr : r ≠ []) : Lib.join (wordsM c ++ r) [32] = (colA c).data.toList ++ [44, 32] ++ Lib.join r [32] := by
  obtain ⟨x, r, rfl⟩ : ∃ x r', r = x :: r' := List.exists_cons_of_ne_nil hr
  rw [colA_words h]
  unfold wordsM wordsC
  by_cases hu : c.unit.toList = []
  · rw [if_pos hu, if_pos hu]
    simp only [List.cons_append, List.nil_append, List.append_nil]
    rw [join_two, join_two, join_two, Lib.join_one]
    simp
  · rw [if_neg hu, if_neg hu]
    simp only [List.cons_append, List.nil_append]
    rw [join_two, join_two, join_two, join_two, join_two, Lib.join_one]
    simp
theorem join_words : ∀ {L : List Col}, (∀ c ∈ L, OkCol c) → Lib.join (L.map fun c => (colA c).data.toList) [44, 32] = Lib.join (wordsL L) [32]
  | [], _ => rfl
  | [c], h => by rw [wordsL, ← colA_words (h c (by simp))]; exact Lib.join_one _ _
  | c :: d :: L, h => by
    rw [wordsL, joinM (h c (by simp)) (wordsL_ne (by simp)), ← join_words (L := d :: L) fun x hx => h x (by simp [hx])]
    show Lib.join (_ :: _ :: _) _ = _
    rw [join_two]; rfl
theorem words_freeM {c : Col} (h : OkCol c) : ∀ x ∈ wordsM c, (32 : UInt8) ∉ x := fun x hx => by
  unfold wordsM at hx
  have hn := own_free h.name (.inl rfl)
  have ht := tname_free h.type (.inl rfl)
  by_cases hu : c.unit.toList = []
  · rw [if_pos hu] at hx
    simp only [List.mem_cons, List.not_mem_nil, or_false] at hx
    rcases hx with rfl | rfl
    · exact hn
    · simp [ht]
  · rw [if_neg hu] at hx
    simp only [List.mem_cons, List.not_mem_nil, or_false] at hx
    have hu2 := own_free (h.unit.resolve_left hu).2 (.inl rfl)
    rcases hx with rfl | rfl | rfl
    · exact hn
    · exact ht
    · simp [hu2]
theorem words_freeL : ∀ {L : List Col}, (∀ c ∈ L, OkCol c) → ∀ x ∈ wordsL L, (32 : UInt8) ∉ x
  | [], _, x, hx => by simp [wordsL] at hx
  | [c], h, x, hx => words_free (h c (by simp)) (.inl rfl) x hx
  | c :: d :: L, h, x, hx => by
    rw [wordsL] at hx
    rcases List.mem_append.1 hx with hx | hx
    · exact words_freeM (h c (by simp)) x hx
    · exact words_freeL (L := d :: L) (fun y hy => h y (by simp [hy])) x hx
theorem comma_no44 {l : List UInt8} (h : (44 : UInt8) ∉ l) : comma (bytesA l) = false := by
  unfold comma
  rw [bytesA_data, beq_eq_false_iff_ne]
  intro e
  exact h (List.mem_of_getLast? e)
theorem comma_yes (l : List UInt8) : comma (bytesA (l ++ [44])) = true := by
  unfold comma
  rw [bytesA_data]; simp
theorem noComma_no {l : List UInt8} (h : (44 : UInt8) ∉ l) : noComma (bytesA l) = bytesA l := by unfold noComma; rw [comma_no44 h]; rfl
theorem noComma_yes (l : List UInt8) : noComma (bytesA (l ++ [44])) = bytesA l := by
  unfold noComma
  rw [comma_yes, if_pos rfl, ext_bytes, bytesA_data]
  have : (bytesA (l ++ [44])).size = l.length + 1 := by rw [Lib.size_eq, bytesA_data]; simp
  rw [this]; simp
theorem nameBA (c : Col) : bytesA c.name.toList = c.name := by rw [ByteArray.toList_eq]; exact bytesA_eq _
theorem unitBA (c : Col) : bytesA c.unit.toList = c.unit := by rw [ByteArray.toList_eq]; exact bytesA_eq _
theorem unit_none {c : Col} (h : c.unit.toList = []) : c.unit = ByteArray.empty := by
  rw [← unitBA, h]; rfl
theorem colsW_all : ∀ {L : List Col}, (∀ c ∈ L, OkCol c) → colsW ((wordsL L).map bytesA) = some L
  | [], _ => by rw [wordsL]; rfl
  | [c], h => by
    have hc := h c (by simp)
    have ht := tname_of hc.type
    have hf := tname_free hc.type (b := 44) (.inr rfl)
    rw [wordsL]; unfold wordsC
    by_cases hu : c.unit.toList = []
    · rw [if_pos hu]
      simp only [List.append_nil, List.map_cons, List.map_nil]
      rw [colsW_two (ty := c.type) (by rw [noComma_no hf, bytesA_list, ht]), nameBA, ← unit_none hu]
    · rw [if_neg hu]
      have hf2 := own_free (hc.unit.resolve_left hu).2 (b := 44) (.inr rfl)
      simp only [List.cons_append, List.nil_append, List.map_cons, List.map_nil]
      rw [colsW_unit (ty := c.type) (by rw [noComma_no hf, bytesA_list, ht]) (comma_no44 hf), comma_no44 hf2, noComma_no hf2, nameBA, unitBA]; rfl
  | c :: d :: L, h => by
    have hc := h c (by simp)
    have ht := tname_of hc.type
    have hf := tname_free hc.type (b := 44) (.inr rfl)
    have ih := colsW_all (L := d :: L) fun x hx => h x (by simp [hx])
    rw [wordsL, List.map_append]; unfold wordsM
    by_cases hu : c.unit.toList = []
    · rw [if_pos hu]
      simp only [List.cons_append, List.nil_append, List.map_cons, List.map_nil]
      rw [colsW_more (ty := c.type) (by rw [noComma_yes, bytesA_list, ht]) (comma_yes _), ih, nameBA, ← unit_none hu]; rfl
    · rw [if_neg hu]
      simp only [List.cons_append, List.nil_append, List.map_cons, List.map_nil]
      rw [colsW_unit (ty := c.type) (by rw [noComma_no hf, bytesA_list, ht]) (comma_no44 hf), comma_yes, if_pos rfl, noComma_yes, ih, nameBA, unitBA]; rfl
theorem rparse_eq (s : ByteArray) : rparseP s = parseP s := by
  cases hp : parseP s with
  | some L =>
    obtain ⟨h1, h2⟩ := parse_right hp
    have hc := right_cols h1
    have hw : wordsP s = (wordsL L).map bytesA := by
      rw [words_split]
      refine splitA_join (t := []) (wordsL_ne ?_) (words_freeL hc) _ _ rfl ?_
      · have := (right_ok h1).2.1
        rintro rfl; simp at this
      · rw [← ByteArray.toList_eq, ← h2, ← join_words hc]
        unfold printP; rw [h1]; rfl
    unfold rparseP
    rw [hw, colsW_all hc]
    dsimp only
    rw [if_pos ⟨h1, h2⟩]
  | none =>
    unfold rparseP
    cases hc : colsW (wordsP s) with
    | none => rfl
    | some L =>
      dsimp only
      by_cases h : rightP L = true ∧ printP L = s.toList
      · have := parse_print h.1
        rw [h.2, ByteArray.toList_eq, bytesA_eq, hp] at this
        cases this
      · rw [if_neg h]
end Go.Proofs.YtinmkhgadekabaaDoor

/- The law ShapeTells: it returns true. -/
namespace Go.Proofs.YtinmkhgadekabaaDoor
open Go.RowKit Go.Lib

theorem rtypeName_gg (k : Int) : Gives Tryd.prog 21 [.int k] (.str (bytesA (typeNameP k))) := rtypeName_g k
set_option maxHeartbeats 8000000 in
theorem shapeTells_g (a b : List Col) (r : List Val) (s : ByteArray) (kind : Int) (ha : a.length ≤ 9223372036854775807) (hb : b.length ≤ 9223372036854775807) (hr : r.length ≤ 9223372036854775807) : Gives Tryd.prog 5 [.sl (a.map Col.av), .sl (b.map Col.av), .sl (r.map Val.av), .str s, .int kind] (.bool true) := by
  have f1 := few_g a 15 ha
  have f2 := few_g b 15 hb
  have f3 := short_g r 15 hr
  by_cases c1 : fewP a 15 = true
  rotate_left
  · rw [Bool.not_eq_true] at c1
    rw [c1] at f1
    refine gives_of_awp Tryd.func5 Tryd.ntmps5 rfl rfl (by decide) rfl (by intro n; simp) fun σ n0 hcl hft => ?_
    repeat' (first | ((with_reducible refine aguard (fun hg => ?_) (fun hg => ?_)) <;> (try simp only [hg]) <;> (try simp only [beq_iff_eq, beq_eq_false_iff_ne, ne_eq, decide_eq_true_eq, decide_eq_false_iff_not, bne_iff_ne, bne_eq_false_iff_eq] at hg) <;> (try (first | simp only [eq_false hg, if_true, if_false] | simp only [eq_true hg, if_true, if_false])) <;> (try simp (disch := first | omega | simp) [wrap_i64, -aseqC, -anyC])) | (with_reducible refine aseq_step ?_; try simp (disch := first | omega | simp) [wrap_i64, -aseqC, -anyC]) | (with_reducible refine any_step' ?_; try simp (disch := first | omega | simp) [wrap_i64, -aseqC, -anyC]) | (with_reducible refine aseq_end ?_; try simp (disch := first | omega | simp) [wrap_i64, -aseqC, -anyC]) | (with_reducible refine any_end' ?_; try simp (disch := first | omega | simp) [wrap_i64, -aseqC, -anyC]) | ((first | with_reducible refine sideG ?_ ?_ | with_reducible refine sideG2 ?_ ?_ | with_reducible refine sideS ?_ ?_ | with_reducible refine sideS2 ?_ ?_ | with_reducible refine sideS3 ?_ ?_ | with_reducible refine sideA ?_ ?_ | with_reducible refine sideA2 ?_ ?_ | with_reducible refine sideA3 ?_ ?_); (first | omega | assumption | (simp; done))) | (refine acall (small13_g) ?_; try simp (disch := first | omega | simp) [wrap_i64, -aseqC, -anyC]) | (refine agives (small13_g) ?_; try simp (disch := first | omega | simp) [wrap_i64, -aseqC, -anyC]) | (refine acallAt (small13_g) ?_; try simp (disch := first | omega | simp) [wrap_i64, -aseqC, -anyC]) | (refine acall (f1) ?_; try simp (disch := first | omega | simp) [wrap_i64, -aseqC, -anyC]) | (refine agives (f1) ?_; try simp (disch := first | omega | simp) [wrap_i64, -aseqC, -anyC]) | (refine acallAt (f1) ?_; try simp (disch := first | omega | simp) [wrap_i64, -aseqC, -anyC]) | (refine acall (f2) ?_; try simp (disch := first | omega | simp) [wrap_i64, -aseqC, -anyC]) | (refine agives (f2) ?_; try simp (disch := first | omega | simp) [wrap_i64, -aseqC, -anyC]) | (refine acallAt (f2) ?_; try simp (disch := first | omega | simp) [wrap_i64, -aseqC, -anyC]) | (refine awp_seq_k fun K hK => ?_) | (refine awp_regionC ?_) | (refine awp_anyA true (by kernel_rfl) (by kernel_rfl) ?_) | (refine awp_anyA false (by kernel_rfl) (by kernel_rfl) ?_) | (refine hK _ ?_; clear hK; clear K) | (clear hK; clear K; refine hK _ ?_; clear hK; clear K) | (clear hK; clear K; clear hK; clear K; refine hK _ ?_; clear hK; clear K) | refine awp_block ?_ | (refine awp_condC ?_; simp (disch := first | omega | simp) [wrap_i64, -aseqC, -anyC]) | (refine awp_exit ?_; try simp (disch := first | omega | simp) [wrap_i64, -aseqC, -anyC]) | (refine awp_skip ?_; try simp (disch := first | omega | simp) [wrap_i64, -aseqC, -anyC]) | (refine awp_ret ?_; try simp (disch := first | omega | simp) [wrap_i64, -aseqC, -anyC]))
  by_cases c2 : fewP b 15 = true
  rotate_left
  · rw [Bool.not_eq_true] at c2
    rw [c1] at f1; rw [c2] at f2
    refine gives_of_awp Tryd.func5 Tryd.ntmps5 rfl rfl (by decide) rfl (by intro n; simp) fun σ n0 hcl hft => ?_
    repeat' (first | ((with_reducible refine aguard (fun hg => ?_) (fun hg => ?_)) <;> (try simp only [hg]) <;> (try simp only [beq_iff_eq, beq_eq_false_iff_ne, ne_eq, decide_eq_true_eq, decide_eq_false_iff_not, bne_iff_ne, bne_eq_false_iff_eq] at hg) <;> (try (first | simp only [eq_false hg, if_true, if_false] | simp only [eq_true hg, if_true, if_false])) <;> (try simp (disch := first | omega | simp) [wrap_i64, -aseqC, -anyC])) | (with_reducible refine aseq_step ?_; try simp (disch := first | omega | simp) [wrap_i64, -aseqC, -anyC]) | (with_reducible refine any_step' ?_; try simp (disch := first | omega | simp) [wrap_i64, -aseqC, -anyC]) | (with_reducible refine aseq_end ?_; try simp (disch := first | omega | simp) [wrap_i64, -aseqC, -anyC]) | (with_reducible refine any_end' ?_; try simp (disch := first | omega | simp) [wrap_i64, -aseqC, -anyC]) | ((first | with_reducible refine sideG ?_ ?_ | with_reducible refine sideG2 ?_ ?_ | with_reducible refine sideS ?_ ?_ | with_reducible refine sideS2 ?_ ?_ | with_reducible refine sideS3 ?_ ?_ | with_reducible refine sideA ?_ ?_ | with_reducible refine sideA2 ?_ ?_ | with_reducible refine sideA3 ?_ ?_); (first | omega | assumption | (simp; done))) | (refine acall (small13_g) ?_; try simp (disch := first | omega | simp) [wrap_i64, -aseqC, -anyC]) | (refine agives (small13_g) ?_; try simp (disch := first | omega | simp) [wrap_i64, -aseqC, -anyC]) | (refine acallAt (small13_g) ?_; try simp (disch := first | omega | simp) [wrap_i64, -aseqC, -anyC]) | (refine acall (f1) ?_; try simp (disch := first | omega | simp) [wrap_i64, -aseqC, -anyC]) | (refine agives (f1) ?_; try simp (disch := first | omega | simp) [wrap_i64, -aseqC, -anyC]) | (refine acallAt (f1) ?_; try simp (disch := first | omega | simp) [wrap_i64, -aseqC, -anyC]) | (refine acall (f2) ?_; try simp (disch := first | omega | simp) [wrap_i64, -aseqC, -anyC]) | (refine agives (f2) ?_; try simp (disch := first | omega | simp) [wrap_i64, -aseqC, -anyC]) | (refine acallAt (f2) ?_; try simp (disch := first | omega | simp) [wrap_i64, -aseqC, -anyC]) | (refine awp_seq_k fun K hK => ?_) | (refine awp_regionC ?_) | (refine awp_anyA true (by kernel_rfl) (by kernel_rfl) ?_) | (refine awp_anyA false (by kernel_rfl) (by kernel_rfl) ?_) | (refine hK _ ?_; clear hK; clear K) | (clear hK; clear K; refine hK _ ?_; clear hK; clear K) | (clear hK; clear K; clear hK; clear K; refine hK _ ?_; clear hK; clear K) | refine awp_block ?_ | (refine awp_condC ?_; simp (disch := first | omega | simp) [wrap_i64, -aseqC, -anyC]) | (refine awp_exit ?_; try simp (disch := first | omega | simp) [wrap_i64, -aseqC, -anyC]) | (refine awp_skip ?_; try simp (disch := first | omega | simp) [wrap_i64, -aseqC, -anyC]) | (refine awp_ret ?_; try simp (disch := first | omega | simp) [wrap_i64, -aseqC, -anyC]))
  by_cases c3 : shortP r 15 = true
  rotate_left
  · rw [Bool.not_eq_true] at c3
    rw [c1] at f1; rw [c2] at f2; rw [c3] at f3
    refine gives_of_awp Tryd.func5 Tryd.ntmps5 rfl rfl (by decide) rfl (by intro n; simp) fun σ n0 hcl hft => ?_
    repeat' (first | ((with_reducible refine aguard (fun hg => ?_) (fun hg => ?_)) <;> (try simp only [hg]) <;> (try simp only [beq_iff_eq, beq_eq_false_iff_ne, ne_eq, decide_eq_true_eq, decide_eq_false_iff_not, bne_iff_ne, bne_eq_false_iff_eq] at hg) <;> (try (first | simp only [eq_false hg, if_true, if_false] | simp only [eq_true hg, if_true, if_false])) <;> (try simp (disch := first | omega | simp) [wrap_i64, -aseqC, -anyC])) | (with_reducible refine aseq_step ?_; try simp (disch := first | omega | simp) [wrap_i64, -aseqC, -anyC]) | (with_reducible refine any_step' ?_; try simp (disch := first | omega | simp) [wrap_i64, -aseqC, -anyC]) | (with_reducible refine aseq_end ?_; try simp (disch := first | omega | simp) [wrap_i64, -aseqC, -anyC]) | (with_reducible refine any_end' ?_; try simp (disch := first | omega | simp) [wrap_i64, -aseqC, -anyC]) | ((first | with_reducible refine sideG ?_ ?_ | with_reducible refine sideG2 ?_ ?_ | with_reducible refine sideS ?_ ?_ | with_reducible refine sideS2 ?_ ?_ | with_reducible refine sideS3 ?_ ?_ | with_reducible refine sideA ?_ ?_ | with_reducible refine sideA2 ?_ ?_ | with_reducible refine sideA3 ?_ ?_); (first | omega | assumption | (simp; done))) | (refine acall (small13_g) ?_; try simp (disch := first | omega | simp) [wrap_i64, -aseqC, -anyC]) | (refine agives (small13_g) ?_; try simp (disch := first | omega | simp) [wrap_i64, -aseqC, -anyC]) | (refine acallAt (small13_g) ?_; try simp (disch := first | omega | simp) [wrap_i64, -aseqC, -anyC]) | (refine acall (f1) ?_; try simp (disch := first | omega | simp) [wrap_i64, -aseqC, -anyC]) | (refine agives (f1) ?_; try simp (disch := first | omega | simp) [wrap_i64, -aseqC, -anyC]) | (refine acallAt (f1) ?_; try simp (disch := first | omega | simp) [wrap_i64, -aseqC, -anyC]) | (refine acall (f2) ?_; try simp (disch := first | omega | simp) [wrap_i64, -aseqC, -anyC]) | (refine agives (f2) ?_; try simp (disch := first | omega | simp) [wrap_i64, -aseqC, -anyC]) | (refine acallAt (f2) ?_; try simp (disch := first | omega | simp) [wrap_i64, -aseqC, -anyC]) | (refine acall (f3) ?_; try simp (disch := first | omega | simp) [wrap_i64, -aseqC, -anyC]) | (refine agives (f3) ?_; try simp (disch := first | omega | simp) [wrap_i64, -aseqC, -anyC]) | (refine acallAt (f3) ?_; try simp (disch := first | omega | simp) [wrap_i64, -aseqC, -anyC]) | (refine awp_seq_k fun K hK => ?_) | (refine awp_regionC ?_) | (refine awp_anyA true (by kernel_rfl) (by kernel_rfl) ?_) | (refine awp_anyA false (by kernel_rfl) (by kernel_rfl) ?_) | (refine hK _ ?_; clear hK; clear K) | (clear hK; clear K; refine hK _ ?_; clear hK; clear K) | (clear hK; clear K; clear hK; clear K; refine hK _ ?_; clear hK; clear K) | refine awp_block ?_ | (refine awp_condC ?_; simp (disch := first | omega | simp) [wrap_i64, -aseqC, -anyC]) | (refine awp_exit ?_; try simp (disch := first | omega | simp) [wrap_i64, -aseqC, -anyC]) | (refine awp_skip ?_; try simp (disch := first | omega | simp) [wrap_i64, -aseqC, -anyC]) | (refine awp_ret ?_; try simp (disch := first | omega | simp) [wrap_i64, -aseqC, -anyC]))
  rw [c1] at f1; rw [c2] at f2; rw [c3] at f3
  by_cases c4 : 400 < s.size
  · have c4' : (400 : Int) < s.size := by omega
    refine gives_of_awp Tryd.func5 Tryd.ntmps5 rfl rfl (by decide) rfl (by intro n; simp) fun σ n0 hcl hft => ?_
    repeat' (first | ((with_reducible refine aguard (fun hg => ?_) (fun hg => ?_)) <;> (try simp only [hg]) <;> (try simp only [beq_iff_eq, beq_eq_false_iff_ne, ne_eq, decide_eq_true_eq, decide_eq_false_iff_not, bne_iff_ne, bne_eq_false_iff_eq] at hg) <;> (try (first | simp only [eq_false hg, if_true, if_false] | simp only [eq_true hg, if_true, if_false])) <;> (try simp (disch := first | omega | simp) [wrap_i64, -aseqC, -anyC, c4'])) | (with_reducible refine aseq_step ?_; try simp (disch := first | omega | simp) [wrap_i64, -aseqC, -anyC, c4']) | (with_reducible refine any_step' ?_; try simp (disch := first | omega | simp) [wrap_i64, -aseqC, -anyC, c4']) | (with_reducible refine aseq_end ?_; try simp (disch := first | omega | simp) [wrap_i64, -aseqC, -anyC, c4']) | (with_reducible refine any_end' ?_; try simp (disch := first | omega | simp) [wrap_i64, -aseqC, -anyC, c4']) | ((first | with_reducible refine sideG ?_ ?_ | with_reducible refine sideG2 ?_ ?_ | with_reducible refine sideS ?_ ?_ | with_reducible refine sideS2 ?_ ?_ | with_reducible refine sideS3 ?_ ?_ | with_reducible refine sideA ?_ ?_ | with_reducible refine sideA2 ?_ ?_ | with_reducible refine sideA3 ?_ ?_); (first | omega | assumption | (simp; done))) | (refine acall (small13_g) ?_; try simp (disch := first | omega | simp) [wrap_i64, -aseqC, -anyC, c4']) | (refine agives (small13_g) ?_; try simp (disch := first | omega | simp) [wrap_i64, -aseqC, -anyC, c4']) | (refine acallAt (small13_g) ?_; try simp (disch := first | omega | simp) [wrap_i64, -aseqC, -anyC, c4']) | (refine acall (f1) ?_; try simp (disch := first | omega | simp) [wrap_i64, -aseqC, -anyC, c4']) | (refine agives (f1) ?_; try simp (disch := first | omega | simp) [wrap_i64, -aseqC, -anyC, c4']) | (refine acallAt (f1) ?_; try simp (disch := first | omega | simp) [wrap_i64, -aseqC, -anyC, c4']) | (refine acall (f2) ?_; try simp (disch := first | omega | simp) [wrap_i64, -aseqC, -anyC, c4']) | (refine agives (f2) ?_; try simp (disch := first | omega | simp) [wrap_i64, -aseqC, -anyC, c4']) | (refine acallAt (f2) ?_; try simp (disch := first | omega | simp) [wrap_i64, -aseqC, -anyC, c4']) | (refine acall (f3) ?_; try simp (disch := first | omega | simp) [wrap_i64, -aseqC, -anyC, c4']) | (refine agives (f3) ?_; try simp (disch := first | omega | simp) [wrap_i64, -aseqC, -anyC, c4']) | (refine acallAt (f3) ?_; try simp (disch := first | omega | simp) [wrap_i64, -aseqC, -anyC, c4']) | (refine awp_seq_k fun K hK => ?_) | (refine awp_regionC ?_) | (refine awp_anyA true (by kernel_rfl) (by kernel_rfl) ?_) | (refine awp_anyA false (by kernel_rfl) (by kernel_rfl) ?_) | (refine hK _ ?_; clear hK; clear K) | (clear hK; clear K; refine hK _ ?_; clear hK; clear K) | (clear hK; clear K; clear hK; clear K; refine hK _ ?_; clear hK; clear K) | refine awp_block ?_ | (refine awp_condC ?_; simp (disch := first | omega | simp) [wrap_i64, -aseqC, -anyC, c4']) | (refine awp_exit ?_; try simp (disch := first | omega | simp) [wrap_i64, -aseqC, -anyC, c4']) | (refine awp_skip ?_; try simp (disch := first | omega | simp) [wrap_i64, -aseqC, -anyC, c4']) | (refine awp_ret ?_; try simp (disch := first | omega | simp) [wrap_i64, -aseqC, -anyC, c4']))
  have c4' : ¬ (400 : Int) < s.size := by omega
  obtain ⟨la, ha⟩ := few_all (n := 15) c1
  obtain ⟨lb, hb⟩ := few_all (n := 15) c2
  obtain ⟨lr, -⟩ := shortP_all (n := 15) c3
  have la' : a.length ≤ 1000000 := by omega
  have lr' : r.length ≤ 1000000 := by omega
  have ha' : ∀ c ∈ a, c.name.size ≤ 1000000 ∧ c.unit.size ≤ 1000000 := fun c hc => by have := ha c hc; omega
  have p1 := parse_g s (by omega)
  have p2 := rparse_g s (by omega)
  rw [rparse_eq] at p2
  have hsz : ((parseP s).getD []).length ≤ 1000000 := by
    cases hp : parseP s with
    | none => exact Nat.zero_le _
    | some L => have := (right_small (parse_right hp).1).1; show L.length ≤ _; omega
  generalize (parseP s).isSome = ok at p1 p2
  generalize (parseP s).getD [] = x at p1 p2 hsz
  have q1 := typeOf_g s
  have q2 := rtypeOf_g s
  generalize (typeOfP s.toList).1 = ty at q1 q2
  generalize (typeOfP s.toList).2 = tok at q1 q2
  have g1 := name_g s (by omega)
  have g2 := rname_g s (by omega)
  generalize nameP s.toList = nm at g1 g2
  have g3 := typeName_g kind
  have g4 := rtypeName_gg kind
  generalize bytesA (typeNameP kind) = tn at g3 g4
  have g5 := rsame_g13 x x hsz
  rw [(sameC_iff _ _).2 rfl] at g5
  have h1 := right_g a la' ha'
  have h2 := rright_g a la' ha'
  have h3 := same_g13 a b la'
  have h4 := rsame_g13 a b la'
  generalize sameC a b = sm at h3 h4
  have h5 := find_g a s la'
  have h6 := rfind_g a s la'
  generalize findP a s.toList = fd at h5 h6
  have h7 := fits_g r a lr' la'
  have h8 := rfits_g r a lr' la'
  generalize fitsP r a = ft at h7 h8
  have d1 := default_g a la'
  have d2 := rdefault_g a la'
  have d3 := rsame03_g (defaultP a) (by unfold defaultP; simp; omega)
  generalize defaultP a = df at d1 d2 d3
  have e1 := print_g a la' ha'
  have e2 := rprint_g a la' ha'
  generalize rightP a = ri at h1 h2
  generalize bytesA (printP a) = pr at e1 e2
  have hx : x.map Col.av = x.map Col.av := rfl
  generalize hxs : x.map Col.av = xs at p1 p2 g5
  generalize hds : df.map Val.av = ds at d1 d2 d3
  refine gives_of_awp Tryd.func5 Tryd.ntmps5 rfl rfl (by decide) rfl (by intro n; simp) fun σ n0 hcl hft => ?_
  repeat' (first | ((with_reducible refine aguard (fun hg => ?_) (fun hg => ?_)) <;> (try simp only [hg]) <;> (try simp only [beq_iff_eq, beq_eq_false_iff_ne, ne_eq, decide_eq_true_eq, decide_eq_false_iff_not, bne_iff_ne, bne_eq_false_iff_eq] at hg) <;> (try (first | simp only [eq_false hg, if_true, if_false] | simp only [eq_true hg, if_true, if_false])) <;> (try simp (disch := first | omega | simp) [wrap_i64, -aseqC, -anyC, c4'])) | (with_reducible refine aseq_step ?_; try simp (disch := first | omega | simp) [wrap_i64, -aseqC, -anyC, c4']) | (with_reducible refine any_step' ?_; try simp (disch := first | omega | simp) [wrap_i64, -aseqC, -anyC, c4']) | (with_reducible refine aseq_end ?_; try simp (disch := first | omega | simp) [wrap_i64, -aseqC, -anyC, c4']) | (with_reducible refine any_end' ?_; try simp (disch := first | omega | simp) [wrap_i64, -aseqC, -anyC, c4']) | ((first | with_reducible refine sideG ?_ ?_ | with_reducible refine sideG2 ?_ ?_ | with_reducible refine sideS ?_ ?_ | with_reducible refine sideS2 ?_ ?_ | with_reducible refine sideS3 ?_ ?_ | with_reducible refine sideA ?_ ?_ | with_reducible refine sideA2 ?_ ?_ | with_reducible refine sideA3 ?_ ?_); (first | omega | assumption | (simp; done))) | (refine acall (small13_g) ?_; try simp (disch := first | omega | simp) [wrap_i64, -aseqC, -anyC, c4']) | (refine agives (small13_g) ?_; try simp (disch := first | omega | simp) [wrap_i64, -aseqC, -anyC, c4']) | (refine acallAt (small13_g) ?_; try simp (disch := first | omega | simp) [wrap_i64, -aseqC, -anyC, c4']) | (refine acall (f1) ?_; try simp (disch := first | omega | simp) [wrap_i64, -aseqC, -anyC, c4']) | (refine agives (f1) ?_; try simp (disch := first | omega | simp) [wrap_i64, -aseqC, -anyC, c4']) | (refine acallAt (f1) ?_; try simp (disch := first | omega | simp) [wrap_i64, -aseqC, -anyC, c4']) | (refine acall (f2) ?_; try simp (disch := first | omega | simp) [wrap_i64, -aseqC, -anyC, c4']) | (refine agives (f2) ?_; try simp (disch := first | omega | simp) [wrap_i64, -aseqC, -anyC, c4']) | (refine acallAt (f2) ?_; try simp (disch := first | omega | simp) [wrap_i64, -aseqC, -anyC, c4']) | (refine acall (f3) ?_; try simp (disch := first | omega | simp) [wrap_i64, -aseqC, -anyC, c4']) | (refine agives (f3) ?_; try simp (disch := first | omega | simp) [wrap_i64, -aseqC, -anyC, c4']) | (refine acallAt (f3) ?_; try simp (disch := first | omega | simp) [wrap_i64, -aseqC, -anyC, c4']) | (refine acall (p1) ?_; try simp (disch := first | omega | simp) [wrap_i64, -aseqC, -anyC, c4']) | (refine agives (p1) ?_; try simp (disch := first | omega | simp) [wrap_i64, -aseqC, -anyC, c4']) | (refine acallAt (p1) ?_; try simp (disch := first | omega | simp) [wrap_i64, -aseqC, -anyC, c4']) | (refine acall (p2) ?_; try simp (disch := first | omega | simp) [wrap_i64, -aseqC, -anyC, c4']) | (refine agives (p2) ?_; try simp (disch := first | omega | simp) [wrap_i64, -aseqC, -anyC, c4']) | (refine acallAt (p2) ?_; try simp (disch := first | omega | simp) [wrap_i64, -aseqC, -anyC, c4']) | (refine acall (q1) ?_; try simp (disch := first | omega | simp) [wrap_i64, -aseqC, -anyC, c4']) | (refine agives (q1) ?_; try simp (disch := first | omega | simp) [wrap_i64, -aseqC, -anyC, c4']) | (refine acallAt (q1) ?_; try simp (disch := first | omega | simp) [wrap_i64, -aseqC, -anyC, c4']) | (refine acall (q2) ?_; try simp (disch := first | omega | simp) [wrap_i64, -aseqC, -anyC, c4']) | (refine agives (q2) ?_; try simp (disch := first | omega | simp) [wrap_i64, -aseqC, -anyC, c4']) | (refine acallAt (q2) ?_; try simp (disch := first | omega | simp) [wrap_i64, -aseqC, -anyC, c4']) | (refine acall (g1) ?_; try simp (disch := first | omega | simp) [wrap_i64, -aseqC, -anyC, c4']) | (refine agives (g1) ?_; try simp (disch := first | omega | simp) [wrap_i64, -aseqC, -anyC, c4']) | (refine acallAt (g1) ?_; try simp (disch := first | omega | simp) [wrap_i64, -aseqC, -anyC, c4']) | (refine acall (g2) ?_; try simp (disch := first | omega | simp) [wrap_i64, -aseqC, -anyC, c4']) | (refine agives (g2) ?_; try simp (disch := first | omega | simp) [wrap_i64, -aseqC, -anyC, c4']) | (refine acallAt (g2) ?_; try simp (disch := first | omega | simp) [wrap_i64, -aseqC, -anyC, c4']) | (refine acall (g3) ?_; try simp (disch := first | omega | simp) [wrap_i64, -aseqC, -anyC, c4']) | (refine agives (g3) ?_; try simp (disch := first | omega | simp) [wrap_i64, -aseqC, -anyC, c4']) | (refine acallAt (g3) ?_; try simp (disch := first | omega | simp) [wrap_i64, -aseqC, -anyC, c4']) | (refine acall (g4) ?_; try simp (disch := first | omega | simp) [wrap_i64, -aseqC, -anyC, c4']) | (refine agives (g4) ?_; try simp (disch := first | omega | simp) [wrap_i64, -aseqC, -anyC, c4']) | (refine acallAt (g4) ?_; try simp (disch := first | omega | simp) [wrap_i64, -aseqC, -anyC, c4']) | (refine acall (g5) ?_; try simp (disch := first | omega | simp) [wrap_i64, -aseqC, -anyC, c4']) | (refine agives (g5) ?_; try simp (disch := first | omega | simp) [wrap_i64, -aseqC, -anyC, c4']) | (refine acallAt (g5) ?_; try simp (disch := first | omega | simp) [wrap_i64, -aseqC, -anyC, c4']) | (refine acall (h1) ?_; try simp (disch := first | omega | simp) [wrap_i64, -aseqC, -anyC, c4']) | (refine agives (h1) ?_; try simp (disch := first | omega | simp) [wrap_i64, -aseqC, -anyC, c4']) | (refine acallAt (h1) ?_; try simp (disch := first | omega | simp) [wrap_i64, -aseqC, -anyC, c4']) | (refine acall (h2) ?_; try simp (disch := first | omega | simp) [wrap_i64, -aseqC, -anyC, c4']) | (refine agives (h2) ?_; try simp (disch := first | omega | simp) [wrap_i64, -aseqC, -anyC, c4']) | (refine acallAt (h2) ?_; try simp (disch := first | omega | simp) [wrap_i64, -aseqC, -anyC, c4']) | (refine acall (h3) ?_; try simp (disch := first | omega | simp) [wrap_i64, -aseqC, -anyC, c4']) | (refine agives (h3) ?_; try simp (disch := first | omega | simp) [wrap_i64, -aseqC, -anyC, c4']) | (refine acallAt (h3) ?_; try simp (disch := first | omega | simp) [wrap_i64, -aseqC, -anyC, c4']) | (refine acall (h4) ?_; try simp (disch := first | omega | simp) [wrap_i64, -aseqC, -anyC, c4']) | (refine agives (h4) ?_; try simp (disch := first | omega | simp) [wrap_i64, -aseqC, -anyC, c4']) | (refine acallAt (h4) ?_; try simp (disch := first | omega | simp) [wrap_i64, -aseqC, -anyC, c4']) | (refine acall (h5) ?_; try simp (disch := first | omega | simp) [wrap_i64, -aseqC, -anyC, c4']) | (refine agives (h5) ?_; try simp (disch := first | omega | simp) [wrap_i64, -aseqC, -anyC, c4']) | (refine acallAt (h5) ?_; try simp (disch := first | omega | simp) [wrap_i64, -aseqC, -anyC, c4']) | (refine acall (h6) ?_; try simp (disch := first | omega | simp) [wrap_i64, -aseqC, -anyC, c4']) | (refine agives (h6) ?_; try simp (disch := first | omega | simp) [wrap_i64, -aseqC, -anyC, c4']) | (refine acallAt (h6) ?_; try simp (disch := first | omega | simp) [wrap_i64, -aseqC, -anyC, c4']) | (refine acall (h7) ?_; try simp (disch := first | omega | simp) [wrap_i64, -aseqC, -anyC, c4']) | (refine agives (h7) ?_; try simp (disch := first | omega | simp) [wrap_i64, -aseqC, -anyC, c4']) | (refine acallAt (h7) ?_; try simp (disch := first | omega | simp) [wrap_i64, -aseqC, -anyC, c4']) | (refine acall (h8) ?_; try simp (disch := first | omega | simp) [wrap_i64, -aseqC, -anyC, c4']) | (refine agives (h8) ?_; try simp (disch := first | omega | simp) [wrap_i64, -aseqC, -anyC, c4']) | (refine acallAt (h8) ?_; try simp (disch := first | omega | simp) [wrap_i64, -aseqC, -anyC, c4']) | (refine acall (d1) ?_; try simp (disch := first | omega | simp) [wrap_i64, -aseqC, -anyC, c4']) | (refine agives (d1) ?_; try simp (disch := first | omega | simp) [wrap_i64, -aseqC, -anyC, c4']) | (refine acallAt (d1) ?_; try simp (disch := first | omega | simp) [wrap_i64, -aseqC, -anyC, c4']) | (refine acall (d2) ?_; try simp (disch := first | omega | simp) [wrap_i64, -aseqC, -anyC, c4']) | (refine agives (d2) ?_; try simp (disch := first | omega | simp) [wrap_i64, -aseqC, -anyC, c4']) | (refine acallAt (d2) ?_; try simp (disch := first | omega | simp) [wrap_i64, -aseqC, -anyC, c4']) | (refine acall (d3) ?_; try simp (disch := first | omega | simp) [wrap_i64, -aseqC, -anyC, c4']) | (refine agives (d3) ?_; try simp (disch := first | omega | simp) [wrap_i64, -aseqC, -anyC, c4']) | (refine acallAt (d3) ?_; try simp (disch := first | omega | simp) [wrap_i64, -aseqC, -anyC, c4']) | (refine acall (e1) ?_; try simp (disch := first | omega | simp) [wrap_i64, -aseqC, -anyC, c4']) | (refine agives (e1) ?_; try simp (disch := first | omega | simp) [wrap_i64, -aseqC, -anyC, c4']) | (refine acallAt (e1) ?_; try simp (disch := first | omega | simp) [wrap_i64, -aseqC, -anyC, c4']) | (refine acall (e2) ?_; try simp (disch := first | omega | simp) [wrap_i64, -aseqC, -anyC, c4']) | (refine agives (e2) ?_; try simp (disch := first | omega | simp) [wrap_i64, -aseqC, -anyC, c4']) | (refine acallAt (e2) ?_; try simp (disch := first | omega | simp) [wrap_i64, -aseqC, -anyC, c4']) | (refine awp_seq_k fun K hK => ?_) | (refine awp_regionC ?_) | (refine awp_anyA true (by kernel_rfl) (by kernel_rfl) ?_) | (refine awp_anyA false (by kernel_rfl) (by kernel_rfl) ?_) | (refine hK _ ?_; clear hK; clear K) | (clear hK; clear K; refine hK _ ?_; clear hK; clear K) | (clear hK; clear K; clear hK; clear K; refine hK _ ?_; clear hK; clear K) | refine awp_block ?_ | (refine awp_condC ?_; simp (disch := first | omega | simp) [wrap_i64, -aseqC, -anyC, c4']) | (refine awp_exit ?_; try simp (disch := first | omega | simp) [wrap_i64, -aseqC, -anyC, c4']) | (refine awp_skip ?_; try simp (disch := first | omega | simp) [wrap_i64, -aseqC, -anyC, c4']) | (refine awp_ret ?_; try simp (disch := first | omega | simp) [wrap_i64, -aseqC, -anyC, c4']))
end Go.Proofs.YtinmkhgadekabaaDoor

/- Readings of arguments: api.Col. -/
namespace Go.Proofs.YtinmkhgadekabaaDoor
open Go.RowKit Go.Lib
section
variable {H : Type} {enc : TypeId × Value → H} {w : World} {sp : Nat → Bool} {hd : Bool}

theorem trods_col (N : Nat) : Trods enc Tryd.prog w sp hd 33 Col.d N := by
  intro n cs x hn h
  obtain ⟨xs, m, rfl, -, hlen, hl2, hf⟩ := DataW.trod_struct Tryd.underlying33 h
  have hc : Tryd.prog.cellsOf 33 = 3 := by kernel_rfl
  rw [hc] at hlen
  obtain ⟨y0, h0⟩ := trod_field 0 9 0 1 hl2 hf ⟨_, rfl, rfl, rfl⟩ (by kernel_rfl)
  obtain ⟨y1, h1⟩ := trod_field 1 3 1 1 hl2 hf ⟨_, rfl, rfl, rfl⟩ (by kernel_rfl)
  obtain ⟨y2, h2⟩ := trod_field 2 9 2 1 hl2 hf ⟨_, rfl, rfl, rfl⟩ (by kernel_rfl)
  obtain ⟨a0, r0⟩ := trods_str Tryd.underlying9 (m + 1) m _ _ (by omega) h0
  obtain ⟨a1, r1⟩ := trods_int Tryd.underlying3 (m + 1) m _ _ (by omega) h1
  obtain ⟨a2, r2⟩ := trods_str Tryd.underlying9 (m + 1) m _ _ (by omega) h2
  exact ⟨⟨a0, a1, a2⟩, rd_st (rdS_cut (k := 1) r0 (rdS_cut (k := 1) r1 (rdS_cut (k := 1) r2 (rdS_end (by omega)))))⟩
theorem trods_cols (N : Nat) : Trods enc Tryd.prog w sp hd 22 (fun l : List Col => D.sl (l.map Col.d)) N := fun n cs x hn h =>
  trods_sl Tryd.underlying22 (sz := 3) (by kernel_rfl) (by omega) Col.width (trods_col N) n cs x (by omega) h
end
end Go.Proofs.YtinmkhgadekabaaDoor

/- Readings of arguments: api.Value. -/
namespace Go.Proofs.YtinmkhgadekabaaDoor
open Go.RowKit Go.Lib
section
variable {H : Type} {enc : TypeId × Value → H} {w : World} {sp : Nat → Bool} {hd : Bool}

theorem trods_val (N : Nat) : Trods enc Tryd.prog w sp hd 46 Val.d N := by
  intro n cs x hn h
  obtain ⟨xs, m, rfl, -, hlen, hl2, hf⟩ := DataW.trod_struct Tryd.underlying46 h
  have hc : Tryd.prog.cellsOf 46 = 3 := by kernel_rfl
  rw [hc] at hlen
  obtain ⟨y0, h0⟩ := trod_field 0 3 0 1 hl2 hf ⟨_, rfl, rfl, rfl⟩ (by kernel_rfl)
  obtain ⟨y1, h1⟩ := trod_field 1 3 1 1 hl2 hf ⟨_, rfl, rfl, rfl⟩ (by kernel_rfl)
  obtain ⟨y2, h2⟩ := trod_field 2 9 2 1 hl2 hf ⟨_, rfl, rfl, rfl⟩ (by kernel_rfl)
  obtain ⟨a0, r0⟩ := trods_int Tryd.underlying3 (m + 1) m _ _ (by omega) h0
  obtain ⟨a1, r1⟩ := trods_int Tryd.underlying3 (m + 1) m _ _ (by omega) h1
  obtain ⟨a2, r2⟩ := trods_str Tryd.underlying9 (m + 1) m _ _ (by omega) h2
  exact ⟨⟨a0, a1, a2⟩, rd_st (rdS_cut (k := 1) r0 (rdS_cut (k := 1) r1 (rdS_cut (k := 1) r2 (rdS_end (by omega)))))⟩
theorem trods_vals (N : Nat) : Trods enc Tryd.prog w sp hd 39 (fun l : List Val => D.sl (l.map Val.d)) N := fun n cs x hn h =>
  trods_sl Tryd.underlying39 (sz := 3) (by kernel_rfl) (by omega) Val.width (trods_val N) n cs x (by omega) h
end
end Go.Proofs.YtinmkhgadekabaaDoor

/- The arguments' readings at a law's entry; the variable that strings.Split reads. -/
namespace Go.Proofs.YtinmkhgadekabaaDoor
open Go.ChangeShapes Go.WideShapes Go.ChangeAt Go.RowKit Go.Lib

theorem glob13 {W : World} (h : W.ShapedOpen Tryd.prog) : globsOk (CellsS (St.flat W)) := by
  obtain ⟨m, hm⟩ := cell_of_shapedOpen_int (P := Tryd.prog) (g := 0) (zero := #[.int .i64 0]) (t := 3) h (of_decide_eq_true (by kernel_rfl)) (by kernel_rfl) rfl (by kernel_rfl) (by kernel_rfl) Tryd.underlying3
  have hlt : 0 < W.heap.size := by
    rcases Nat.eq_zero_or_pos W.heap.size with h0 | h0
    · exfalso
      simp only [World.cell?] at hm
      rw [Array.getElem?_eq_none (by omega)] at hm
      cases hm
    · exact h0
  exact ⟨⟨m, hm, hlt, trivial⟩, trivial⟩
theorem flat_int13 {w : World} {n : Int} : RR1 (St.flat w) (.int n) (.int .i64 n) := by
  show RC _ _ _
  rw [RC]
theorem flat_str13 {w : World} {s : ByteArray} : RR1 (St.flat w) (.str s) (.string s) := by
  show RC _ _ _
  rw [RC]

section
variable {H : Type} {enc : TypeId × Value → H} {P : Program} {w : World} {base : Nat} {spare : Nat → Bool} {held : Bool} {t0 t1 t2 t3 t4 : TypeId} {args : Array Value} {ds : List (DataW H)} {ps : List MemPlace}
theorem trodAll_two13 (h : DataW.TrodAll enc P w base spare held [t0, t1] args.toList ds ps) :
    ∃ v0 v1 d0 d1 p0 p1, args = #[v0, v1] ∧ ds = [d0, d1] ∧ ps = p0 ++ p1 ∧ DataW.Trod enc P w base spare held t0 v0 d0 p0 ∧ DataW.Trod enc P w base spare held t1 v1 d1 p1 := by
  obtain ⟨v0, vs0, d0, ds0, p0, q0, hargs, rfl, rfl, h0, r0⟩ := trodAll_cons h
  obtain ⟨v1, vs1, d1, ds1, p1, q1, rfl, rfl, rfl, h1, r1⟩ := trodAll_cons r0
  obtain ⟨rfl, rfl, rfl⟩ := trodAll_nil r1
  exact ⟨v0, v1, d0, d1, p0, p1, by cases args; simp_all, rfl, by simp, h0, h1⟩
theorem trodAll_three13 (h : DataW.TrodAll enc P w base spare held [t0, t1, t2] args.toList ds ps) :
    ∃ v0 v1 v2 d0 d1 d2 p0 p1 p2, args = #[v0, v1, v2] ∧ ds = [d0, d1, d2] ∧ ps = p0 ++ p1 ++ p2 ∧ DataW.Trod enc P w base spare held t0 v0 d0 p0 ∧ DataW.Trod enc P w base spare held t1 v1 d1 p1 ∧ DataW.Trod enc P w base spare held t2 v2 d2 p2 := by
  obtain ⟨v0, vs0, d0, ds0, p0, q0, hargs, rfl, rfl, h0, r0⟩ := trodAll_cons h
  obtain ⟨v1, vs1, d1, ds1, p1, q1, rfl, rfl, rfl, h1, r1⟩ := trodAll_cons r0
  obtain ⟨v2, vs2, d2, ds2, p2, q2, rfl, rfl, rfl, h2, r2⟩ := trodAll_cons r1
  obtain ⟨rfl, rfl, rfl⟩ := trodAll_nil r2
  exact ⟨v0, v1, v2, d0, d1, d2, p0, p1, p2, by cases args; simp_all, rfl, by simp, h0, h1, h2⟩
theorem trodAll_four13 (h : DataW.TrodAll enc P w base spare held [t0, t1, t2, t3] args.toList ds ps) :
    ∃ v0 v1 v2 v3 d0 d1 d2 d3 p0 p1 p2 p3, args = #[v0, v1, v2, v3] ∧ ds = [d0, d1, d2, d3] ∧ ps = p0 ++ p1 ++ p2 ++ p3 ∧ DataW.Trod enc P w base spare held t0 v0 d0 p0 ∧ DataW.Trod enc P w base spare held t1 v1 d1 p1 ∧ DataW.Trod enc P w base spare held t2 v2 d2 p2 ∧ DataW.Trod enc P w base spare held t3 v3 d3 p3 := by
  obtain ⟨v0, vs0, d0, ds0, p0, q0, hargs, rfl, rfl, h0, r0⟩ := trodAll_cons h
  obtain ⟨v1, vs1, d1, ds1, p1, q1, rfl, rfl, rfl, h1, r1⟩ := trodAll_cons r0
  obtain ⟨v2, vs2, d2, ds2, p2, q2, rfl, rfl, rfl, h2, r2⟩ := trodAll_cons r1
  obtain ⟨v3, vs3, d3, ds3, p3, q3, rfl, rfl, rfl, h3, r3⟩ := trodAll_cons r2
  obtain ⟨rfl, rfl, rfl⟩ := trodAll_nil r3
  exact ⟨v0, v1, v2, v3, d0, d1, d2, d3, p0, p1, p2, p3, by cases args; simp_all, rfl, by simp, h0, h1, h2, h3⟩
theorem trodAll_five_13 (h : DataW.TrodAll enc P w base spare held [t0, t1, t2, t3, t4] args.toList ds ps) :
    ∃ v0 v1 v2 v3 v4 d0 d1 d2 d3 d4 p0 p1 p2 p3 p4, args = #[v0, v1, v2, v3, v4] ∧ ds = [d0, d1, d2, d3, d4] ∧ ps = p0 ++ p1 ++ p2 ++ p3 ++ p4 ∧ DataW.Trod enc P w base spare held t0 v0 d0 p0 ∧ DataW.Trod enc P w base spare held t1 v1 d1 p1 ∧ DataW.Trod enc P w base spare held t2 v2 d2 p2 ∧ DataW.Trod enc P w base spare held t3 v3 d3 p3 ∧ DataW.Trod enc P w base spare held t4 v4 d4 p4 := by
  obtain ⟨v0, vs0, d0, ds0, p0, q0, hargs, rfl, rfl, h0, r0⟩ := trodAll_cons h
  obtain ⟨v1, vs1, d1, ds1, p1, q1, rfl, rfl, rfl, h1, r1⟩ := trodAll_cons r0
  obtain ⟨v2, vs2, d2, ds2, p2, q2, rfl, rfl, rfl, h2, r2⟩ := trodAll_cons r1
  obtain ⟨v3, vs3, d3, ds3, p3, q3, rfl, rfl, rfl, h3, r3⟩ := trodAll_cons r2
  obtain ⟨v4, vs4, d4, ds4, p4, q4, rfl, rfl, rfl, h4, r4⟩ := trodAll_cons r3
  obtain ⟨rfl, rfl, rfl⟩ := trodAll_nil r4
  exact ⟨v0, v1, v2, v3, v4, d0, d1, d2, d3, d4, p0, p1, p2, p3, p4, by cases args; simp_all, rfl, by simp, h0, h1, h2, h3, h4⟩
end
end Go.Proofs.YtinmkhgadekabaaDoor

/- The law ShapeTells, lifted: the row and the tied card. (Printed by gen_lift.py.) -/
namespace Go.Proofs.YtinmkhgadekabaaDoor
open Go.ChangeShapes Go.WideShapes Go.ChangeAt Go.RowKit Go.Lib

set_option maxRecDepth 100000 in
theorem shapeTells_lifted (os : Os) (started : os.Started) (H : Type) (enc : TypeId × Value → H) :
    ReturnsInHanded {} Tryd.checked os 5 .any (fun w args => (Rows.shapeTellsSpec.pre enc Tryd.prog Tryd.f5 Rows.shapeTellsRow.domain false w args ∧ laidMetH Tryd.prog Rows.shapeTellsRow.laid w) ∧ sizedMet enc Tryd.prog Tryd.f5 (OpenSpec.ofChange Rows.shapeTellsSpec) false w args)
      (Rows.shapeTellsSpec.post enc Tryd.prog Tryd.f5 false true false false) := by
  refine returnsInHanded_both (C := Tryd.checked) (X := fun w _ => laidMetH Tryd.prog Rows.shapeTellsRow.laid w) Tryd.own started (by kernel_rfl) Tryd.func5
    (ChangeSpec.witness_shaped (enc := enc) (C := Tryd.checked) (os := os) (X := fun w _ => laidMetH Tryd.prog Rows.shapeTellsRow.laid w) false (World.laidAll Tryd.prog os Rows.shapeTellsRow.laid) #[.slice .none 0 0, .slice .none 0 0, .slice .none 0 0, .string ByteArray.empty, .int .i64 0] 8 (World.laidAll_os _ _ _)
      (World.shaped_of_ZipB (by kernel_rfl) (by kernel_rfl)) (by kernel_rfl) (by kernel_rfl) (by kernel_rfl)
      (by rw [MakeChecks.laidMetH_plain _ _ _ (by kernel_rfl)]; exact laidMet_laidAll _ (by kernel_rfl) (by kernel_rfl))) ?_
  intro W base args ds gs before hval0 hW _ hsh
  have hval : ∀ (j : Nat) t v, Tryd.f5.params[j]? = some t → args[j]? = some v → Value.okWide Tryd.prog W .any base t v := hval0
  have hW' := hW
  obtain ⟨p, q, hA0, hV, rfl, hfz, hnd⟩ := hW
  have hA : DataW.TrodAll enc Tryd.prog W 0 (fun _ => true) true Tryd.f5.params.toList args.toList ds p := hA0
  rw [Tryd.params5] at hA hval
  obtain ⟨v0, v1, v2, v3, v4, d0, d1, d2, d3, d4, p0, p1, p2, p3, p4, rfl, rfl, rfl, h0, h1, h2, h3, h4⟩ := trodAll_five_13 hA
  obtain ⟨rfl, rfl⟩ := trodVars_none hV
  obtain ⟨x0, r0⟩ := par_sl Tryd.underlying22 (hval 0 _ v0 rfl rfl) h0 trods_cols
  obtain ⟨x1, r1⟩ := par_sl Tryd.underlying22 (hval 1 _ v1 rfl rfl) h1 trods_cols
  obtain ⟨x2, r2⟩ := par_sl Tryd.underlying39 (hval 2 _ v2 rfl rfl) h2 trods_vals
  obtain ⟨x3, rfl⟩ := par_str Tryd.underlying9 (hval 3 _ v3 rfl rfl)
  obtain ⟨x4, rfl⟩ := par_int Tryd.underlying3 (hval 4 _ v4 rfl rfl)
  refine (calls_of_gives (vals := [v0, v1, v2, .string x3, .int .i64 x4]) (shapeTells_g x0 x1 x2 x3 x4 (rd_len r0) (rd_len r1) (rd_len r2)) ⟨_, _, rfl, Col.flats r0, _, _, rfl, Col.flats r1, _, _, rfl, Val.flats r2, _, _, rfl, flat_str13, _, _, rfl, flat_int13, rfl⟩ (glob13 hsh)).mono ?_
  rintro r W' ⟨rfl, hb⟩
  exact ⟨_, rfl, law_post (P := Tryd.prog) Tryd.laidOut hW' rfl rfl (by kernel_rfl) Tryd.underlying4 (by kernel_rfl) hb⟩

theorem shapeTells_row : Rows.ShapeTellsSaid :=
  OpenClaim.holds_of_wide 5 Tryd.f5 rfl rfl rfl rfl rfl rfl rfl ⟨rfl, rfl, rfl, rfl, rfl⟩ rfl rfl rfl rfl rfl (by kernel_rfl) Tryd.func5 (by kernel_rfl)
    (of_decide_eq_true (by kernel_rfl)) (by unfold Func.isWrapper; first | (rw [if_pos (by decide +kernel)]; kernel_rfl) | (rw [if_neg (by decide +kernel)]; exact ⟨rfl, rfl⟩))
    (fun os started H enc _ => shapeTells_lifted os started H enc)
theorem shapeTells_holds : Rows.ShapeTellsCardSaid :=
  Claim7.holds_tied_plain_at .later [] [.data, .pinned] true (true, "0dc4767559b0b97801cb1afccdee15aa960b43b8442bbdc36cbf9bac0fb0769f") false shapeTells_row (fun _ h => by cases h) (by kernel_rfl) (fun _ h => by cases h) shapeTells_row_tie rfl ⟨rfl, rfl⟩ (by kernel_rfl) rfl
    (fun f fn hf hfn => by
      obtain rfl : f = 5 := Option.some.inj ((show Tryd.prog.funcNamed "errata/erratalaw13.ShapeTells" = some 5 by kernel_rfl).symm.trans hf) |>.symm
      obtain rfl : fn = Tryd.f5 := (Option.some.inj (Tryd.func5.symm.trans hfn)).symm
      exact ⟨by kernel_rfl, fun j t ht => by
        rw [Tryd.params5] at ht
        have hm : t ∈ [22, 22, 39, 9, 3] := by simpa using Array.mem_of_getElem? ht
        have hall : ([22, 22, 39, 9, 3].all fun u => !Tryd.prog.wantsStandIn u) = true := by kernel_rfl
        exact (show Tryd.prog.wantsStandIn t = false by simpa using List.all_eq_true.1 hall t hm)⟩)
    (by kernel_rfl)
end Go.Proofs.YtinmkhgadekabaaDoor
