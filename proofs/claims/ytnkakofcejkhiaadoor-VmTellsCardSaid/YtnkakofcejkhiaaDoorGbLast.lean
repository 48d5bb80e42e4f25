/- Walk of layer 27: Project. -/
import Derived.Test.YtnkakofcejkhiaaDoorGa14
import Derived.Test.YtnkakofcejkhiaaDoorGa20
import Derived.Test.YtnkakofcejkhiaaDoorGb5
set_option linter.unusedSimpArgs false
set_option linter.unusedVariables false
namespace Go.Proofs.YtnkakofcejkhiaaDoor
open Go.RowKit Go.Lib
set_option maxHeartbeats 8000000 in
theorem Project_g (cs : List Cod) (cols : List Int) (L : List Delta) (hcs : cs.length ≤ 1000000) (hc : cols.length ≤ 1000000) (hL : L.length ≤ 1000) (hr : ∀ d ∈ L, d.row.length ≤ 1000000) :
    Gives Tryd.prog 18 [.sl (cs.map Cod.av), .sl (cols.map AV.int), .sl (L.map Delta.av)] (.tup [.sl ((projP cs cols L).1.map Delta.av), .int (projP cs cols L).2]) := by
  have c2 := fits_g cols L hc (by omega) hr
  obtain ⟨R, hR⟩ : ∃ R, R = projP cs cols L := ⟨_, rfl⟩
  rw [← hR]
  unfold projP at hR
  by_cases h0 : cs.length = 0 ∨ 12 < cs.length
  · rw [if_pos h0] at hR
    rcases h0 with h0 | h0
    · obtain rfl := List.eq_nil_of_length_eq_zero h0
      refine qm Tryd.func18 Tryd.ntmps18 rfl rfl (by decide) rfl (by intro n; simp) fun σ n0 hcl hft => ?_
      repeat' (first | ((first | ((with_reducible refine qo (fun hg => ?_) (fun hg => ?_)) <;> (try simp only [hg]) <;> (try simp only [beq_iff_eq, beq_eq_false_iff_ne, ne_eq, decide_eq_true_eq, decide_eq_false_iff_not, bne_iff_ne, bne_eq_false_iff_eq] at hg) <;> (try (first | simp only [eq_false hg, if_true, if_false] | simp only [eq_true hg, if_true, if_false]))) | (with_reducible first | refine qd ?_ | refine qc ?_ | refine qi ?_ | refine qh ?_) | refine qf ?_ | refine qj ?_ | refine qk ?_ | refine qn ?_) <;> (try simp (disch := first | omega | simp) [ql, -qu, -qx])) | ((with_reducible first | refine sideG ?_ ?_ | refine qr ?_ ?_ | refine sideS ?_ ?_ | refine qs ?_ ?_ | refine qt ?_ ?_ | refine sideA ?_ ?_ | refine qp ?_ ?_ | refine qq ?_ ?_); first | omega | assumption | (simp; done)) | (refine qg fun K hK => ?_) | (refine qa ?_) | (refine qb true (by kernel_rfl) (by kernel_rfl) ?_) | (refine qb false (by kernel_rfl) (by kernel_rfl) ?_) | (refine hK _ ?_; clear hK K) | (clear hK K; refine hK _ ?_; clear hK K) | (clear hK K; clear hK K; refine hK _ ?_; clear hK K) | refine qe ?_)
      all_goals (rw [hR]; simp)
    · have h1 : (12 : Int) < cs.length := by omega
      have h2 : ¬ (cs.length : Int) = 0 := by omega
      have h3 : cs ≠ [] := fun e => by rw [e] at h0; simp at h0
      refine qm Tryd.func18 Tryd.ntmps18 rfl rfl (by decide) rfl (by intro n; simp) fun σ n0 hcl hft => ?_
      repeat' (first | ((first | ((with_reducible refine qo (fun hg => ?_) (fun hg => ?_)) <;> (try simp only [hg]) <;> (try simp only [beq_iff_eq, beq_eq_false_iff_ne, ne_eq, decide_eq_true_eq, decide_eq_false_iff_not, bne_iff_ne, bne_eq_false_iff_eq] at hg) <;> (try (first | simp only [eq_false hg, if_true, if_false] | simp only [eq_true hg, if_true, if_false]))) | (with_reducible first | refine qd ?_ | refine qc ?_ | refine qi ?_ | refine qh ?_) | refine qf ?_ | refine qj ?_ | refine qk ?_ | refine qn ?_) <;> (try simp (disch := first | omega | simp) [ql, -qu, -qx, h1, h2, h3])) | ((with_reducible first | refine sideG ?_ ?_ | refine qr ?_ ?_ | refine sideS ?_ ?_ | refine qs ?_ ?_ | refine qt ?_ ?_ | refine sideA ?_ ?_ | refine qp ?_ ?_ | refine qq ?_ ?_); first | omega | assumption | (simp; done)) | (refine qg fun K hK => ?_) | (refine qa ?_) | (refine qb true (by kernel_rfl) (by kernel_rfl) ?_) | (refine qb false (by kernel_rfl) (by kernel_rfl) ?_) | (refine hK _ ?_; clear hK K) | (clear hK K; refine hK _ ?_; clear hK K) | (clear hK K; clear hK K; refine hK _ ?_; clear hK K) | refine qe ?_)
      all_goals first | (rw [hR]; simp; done) | (exfalso; omega)
  rw [if_neg h0] at hR
  have h1 : ¬ (12 : Int) < cs.length := by omega
  have h2 : ¬ (cs.length : Int) = 0 := by omega
  have h3 : cs ≠ [] := fun e => h0 (.inl (by rw [e]; rfl))
  refine qm Tryd.func18 Tryd.ntmps18 rfl rfl (by decide) rfl (by intro n; simp) fun σ n0 hcl hft => ?_
  repeat' (first | ((first | ((with_reducible refine qo (fun hg => ?_) (fun hg => ?_)) <;> (try simp only [hg]) <;> (try simp only [beq_iff_eq, beq_eq_false_iff_ne, ne_eq, decide_eq_true_eq, decide_eq_false_iff_not, bne_iff_ne, bne_eq_false_iff_eq] at hg) <;> (try (first | simp only [eq_false hg, if_true, if_false] | simp only [eq_true hg, if_true, if_false]))) | (with_reducible first | refine qd ?_ | refine qc ?_ | refine qi ?_ | refine qh ?_) | refine qf ?_ | refine qj ?_ | refine qk ?_ | refine qn ?_) <;> (try simp (disch := first | omega | simp) [ql, -qu, -qx, h1, h2, h3])) | ((with_reducible first | refine sideG ?_ ?_ | refine qr ?_ ?_ | refine sideS ?_ ?_ | refine qs ?_ ?_ | refine qt ?_ ?_ | refine sideA ?_ ?_ | refine qp ?_ ?_ | refine qq ?_ ?_); first | omega | assumption | (simp; done)) | (refine qg fun K hK => ?_) | (refine qa ?_) | (refine qb true (by kernel_rfl) (by kernel_rfl) ?_) | (refine qb false (by kernel_rfl) (by kernel_rfl) ?_) | (refine hK _ ?_; clear hK K) | (clear hK K; refine hK _ ?_; clear hK K) | (clear hK K; clear hK K; refine hK _ ?_; clear hK K) | refine qe ?_)
  all_goals first | (exfalso; omega) | skip
  refine qbb hcl (fun k : Nat => [(0, .sl (cs.map Cod.av)), (1, .sl (cols.map AV.int)), (2, .sl (L.map Delta.av)), (27, .sl (cs.map Cod.av)), (28, .int cs.length), (29, .int k)]) (fun _ => []) (fun k => k ≤ cs.length ∧ ∀ j (hj : j < cs.length), j < k → (verP cs[j] cols).2 = 0) (fun k => cs.length - k) 0 (by simp) (by simp) fun k ⟨hk, hek⟩ => ?_
  by_cases hlt : k < cs.length
  · have c1 := verify_g cs[k] cols hc
    have hca : cs[k].av = .agg [.sl (cs[k].ins.map Ins.av), .sl (cs[k].types.map AV.int), .int cs[k].out] := rfl
    by_cases hv : (verP cs[k] cols).2 = 0
    · rw [hv] at c1
      repeat' (first | ((first | ((with_reducible refine qo (fun hg => ?_) (fun hg => ?_)) <;> (try simp only [hg]) <;> (try simp only [beq_iff_eq, beq_eq_false_iff_ne, ne_eq, decide_eq_true_eq, decide_eq_false_iff_not, bne_iff_ne, bne_eq_false_iff_eq] at hg) <;> (try (first | simp only [eq_false hg, if_true, if_false] | simp only [eq_true hg, if_true, if_false]))) | (with_reducible first | refine qd ?_ | refine qc ?_ | refine qi ?_ | refine qh ?_) | refine acall (c1) ?_ | refine qv (c1) ?_ | refine qw (c1) ?_ | refine qf ?_ | refine qj ?_ | refine qk ?_ | refine qn ?_) <;> (try simp (disch := first | omega | simp) [ql, -qu, -qx, hlt])) | ((with_reducible first | refine sideG ?_ ?_ | refine qr ?_ ?_ | refine sideS ?_ ?_ | refine qs ?_ ?_ | refine qt ?_ ?_ | refine sideA ?_ ?_ | refine qp ?_ ?_ | refine qq ?_ ?_); first | omega | assumption | (simp; done)) | (refine qg fun K hK => ?_) | (refine qa ?_) | (refine qb true (by kernel_rfl) (by kernel_rfl) ?_) | (refine qb false (by kernel_rfl) (by kernel_rfl) ?_) | (refine hK _ ?_; clear hK K) | (clear hK K; refine hK _ ?_; clear hK K) | (clear hK K; clear hK K; refine hK _ ?_; clear hK K) | refine qe ?_)
      exact ⟨k + 1, ⟨by omega, fun j hj hjk => by
        by_cases hjk2 : j = k
        · subst hjk2; exact hv
        · exact hek j hj (by omega)⟩, by omega, by omega⟩
    · have hfe := firstE_at cols cs k hlt hek hv
      rw [hfe, if_pos hv] at hR
      repeat' (first | ((first | ((with_reducible refine qo (fun hg => ?_) (fun hg => ?_)) <;> (try simp only [hg]) <;> (try simp only [beq_iff_eq, beq_eq_false_iff_ne, ne_eq, decide_eq_true_eq, decide_eq_false_iff_not, bne_iff_ne, bne_eq_false_iff_eq] at hg) <;> (try (first | simp only [eq_false hg, if_true, if_false] | simp only [eq_true hg, if_true, if_false]))) | (with_reducible first | refine qd ?_ | refine qc ?_ | refine qi ?_ | refine qh ?_) | refine acall (c1) ?_ | refine qv (c1) ?_ | refine qw (c1) ?_ | refine qf ?_ | refine qj ?_ | refine qk ?_ | refine qn ?_) <;> (try simp (disch := first | omega | simp) [ql, -qu, -qx, hlt, hv])) | ((with_reducible first | refine sideG ?_ ?_ | refine qr ?_ ?_ | refine sideS ?_ ?_ | refine qs ?_ ?_ | refine qt ?_ ?_ | refine sideA ?_ ?_ | refine qp ?_ ?_ | refine qq ?_ ?_); first | omega | assumption | (simp; done)) | (refine qg fun K hK => ?_) | (refine qa ?_) | (refine qb true (by kernel_rfl) (by kernel_rfl) ?_) | (refine qb false (by kernel_rfl) (by kernel_rfl) ?_) | (refine hK _ ?_; clear hK K) | (clear hK K; refine hK _ ?_; clear hK K) | (clear hK K; clear hK K; refine hK _ ?_; clear hK K) | refine qe ?_)
      all_goals first | exact absurd (by assumption) hv | (rw [hR]; simp)
  have hall : ∀ j (hj : j < cs.length), (verP cs[j] cols).2 = 0 := fun j hj => hek j hj (by omega)
  rw [firstE_all cols cs hall, if_neg (by simp)] at hR
  cases hf : fitsD cols L
  · rw [hf] at c2 hR
    rw [if_pos rfl] at hR
    repeat' (first | ((first | ((with_reducible refine qo (fun hg => ?_) (fun hg => ?_)) <;> (try simp only [hg]) <;> (try simp only [beq_iff_eq, beq_eq_false_iff_ne, ne_eq, decide_eq_true_eq, decide_eq_false_iff_not, bne_iff_ne, bne_eq_false_iff_eq] at hg) <;> (try (first | simp only [eq_false hg, if_true, if_false] | simp only [eq_true hg, if_true, if_false]))) | (with_reducible first | refine qd ?_ | refine qc ?_ | refine qi ?_ | refine qh ?_) | refine acall (c2) ?_ | refine qv (c2) ?_ | refine qw (c2) ?_ | refine qf ?_ | refine qj ?_ | refine qk ?_ | refine qn ?_) <;> (try simp (disch := first | omega | simp) [ql, -qu, -qx, hlt])) | ((with_reducible first | refine sideG ?_ ?_ | refine qr ?_ ?_ | refine sideS ?_ ?_ | refine qs ?_ ?_ | refine qt ?_ ?_ | refine sideA ?_ ?_ | refine qp ?_ ?_ | refine qq ?_ ?_); first | omega | assumption | (simp; done)) | (refine qg fun K hK => ?_) | (refine qa ?_) | (refine qb true (by kernel_rfl) (by kernel_rfl) ?_) | (refine qb false (by kernel_rfl) (by kernel_rfl) ?_) | (refine hK _ ?_; clear hK K) | (clear hK K; refine hK _ ?_; clear hK K) | (clear hK K; clear hK K; refine hK _ ?_; clear hK K) | refine qe ?_)
    all_goals (rw [hR]; simp)
  rw [hf] at c2 hR
  rw [if_neg (by simp)] at hR
  have hsz : 40 * L.length ≤ 281474976710656 := by omega
  have hsz3 : 3 * L.length ≤ 281474976710656 := by omega
  repeat' (first | ((first | ((with_reducible refine qo (fun hg => ?_) (fun hg => ?_)) <;> (try simp only [hg]) <;> (try simp only [beq_iff_eq, beq_eq_false_iff_ne, ne_eq, decide_eq_true_eq, decide_eq_false_iff_not, bne_iff_ne, bne_eq_false_iff_eq] at hg) <;> (try (first | simp only [eq_false hg, if_true, if_false] | simp only [eq_true hg, if_true, if_false]))) | (with_reducible first | refine qd ?_ | refine qc ?_ | refine qi ?_ | refine qh ?_) | refine acall (c2) ?_ | refine qv (c2) ?_ | refine qw (c2) ?_ | refine qf ?_ | refine qj ?_ | refine qk ?_ | refine qn ?_) <;> (try simp (disch := first | omega | simp) [ql, -qu, -qx, hlt, hsz, hsz3])) | ((with_reducible first | refine sideG ?_ ?_ | refine qr ?_ ?_ | refine sideS ?_ ?_ | refine qs ?_ ?_ | refine qt ?_ ?_ | refine sideA ?_ ?_ | refine qp ?_ ?_ | refine qq ?_ ?_); first | omega | assumption | (simp; done)) | (refine qg fun K hK => ?_) | (refine qa ?_) | (refine qb true (by kernel_rfl) (by kernel_rfl) ?_) | (refine qb false (by kernel_rfl) (by kernel_rfl) ?_) | (refine hK _ ?_; clear hK K) | (clear hK K; refine hK _ ?_; clear hK K) | (clear hK K; clear hK K; refine hK _ ?_; clear hK K) | refine qe ?_)
  obtain ⟨Z, hZ⟩ : ∃ Z : Nat → List (List AV), Z = fun k => (List.range L.length).map fun i => if i < k then [AV.int (L.getD i ⟨0, [], 0⟩).time, .v (.slice none 0 0), .int (L.getD i ⟨0, [], 0⟩).n] else [AV.int 0, .v (.slice none 0 0), .int 0] := ⟨_, rfl⟩
  have Zl : ∀ k, (Z k).length = L.length := fun k => by rw [hZ]; simp
  have Z0 : (Z 0).map AV.agg = List.replicate L.length (AV.agg [.int 0, .v (.slice none 0 0), .int 0]) := by
    rw [hZ]; apply List.ext_getElem (by simp); intro i h1 h2; simp
  have Zg : ∀ k (h : k < (Z k).length), (Z k)[k] = [AV.int 0, .v (.slice none 0 0), .int 0] := fun k h => by subst hZ; simp
  have Zs : ∀ k (h : k < L.length), (Z k).set k [AV.int L[k].time, .v (.slice none 0 0), .int L[k].n] = Z (k + 1) := fun k h => by
    subst hZ
    apply List.ext_getElem (by simp)
    intro i h1 h2
    simp only [List.length_map, List.length_range] at h2
    rw [List.getElem_set]
    by_cases hik : k = i
    · subst hik; simp [h]
    · rw [if_neg hik]
      by_cases hlt : i < k
      · simp [hlt, show i < k + 1 by omega]
      · simp [hlt, show ¬ i < k + 1 by omega]
  have Zn : ∀ k, ∀ cs ∈ Z k, cs[1]? = some (.v (.slice none 0 0)) := fun k cs hc => by
    rw [hZ] at hc
    obtain ⟨i, -, rfl⟩ := List.mem_map.1 hc
    split <;> rfl
  have Ze : Z L.length = L.map fun d => [AV.int d.time, .v (.slice none 0 0), .int d.n] := by
    rw [hZ]
    apply List.ext_getElem (by simp)
    intro i h1 h2
    simp only [List.length_map, List.length_range] at h1
    simp [h1]
  have Zc : ∀ k m, AV.cls m ((Z k).map AV.agg) := fun k m => by
    rw [AV.cls_iff, hZ]
    intro x hx
    obtain ⟨y, hy, rfl⟩ := List.mem_map.1 hx
    obtain ⟨i, -, rfl⟩ := List.mem_map.1 hy
    split <;> simp
  clear hZ
  refine qbb hcl (fun k : Nat => [(0, .sl (cs.map Cod.av)), (2, .sl (L.map Delta.av)), (12, .own n0 L.length), (50, .sl (L.map Delta.av)), (51, .int L.length), (52, .int k)])
    (fun k => [.vec ((Z k).map AV.agg) 37 3])
    (fun k => k ≤ L.length) (fun k => L.length - k) 0 (by omega) (by simp [Z0]) fun k hk => ?_
  by_cases hlk : k < L.length
  · have zg := Zg k (by rw [Zl]; exact hlk)
    have zl := Zl k
    repeat' (first | ((first | ((with_reducible refine qo (fun hg => ?_) (fun hg => ?_)) <;> (try simp only [hg]) <;> (try simp only [beq_iff_eq, beq_eq_false_iff_ne, ne_eq, decide_eq_true_eq, decide_eq_false_iff_not, bne_iff_ne, bne_eq_false_iff_eq] at hg) <;> (try (first | simp only [eq_false hg, if_true, if_false] | simp only [eq_true hg, if_true, if_false]))) | (with_reducible first | refine qd ?_ | refine qc ?_ | refine qi ?_ | refine qh ?_) | refine qf ?_ | refine qj ?_ | refine qk ?_ | refine qn ?_) <;> (try simp (disch := first | omega | simp) [ql, -qu, -qx, hlk, zg, zl])) | ((with_reducible first | refine sideG ?_ ?_ | refine qr ?_ ?_ | refine sideS ?_ ?_ | refine qs ?_ ?_ | refine qt ?_ ?_ | refine sideA ?_ ?_ | refine qp ?_ ?_ | refine qq ?_ ?_); first | omega | assumption | (simp; done)) | (refine qg fun K hK => ?_) | (refine qa ?_) | (refine qb true (by kernel_rfl) (by kernel_rfl) ?_) | (refine qb false (by kernel_rfl) (by kernel_rfl) ?_) | (refine hK _ ?_; clear hK K) | (clear hK K; refine hK _ ?_; clear hK K) | (clear hK K; clear hK K; refine hK _ ?_; clear hK K) | refine qe ?_)
    have zs := Zs k hlk
    refine ⟨k + 1, by omega, by omega, ?_, Zc _ _, by omega⟩
    rw [← zs, List.map_set]
  obtain rfl : k = L.length := by omega
  repeat' (first | ((first | ((with_reducible refine qo (fun hg => ?_) (fun hg => ?_)) <;> (try simp only [hg]) <;> (try simp only [beq_iff_eq, beq_eq_false_iff_ne, ne_eq, decide_eq_true_eq, decide_eq_false_iff_not, bne_iff_ne, bne_eq_false_iff_eq] at hg) <;> (try (first | simp only [eq_false hg, if_true, if_false] | simp only [eq_true hg, if_true, if_false]))) | (with_reducible first | refine qd ?_ | refine qc ?_ | refine qi ?_ | refine qh ?_) | refine qf ?_ | refine qj ?_ | refine qk ?_ | refine qn ?_) <;> (try simp (disch := first | omega | simp) [ql, -qu, -qx, hlk])) | ((with_reducible first | refine sideG ?_ ?_ | refine qr ?_ ?_ | refine sideS ?_ ?_ | refine qs ?_ ?_ | refine qt ?_ ?_ | refine sideA ?_ ?_ | refine qp ?_ ?_ | refine qq ?_ ?_); first | omega | assumption | (simp; done)) | (refine qg fun K hK => ?_) | (refine qa ?_) | (refine qb true (by kernel_rfl) (by kernel_rfl) ?_) | (refine qb false (by kernel_rfl) (by kernel_rfl) ?_) | (refine hK _ ?_; clear hK K) | (clear hK K; refine hK _ ?_; clear hK K) | (clear hK K; clear hK K; refine hK _ ?_; clear hK K) | refine qe ?_)
  refine awp_adoptsE 0 1 39 3 (by rfl) (Zn _) ?_
  obtain ⟨A, hA⟩ : ∃ A : Nat → Nat → Nat → List AV, A = fun k j i => (cs.take (k + if i < j then 1 else 0)).map fun c => (valC c (L.getD i ⟨0, [], 0⟩).time (L.getD i ⟨0, [], 0⟩).row).av := ⟨_, rfl⟩
  have Ae : ∀ k j i, A k j i = (cs.take (k + if i < j then 1 else 0)).map fun c => (valC c (L.getD i ⟨0, [], 0⟩).time (L.getD i ⟨0, [], 0⟩).row).av := fun k j i => by rw [hA]
  have Al : ∀ k j i, k < cs.length → j ≤ i → (A k j i).length = k := fun k j i h1 h2 => by rw [hA]; simp [show ¬ i < j by omega]; omega
  obtain ⟨E, hE⟩ : ∃ E : Nat → Nat → List AV, E = fun k j => (List.range L.length).map fun i => AV.agg [.int (L.getD i ⟨0, [], 0⟩).time, .gs (n0 + 1 + i) (A k j i), .int (L.getD i ⟨0, [], 0⟩).n] := ⟨_, rfl⟩
  have E00 : adopted 1 (n0 + 1) (Z L.length) = E 0 0 := by
    rw [Ze, hE]
    apply List.ext_getElem? ; intro i
    rw [adopted_get, List.getElem?_map, List.getElem?_map]
    by_cases hi : i < L.length
    · rw [List.getElem?_range hi, List.getElem?_eq_getElem hi, hA]; simp [hi]
    · rw [List.getElem?_eq_none (by omega), List.getElem?_eq_none (by simp; omega)]; rfl
  have El : ∀ k j, (E k j).length = L.length := fun k j => by rw [hE]; simp
  have Eg : ∀ k j (h : j < (E k j).length) (h2 : j < L.length), (E k j)[j] = AV.agg [.int L[j].time, .gs (n0 + 1 + j) (A k j j), .int L[j].n] := fun k j h h2 => by subst hE; simp [h2]
  have Es : ∀ k j (h : j < L.length) (h2 : k < cs.length), (E k j).set j (AV.agg [.int L[j].time, .gs (n0 + 1 + j) (A k j j ++ [(valC cs[k] L[j].time L[j].row).av]), .int L[j].n]) = E k (j + 1) := fun k j h h2 => by
    subst hE
    apply List.ext_getElem (by simp)
    intro i h3 h4
    simp only [List.length_map, List.length_range] at h4
    rw [List.getElem_set]
    by_cases hij : j = i
    · subst hij
      simp [h, Ae, List.take_add_one, h2]
    · rw [if_neg hij]
      by_cases hlt : i < j
      · simp [Ae, hlt, show i < j + 1 by omega]
      · simp [Ae, hlt, show ¬ i < j + 1 by omega]
  have Ec : ∀ k j, AV.cls (n0 + (L.length + 1)) (E k j) := fun k j => by
    rw [AV.cls_iff, hE]
    intro x hx
    obtain ⟨i, hi, rfl⟩ := List.mem_map.1 hx
    have := List.mem_range.1 hi
    have hc3 : AV.cls (n0 + (L.length + 1)) (A k j i) := by rw [hA]; exact AV.cls_map (fun c => Val.av_cl _ _) _
    simp [hc3]; omega
  have E9 : ∀ k, E k L.length = E (k + 1) 0 := fun k => by
    rw [hE, hA]
    apply List.map_congr_left
    intro i hi
    have := List.mem_range.1 hi
    simp [this]
  have Ef : (E cs.length 0).map AV.pub = R.1.map Delta.av := by
    rw [hR, hE, hA]
    apply List.ext_getElem (by simp [projD])
    intro i h3 h4
    simp only [List.length_map, List.length_range] at h3
    simp [projD, h3, Delta.av, -Delta.av_fold]
  have hR2 : R.2 = 0 := by rw [hR]
  clear hE
  obtain ⟨S, hS⟩ : ∃ S : Nat → Nat → Nat → AB, S = fun k j r => if r < n0 then σ r else if r = n0 then .vec (E k j) 37 3 else if r < n0 + (L.length + 1) then .tail (k + if r - (n0 + 1) < j then 1 else 0) 39 3 else .unborn := ⟨_, rfl⟩
  have S0 : ∀ k j r, r < n0 → S k j r = σ r := fun k j r h => by rw [hS]; simp [h]
  have S1 : ∀ k j, S k j n0 = .vec (E k j) 37 3 := fun k j => by rw [hS]; simp
  have S2 : ∀ k j i, i < L.length → S k j (n0 + 1 + i) = .tail (k + if i < j then 1 else 0) 39 3 := fun k j i h => by
    rw [hS]; dsimp only
    rw [if_neg (by omega), if_neg (by omega), if_pos (by omega), show n0 + 1 + i - (n0 + 1) = i by omega]
  have S9 : ∀ k, S k L.length = S (k + 1) 0 := fun k => by
    rw [hS]; funext r; dsimp only
    rw [E9]
    split
    · rfl
    · split
      · rfl
      · split
        · rw [if_pos (by omega), if_neg (by omega)]
        · rfl
  have SU : ∀ k j (h : j < L.length) (h2 : k < cs.length), upd (upd (S k j) (n0 + 1 + j) (.tail (k + 1) 39 3)) n0 (.vec (E k (j + 1)) 37 3) = S k (j + 1) := fun k j h h2 => by
    rw [hS]; funext r; unfold upd; dsimp only
    by_cases h3 : r = n0
    · subst h3; simp
    · rw [if_neg h3]
      by_cases h4 : r = n0 + 1 + j
      · subst h4
        rw [if_pos rfl, if_neg (by omega), if_neg (by omega), if_pos (by omega), if_pos (by omega)]
      · rw [if_neg h4]
        split
        · rfl
        · split
          · by_cases h5 : r - (n0 + 1) < j
            · rw [if_pos h5, if_pos (by omega)]
            · rw [if_neg h5, if_neg (by omega)]
          · rfl
  have Scl : ∀ k j r, (S k j r).cl (n0 + (L.length + 1)) := fun k j r => by
    rw [hS]; dsimp only
    split
    · exact AB.cl_mono (by omega) (hcl r)
    · split
      · exact Ec k j
      · split <;> trivial
  have SL : ∀ k r, S k 0 r = loc σ n0 (AB.vec (E k 0) 37 3 :: List.replicate L.length (AB.tail k 39 3)) r := fun k r => by
    rw [hS]; unfold loc; dsimp only
    by_cases h1 : r < n0
    · rw [if_pos h1, if_pos h1]
    · rw [if_neg h1, if_neg h1]
      by_cases h2 : r = n0
      · rw [if_pos h2, h2, Nat.sub_self]; rfl
      · rw [if_neg h2, List.getD_eq_getElem?_getD, show r - n0 = (r - n0 - 1) + 1 by omega, List.getElem?_cons_succ, List.getElem?_replicate]
        by_cases h5 : r < n0 + (L.length + 1)
        · rw [if_pos h5, if_neg (Nat.not_lt_zero _), if_pos (by omega)]; rfl
        · rw [if_neg h5, if_neg (by omega)]; rfl
  clear hS
  simp only [List.set_cons_zero, List.length_cons, List.length_nil, Nat.zero_add, Zl, E00, List.cons_append, List.nil_append]
  refine awp_reb (S 0 0) (L.length + 1) (by simp) (SL 0) ?_
  refine awp_loopS (fun k => S k 0) (fun k : Nat => [(0, .sl (cs.map Cod.av)), (2, .sl (L.map Delta.av)), (12, .own n0 L.length), (66, .sl (cs.map Cod.av)), (67, .int cs.length), (68, .int k)]) (fun _ => []) (fun k => k ≤ cs.length) (fun k => cs.length - k) 0 (fun k _ => Scl k 0) (by omega) (by simp [leS]) (Scl 0 0) fun k hk => ?_
  by_cases hlk2 : k < cs.length
  · have c3 := run_g (verP_ok.1 (hall k hlk2)) L (by omega) fun d hd => fitsD_mem hf hd
    repeat' (first | ((first | ((with_reducible refine qo (fun hg => ?_) (fun hg => ?_)) <;> (try simp only [hg]) <;> (try simp only [beq_iff_eq, beq_eq_false_iff_ne, ne_eq, decide_eq_true_eq, decide_eq_false_iff_not, bne_iff_ne, bne_eq_false_iff_eq] at hg) <;> (try (first | simp only [eq_false hg, if_true, if_false] | simp only [eq_true hg, if_true, if_false]))) | (with_reducible first | refine qd ?_ | refine qc ?_ | refine qi ?_ | refine qh ?_) | refine acall (c3) ?_ | refine qv (c3) ?_ | refine qw (c3) ?_ | refine qf ?_ | refine qj ?_ | refine qk ?_ | refine qn ?_) <;> (try simp (disch := first | omega | simp) [ql, -qu, -qx, hlk2])) | ((with_reducible first | refine sideG ?_ ?_ | refine qr ?_ ?_ | refine sideS ?_ ?_ | refine qs ?_ ?_ | refine qt ?_ ?_ | refine sideA ?_ ?_ | refine qp ?_ ?_ | refine qq ?_ ?_); first | omega | assumption | (simp; done)) | (refine qg fun K hK => ?_) | (refine qa ?_) | (refine qb true (by kernel_rfl) (by kernel_rfl) ?_) | (refine qb false (by kernel_rfl) (by kernel_rfl) ?_) | (refine hK _ ?_; clear hK K) | (clear hK K; refine hK _ ?_; clear hK K) | (clear hK K; clear hK K; refine hK _ ?_; clear hK K) | refine qe ?_)
    refine awp_loopS (fun j => S k j) (fun j : Nat => [(0, .sl (cs.map Cod.av)), (2, .sl (L.map Delta.av)), (12, .own n0 L.length), (66, .sl (cs.map Cod.av)), (67, .int cs.length), (68, .int k), (74, .sl ((runD cs[k] L).map Val.av)), (75, .int (runD cs[k] L).length), (76, .int j)]) (fun _ => []) (fun j => j ≤ L.length) (fun j => L.length - j) 0 (fun j _ => Scl k j) (by omega) (by simp [leS]) (Scl k 0) fun j hj => ?_
    have hrl : (runD cs[k] L).length = L.length := by unfold runD; rw [List.length_map]
    by_cases hlj : j < L.length
    · have hlj2 : j < (runD cs[k] L).length := by omega
      have s1 := S1 k j
      have s2 : S k j (n0 + 1 + j) = .tail k 39 3 := by rw [S2 k j j hlj, if_neg (by omega), Nat.add_zero]
      have eg := Eg k j (by rw [El]; exact hlj) hlj
      have el := El k j
      have al := Al k j j hlk2 (Nat.le_refl _)
      have aw : AV.wid (A k j j) 3 := by rw [Ae]; exact AV.wid_map (fun c => Val.av_width _) _
      have hsz4 : (k + 1) * 40 ≤ 140737488355328 := by omega
      have hvd : (runD cs[k] L)[j] = valC cs[k] L[j].time L[j].row := by simp only [runD, List.getElem_map]
      have hlj3 : n0 + 1 + j < n0 + (L.length + 1) := by omega
      have hlj4 : ¬ n0 = n0 + 1 + j := by omega
      have hlj5 : ¬ n0 + 1 + j = n0 := by omega
      repeat' (first | ((first | ((with_reducible refine qo (fun hg => ?_) (fun hg => ?_)) <;> (try simp only [hg]) <;> (try simp only [beq_iff_eq, beq_eq_false_iff_ne, ne_eq, decide_eq_true_eq, decide_eq_false_iff_not, bne_iff_ne, bne_eq_false_iff_eq] at hg) <;> (try (first | simp only [eq_false hg, if_true, if_false] | simp only [eq_true hg, if_true, if_false]))) | (with_reducible first | refine qd ?_ | refine qc ?_ | refine qi ?_ | refine qh ?_) | refine qf ?_ | refine qj ?_ | refine qk ?_ | refine qn ?_) <;> (try simp (disch := first | omega | simp) [ql, -qu, -qx, hlj, hlj2])) | ((with_reducible first | refine sideG ?_ ?_ | refine qr ?_ ?_ | refine sideS ?_ ?_ | refine qs ?_ ?_ | refine qt ?_ ?_ | refine sideA ?_ ?_ | refine qp ?_ ?_ | refine qq ?_ ?_); first | omega | assumption | (simp; done)) | (refine qg fun K hK => ?_) | (refine qa ?_) | (refine hK _ ?_; clear hK K) | (clear hK K; refine hK _ ?_; clear hK K) | (clear hK K; clear hK K; refine hK _ ?_; clear hK K) | refine qe ?_)
      refine awp_anyQ [.cells (runD cs[k] L)[j].av.cells 39] n0 [.R, .R, .R, .R, .N, .N, .N, .R, .R, .A, .N, .N, .W] (by kernel_rfl) (by kernel_rfl) (by simp) ?_
      repeat' (first | ((first | ((with_reducible refine qo (fun hg => ?_) (fun hg => ?_)) <;> (try simp only [hg]) <;> (try simp only [beq_iff_eq, beq_eq_false_iff_ne, ne_eq, decide_eq_true_eq, decide_eq_false_iff_not, bne_iff_ne, bne_eq_false_iff_eq] at hg) <;> (try (first | simp only [eq_false hg, if_true, if_false] | simp only [eq_true hg, if_true, if_false]))) | (with_reducible first | refine qd ?_ | refine qc ?_ | refine qi ?_ | refine qh ?_) | refine qf ?_ | refine qj ?_ | refine qk ?_ | refine qn ?_) <;> (try simp (disch := first | omega | simp) [ql, -qu, -qx, hlj, hlj2, hlj3, hlj4, hlj5, s1, s2, eg, el, al, aw, hsz4, hvd, loc_lt])) | ((with_reducible first | refine sideG ?_ ?_ | refine qr ?_ ?_ | refine sideS ?_ ?_ | refine qs ?_ ?_ | refine qt ?_ ?_ | refine sideA ?_ ?_ | refine qp ?_ ?_ | refine qq ?_ ?_); first | omega | assumption | (simp; done)) | (refine qg fun K hK => ?_) | (refine qa ?_) | (refine qb true (by kernel_rfl) (by kernel_rfl) ?_) | (refine qb false (by kernel_rfl) (by kernel_rfl) ?_) | (refine hK _ ?_; clear hK K) | (clear hK K; refine hK _ ?_; clear hK K) | (clear hK K; clear hK K; refine hK _ ?_; clear hK K) | refine qe ?_)
      have hup : ∀ r, upd (upd (S k j) (n0 + 1 + j) (AB.tail (k + 1) 39 3)) n0 (AB.vec ((E k j).set j (AV.agg [AV.int L[j].time, AV.gs (n0 + 1 + j) (A k j j ++ [(valC cs[k] L[j].time L[j].row).av]), AV.int L[j].n])) 37 3) r = S k (j + 1) r := fun r => by rw [Es k j hlj hlk2, SU k j hlj hlk2]
      exact ⟨fun r => by have := Scl k (j + 1) r; rw [← hup] at this; exact this, j + 1, by omega, by omega, fun r _ => (hup r).symm, by simp⟩
    · obtain rfl : j = L.length := by omega
      repeat' (first | ((first | ((with_reducible refine qo (fun hg => ?_) (fun hg => ?_)) <;> (try simp only [hg]) <;> (try simp only [beq_iff_eq, beq_eq_false_iff_ne, ne_eq, decide_eq_true_eq, decide_eq_false_iff_not, bne_iff_ne, bne_eq_false_iff_eq] at hg) <;> (try (first | simp only [eq_false hg, if_true, if_false] | simp only [eq_true hg, if_true, if_false]))) | (with_reducible first | refine qd ?_ | refine qc ?_ | refine qi ?_ | refine qh ?_) | refine qf ?_ | refine qj ?_ | refine qk ?_ | refine qn ?_) <;> (try simp (disch := first | omega | simp) [ql, -qu, -qx, hlj, hrl])) | ((with_reducible first | refine sideG ?_ ?_ | refine qr ?_ ?_ | refine sideS ?_ ?_ | refine qs ?_ ?_ | refine qt ?_ ?_ | refine sideA ?_ ?_ | refine qp ?_ ?_ | refine qq ?_ ?_); first | omega | assumption | (simp; done)) | (refine qg fun K hK => ?_) | (refine qa ?_) | (refine qb true (by kernel_rfl) (by kernel_rfl) ?_) | (refine qb false (by kernel_rfl) (by kernel_rfl) ?_) | (refine hK _ ?_; clear hK K) | (clear hK K; refine hK _ ?_; clear hK K) | (clear hK K; clear hK K; refine hK _ ?_; clear hK K) | refine qe ?_)
      exact ⟨Scl k _, k + 1, by omega, by omega, fun r _ => by rw [S9], by simp⟩
  · obtain rfl : k = cs.length := by omega
    repeat' (first | ((first | ((with_reducible refine qo (fun hg => ?_) (fun hg => ?_)) <;> (try simp only [hg]) <;> (try simp only [beq_iff_eq, beq_eq_false_iff_ne, ne_eq, decide_eq_true_eq, decide_eq_false_iff_not, bne_iff_ne, bne_eq_false_iff_eq] at hg) <;> (try (first | simp only [eq_false hg, if_true, if_false] | simp only [eq_true hg, if_true, if_false]))) | (with_reducible first | refine qd ?_ | refine qc ?_ | refine qi ?_ | refine qh ?_) | refine qf ?_ | refine qj ?_ | refine qk ?_ | refine qn ?_) <;> (try simp (disch := first | omega | simp) [ql, -qu, -qx, hlk2])) | ((with_reducible first | refine sideG ?_ ?_ | refine qr ?_ ?_ | refine sideS ?_ ?_ | refine qs ?_ ?_ | refine qt ?_ ?_ | refine sideA ?_ ?_ | refine qp ?_ ?_ | refine qq ?_ ?_); first | omega | assumption | (simp; done)) | (refine qg fun K hK => ?_) | (refine qa ?_) | (refine qb true (by kernel_rfl) (by kernel_rfl) ?_) | (refine qb false (by kernel_rfl) (by kernel_rfl) ?_) | (refine hK _ ?_; clear hK K) | (clear hK K; refine hK _ ?_; clear hK K) | (clear hK K; clear hK K; refine hK _ ?_; clear hK K) | refine qe ?_)
    refine ⟨fun r hr => S0 _ 0 r hr, ?_⟩
    have hun : ∀ (n : Nat) (t : Nat → AV), (AS.mk n t (S cs.length 0) (n0 + (L.length + 1)) []).un σ n0 (L.length + 1) = ⟨n, t, σ, n0, AB.vec (E cs.length 0) 37 3 :: List.replicate L.length (AB.tail cs.length 39 3)⟩ := fun n t => by
      unfold AS.un
      congr 1
      rw [List.append_nil]
      apply List.ext_getElem (by simp)
      intro i h5 h6
      simp only [List.length_map, List.length_range] at h5
      rw [List.getElem_map, List.getElem_range]
      show loc (S cs.length 0) (n0 + (L.length + 1)) [] (n0 + i) = _
      rw [loc_lt _ _ _ _ (by omega), SL]
      unfold loc
      rw [if_neg (by omega), Nat.add_sub_cancel_left, List.getD_eq_getElem?_getD, List.getElem?_eq_getElem h6]; rfl
    rw [hun]
    clear hK K
    refine hK _ ?_
    clear hK K
    refine awp_pubE 0 (by rfl) ?_
    refine awp_freezeR 12 0 (k := L.length) (by simp) (by rfl) (by simp [El]) ?_
    repeat' (first | ((first | ((with_reducible refine qo (fun hg => ?_) (fun hg => ?_)) <;> (try simp only [hg]) <;> (try simp only [beq_iff_eq, beq_eq_false_iff_ne, ne_eq, decide_eq_true_eq, decide_eq_false_iff_not, bne_iff_ne, bne_eq_false_iff_eq] at hg) <;> (try (first | simp only [eq_false hg, if_true, if_false] | simp only [eq_true hg, if_true, if_false]))) | (with_reducible first | refine qd ?_ | refine qc ?_ | refine qi ?_ | refine qh ?_) | refine qf ?_ | refine qj ?_ | refine qk ?_ | refine qn ?_) <;> (try simp (disch := first | omega | simp) [ql, -qu, -qx, Ef, hR2])) | ((with_reducible first | refine sideG ?_ ?_ | refine qr ?_ ?_ | refine sideS ?_ ?_ | refine qs ?_ ?_ | refine qt ?_ ?_ | refine sideA ?_ ?_ | refine qp ?_ ?_ | refine qq ?_ ?_); first | omega | assumption | (simp; done)) | (refine qg fun K hK => ?_) | (refine qa ?_) | (refine qb true (by kernel_rfl) (by kernel_rfl) ?_) | (refine qb false (by kernel_rfl) (by kernel_rfl) ?_) | (refine hK _ ?_; clear hK K) | (clear hK K; refine hK _ ?_; clear hK K) | (clear hK K; clear hK K; refine hK _ ?_; clear hK K) | refine qe ?_)
end Go.Proofs.YtnkakofcejkhiaaDoor

/- The check of a drawn region with each ancestor listed once: regions with many guards. -/
namespace Go.Proofs.YtnkakofcejkhiaaDoor
open Go.RowKit Go.Lib
end Go.Proofs.YtnkakofcejkhiaaDoor

/- Walk: the law VmTells (given the contract of Project). -/
namespace Go.Proofs.YtnkakofcejkhiaaDoor
open Go.RowKit Go.Lib
theorem selP_len (c : Cod) (cols : List Int) (l : List Delta) : (selP c cols l).1.length ≤ l.length := by
  unfold selP
  split
  · simp
  split
  · simp
  split
  · simp
  · exact List.length_filter_le _ _
theorem selP_mem (c : Cod) (cols : List Int) (l : List Delta) : ∀ d ∈ (selP c cols l).1, d ∈ l := fun d hd => by
  unfold selP at hd
  split at hd
  · cases hd
  split at hd
  · cases hd
  split at hd
  · cases hd
  · exact (List.mem_filter.1 hd).1
theorem runP_len (c : Cod) (cols : List Int) (l : List Delta) : (runP c cols l).1.length ≤ l.length := by
  unfold runP
  split
  · simp
  split
  · simp
  · unfold runD; simp
theorem projP_len (cs : List Cod) (cols : List Int) (l : List Delta) : (projP cs cols l).1.length ≤ l.length := by
  unfold projP projD
  split
  · simp
  split
  · simp
  split
  · simp
  · simp
theorem projP_mem (cs : List Cod) (cols : List Int) (l : List Delta) : ∀ d ∈ (projP cs cols l).1, d.row.length ≤ cs.length := fun d hd => by
  unfold projP projD at hd
  split at hd
  · cases hd
  split at hd
  · cases hd
  split at hd
  · cases hd
  · obtain ⟨e, -, rfl⟩ := List.mem_map.1 hd
    simp
def ProjOk : Prop := ∀ (cs : List Cod) (cols : List Int) (L : List Delta), cs.length ≤ 1000000 → cols.length ≤ 1000000 → L.length ≤ 1000 → (∀ d ∈ L, d.row.length ≤ 1000000) →
  Gives Tryd.prog 18 [.sl (cs.map Cod.av), .sl (cols.map AV.int), .sl (L.map Delta.av)] (.tup [.sl ((projP cs cols L).1.map Delta.av), .int (projP cs cols L).2])
theorem workP_eq2 (c : Cod) (rows : Int) (h1 : ¬ rows ≤ 0) (h2 : ¬ c.ins.length = 0) (h3 : ¬ 1099511627776 / (c.ins.length : Int) < rows) : workP c rows = rows * c.ins.length := by
  unfold workP
  rw [if_neg (by omega), if_neg h3, Int.mul_comm]
set_option maxRecDepth 100000 in
set_option maxHeartbeats 16000000 in
theorem vmTells_g (hproj : ProjOk) (c d : Cod) (cols : List Int) (l : List Delta) (rows : Int) (hrows : rows ≤ 9223372036854775807) : Gives Tryd.prog 4 [c.av, d.av, .sl (cols.map AV.int), .sl (l.map Delta.av), .int rows] (.bool true) := by
  have hsm := small27_g
  have l1 := light27_g c cols l
  have l2 := light27_g d cols l
  cases hl1 : lightC c cols l
  · rw [hl1] at l1
    obtain ⟨i1, y1, o1⟩ := c
    obtain ⟨i2, y2, o2⟩ := d
    refine qm Tryd.func4 Tryd.ntmps4 rfl rfl (by decide) rfl (by intro n; simp) fun σ n0 hcl hft => ?_
    repeat' (first | ((first | ((with_reducible refine qo (fun hg => ?_) (fun hg => ?_)) <;> (try simp only [hg]) <;> (try simp only [beq_iff_eq, beq_eq_false_iff_ne, ne_eq, decide_eq_true_eq, decide_eq_false_iff_not, bne_iff_ne, bne_eq_false_iff_eq] at hg) <;> (try (first | simp only [eq_false hg, if_true, if_false] | simp only [eq_true hg, if_true, if_false]))) | (with_reducible first | refine qd ?_ | refine qc ?_ | refine qi ?_ | refine qh ?_) | refine acall (hsm) ?_ | refine qv (hsm) ?_ | refine qw (hsm) ?_ | refine acall (l1) ?_ | refine qv (l1) ?_ | refine qw (l1) ?_ | refine acall (l2) ?_ | refine qv (l2) ?_ | refine qw (l2) ?_ | refine qf ?_ | refine qj ?_ | refine qk ?_ | refine qn ?_) <;> (try simp (disch := first | omega | simp) [ql, -qu, -qx])) | ((with_reducible first | refine sideG ?_ ?_ | refine qr ?_ ?_ | refine sideS ?_ ?_ | refine qs ?_ ?_ | refine qt ?_ ?_ | refine sideA ?_ ?_ | refine qp ?_ ?_ | refine qq ?_ ?_); first | omega | assumption | (simp; done)) | (refine qg fun K hK => ?_) | (refine qa ?_) | (refine qb true (by kernel_rfl) (by kernel_rfl) ?_) | (refine qb false (by kernel_rfl) (by kernel_rfl) ?_) | (refine hK _ ?_; clear hK K) | (clear hK K; refine hK _ ?_; clear hK K) | (clear hK K; clear hK K; refine hK _ ?_; clear hK K) | refine qe ?_)
  have L1 := lightC_ok hl1
  rw [hl1] at l1
  cases hl2 : lightC d cols l
  · rw [hl2] at l2
    obtain ⟨i1, y1, o1⟩ := c
    obtain ⟨i2, y2, o2⟩ := d
    refine qm Tryd.func4 Tryd.ntmps4 rfl rfl (by decide) rfl (by intro n; simp) fun σ n0 hcl hft => ?_
    repeat' (first | ((first | ((with_reducible refine qo (fun hg => ?_) (fun hg => ?_)) <;> (try simp only [hg]) <;> (try simp only [beq_iff_eq, beq_eq_false_iff_ne, ne_eq, decide_eq_true_eq, decide_eq_false_iff_not, bne_iff_ne, bne_eq_false_iff_eq] at hg) <;> (try (first | simp only [eq_false hg, if_true, if_false] | simp only [eq_true hg, if_true, if_false]))) | (with_reducible first | refine qd ?_ | refine qc ?_ | refine qi ?_ | refine qh ?_) | refine acall (hsm) ?_ | refine qv (hsm) ?_ | refine qw (hsm) ?_ | refine acall (l1) ?_ | refine qv (l1) ?_ | refine qw (l1) ?_ | refine acall (l2) ?_ | refine qv (l2) ?_ | refine qw (l2) ?_ | refine qf ?_ | refine qj ?_ | refine qk ?_ | refine qn ?_) <;> (try simp (disch := first | omega | simp) [ql, -qu, -qx])) | ((with_reducible first | refine sideG ?_ ?_ | refine qr ?_ ?_ | refine sideS ?_ ?_ | refine qs ?_ ?_ | refine qt ?_ ?_ | refine sideA ?_ ?_ | refine qp ?_ ?_ | refine qq ?_ ?_); first | omega | assumption | (simp; done)) | (refine qg fun K hK => ?_) | (refine qa ?_) | (refine qb true (by kernel_rfl) (by kernel_rfl) ?_) | (refine qb false (by kernel_rfl) (by kernel_rfl) ?_) | (refine hK _ ?_; clear hK K) | (clear hK K; refine hK _ ?_; clear hK K) | (clear hK K; clear hK K; refine hK _ ?_; clear hK K) | refine qe ?_)
  have L2 := lightC_ok hl2
  rw [hl2] at l2
  have n1 := L1.nl
  have n3 := L1.nc
  have n5 := L1.ni
  have hrow : ∀ d ∈ l, d.row.length ≤ 1000000 := fun d hd => by have := L1.row d hd; omega
  have r1 := Run_g c cols l (by omega) (by omega) hrow
  have r2 := rRun_g c cols l (by omega) (by omega) hrow
  have q1 := Select_g c cols l (by omega) (by omega) hrow
  have q2 := rSelect_g c cols l (by omega) (by omega) hrow
  have p1 := hproj [c, d] cols l (by simp) (by omega) (by omega) hrow
  have p2 := rProject_g [c, d] cols l (by simp) (by omega) (by omega) hrow
  have w1 := work_g c rows hrows (by omega)
  have s1 := rsame03_g (runP c cols l).1 (by have := runP_len c cols l; omega)
  have s2 := rsame27_g (selP c cols l).1 (by have := selP_len c cols l; omega) (fun e he => hrow e (selP_mem c cols l e he))
  have s3 := rsame27_g (projP [c, d] cols l).1 (by have := projP_len [c, d] cols l; omega) (fun e he => by have := projP_mem [c, d] cols l e he; simp at this; omega)
  generalize runP c cols l = A at *
  generalize selP c cols l = B at *
  generalize projP [c, d] cols l = P at *
  clear L1 L2 hl1 hl2
  by_cases z1 : rows ≤ 0 ∨ c.ins.length = 0
  · have hw : workP c rows = 0 := by unfold workP; rw [if_pos z1]
    rw [hw] at w1
    obtain ⟨i1, y1, o1⟩ := c
    obtain ⟨i2, y2, o2⟩ := d
    simp only [List.map_cons, List.map_nil] at p1 p2
    simp only at z1
    refine qm Tryd.func4 Tryd.ntmps4 rfl rfl (by decide) rfl (by intro n; simp) fun σ n0 hcl hft => ?_
    repeat' (first | ((first | ((with_reducible refine qo (fun hg => ?_) (fun hg => ?_)) <;> (try simp only [hg]) <;> (try simp only [beq_iff_eq, beq_eq_false_iff_ne, ne_eq, decide_eq_true_eq, decide_eq_false_iff_not, bne_iff_ne, bne_eq_false_iff_eq] at hg) <;> (try (first | simp only [eq_false hg, if_true, if_false] | simp only [eq_true hg, if_true, if_false]))) | (with_reducible first | refine qd ?_ | refine qc ?_ | refine qi ?_ | refine qh ?_) | refine acall (hsm) ?_ | refine qv (hsm) ?_ | refine qw (hsm) ?_ | refine acall (l1) ?_ | refine qv (l1) ?_ | refine qw (l1) ?_ | refine acall (l2) ?_ | refine qv (l2) ?_ | refine qw (l2) ?_ | refine acall (r1) ?_ | refine qv (r1) ?_ | refine qw (r1) ?_ | refine acall (r2) ?_ | refine qv (r2) ?_ | refine qw (r2) ?_ | refine acall (q1) ?_ | refine qv (q1) ?_ | refine qw (q1) ?_ | refine acall (q2) ?_ | refine qv (q2) ?_ | refine qw (q2) ?_ | refine acall (p1) ?_ | refine qv (p1) ?_ | refine qw (p1) ?_ | refine acall (p2) ?_ | refine qv (p2) ?_ | refine qw (p2) ?_ | refine acall (s1) ?_ | refine qv (s1) ?_ | refine qw (s1) ?_ | refine acall (s2) ?_ | refine qv (s2) ?_ | refine qw (s2) ?_ | refine acall (s3) ?_ | refine qv (s3) ?_ | refine qw (s3) ?_ | refine acall (w1) ?_ | refine qv (w1) ?_ | refine qw (w1) ?_ | refine qf ?_ | refine qj ?_ | refine qk ?_ | refine qn ?_) <;> (try simp (disch := first | omega | simp) [ql, -qu, -qx])) | ((with_reducible first | refine sideG ?_ ?_ | refine qr ?_ ?_ | refine sideS ?_ ?_ | refine qs ?_ ?_ | refine qt ?_ ?_ | refine sideA ?_ ?_ | refine qp ?_ ?_ | refine qq ?_ ?_); first | omega | assumption | (simp; done)) | (refine qg fun K hK => ?_) | (refine qa ?_) | (refine qb true (by kernel_rfl) (by kernel_rfl) ?_) | (refine qb false (by kernel_rfl) (by kernel_rfl) ?_) | (refine hK _ ?_; clear hK K) | (clear hK K; refine hK _ ?_; clear hK K) | (clear hK K; clear hK K; refine hK _ ?_; clear hK K) | refine qe ?_)
    all_goals first | rfl | (exfalso; omega)
  · have h2 : ¬ rows ≤ 0 := by omega
    have h3 : ¬ c.ins.length = 0 := by omega
    have h4 : ¬ (c.ins.length : Int) = 0 := by omega
    have hdv : (1099511627776 : Int).tdiv (c.ins.length : Int) = 1099511627776 / (c.ins.length : Int) := Int.tdiv_eq_ediv_of_nonneg (by omega)
    have hq0 : 0 ≤ 1099511627776 / (c.ins.length : Int) := Int.ediv_nonneg (by omega) (by omega)
    have hq1 : 1099511627776 / (c.ins.length : Int) ≤ 1099511627776 := Int.ediv_le_self _ (by omega)
    have hq2 : (c.ins.length : Int) * (1099511627776 / (c.ins.length : Int)) ≤ 1099511627776 := Int.mul_ediv_self_le (by omega)
    by_cases h5 : 1099511627776 / (c.ins.length : Int) < rows
    · have hw : workP c rows = 1099511627776 := by unfold workP; rw [if_neg z1, if_pos h5]
      rw [hw] at w1
      generalize hq : 1099511627776 / (c.ins.length : Int) = q at *
      obtain ⟨i1, y1, o1⟩ := c
      obtain ⟨i2, y2, o2⟩ := d
      simp only [List.map_cons, List.map_nil] at p1 p2
      simp only at h3 h4 hdv
      have h6 : i1 ≠ [] := fun e => h3 (by rw [e]; rfl)
      refine qm Tryd.func4 Tryd.ntmps4 rfl rfl (by decide) rfl (by intro n; simp) fun σ n0 hcl hft => ?_
      repeat' (first | ((first | ((with_reducible refine qo (fun hg => ?_) (fun hg => ?_)) <;> (try simp only [hg]) <;> (try simp only [beq_iff_eq, beq_eq_false_iff_ne, ne_eq, decide_eq_true_eq, decide_eq_false_iff_not, bne_iff_ne, bne_eq_false_iff_eq] at hg) <;> (try (first | simp only [eq_false hg, if_true, if_false] | simp only [eq_true hg, if_true, if_false]))) | (with_reducible first | refine qd ?_ | refine qc ?_ | refine qi ?_ | refine qh ?_) | refine acall (hsm) ?_ | refine qv (hsm) ?_ | refine qw (hsm) ?_ | refine acall (l1) ?_ | refine qv (l1) ?_ | refine qw (l1) ?_ | refine acall (l2) ?_ | refine qv (l2) ?_ | refine qw (l2) ?_ | refine acall (r1) ?_ | refine qv (r1) ?_ | refine qw (r1) ?_ | refine acall (r2) ?_ | refine qv (r2) ?_ | refine qw (r2) ?_ | refine acall (q1) ?_ | refine qv (q1) ?_ | refine qw (q1) ?_ | refine acall (q2) ?_ | refine qv (q2) ?_ | refine qw (q2) ?_ | refine acall (p1) ?_ | refine qv (p1) ?_ | refine qw (p1) ?_ | refine acall (p2) ?_ | refine qv (p2) ?_ | refine qw (p2) ?_ | refine acall (s1) ?_ | refine qv (s1) ?_ | refine qw (s1) ?_ | refine acall (s2) ?_ | refine qv (s2) ?_ | refine qw (s2) ?_ | refine acall (s3) ?_ | refine qv (s3) ?_ | refine qw (s3) ?_ | refine acall (w1) ?_ | refine qv (w1) ?_ | refine qw (w1) ?_ | refine qf ?_ | refine qj ?_ | refine qk ?_ | refine qn ?_) <;> (try simp (disch := first | omega | simp) [ql, -qu, -qx, h2, h3, h4, h6, hdv, h5])) | ((with_reducible first | refine sideG ?_ ?_ | refine qr ?_ ?_ | refine sideS ?_ ?_ | refine qs ?_ ?_ | refine qt ?_ ?_ | refine sideA ?_ ?_ | refine qp ?_ ?_ | refine qq ?_ ?_); first | omega | assumption | (simp; done)) | (refine qg fun K hK => ?_) | (refine qa ?_) | (refine qb true (by kernel_rfl) (by kernel_rfl) ?_) | (refine qb false (by kernel_rfl) (by kernel_rfl) ?_) | (refine hK _ ?_; clear hK K) | (clear hK K; refine hK _ ?_; clear hK K) | (clear hK K; clear hK K; refine hK _ ?_; clear hK K) | refine qe ?_)
      all_goals first | rfl | (exfalso; omega)
    · have hw := workP_eq2 c rows h2 h3 h5
      have hm0 : 0 ≤ rows * (c.ins.length : Int) := Int.mul_nonneg (by omega) (by omega)
      have hm : rows * (c.ins.length : Int) ≤ 1099511627776 := by rw [Int.mul_comm]; exact Int.le_trans (Int.mul_le_mul_of_nonneg_left (by omega) (by omega)) hq2
      rw [hw] at w1
      generalize hq : 1099511627776 / (c.ins.length : Int) = q at *
      obtain ⟨i1, y1, o1⟩ := c
      obtain ⟨i2, y2, o2⟩ := d
      simp only [List.map_cons, List.map_nil] at p1 p2
      simp only at h3 h4 hdv hm0 hm w1
      have h6 : i1 ≠ [] := fun e => h3 (by rw [e]; rfl)
      refine qm Tryd.func4 Tryd.ntmps4 rfl rfl (by decide) rfl (by intro n; simp) fun σ n0 hcl hft => ?_
      repeat' (first | ((first | ((with_reducible refine qo (fun hg => ?_) (fun hg => ?_)) <;> (try simp only [hg]) <;> (try simp only [beq_iff_eq, beq_eq_false_iff_ne, ne_eq, decide_eq_true_eq, decide_eq_false_iff_not, bne_iff_ne, bne_eq_false_iff_eq] at hg) <;> (try (first | simp only [eq_false hg, if_true, if_false] | simp only [eq_true hg, if_true, if_false]))) | (with_reducible first | refine qd ?_ | refine qc ?_ | refine qi ?_ | refine qh ?_) | refine acall (hsm) ?_ | refine qv (hsm) ?_ | refine qw (hsm) ?_ | refine acall (l1) ?_ | refine qv (l1) ?_ | refine qw (l1) ?_ | refine acall (l2) ?_ | refine qv (l2) ?_ | refine qw (l2) ?_ | refine acall (r1) ?_ | refine qv (r1) ?_ | refine qw (r1) ?_ | refine acall (r2) ?_ | refine qv (r2) ?_ | refine qw (r2) ?_ | refine acall (q1) ?_ | refine qv (q1) ?_ | refine qw (q1) ?_ | refine acall (q2) ?_ | refine qv (q2) ?_ | refine qw (q2) ?_ | refine acall (p1) ?_ | refine qv (p1) ?_ | refine qw (p1) ?_ | refine acall (p2) ?_ | refine qv (p2) ?_ | refine qw (p2) ?_ | refine acall (s1) ?_ | refine qv (s1) ?_ | refine qw (s1) ?_ | refine acall (s2) ?_ | refine qv (s2) ?_ | refine qw (s2) ?_ | refine acall (s3) ?_ | refine qv (s3) ?_ | refine qw (s3) ?_ | refine acall (w1) ?_ | refine qv (w1) ?_ | refine qw (w1) ?_ | refine qf ?_ | refine qj ?_ | refine qk ?_ | refine qn ?_) <;> (try simp (disch := first | omega | simp) [ql, -qu, -qx, h2, h3, h4, h6, hdv, h5])) | ((with_reducible first | refine sideG ?_ ?_ | refine qr ?_ ?_ | refine sideS ?_ ?_ | refine qs ?_ ?_ | refine qt ?_ ?_ | refine sideA ?_ ?_ | refine qp ?_ ?_ | refine qq ?_ ?_); first | omega | assumption | (simp; done)) | (refine qg fun K hK => ?_) | (refine qa ?_) | (refine qb true (by kernel_rfl) (by kernel_rfl) ?_) | (refine qb false (by kernel_rfl) (by kernel_rfl) ?_) | (refine hK _ ?_; clear hK K) | (clear hK K; refine hK _ ?_; clear hK K) | (clear hK K; clear hK K; refine hK _ ?_; clear hK K) | refine qe ?_)
      all_goals first | rfl | (exfalso; omega)
end Go.Proofs.YtnkakofcejkhiaaDoor

/- Layer 27: Project's contract, as the law asks for it. -/
namespace Go.Proofs.YtnkakofcejkhiaaDoor
open Go.RowKit Go.Lib
theorem proj_ok : ProjOk := fun cs cols L h1 h2 h3 h4 => Project_g cs cols L h1 h2 h3 h4
end Go.Proofs.YtnkakofcejkhiaaDoor

/- The arguments of a law, five to seven of them. -/
namespace Go.Proofs.YtnkakofcejkhiaaDoor
open Go.ChangeShapes Go.WideShapes Go.ChangeAt Go.RowKit Go.Lib
section
variable {H : Type} {enc : TypeId × Value → H} {P : Program} {w : World} {base : Nat} {spare : Nat → Bool} {held : Bool} {t0 t1 t2 t3 t4 t5 t6 : TypeId} {args : Array Value} {ds : List (DataW H)} {ps : List MemPlace}
theorem trodAll_5_02 (h : DataW.TrodAll enc P w base spare held [t0, t1, t2, t3, t4] args.toList ds ps) :
    ∃ v0 v1 v2 v3 v4 d0 d1 d2 d3 d4 p0 p1 p2 p3 p4, args = #[v0, v1, v2, v3, v4] ∧ ds = [d0, d1, d2, d3, d4] ∧ ps = p0 ++ p1 ++ p2 ++ p3 ++ p4 ∧ DataW.Trod enc P w base spare held t0 v0 d0 p0 ∧ DataW.Trod enc P w base spare held t1 v1 d1 p1 ∧ DataW.Trod enc P w base spare held t2 v2 d2 p2 ∧ DataW.Trod enc P w base spare held t3 v3 d3 p3 ∧ DataW.Trod enc P w base spare held t4 v4 d4 p4 := by
  obtain ⟨v0, vs0, d0, ds0, p0, q0, hargs, rfl, rfl, h0, r0⟩ := trodAll_cons h
  obtain ⟨v1, vs1, d1, ds1, p1, q1, rfl, rfl, rfl, h1, r1⟩ := trodAll_cons r0
  obtain ⟨v2, vs2, d2, ds2, p2, q2, rfl, rfl, rfl, h2, r2⟩ := trodAll_cons r1
  obtain ⟨v3, vs3, d3, ds3, p3, q3, rfl, rfl, rfl, h3, r3⟩ := trodAll_cons r2
  obtain ⟨v4, vs4, d4, ds4, p4, q4, rfl, rfl, rfl, h4, r4⟩ := trodAll_cons r3
  obtain ⟨rfl, rfl, rfl⟩ := trodAll_nil r4
  exact ⟨v0, v1, v2, v3, v4, d0, d1, d2, d3, d4, p0, p1, p2, p3, p4, by cases args; simp_all, rfl, by simp, h0, h1, h2, h3, h4⟩
end
end Go.Proofs.YtnkakofcejkhiaaDoor

/- The law VmTells, lifted: the row and the tied card. (Printed by gen_lift27.py.) -/
namespace Go.Proofs.YtnkakofcejkhiaaDoor
open Go.ChangeShapes Go.WideShapes Go.ChangeAt Go.RowKit Go.Lib
set_option maxRecDepth 100000 in
theorem vmTells_lifted (os : Os) (started : os.Started) (H : Type) (enc : TypeId × Value → H) :
    ReturnsInHanded {} Tryd.checked os 4 .any (fun w args => (Rows.vmTellsSpec.pre enc Tryd.prog Tryd.f4 Rows.vmTellsRow.domain false w args ∧ laidMetH Tryd.prog Rows.vmTellsRow.laid w) ∧ sizedMet enc Tryd.prog Tryd.f4 (OpenSpec.ofChange Rows.vmTellsSpec) false w args)
      (Rows.vmTellsSpec.post enc Tryd.prog Tryd.f4 false true false false) := by
  refine returnsInHanded_three (C := Tryd.checked) (X := fun w _ => laidMetH Tryd.prog Rows.vmTellsRow.laid w) Tryd.own started (by kernel_rfl) Tryd.func4
    (ChangeSpec.witness_shaped (enc := enc) (C := Tryd.checked) (os := os) (X := fun w _ => laidMetH Tryd.prog Rows.vmTellsRow.laid w) false (World.laidAll Tryd.prog os Rows.vmTellsRow.laid) #[.agg #[.slice .none 0 0, .slice .none 0 0, .int .i64 0], .agg #[.slice .none 0 0, .slice .none 0 0, .int .i64 0], .slice .none 0 0, .slice .none 0 0, .int .i64 0] 8 (World.laidAll_os _ _ _)
      (World.shaped_of_ZipB (by kernel_rfl) (by kernel_rfl)) (by kernel_rfl) (by kernel_rfl) (by kernel_rfl)
      (by rw [MakeChecks.laidMetH_plain _ _ _ (by kernel_rfl)]; exact laidMet_laidAll _ (by kernel_rfl) (by kernel_rfl)))
    (fun w w' us hh hX => by rw [MakeChecks.laidMetH_plain _ _ _ (by kernel_rfl)] at hX ⊢; exact laidMet.of_heap hh hX) ?_
  intro W base args ds gs before hval0 hW _ hsh hlaid
  rw [MakeChecks.laidMetH_plain _ _ _ (by kernel_rfl)] at hlaid
  have hglob := glob27 hlaid (by simp [Rows.vmTellsRow])
  have hval : ∀ (j : Nat) t v, Tryd.f4.params[j]? = some t → args[j]? = some v → Value.okWide Tryd.prog W .any base t v := hval0
  have hW' := hW
  obtain ⟨p, q, hA0, hV, rfl, hfz, hnd⟩ := hW
  have hA : DataW.TrodAll enc Tryd.prog W 0 (fun _ => true) true Tryd.f4.params.toList args.toList ds p := hA0
  rw [Tryd.params4] at hA hval
  obtain ⟨v0, v1, v2, v3, v4, d0, d1, d2, d3, d4, p0, p1, p2, p3, p4, rfl, rfl, rfl, h0, h1, h2, h3, h4⟩ := trodAll_5_02 hA
  obtain ⟨rfl, rfl⟩ := trodVars_none hV
  obtain ⟨x0, cs0, rfl, r0⟩ := par_st Tryd.underlying25 (hval 0 _ v0 rfl rfl) h0 trods_cod
  obtain ⟨x1, cs1, rfl, r1⟩ := par_st Tryd.underlying25 (hval 1 _ v1 rfl rfl) h1 trods_cod
  obtain ⟨x2, r2⟩ := par_sl Tryd.underlying23 (hval 2 _ v2 rfl rfl) h2 trods_ints27
  obtain ⟨x3, r3⟩ := par_sl Tryd.underlying26 (hval 3 _ v3 rfl rfl) h3 trods_deltas
  obtain ⟨x4, rfl, r4⟩ := par_intR Tryd.underlying3 (hval 4 _ v4 rfl rfl)
  refine (calls_of_gives (vals := [.agg cs0.toArray, .agg cs1.toArray, v2, v3, .int .i64 x4]) (vmTells_g proj_ok x0 x1 x2 x3 x4 (by omega)) ⟨_, _, rfl, Cod.flat r0, _, _, rfl, Cod.flat r1, _, _, rfl, ints_flat27 r2, _, _, rfl, Delta.flats r3, _, _, rfl, flat_int02, rfl⟩ hglob).mono ?_
  rintro r W' ⟨rfl, hb⟩
  exact ⟨_, rfl, law_post (P := Tryd.prog) Tryd.laidOut hW' rfl rfl (by kernel_rfl) Tryd.underlying4 (by kernel_rfl) hb⟩
theorem vmTells_row : Rows.VmTellsSaid :=
  OpenClaim.holds_of_wide 4 Tryd.f4 rfl rfl rfl rfl rfl rfl rfl ⟨rfl, rfl, rfl, rfl, rfl⟩ rfl rfl rfl rfl rfl (by kernel_rfl) Tryd.func4 (by kernel_rfl)
    (of_decide_eq_true (by kernel_rfl)) (by unfold Func.isWrapper; first | (rw [if_pos (by decide +kernel)]; kernel_rfl) | (rw [if_neg (by decide +kernel)]; exact ⟨rfl, rfl⟩))
    (fun os started H enc _ => vmTells_lifted os started H enc)
theorem vmTells_holds : Rows.VmTellsCardSaid :=
  Claim7.holds_tied_plain_at .later [] [.widerDeep] true (true, "65dcd1e851a4a643e71e0489e62c6c9ef66f53aebf533bd787cc632c7430e736") false vmTells_row (fun _ h => by cases h) (by kernel_rfl) (fun _ h => by cases h) vmTells_row_tie rfl ⟨rfl, rfl⟩ (by kernel_rfl) rfl
    (fun f fn hf hfn => by
      obtain rfl : f = 4 := Option.some.inj ((show Tryd.prog.funcNamed "errata/erratalaw27.VmTells" = some 4 by kernel_rfl).symm.trans hf) |>.symm
      obtain rfl : fn = Tryd.f4 := (Option.some.inj (Tryd.func4.symm.trans hfn)).symm
      exact ⟨by kernel_rfl, fun j t ht => by
        rw [Tryd.params4] at ht
        have hm : t ∈ [25, 25, 23, 26, 3] := by simpa using Array.mem_of_getElem? ht
        have hall : ([25, 25, 23, 26, 3].all fun u => !Tryd.prog.wantsStandIn u) = true := by kernel_rfl
        exact (show Tryd.prog.wantsStandIn t = false by simpa using List.all_eq_true.1 hall t hm)⟩)
    (by kernel_rfl)
end Go.Proofs.YtnkakofcejkhiaaDoor
