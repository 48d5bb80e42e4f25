/- Walk of layer 25's reference: Reads. -/
import Derived.Test.YtgpcpmfdklpifaaGreatDoorGa13
import Derived.Test.YtgpcpmfdklpifaaGreatDoorGa14
import Derived.Test.YtgpcpmfdklpifaaGreatDoorGa17
import Derived.Test.YtgpcpmfdklpifaaGreatDoorGa20
import Derived.Test.YtgpcpmfdklpifaaGreatDoorGa28
import Derived.Test.YtgpcpmfdklpifaaGreatDoorGa29
import Derived.Test.YtgpcpmfdklpifaaGreatDoorGa30
import Derived.Test.YtgpcpmfdklpifaaGreatDoorGa31
import Derived.Test.YtgpcpmfdklpifaaGreatDoorGa32
set_option linter.unusedSimpArgs false
set_option linter.unusedVariables false
namespace Go.Proofs.YtgpcpmfdklpifaaGreatDoor
open Go.RowKit Go.Lib
set_option maxHeartbeats 8000000 in
theorem rreads25_g (c : Cod) (hc : c.ins.length ≤ 1000000) : Gives Tryz.prog 23 [c.av] (.sl ((qbw c).map AV.int)) := by
  rw [← creads_add]
  obtain ⟨ins, types, out⟩ := c
  simp only at *
  refine qn Tryz.func23 Tryz.ntmps23 rfl rfl (by decide) rfl (by intro n; simp) fun σ n0 hcl hft => ?_
  repeat' (first | ((first | ((with_reducible refine qo (fun hg => ?_) (fun hg => ?_)) <;> (try simp only [hg]) <;> (try simp only [gS] at hg) <;> (try (first | simp only [eq_false hg, gI] | simp only [eq_true hg, gI]))) | (with_reducible first | refine qc ?_ | refine qb ?_ | refine qi ?_ | refine qh ?_) | refine qe ?_ | refine qj ?_ | refine qk ?_ | refine qm ?_) <;> (try simp (disch := first | omega | simp) [qg, -qq, -qs])) | ((with_reducible refine sideT ?_ ?_); first | omega | assumption | (simp; done)) | (refine qf fun K hK => ?_) | (refine qa ?_) | refine ql ?_ | ((first | refine hK _ ?_ | (clear hK K; refine hK _ ?_) | (clear hK K; clear hK K; refine hK _ ?_)); clear hK K) | refine qd ?_)
  refine awp_nilR 3 (by simp) ?_
  refine qr hcl (fun i : Nat => [(1, .ptr n0 0), (3, .sl ((qcf [] (colsI (ins.take i))).map AV.int)), (4, .int i)]) (fun _ => [.cells [.sl (ins.map Ins.av), .sl (types.map AV.int), .int out] 25])
    (fun i => i ≤ ins.length) (fun i => ins.length - i) 0 (by omega) (by simp [colsI, qcf]) fun i hi => ?_
  by_cases hlt : i < ins.length
  · have htk : colsI (ins.take (i + 1)) = colsI (ins.take i) ++ (if ins[i].op = 3 then [ins[i].n] else []) := by
      unfold colsI
      rw [List.take_succ_eq_append_getElem hlt, List.filter_append, List.map_append]
      by_cases h : ins[i].op = 3 <;> simp [h]
    have hLl : (qcf [] (colsI (ins.take i))).length ≤ 1000000 := by
      have h1 := addAll_len (colsI (ins.take i)) []
      have h2 := colsI_len (ins.take i)
      rw [List.length_take] at h2
      simp at h1; omega
    by_cases h3 : ins[i].op = 3
    · have hA : qcf [] (colsI (ins.take (i + 1))) = withP (qcf [] (colsI (ins.take i))) ins[i].n := by
        rw [htk, if_pos h3]
        unfold qcf
        rw [List.foldl_append]; rfl
      have h3b : (ins[i].op != 3) = false := by rw [h3]; rfl
      generalize qcf [] (colsI (ins.take i)) = l at *
      generalize hn : ins[i].n = n at *
      obtain ⟨R, hR⟩ : ∃ R, R = withP l n := ⟨_, rfl⟩
      rw [← hR] at hA
      have w1 : ∀ k, AV.wid (List.take k (l.map AV.int)) 1 := fun k => AV.wid_take (AV.wid_ints l) k
      have w2 : ∀ k, AV.wid (List.drop k (l.map AV.int)) 1 := fun k => AV.wid_drop (AV.wid_ints l) k
      have w3 : ∀ k, AV.elms (List.take k (l.map AV.int)) := fun k y hy => AV.elms_ints l y (List.mem_of_mem_take hy)
      have w4 : ∀ k, AV.elms (List.drop k (l.map AV.int)) := fun k y hy => AV.elms_ints l y (List.mem_of_mem_drop hy)
      have t0 : List.take l.length (l.map AV.int) = l.map AV.int := List.take_of_length_le (by simp)
      have hend : ∃ b', b' ≤ ins.length ∧ ins.length - b' < ins.length - i ∧ R.map AV.int = (qcf [] (colsI (ins.take b'))).map AV.int ∧ (i : Int) + 1 = b' := ⟨i + 1, by omega, by omega, by rw [hA], by omega⟩
      repeat' (first | ((first | ((with_reducible refine qo (fun hg => ?_) (fun hg => ?_)) <;> (try simp only [hg]) <;> (try simp only [gS] at hg) <;> (try (first | simp only [eq_false hg, gI] | simp only [eq_true hg, gI]))) | (with_reducible first | refine qc ?_ | refine qb ?_ | refine qi ?_ | refine qh ?_) | refine qe ?_ | refine qj ?_ | refine qk ?_ | refine qm ?_) <;> (try simp (disch := first | omega | simp) [qg, -qq, -qs, hlt, h3, h3b, hn])) | ((with_reducible refine sideT ?_ ?_); first | omega | assumption | (simp; done)) | (refine qf fun K hK => ?_) | (refine qa ?_) | refine ql ?_ | ((first | refine hK _ ?_ | (clear hK K; refine hK _ ?_) | (clear hK K; clear hK K; refine hK _ ?_)); clear hK K) | refine qd ?_)
      refine qr hcl (fun k : Nat => [(1, .ptr n0 0), (3, .sl (l.map AV.int)), (4, .int i), (5, .int n), (6, .int k)]) (fun _ => [.cells [.sl (ins.map Ins.av), .sl (types.map AV.int), .int out] 25])
        (fun k => k ≤ l.length ∧ ∀ j (h : j < l.length), j < k → l[j] < n) (fun k => l.length - k) 0 ⟨by omega, fun j h hj => by omega⟩ (by first | (simp; done) | simp [hn]) fun k ⟨hk, he⟩ => ?_
      by_cases hlt2 : k < l.length
      · by_cases hx : l[k] < n
        · repeat' (first | ((first | ((with_reducible refine qo (fun hg => ?_) (fun hg => ?_)) <;> (try simp only [hg]) <;> (try simp only [gS] at hg) <;> (try (first | simp only [eq_false hg, gI] | simp only [eq_true hg, gI]))) | (with_reducible first | refine qc ?_ | refine qb ?_ | refine qi ?_ | refine qh ?_) | refine qe ?_ | refine qj ?_ | refine qk ?_ | refine qm ?_) <;> (try simp (disch := first | omega | simp) [qg, -qq, -qs, hlt2, hx])) | ((with_reducible refine sideT ?_ ?_); first | omega | assumption | (simp; done)) | (refine qf fun K hK => ?_) | (refine qa ?_) | refine ql ?_ | ((first | refine hK _ ?_ | (clear hK K; refine hK _ ?_) | (clear hK K; clear hK K; refine hK _ ?_)); clear hK K) | refine qd ?_)
          refine ⟨k + 1, ⟨by omega, fun j h hj => ?_⟩, by omega, by omega⟩
          by_cases hjk : j < k
          · exact he j h hjk
          · obtain rfl : j = k := by omega
            exact hx
        · have hw := withP_at n l k hk he (fun _ => hx)
          rw [dif_pos hlt2] at hw
          by_cases hy : l[k] = n
          · obtain rfl : l = R := by rw [hR, hw, if_pos hy]
            have hyb : (l[k] == n) = true := by simpa using hy
            repeat' (first | ((first | ((with_reducible refine qo (fun hg => ?_) (fun hg => ?_)) <;> (try simp only [hg]) <;> (try simp only [gS] at hg) <;> (try (first | simp only [eq_false hg, gI] | simp only [eq_true hg, gI]))) | (with_reducible first | refine qc ?_ | refine qb ?_ | refine qi ?_ | refine qh ?_) | refine qe ?_ | refine qj ?_ | refine qk ?_ | refine qm ?_) <;> (try simp (disch := first | omega | simp) [qg, -qq, -qs, hlt2, hx, hy, hyb, w1, w2, w3, w4, t0])) | ((with_reducible refine sideT ?_ ?_); first | omega | assumption | (simp; done)) | (refine qf fun K hK => ?_) | (refine qa ?_) | refine ql ?_ | ((first | refine hK _ ?_ | (clear hK K; refine hK _ ?_) | (clear hK K; clear hK K; refine hK _ ?_)); clear hK K) | refine qd ?_)
            all_goals first | exact hend | exact absurd hy (by assumption)
          · have hyb : (l[k] == n) = false := by simpa using hy
            obtain rfl : R = l.take k ++ [n] ++ l.drop k := by rw [hR, hw, if_neg hy]
            simp only [List.map_append, List.map_take, List.map_drop, List.map_cons, List.map_nil] at hend
            repeat' (first | ((first | ((with_reducible refine qo (fun hg => ?_) (fun hg => ?_)) <;> (try simp only [hg]) <;> (try simp only [gS] at hg) <;> (try (first | simp only [eq_false hg, gI] | simp only [eq_true hg, gI]))) | (with_reducible first | refine qc ?_ | refine qb ?_ | refine qi ?_ | refine qh ?_) | refine awp_pubR 3 (by rfl) ?_ | refine qe ?_ | refine qj ?_ | refine qk ?_ | refine qm ?_) <;> (try simp (disch := first | omega | simp) [qg, -qq, -qs, hlt2, hx, hy, hyb, w1, w2, w3, w4, t0])) | (with_reducible refine awp_anyQ (id := 14) [] 0 [.W, .R, .R, .R, .W, .R, .R, .W, .R, .R, .R, .W, .R] (by kernel_rfl) (by kernel_rfl) (by simp) ?_) | ((with_reducible refine sideT ?_ ?_); first | omega | assumption | (simp; done)) | (refine qf fun K hK => ?_) | (refine qa ?_) | refine ql ?_ | ((first | refine hK _ ?_ | (clear hK K; refine hK _ ?_) | (clear hK K; clear hK K; refine hK _ ?_)); clear hK K) | refine qd ?_)
            all_goals first | exact absurd (by assumption) hy | exact hend | simpa using hend
      · have hw := withP_at n l k hk he (fun h => absurd h hlt2)
        rw [dif_neg hlt2] at hw
        obtain rfl : k = l.length := by omega
        obtain rfl : R = l ++ [n] := by rw [hR, hw]
        simp only [List.map_append, List.map_cons, List.map_nil] at hend
        have t1 : List.drop l.length (l.map AV.int) = [] := List.drop_eq_nil_of_le (by simp)
        repeat' (first | ((first | ((with_reducible refine qo (fun hg => ?_) (fun hg => ?_)) <;> (try simp only [hg]) <;> (try simp only [gS] at hg) <;> (try (first | simp only [eq_false hg, gI] | simp only [eq_true hg, gI]))) | (with_reducible first | refine qc ?_ | refine qb ?_ | refine qi ?_ | refine qh ?_) | refine awp_pubR 3 (by rfl) ?_ | refine qe ?_ | refine qj ?_ | refine qk ?_ | refine qm ?_) <;> (try simp (disch := first | omega | simp) [qg, -qq, -qs, hlt2, w1, w2, w3, w4, t0, t1])) | (with_reducible refine awp_anyQ (id := 14) [] 0 [.W, .R, .R, .R, .W, .R, .R, .W, .R, .R, .R, .W, .R] (by kernel_rfl) (by kernel_rfl) (by simp) ?_) | ((with_reducible refine sideT ?_ ?_); first | omega | assumption | (simp; done)) | (refine qf fun K hK => ?_) | (refine qa ?_) | refine ql ?_ | ((first | refine hK _ ?_ | (clear hK K; refine hK _ ?_) | (clear hK K; clear hK K; refine hK _ ?_)); clear hK K) | refine qd ?_)
        all_goals first | exact hend | simpa using hend
    · rw [if_neg h3, List.append_nil] at htk
      have h3b : (ins[i].op != 3) = true := by simpa using h3
      repeat' (first | ((first | ((with_reducible refine qo (fun hg => ?_) (fun hg => ?_)) <;> (try simp only [hg]) <;> (try simp only [gS] at hg) <;> (try (first | simp only [eq_false hg, gI] | simp only [eq_true hg, gI]))) | (with_reducible first | refine qc ?_ | refine qb ?_ | refine qi ?_ | refine qh ?_) | refine qe ?_ | refine qj ?_ | refine qk ?_ | refine qm ?_) <;> (try simp (disch := first | omega | simp) [qg, -qq, -qs, hlt, h3, h3b])) | ((with_reducible refine sideT ?_ ?_); first | omega | assumption | (simp; done)) | (refine qf fun K hK => ?_) | (refine qa ?_) | refine ql ?_ | ((first | refine hK _ ?_ | (clear hK K; refine hK _ ?_) | (clear hK K; clear hK K; refine hK _ ?_)); clear hK K) | refine qd ?_)
      all_goals first | exact absurd (by assumption) h3 | exact ⟨i + 1, by omega, by omega, by rw [htk], by omega⟩
  · obtain rfl : i = ins.length := by omega
    rw [List.take_length]
    repeat' (first | ((first | ((with_reducible refine qo (fun hg => ?_) (fun hg => ?_)) <;> (try simp only [hg]) <;> (try simp only [gS] at hg) <;> (try (first | simp only [eq_false hg, gI] | simp only [eq_true hg, gI]))) | (with_reducible first | refine qc ?_ | refine qb ?_ | refine qi ?_ | refine qh ?_) | refine qe ?_ | refine qj ?_ | refine qk ?_ | refine qm ?_) <;> (try simp (disch := first | omega | simp) [qg, -qq, -qs, hlt])) | ((with_reducible refine sideT ?_ ?_); first | omega | assumption | (simp; done)) | (refine qf fun K hK => ?_) | (refine qa ?_) | refine ql ?_ | ((first | refine hK _ ?_ | (clear hK K; refine hK _ ?_) | (clear hK K; clear hK K; refine hK _ ?_)); clear hK K) | refine qd ?_)
end Go.Proofs.YtgpcpmfdklpifaaGreatDoor

/- The check of a drawn region with each ancestor listed once: regions with many guards. -/
namespace Go.Proofs.YtgpcpmfdklpifaaGreatDoor
open Go.RowKit Go.Lib
end Go.Proofs.YtgpcpmfdklpifaaGreatDoor

/- Walk of the law CodeTells, given the examples. -/
namespace Go.Proofs.YtgpcpmfdklpifaaGreatDoor
open Go.RowKit Go.Lib
theorem few_ok {c : Cod} (h : fewB c = true) : c.ins.length ≤ 60 ∧ c.types.length ≤ 60 := by
  unfold fewB at h
  simp only [Bool.and_eq_true, decide_eq_true_eq] at h
  exact h.2
theorem creads_len (c : Cod) : (qbw c).length ≤ c.ins.length := by
  unfold qbw
  refine Nat.le_trans (Lib.compact_length_le _) ?_
  rw [List.length_mergeSort]
  exact colsI_len _
set_option maxRecDepth 100000 in
set_option maxHeartbeats 8000000 in
theorem codeTells_g (hsm : Gives Tryz.prog 7 [] (.bool true)) (c : Cod) (cols : List Int) : Gives Tryz.prog 6 [c.av, .sl (cols.map AV.int)] (.bool true) := by
  have c1 := few_g c
  cases hb : fewB c
  · rw [hb] at c1
    obtain ⟨ins, types, out⟩ := c
    refine qn Tryz.func6 Tryz.ntmps6 rfl rfl (by decide) rfl (by intro n; simp) fun σ n0 hcl hft => ?_
    repeat' (first | ((first | ((with_reducible refine qo (fun hg => ?_) (fun hg => ?_)) <;> (try simp only [hg]) <;> (try simp only [gS] at hg) <;> (try (first | simp only [eq_false hg, gI] | simp only [eq_true hg, gI]))) | (with_reducible first | refine qc ?_ | refine qb ?_ | refine qi ?_ | refine qh ?_) | refine acall (hsm) ?_ | refine qp (hsm) ?_ | refine acall (c1) ?_ | refine qp (c1) ?_ | refine qe ?_ | refine qj ?_ | refine qk ?_ | refine qm ?_) <;> (try simp (disch := first | omega | simp) [qg, -qq, -qs])) | ((with_reducible refine sideT ?_ ?_); first | omega | assumption | (simp; done)) | (refine qf fun K hK => ?_) | (refine qa ?_) | refine ql ?_ | ((first | refine hK _ ?_ | (clear hK K; refine hK _ ?_) | (clear hK K; clear hK K; refine hK _ ?_)); clear hK K) | refine qd ?_)
  rw [hb] at c1
  obtain ⟨hi, ht⟩ := few_ok hb
  by_cases h12 : cols.length ≤ 12
  · have h12a : ¬ (12 : Int) < cols.length := by omega
    have c2 := qds c cols (by omega)
    have c3 := rverify_g c cols (by omega)
    have c4 := creads_g c (by omega)
    have c5 := rreads25_g c (by omega)
    have c6 := ints25_g (qbw c) (by have := creads_len c; omega)
    have hopl : ∀ x : Ins, (opsP x).length ≤ 3 := ops_le3
    have hops : ∀ x : Ins, Gives Tryz.prog 10 [x.av] (.sl ((opsP x).map AV.int)) := ops_g
    have hrops : ∀ x : Ins, Gives Tryz.prog 24 [x.av] (.sl ((opsP x).map AV.int)) := rops_g
    have hints : ∀ x : Ins, Gives Tryz.prog 22 [.sl ((opsP x).map AV.int), .sl ((opsP x).map AV.int)] (.bool true) := fun x => ints25_g _ (by have := ops_le3 x; omega)
    generalize opsP = ops at *
    by_cases hv : (verP c cols).2 = 0
    · have h := verP_ok.1 hv
      obtain ⟨ht2, -, -⟩ := trim_ok h 0 []
      obtain ⟨hd2, -, -⟩ := comp_ok h 0 []
      have d1 := needed_g h
      have d2 := rneeded_g h
      have d3 := trim_g h
      have d4 := rtrim_g h
      have d5 := compact_g h
      have d6 := rcompact_g h
      have d7 := psame25_g (trimP c) (by have := ht2.ni; omega) (by have := ht2.nt; omega)
      have d8 := psame25_g (compP c) (by have := hd2.ni; omega) (by have := hd2.nt; omega)
      have hN : (needP (qt c) (rootC c)).length = c.ins.length := by rw [needP_len]; unfold qt; exact qx _ _ _
      rw [hv] at c2 c3
      clear hv h ht2 hd2
      generalize needP (qt c) (rootC c) = need at *
      generalize (verP c cols).1 = p at *
      generalize qbw c = G at *
      generalize trimP c = t at *
      generalize compP c = d at *
      obtain ⟨ins, types, out⟩ := c
      obtain ⟨tins, ttypes, tout⟩ := t
      obtain ⟨dins, dtypes, dout⟩ := d
      simp only at *
      have hNi : (need.length : Int) = ins.length := by omega
      have e0 : (p != p) = false := by simp
      refine qn Tryz.func6 Tryz.ntmps6 rfl rfl (by decide) rfl (by intro n; simp) fun σ n0 hcl hft => ?_
      repeat' (first | ((first | ((with_reducible refine qo (fun hg => ?_) (fun hg => ?_)) <;> (try simp only [hg]) <;> (try simp only [gS] at hg) <;> (try (first | simp only [eq_false hg, gI] | simp only [eq_true hg, gI]))) | (with_reducible first | refine qc ?_ | refine qb ?_ | refine qi ?_ | refine qh ?_) | refine acall (hsm) ?_ | refine qp (hsm) ?_ | refine acall (c1) ?_ | refine qp (c1) ?_ | refine acall (c2) ?_ | refine qp (c2) ?_ | refine acall (c3) ?_ | refine qp (c3) ?_ | refine acall (c4) ?_ | refine qp (c4) ?_ | refine acall (c5) ?_ | refine qp (c5) ?_ | refine acall (c6) ?_ | refine qp (c6) ?_ | refine qe ?_ | refine qj ?_ | refine qk ?_ | refine qm ?_) <;> (try simp (disch := first | omega | simp) [qg, -qq, -qs, h12a, e0])) | ((with_reducible refine sideT ?_ ?_); first | omega | assumption | (simp; done)) | (refine qf fun K hK => ?_) | (refine qa ?_) | refine ql ?_ | ((first | refine hK _ ?_ | (clear hK K; refine hK _ ?_) | (clear hK K; clear hK K; refine hK _ ?_)); clear hK K) | refine qd ?_)
      refine qr hcl (fun k : Nat => [(2, .ptr n0 0), (5, .bool true), (7, .int 0), (10, .int k)]) (fun _ => [.cells [.sl (ins.map Ins.av), .sl (types.map AV.int), .int out] 25])
        (fun k => k ≤ ins.length) (fun k => ins.length - k) 0 (by omega) (by simp) fun k hk => ?_
      by_cases hlt : k < ins.length
      · repeat' (first | ((first | ((with_reducible refine qo (fun hg => ?_) (fun hg => ?_)) <;> (try simp only [hg]) <;> (try simp only [gS] at hg) <;> (try (first | simp only [eq_false hg, gI] | simp only [eq_true hg, gI]))) | (with_reducible first | refine qc ?_ | refine qb ?_ | refine qi ?_ | refine qh ?_) | refine acall (hops ins[k]) ?_ | refine qp (hops ins[k]) ?_ | refine acall (hrops ins[k]) ?_ | refine qp (hrops ins[k]) ?_ | refine acall (hints ins[k]) ?_ | refine qp (hints ins[k]) ?_ | refine qe ?_ | refine qj ?_ | refine qk ?_ | refine qm ?_) <;> (try simp (disch := first | omega | simp) [qg, -qq, -qs, hlt])) | ((with_reducible refine sideT ?_ ?_); first | omega | assumption | (simp; done)) | (refine qf fun K hK => ?_) | (refine qa ?_) | refine ql ?_ | ((first | refine hK _ ?_ | (clear hK K; refine hK _ ?_) | (clear hK K; clear hK K; refine hK _ ?_)); clear hK K) | refine qd ?_)
        exact ⟨k + 1, by omega, by omega, by simp⟩
      · repeat' (first | ((first | ((with_reducible refine qo (fun hg => ?_) (fun hg => ?_)) <;> (try simp only [hg]) <;> (try simp only [gS] at hg) <;> (try (first | simp only [eq_false hg, gI] | simp only [eq_true hg, gI]))) | (with_reducible first | refine qc ?_ | refine qb ?_ | refine qi ?_ | refine qh ?_) | refine acall (d1) ?_ | refine qp (d1) ?_ | refine acall (d2) ?_ | refine qp (d2) ?_ | refine qe ?_ | refine qj ?_ | refine qk ?_ | refine qm ?_) <;> (try simp (disch := first | omega | simp) [qg, -qq, -qs, hlt])) | ((with_reducible refine sideT ?_ ?_); first | omega | assumption | (simp; done)) | (refine qf fun K hK => ?_) | (refine qa ?_) | refine ql ?_ | ((first | refine hK _ ?_ | (clear hK K; refine hK _ ?_) | (clear hK K; clear hK K; refine hK _ ?_)); clear hK K) | refine qd ?_)
        refine qr hcl (fun k : Nat => [(2, .ptr n0 0), (5, .bool true), (11, .sl (need.map AV.bool)), (12, .sl (need.map AV.bool)), (13, .int k)]) (fun _ => [.cells [.sl (ins.map Ins.av), .sl (types.map AV.int), .int out] 25])
          (fun k => k ≤ ins.length) (fun k => ins.length - k) 0 (by omega) (by simp) fun k hk => ?_
        by_cases hlt2 : k < ins.length
        · have hlt3 : k < need.length := by omega
          have hq : (need[k] != need[k]) = false := by simp
          repeat' (first | ((first | ((with_reducible refine qo (fun hg => ?_) (fun hg => ?_)) <;> (try simp only [hg]) <;> (try simp only [gS] at hg) <;> (try (first | simp only [eq_false hg, gI] | simp only [eq_true hg, gI]))) | (with_reducible first | refine qc ?_ | refine qb ?_ | refine qi ?_ | refine qh ?_) | refine qe ?_ | refine qj ?_ | refine qk ?_ | refine qm ?_) <;> (try simp (disch := first | omega | simp) [qg, -qq, -qs, hlt2, hlt3, hNi, hN, hq])) | ((with_reducible refine sideT ?_ ?_); first | omega | assumption | (simp; done)) | (refine qf fun K hK => ?_) | (refine qa ?_) | refine ql ?_ | ((first | refine hK _ ?_ | (clear hK K; refine hK _ ?_) | (clear hK K; clear hK K; refine hK _ ?_)); clear hK K) | refine qd ?_)
          exact ⟨k + 1, by omega, by omega, by simp⟩
        · repeat' (first | ((first | ((with_reducible refine qo (fun hg => ?_) (fun hg => ?_)) <;> (try simp only [hg]) <;> (try simp only [gS] at hg) <;> (try (first | simp only [eq_false hg, gI] | simp only [eq_true hg, gI]))) | (with_reducible first | refine qc ?_ | refine qb ?_ | refine qi ?_ | refine qh ?_) | refine acall (d3) ?_ | refine qp (d3) ?_ | refine acall (d4) ?_ | refine qp (d4) ?_ | refine acall (d5) ?_ | refine qp (d5) ?_ | refine acall (d6) ?_ | refine qp (d6) ?_ | refine acall (d7) ?_ | refine qp (d7) ?_ | refine acall (d8) ?_ | refine qp (d8) ?_ | refine qe ?_ | refine qj ?_ | refine qk ?_ | refine qm ?_) <;> (try simp (disch := first | omega | simp) [qg, -qq, -qs, hlt2])) | ((with_reducible refine sideT ?_ ?_); first | omega | assumption | (simp; done)) | (refine qf fun K hK => ?_) | (refine qa ?_) | refine ql ?_ | ((first | refine hK _ ?_ | (clear hK K; refine hK _ ?_) | (clear hK K; clear hK K; refine hK _ ?_)); clear hK K) | refine qd ?_)
    · generalize verP c cols = V at *
      obtain ⟨p, q⟩ := V
      generalize qbw c = G at *
      obtain ⟨ins, types, out⟩ := c
      simp only at *
      have e0 : (p != p) = false := by simp
      have e1 : (q != q) = false := by simp
      have e2 : (q != 0) = true := by simpa using hv
      refine qn Tryz.func6 Tryz.ntmps6 rfl rfl (by decide) rfl (by intro n; simp) fun σ n0 hcl hft => ?_
      repeat' (first | ((first | ((with_reducible refine qo (fun hg => ?_) (fun hg => ?_)) <;> (try simp only [hg]) <;> (try simp only [gS] at hg) <;> (try (first | simp only [eq_false hg, gI] | simp only [eq_true hg, gI]))) | (with_reducible first | refine qc ?_ | refine qb ?_ | refine qi ?_ | refine qh ?_) | refine acall (hsm) ?_ | refine qp (hsm) ?_ | refine acall (c1) ?_ | refine qp (c1) ?_ | refine acall (c2) ?_ | refine qp (c2) ?_ | refine acall (c3) ?_ | refine qp (c3) ?_ | refine acall (c4) ?_ | refine qp (c4) ?_ | refine acall (c5) ?_ | refine qp (c5) ?_ | refine acall (c6) ?_ | refine qp (c6) ?_ | refine qe ?_ | refine qj ?_ | refine qk ?_ | refine qm ?_) <;> (try simp (disch := first | omega | simp) [qg, -qq, -qs, h12a, e0, e1])) | ((with_reducible refine sideT ?_ ?_); first | omega | assumption | (simp; done)) | (refine qf fun K hK => ?_) | (refine qa ?_) | refine ql ?_ | ((first | refine hK _ ?_ | (clear hK K; refine hK _ ?_) | (clear hK K; clear hK K; refine hK _ ?_)); clear hK K) | refine qd ?_)
      refine qr hcl (fun k : Nat => [(2, .ptr n0 0), (5, .bool true), (7, .int q), (10, .int k)]) (fun _ => [.cells [.sl (ins.map Ins.av), .sl (types.map AV.int), .int out] 25])
        (fun k => k ≤ ins.length) (fun k => ins.length - k) 0 (by omega) (by simp) fun k hk => ?_
      by_cases hlt : k < ins.length
      · repeat' (first | ((first | ((with_reducible refine qo (fun hg => ?_) (fun hg => ?_)) <;> (try simp only [hg]) <;> (try simp only [gS] at hg) <;> (try (first | simp only [eq_false hg, gI] | simp only [eq_true hg, gI]))) | (with_reducible first | refine qc ?_ | refine qb ?_ | refine qi ?_ | refine qh ?_) | refine acall (hops ins[k]) ?_ | refine qp (hops ins[k]) ?_ | refine acall (hrops ins[k]) ?_ | refine qp (hrops ins[k]) ?_ | refine acall (hints ins[k]) ?_ | refine qp (hints ins[k]) ?_ | refine qe ?_ | refine qj ?_ | refine qk ?_ | refine qm ?_) <;> (try simp (disch := first | omega | simp) [qg, -qq, -qs, hlt])) | ((with_reducible refine sideT ?_ ?_); first | omega | assumption | (simp; done)) | (refine qf fun K hK => ?_) | (refine qa ?_) | refine ql ?_ | ((first | refine hK _ ?_ | (clear hK K; refine hK _ ?_) | (clear hK K; clear hK K; refine hK _ ?_)); clear hK K) | refine qd ?_)
        exact ⟨k + 1, by omega, by omega, by simp⟩
      · repeat' (first | ((first | ((with_reducible refine qo (fun hg => ?_) (fun hg => ?_)) <;> (try simp only [hg]) <;> (try simp only [gS] at hg) <;> (try (first | simp only [eq_false hg, gI] | simp only [eq_true hg, gI]))) | (with_reducible first | refine qc ?_ | refine qb ?_ | refine qi ?_ | refine qh ?_) | refine qe ?_ | refine qj ?_ | refine qk ?_ | refine qm ?_) <;> (try simp (disch := first | omega | simp) [qg, -qq, -qs, hlt, e2, hv])) | ((with_reducible refine sideT ?_ ?_); first | omega | assumption | (simp; done)) | (refine qf fun K hK => ?_) | (refine qa ?_) | refine ql ?_ | ((first | refine hK _ ?_ | (clear hK K; refine hK _ ?_) | (clear hK K; clear hK K; refine hK _ ?_)); clear hK K) | refine qd ?_)
  · have h12a : (12 : Int) < cols.length := by omega
    obtain ⟨ins, types, out⟩ := c
    refine qn Tryz.func6 Tryz.ntmps6 rfl rfl (by decide) rfl (by intro n; simp) fun σ n0 hcl hft => ?_
    repeat' (first | ((first | ((with_reducible refine qo (fun hg => ?_) (fun hg => ?_)) <;> (try simp only [hg]) <;> (try simp only [gS] at hg) <;> (try (first | simp only [eq_false hg, gI] | simp only [eq_true hg, gI]))) | (with_reducible first | refine qc ?_ | refine qb ?_ | refine qi ?_ | refine qh ?_) | refine acall (hsm) ?_ | refine qp (hsm) ?_ | refine acall (c1) ?_ | refine qp (c1) ?_ | refine qe ?_ | refine qj ?_ | refine qk ?_ | refine qm ?_) <;> (try simp (disch := first | omega | simp) [qg, -qq, -qs, h12a])) | ((with_reducible refine sideT ?_ ?_); first | omega | assumption | (simp; done)) | (refine qf fun K hK => ?_) | (refine qa ?_) | refine ql ?_ | ((first | refine hK _ ?_ | (clear hK K; refine hK _ ?_) | (clear hK K; clear hK K; refine hK _ ?_)); clear hK K) | refine qd ?_)
end Go.Proofs.YtgpcpmfdklpifaaGreatDoor

/- The law CodeTells, lifted: the row and the tied card. (Printed by gen_lift27.py.) -/
namespace Go.Proofs.YtgpcpmfdklpifaaGreatDoor
open Go.ChangeShapes Go.WideShapes Go.ChangeAt Go.RowKit Go.Lib
set_option maxRecDepth 100000 in
theorem codeTells_lifted (os : Os) (started : os.Started) (H : Type) (enc : TypeId × Value → H) :
    ReturnsInHanded {} Tryz.checked os 6 .any (fun w args => (Rows.codeTellsSpec.pre enc Tryz.prog Tryz.f6 Rows.codeTellsRow.domain false w args ∧ laidMetH Tryz.prog Rows.codeTellsRow.laid w) ∧ sizedMet enc Tryz.prog Tryz.f6 (OpenSpec.ofChange Rows.codeTellsSpec) false w args)
      (Rows.codeTellsSpec.post enc Tryz.prog Tryz.f6 false true false false) := by
  refine qbk (C := Tryz.checked) (X := fun w _ => laidMetH Tryz.prog Rows.codeTellsRow.laid w) Tryz.own started (by kernel_rfl) Tryz.func6
    (ChangeSpec.witness_shaped (enc := enc) (C := Tryz.checked) (os := os) (X := fun w _ => laidMetH Tryz.prog Rows.codeTellsRow.laid w) false (World.laidAll Tryz.prog os Rows.codeTellsRow.laid) #[.agg #[.slice .none 0 0, .slice .none 0 0, .int .i64 0], .slice .none 0 0] 8 (World.laidAll_os _ _ _)
      (World.shaped_of_ZipB (by kernel_rfl) (by kernel_rfl)) (by kernel_rfl) (by kernel_rfl) (by kernel_rfl)
      (by rw [MakeChecks.laidMetH_plain _ _ _ (by kernel_rfl)]; exact laidMet_laidAll _ (by kernel_rfl) (by kernel_rfl)))
    (fun w w' us hh hX => by rw [MakeChecks.laidMetH_plain _ _ _ (by kernel_rfl)] at hX ⊢; exact laidMet.of_heap hh hX) ?_
  intro W base args ds gs before hval0 hW _ hsh hlaid
  rw [MakeChecks.laidMetH_plain _ _ _ (by kernel_rfl)] at hlaid
  have hglob := glob25 hsh hlaid (by simp [Rows.codeTellsRow]) (by simp [Rows.codeTellsRow]) (by simp [Rows.codeTellsRow]) (by simp [Rows.codeTellsRow])
  have hval : ∀ (j : Nat) t v, Tryz.f6.params[j]? = some t → args[j]? = some v → Value.okWide Tryz.prog W .any base t v := hval0
  have hW' := hW
  obtain ⟨p, q, hA0, hV, rfl, hfz, hnd⟩ := hW
  have hA : DataW.TrodAll enc Tryz.prog W 0 (fun _ => true) true Tryz.f6.params.toList args.toList ds p := hA0
  rw [Tryz.params6] at hA hval
  obtain ⟨v0, v1, d0, d1, p0, p1, rfl, rfl, rfl, h0, h1⟩ := trodAll_2_02 hA
  obtain ⟨rfl, rfl⟩ := trodVars_none hV
  obtain ⟨x0, cs0, rfl, r0⟩ := par_st Tryz.underlying25 (hval 0 _ v0 rfl rfl) h0 trods_cod
  obtain ⟨x1, r1⟩ := par_sl Tryz.underlying23 (hval 1 _ v1 rfl rfl) h1 qdr
  refine (qcq (vals := [.agg cs0.toArray, v1]) (codeTells_g small25_g x0 x1) ⟨_, _, rfl, Cod.flat r0, _, _, rfl, qei r1, rfl⟩ hglob).mono ?_
  rintro r W' ⟨rfl, hb⟩
  exact ⟨_, rfl, law_post (P := Tryz.prog) Tryz.laidOut hW' rfl rfl (by kernel_rfl) Tryz.underlying4 (by kernel_rfl) hb⟩
theorem codeTells_row : Rows.CodeTellsSaid :=
  OpenClaim.holds_of_wide 6 Tryz.f6 rfl rfl rfl rfl rfl rfl rfl ⟨rfl, rfl, rfl, rfl, rfl⟩ rfl rfl rfl rfl rfl (by kernel_rfl) Tryz.func6 (by kernel_rfl)
    (of_decide_eq_true (by kernel_rfl)) (by unfold Func.isWrapper; first | (rw [if_pos (by decide +kernel)]; kernel_rfl) | (rw [if_neg (by decide +kernel)]; exact ⟨rfl, rfl⟩))
    (fun os started H enc _ => codeTells_lifted os started H enc)
theorem codeTells_holds : Rows.CodeTellsCardSaid :=
  Claim7.holds_tied_plain_at .later [] [.data, .data, .data, .data, .sentinel, .sentinel, .widerDeep, .pinned] true (true, "7776cb1f6840e9bfb354eae669bdb86c799a109bda5ce1626de28e4158a0f8da") true codeTells_row (fun _ h => by cases h) (by kernel_rfl) (fun _ h => by cases h) codeTells_row_tie rfl ⟨rfl, rfl⟩ (by kernel_rfl) rfl
    (fun f fn hf hfn => by
      obtain rfl : f = 6 := Option.some.inj ((show Tryz.prog.funcNamed "errata/erratalaw25.CodeTells" = some 6 by kernel_rfl).symm.trans hf) |>.symm
      obtain rfl : fn = Tryz.f6 := (Option.some.inj (Tryz.func6.symm.trans hfn)).symm
      exact ⟨by kernel_rfl, fun j t ht => by
        rw [Tryz.params6] at ht
        have hm : t ∈ [25, 23] := by simpa using Array.mem_of_getElem? ht
        have hall : ([25, 23].all fun u => !Tryz.prog.wantsStandIn u) = true := by kernel_rfl
        exact (show Tryz.prog.wantsStandIn t = false by simpa using List.all_eq_true.1 hall t hm)⟩)
    (by kernel_rfl)
end Go.Proofs.YtgpcpmfdklpifaaGreatDoor

/- The four laws of layer 25. -/
