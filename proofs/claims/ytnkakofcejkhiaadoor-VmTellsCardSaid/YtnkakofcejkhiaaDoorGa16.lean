/- Walks: the type of an expression, and whether functions are right, as the reference finds them. -/
import Derived.Test.YtnkakofcejkhiaaDoorGa1
import Derived.Test.YtnkakofcejkhiaaDoorGa2
import Derived.Test.YtnkakofcejkhiaaDoorGa4
import Derived.Test.YtnkakofcejkhiaaDoorGa5
import Derived.Test.YtnkakofcejkhiaaDoorGa14
import Derived.Test.YtnkakofcejkhiaaDoorGa15
set_option linter.unusedSimpArgs false
set_option linter.unusedVariables false
namespace Go.Proofs.YtnkakofcejkhiaaDoor
open Go.RowKit Go.Lib
theorem rkind_g (n : Int) : Gives Tryd.prog 148 [.int n] (.bool (kindB n)) := by
  have e : kindB n = (decide (0 ≤ n) && decide (n < 3)) := rfl
  rw [e]
  by_cases h : 0 ≤ n
  · refine qm Tryd.func148 Tryd.ntmps148 rfl rfl (by decide) rfl (by intro n; simp) fun σ n0 hcl hft => ?_
    repeat' (first | ((first | ((with_reducible refine qo (fun hg => ?_) (fun hg => ?_)) <;> (try simp only [hg]) <;> (try simp only [beq_iff_eq, beq_eq_false_iff_ne, ne_eq, decide_eq_true_eq, decide_eq_false_iff_not, bne_iff_ne, bne_eq_false_iff_eq] at hg) <;> (try (first | simp only [eq_false hg, if_true, if_false] | simp only [eq_true hg, if_true, if_false]))) | (with_reducible first | refine qd ?_ | refine qc ?_ | refine qi ?_ | refine qh ?_) | refine qf ?_ | refine qj ?_ | refine qk ?_ | refine qn ?_) <;> (try simp (disch := first | omega | simp) [ql, -qu, -qx, h])) | ((with_reducible first | refine sideG ?_ ?_ | refine qr ?_ ?_ | refine sideS ?_ ?_ | refine qs ?_ ?_ | refine qt ?_ ?_ | refine sideA ?_ ?_ | refine qp ?_ ?_ | refine qq ?_ ?_); first | omega | assumption | (simp; done)) | (refine qg fun K hK => ?_) | (refine qa ?_) | (refine qb true (by kernel_rfl) (by kernel_rfl) ?_) | (refine hK _ ?_; clear hK K) | (clear hK K; refine hK _ ?_; clear hK K) | (clear hK K; clear hK K; refine hK _ ?_; clear hK K) | refine qe ?_)
  · refine qm Tryd.func148 Tryd.ntmps148 rfl rfl (by decide) rfl (by intro n; simp) fun σ n0 hcl hft => ?_
    repeat' (first | ((first | ((with_reducible refine qo (fun hg => ?_) (fun hg => ?_)) <;> (try simp only [hg]) <;> (try simp only [beq_iff_eq, beq_eq_false_iff_ne, ne_eq, decide_eq_true_eq, decide_eq_false_iff_not, bne_iff_ne, bne_eq_false_iff_eq] at hg) <;> (try (first | simp only [eq_false hg, if_true, if_false] | simp only [eq_true hg, if_true, if_false]))) | (with_reducible first | refine qd ?_ | refine qc ?_ | refine qi ?_ | refine qh ?_) | refine qf ?_ | refine qj ?_ | refine qk ?_ | refine qn ?_) <;> (try simp (disch := first | omega | simp) [ql, -qu, -qx, h])) | ((with_reducible first | refine sideG ?_ ?_ | refine qr ?_ ?_ | refine sideS ?_ ?_ | refine qs ?_ ?_ | refine qt ?_ ?_ | refine sideA ?_ ?_ | refine qp ?_ ?_ | refine qq ?_ ?_); first | omega | assumption | (simp; done)) | (refine qg fun K hK => ?_) | (refine qa ?_) | (refine qb true (by kernel_rfl) (by kernel_rfl) ?_) | (refine hK _ ?_; clear hK K) | (clear hK K; refine hK _ ?_; clear hK K) | (clear hK K; clear hK K; refine hK _ ?_; clear hK K) | refine qe ?_)
def atX (l : List Int) (n : Int) : Int := if 0 ≤ n ∧ n < l.length then l.getD n.toNat 0 else 0
theorem rat_g (l : List Int) (n : Int) : Gives Tryd.prog 154 [.sl (l.map AV.int), .int n] (.tup [.int (atX l n), .bool (pickT l n).isSome]) := by
  by_cases h0 : n < 0
  · have e1 : atX l n = 0 := by unfold atX; rw [if_neg (by omega)]
    have e2 : (pickT l n).isSome = false := by unfold pickT; rw [if_pos h0]; rfl
    rw [e1, e2]
    refine qm Tryd.func154 Tryd.ntmps154 rfl rfl (by decide) rfl (by intro n; simp) fun σ n0 hcl hft => ?_
    repeat' (first | ((first | ((with_reducible refine qo (fun hg => ?_) (fun hg => ?_)) <;> (try simp only [hg]) <;> (try simp only [beq_iff_eq, beq_eq_false_iff_ne, ne_eq, decide_eq_true_eq, decide_eq_false_iff_not, bne_iff_ne, bne_eq_false_iff_eq] at hg) <;> (try (first | simp only [eq_false hg, if_true, if_false] | simp only [eq_true hg, if_true, if_false]))) | (with_reducible first | refine qd ?_ | refine qc ?_ | refine qi ?_ | refine qh ?_) | refine qf ?_ | refine qj ?_ | refine qk ?_ | refine qn ?_) <;> (try simp (disch := first | omega | simp) [ql, -qu, -qx, h0])) | ((with_reducible first | refine sideG ?_ ?_ | refine qr ?_ ?_ | refine sideS ?_ ?_ | refine qs ?_ ?_ | refine qt ?_ ?_ | refine sideA ?_ ?_ | refine qp ?_ ?_ | refine qq ?_ ?_); first | omega | assumption | (simp; done)) | (refine qg fun K hK => ?_) | (refine qa ?_) | (refine qb true (by kernel_rfl) (by kernel_rfl) ?_) | (refine hK _ ?_; clear hK K) | (clear hK K; refine hK _ ?_; clear hK K) | (clear hK K; clear hK K; refine hK _ ?_; clear hK K) | refine qe ?_)
  obtain ⟨k, rfl⟩ : ∃ k : Nat, n = k := ⟨n.toNat, by omega⟩
  by_cases h1 : k < l.length
  · have e1 : atX l k = l[k] := by unfold atX; rw [if_pos (by omega), List.getD_eq_getElem?_getD]; simp [h1]
    have e2 : (pickT l k).isSome = kindB l[k] := by
      unfold pickT
      rw [if_neg h0, Int.toNat_natCast, List.getElem?_eq_getElem h1]
      simp only
      cases kindB l[k] <;> rfl
    rw [e1, e2]
    have c := rkind_g l[k]
    have h3 : ¬ l.length ≤ k := by omega
    refine qm Tryd.func154 Tryd.ntmps154 rfl rfl (by decide) rfl (by intro n; simp) fun σ n0 hcl hft => ?_
    repeat' (first | ((first | ((with_reducible refine qo (fun hg => ?_) (fun hg => ?_)) <;> (try simp only [hg]) <;> (try simp only [beq_iff_eq, beq_eq_false_iff_ne, ne_eq, decide_eq_true_eq, decide_eq_false_iff_not, bne_iff_ne, bne_eq_false_iff_eq] at hg) <;> (try (first | simp only [eq_false hg, if_true, if_false] | simp only [eq_true hg, if_true, if_false]))) | (with_reducible first | refine qd ?_ | refine qc ?_ | refine qi ?_ | refine qh ?_) | refine acall (c) ?_ | refine qv (c) ?_ | refine qf ?_ | refine qj ?_ | refine qk ?_ | refine qn ?_) <;> (try simp (disch := first | omega | simp) [ql, -qu, -qx, h0, h1, h3])) | ((with_reducible first | refine sideG ?_ ?_ | refine qr ?_ ?_ | refine sideS ?_ ?_ | refine qs ?_ ?_ | refine qt ?_ ?_ | refine sideA ?_ ?_ | refine qp ?_ ?_ | refine qq ?_ ?_); first | omega | assumption | (simp; done)) | (refine qg fun K hK => ?_) | (refine qa ?_) | (refine qb true (by kernel_rfl) (by kernel_rfl) ?_) | (refine hK _ ?_; clear hK K) | (clear hK K; refine hK _ ?_; clear hK K) | (clear hK K; clear hK K; refine hK _ ?_; clear hK K) | refine qe ?_)
  · have e1 : atX l k = 0 := by unfold atX; rw [if_neg (by omega)]
    have e2 : (pickT l k).isSome = false := by
      unfold pickT
      rw [if_neg h0, Int.toNat_natCast, List.getElem?_eq_none (by omega)]; rfl
    rw [e1, e2]
    have h2 : (l.length : Int) ≤ k := by omega
    refine qm Tryd.func154 Tryd.ntmps154 rfl rfl (by decide) rfl (by intro n; simp) fun σ n0 hcl hft => ?_
    repeat' (first | ((first | ((with_reducible refine qo (fun hg => ?_) (fun hg => ?_)) <;> (try simp only [hg]) <;> (try simp only [beq_iff_eq, beq_eq_false_iff_ne, ne_eq, decide_eq_true_eq, decide_eq_false_iff_not, bne_iff_ne, bne_eq_false_iff_eq] at hg) <;> (try (first | simp only [eq_false hg, if_true, if_false] | simp only [eq_true hg, if_true, if_false]))) | (with_reducible first | refine qd ?_ | refine qc ?_ | refine qi ?_ | refine qh ?_) | refine qf ?_ | refine qj ?_ | refine qk ?_ | refine qn ?_) <;> (try simp (disch := first | omega | simp) [ql, -qu, -qx, h0, h1, h2])) | ((with_reducible first | refine sideG ?_ ?_ | refine qr ?_ ?_ | refine sideS ?_ ?_ | refine qs ?_ ?_ | refine qt ?_ ?_ | refine sideA ?_ ?_ | refine qp ?_ ?_ | refine qq ?_ ?_); first | omega | assumption | (simp; done)) | (refine qg fun K hK => ?_) | (refine qa ?_) | (refine qb true (by kernel_rfl) (by kernel_rfl) ?_) | (refine hK _ ?_; clear hK K) | (clear hK K; refine hK _ ?_; clear hK K) | (clear hK K; clear hK K; refine hK _ ?_; clear hK K) | refine qe ?_)
def numP (op : Int) : Int := if 0 ≤ op ∧ op ≤ 5 then 0 else if op = 6 ∨ op = 7 ∨ op = 20 then 1 else if op = 21 then 3 else if 5 < op ∧ op < 21 then 2 else -1
set_option maxHeartbeats 4000000 in
theorem rnumber_g (op : Int) : Gives Tryd.prog 153 [.int op] (.int (numP op)) := by
  obtain ⟨N, hN⟩ : ∃ N, N = numP op := ⟨_, rfl⟩
  rw [← hN]
  refine qm Tryd.func153 Tryd.ntmps153 rfl rfl (by decide) rfl (by intro n; simp) fun σ n0 hcl hft => ?_
  repeat' (first | ((first | ((with_reducible refine qo (fun hg => ?_) (fun hg => ?_)) <;> (try simp only [hg]) <;> (try simp only [beq_iff_eq, beq_eq_false_iff_ne, ne_eq, decide_eq_true_eq, decide_eq_false_iff_not, bne_iff_ne, bne_eq_false_iff_eq] at hg) <;> (try (first | simp only [eq_false hg, if_true, if_false] | simp only [eq_true hg, if_true, if_false]))) | (with_reducible first | refine qd ?_ | refine qc ?_ | refine qi ?_ | refine qh ?_) | refine qf ?_ | refine qj ?_ | refine qk ?_ | refine qn ?_) <;> (try simp (disch := first | omega | simp) [ql, -qu, -qx])) | ((with_reducible first | refine sideG ?_ ?_ | refine qr ?_ ?_ | refine sideS ?_ ?_ | refine qs ?_ ?_ | refine qt ?_ ?_ | refine sideA ?_ ?_ | refine qp ?_ ?_ | refine qq ?_ ?_); first | omega | assumption | (simp; done)) | (refine qg fun K hK => ?_) | (refine qa ?_) | (refine qb true (by kernel_rfl) (by kernel_rfl) ?_) | (refine hK _ ?_; clear hK K) | (clear hK K; refine hK _ ?_; clear hK K) | (clear hK K; clear hK K; refine hK _ ?_; clear hK K) | refine qe ?_)
  all_goals (rw [hN]; unfold numP; (repeat' split) <;> omega)
set_option maxHeartbeats 4000000 in
theorem rlevels_g' (e : Ex) : levels e ≤ 1000000 → Gives Tryd.prog 76 [e.av] (.int (levels e)) := by
  induction e using Ex.ind with | h o m s l ih => ?_
  intro hl
  rw [levels] at hl ⊢
  refine qm Tryd.func76 Tryd.ntmps76 rfl rfl (by decide) rfl (by intro n; simp) fun σ n0 hcl hft => ?_
  have hfl : l.length ≤ 9223372036854775807 := by
    simp [AV.fitss, AV.fits] at hft
    exact hft.1
  repeat' (first | ((first | ((with_reducible refine qo (fun hg => ?_) (fun hg => ?_)) <;> (try simp only [hg]) <;> (try simp only [beq_iff_eq, beq_eq_false_iff_ne, ne_eq, decide_eq_true_eq, decide_eq_false_iff_not, bne_iff_ne, bne_eq_false_iff_eq] at hg) <;> (try (first | simp only [eq_false hg, if_true, if_false] | simp only [eq_true hg, if_true, if_false]))) | (with_reducible first | refine qd ?_ | refine qc ?_ | refine qi ?_ | refine qh ?_) | refine qf ?_ | refine qj ?_ | refine qk ?_ | refine qn ?_) <;> (try simp (disch := first | omega | simp) [ql, -qu, -qx])) | ((with_reducible first | refine sideG ?_ ?_ | refine qr ?_ ?_ | refine sideS ?_ ?_ | refine qs ?_ ?_ | refine qt ?_ ?_ | refine sideA ?_ ?_ | refine qp ?_ ?_ | refine qq ?_ ?_); first | omega | assumption | (simp; done)) | (refine qg fun K hK => ?_) | (refine qa ?_) | (refine qb true (by kernel_rfl) (by kernel_rfl) ?_) | (refine hK _ ?_; clear hK K) | (clear hK K; refine hK _ ?_; clear hK K) | (clear hK K; clear hK K; refine hK _ ?_; clear hK K) | refine qe ?_)
  refine qbb hcl (fun k : Nat => [(1, .ptr n0 0), (3, .int (qbf (l.take k) 0)), (4, .int k)]) (fun _ => [.cells [.int o, .int m, .str s, .sl (l.map Ex.av)] 52]) (fun k => k ≤ l.length) (fun k => l.length - k) 0 (Nat.zero_le _) (by simp [qbf]) fun k hk => ?_
  by_cases hlt : k < l.length
  · have c := ih l[k] (List.getElem_mem hlt) (by have := levelsL_mem l 0 l[k] (List.getElem_mem hlt); omega)
    have e1 : qbf (l.take (k + 1)) 0 = max (qbf (l.take k) 0) (levels l[k]) := by rw [List.take_succ_eq_append_getElem hlt, levelsL_snoc]
    repeat' (first | ((first | ((with_reducible refine qo (fun hg => ?_) (fun hg => ?_)) <;> (try simp only [hg]) <;> (try simp only [beq_iff_eq, beq_eq_false_iff_ne, ne_eq, decide_eq_true_eq, decide_eq_false_iff_not, bne_iff_ne, bne_eq_false_iff_eq] at hg) <;> (try (first | simp only [eq_false hg, if_true, if_false] | simp only [eq_true hg, if_true, if_false]))) | (with_reducible first | refine qd ?_ | refine qc ?_ | refine qi ?_ | refine qh ?_) | refine acall (c) ?_ | refine qv (c) ?_ | refine qf ?_ | refine qj ?_ | refine qk ?_ | refine qn ?_) <;> (try simp (disch := first | omega | simp) [ql, -qu, -qx, hlt])) | ((with_reducible first | refine sideG ?_ ?_ | refine qr ?_ ?_ | refine sideS ?_ ?_ | refine qs ?_ ?_ | refine qt ?_ ?_ | refine sideA ?_ ?_ | refine qp ?_ ?_ | refine qq ?_ ?_); first | omega | assumption | (simp; done)) | (refine qg fun K hK => ?_) | (refine qa ?_) | (refine qb true (by kernel_rfl) (by kernel_rfl) ?_) | (refine hK _ ?_; clear hK K) | (clear hK K; refine hK _ ?_; clear hK K) | (clear hK K; clear hK K; refine hK _ ?_; clear hK K) | refine qe ?_)
    all_goals refine ⟨k + 1, by omega, by omega, ?_⟩
    all_goals simp only [e1]
    all_goals simp
    all_goals split <;> omega
  · obtain rfl : k = l.length := by omega
    rw [List.take_length]
    have hpos := (levelsL_le l 0 0 (by omega) (by omega)).1
    generalize qbf l 0 = V at *
    repeat' (first | ((first | ((with_reducible refine qo (fun hg => ?_) (fun hg => ?_)) <;> (try simp only [hg]) <;> (try simp only [beq_iff_eq, beq_eq_false_iff_ne, ne_eq, decide_eq_true_eq, decide_eq_false_iff_not, bne_iff_ne, bne_eq_false_iff_eq] at hg) <;> (try (first | simp only [eq_false hg, if_true, if_false] | simp only [eq_true hg, if_true, if_false]))) | (with_reducible first | refine qd ?_ | refine qc ?_ | refine qi ?_ | refine qh ?_) | refine qf ?_ | refine qj ?_ | refine qk ?_ | refine qn ?_) <;> (try simp (disch := first | omega | simp) [ql, -qu, -qx, hlt])) | ((with_reducible first | refine sideG ?_ ?_ | refine qr ?_ ?_ | refine sideS ?_ ?_ | refine qs ?_ ?_ | refine qt ?_ ?_ | refine sideA ?_ ?_ | refine qp ?_ ?_ | refine qq ?_ ?_); first | omega | assumption | (simp; done)) | (refine qg fun K hK => ?_) | (refine qa ?_) | (refine qb true (by kernel_rfl) (by kernel_rfl) ?_) | (refine hK _ ?_; clear hK K) | (clear hK K; refine hK _ ?_; clear hK K) | (clear hK K; clear hK K; refine hK _ ?_; clear hK K) | refine qe ?_)
theorem rcall_g (F : List Fn) (n : Int) (ts : List Int) : Gives Tryd.prog 152 [.sl (F.map Fn.av), .int n, .sl (ts.map AV.int)] (.tup [.int ((callT F n ts).getD 0), .bool (callT F n ts).isSome]) := by
  obtain ⟨C, hC⟩ : ∃ C, C = callT F n ts := ⟨_, rfl⟩
  rw [← hC]
  unfold callT at hC
  by_cases h0 : n < 0
  · rw [if_pos h0] at hC
    subst hC
    refine qm Tryd.func152 Tryd.ntmps152 rfl rfl (by decide) rfl (by intro n; simp) fun σ n0 hcl hft => ?_
    repeat' (first | ((first | ((with_reducible refine qo (fun hg => ?_) (fun hg => ?_)) <;> (try simp only [hg]) <;> (try simp only [beq_iff_eq, beq_eq_false_iff_ne, ne_eq, decide_eq_true_eq, decide_eq_false_iff_not, bne_iff_ne, bne_eq_false_iff_eq] at hg) <;> (try (first | simp only [eq_false hg, if_true, if_false] | simp only [eq_true hg, if_true, if_false]))) | (with_reducible first | refine qd ?_ | refine qc ?_ | refine qi ?_ | refine qh ?_) | refine qf ?_ | refine qj ?_ | refine qk ?_ | refine qn ?_) <;> (try simp (disch := first | omega | simp) [ql, -qu, -qx, h0])) | ((with_reducible first | refine sideG ?_ ?_ | refine qr ?_ ?_ | refine sideS ?_ ?_ | refine qs ?_ ?_ | refine qt ?_ ?_ | refine sideA ?_ ?_ | refine qp ?_ ?_ | refine qq ?_ ?_); first | omega | assumption | (simp; done)) | (refine qg fun K hK => ?_) | (refine qa ?_) | (refine qb true (by kernel_rfl) (by kernel_rfl) ?_) | (refine hK _ ?_; clear hK K) | (clear hK K; refine hK _ ?_; clear hK K) | (clear hK K; clear hK K; refine hK _ ?_; clear hK K) | refine qe ?_)
  obtain ⟨k, rfl⟩ : ∃ k : Nat, n = k := ⟨n.toNat, by omega⟩
  rw [if_neg h0, Int.toNat_natCast] at hC
  by_cases h1 : k < F.length
  · rw [List.getElem?_eq_getElem h1] at hC
    dsimp only at hC
    have h1' : ¬ F.length ≤ k := by omega
    obtain ⟨f, hf⟩ : ∃ f, f = F[k] := ⟨_, rfl⟩
    rw [← hf] at hC
    by_cases h2 : f.params.length = ts.length
    · refine qm Tryd.func152 Tryd.ntmps152 rfl rfl (by decide) rfl (by intro n; simp) fun σ n0 hcl hft => ?_
      repeat' (first | ((first | ((with_reducible refine qo (fun hg => ?_) (fun hg => ?_)) <;> (try simp only [hg]) <;> (try simp only [beq_iff_eq, beq_eq_false_iff_ne, ne_eq, decide_eq_true_eq, decide_eq_false_iff_not, bne_iff_ne, bne_eq_false_iff_eq] at hg) <;> (try (first | simp only [eq_false hg, if_true, if_false] | simp only [eq_true hg, if_true, if_false]))) | (with_reducible first | refine qd ?_ | refine qc ?_ | refine qi ?_ | refine qh ?_) | refine qf ?_ | refine qj ?_ | refine qk ?_ | refine qn ?_) <;> (try simp (disch := first | omega | simp) [ql, -qu, -qx, h0, h1, h1', ← hf, h2])) | ((with_reducible first | refine sideG ?_ ?_ | refine qr ?_ ?_ | refine sideS ?_ ?_ | refine qs ?_ ?_ | refine qt ?_ ?_ | refine sideA ?_ ?_ | refine qp ?_ ?_ | refine qq ?_ ?_); first | omega | assumption | (simp; done)) | (refine qg fun K hK => ?_) | (refine qa ?_) | (refine qb true (by kernel_rfl) (by kernel_rfl) ?_) | (refine hK _ ?_; clear hK K) | (clear hK K; refine hK _ ?_; clear hK K) | (clear hK K; clear hK K; refine hK _ ?_; clear hK K) | refine qe ?_)
      have hts : ts.length ≤ 9223372036854775807 := by
        have := (AV.fitss_iff.1 hft) (.sl (ts.map AV.int)) (by simp)
        simp [AV.fits] at this
        exact this.1
      refine qbb hcl (fun i : Nat => [(2, .sl (ts.map AV.int)), (6, .int 0), (7, .bool false), (8, .ptr n0 0), (9, .int i)]) (fun _ => [.cells f.av.cells 90]) (fun i => i ≤ ts.length ∧ ∀ j (h : j < ts.length) (h' : j < f.params.length), j < i → ts[j] = f.params[j]) (fun i => ts.length - i) 0 ⟨by omega, fun j h h' hj => by omega⟩ (by simp) fun i ⟨hi, he⟩ => ?_
      by_cases hlt : i < ts.length
      · have hlt2 : i < f.params.length := by omega
        by_cases hx : ts[i] = f.params[i]
        · repeat' (first | ((first | ((with_reducible refine qo (fun hg => ?_) (fun hg => ?_)) <;> (try simp only [hg]) <;> (try simp only [beq_iff_eq, beq_eq_false_iff_ne, ne_eq, decide_eq_true_eq, decide_eq_false_iff_not, bne_iff_ne, bne_eq_false_iff_eq] at hg) <;> (try (first | simp only [eq_false hg, if_true, if_false] | simp only [eq_true hg, if_true, if_false]))) | (with_reducible first | refine qd ?_ | refine qc ?_ | refine qi ?_ | refine qh ?_) | refine qf ?_ | refine qj ?_ | refine qk ?_ | refine qn ?_) <;> (try simp (disch := first | omega | simp) [ql, -qu, -qx, hlt, hlt2, hx])) | ((with_reducible first | refine sideG ?_ ?_ | refine qr ?_ ?_ | refine sideS ?_ ?_ | refine qs ?_ ?_ | refine qt ?_ ?_ | refine sideA ?_ ?_ | refine qp ?_ ?_ | refine qq ?_ ?_); first | omega | assumption | (simp; done)) | (refine qg fun K hK => ?_) | (refine qa ?_) | (refine qb true (by kernel_rfl) (by kernel_rfl) ?_) | (refine hK _ ?_; clear hK K) | (clear hK K; refine hK _ ?_; clear hK K) | (clear hK K; clear hK K; refine hK _ ?_; clear hK K) | refine qe ?_)
          all_goals
            refine ⟨i + 1, ⟨by omega, fun j h h' hj => ?_⟩, by omega, by simp⟩
            by_cases hji : j < i
            · exact he j h h' hji
            · obtain rfl : j = i := by omega
              exact hx
        · have : C = none := by rw [hC, if_neg]; intro h; exact hx (by simp only [h])
          subst this
          repeat' (first | ((first | ((with_reducible refine qo (fun hg => ?_) (fun hg => ?_)) <;> (try simp only [hg]) <;> (try simp only [beq_iff_eq, beq_eq_false_iff_ne, ne_eq, decide_eq_true_eq, decide_eq_false_iff_not, bne_iff_ne, bne_eq_false_iff_eq] at hg) <;> (try (first | simp only [eq_false hg, if_true, if_false] | simp only [eq_true hg, if_true, if_false]))) | (with_reducible first | refine qd ?_ | refine qc ?_ | refine qi ?_ | refine qh ?_) | refine qf ?_ | refine qj ?_ | refine qk ?_ | refine qn ?_) <;> (try simp (disch := first | omega | simp) [ql, -qu, -qx, hlt, hlt2, hx])) | ((with_reducible first | refine sideG ?_ ?_ | refine qr ?_ ?_ | refine sideS ?_ ?_ | refine qs ?_ ?_ | refine qt ?_ ?_ | refine sideA ?_ ?_ | refine qp ?_ ?_ | refine qq ?_ ?_); first | omega | assumption | (simp; done)) | (refine qg fun K hK => ?_) | (refine qa ?_) | (refine qb true (by kernel_rfl) (by kernel_rfl) ?_) | (refine hK _ ?_; clear hK K) | (clear hK K; refine hK _ ?_; clear hK K) | (clear hK K; clear hK K; refine hK _ ?_; clear hK K) | refine qe ?_)
          all_goals (exfalso; exact hx (by assumption))
      · have : C = some f.res := by
          rw [hC, if_pos]
          exact List.ext_getElem (by omega) fun j h1 h2 => (he j h2 h1 (by omega)).symm
        subst this
        repeat' (first | ((first | ((with_reducible refine qo (fun hg => ?_) (fun hg => ?_)) <;> (try simp only [hg]) <;> (try simp only [beq_iff_eq, beq_eq_false_iff_ne, ne_eq, decide_eq_true_eq, decide_eq_false_iff_not, bne_iff_ne, bne_eq_false_iff_eq] at hg) <;> (try (first | simp only [eq_false hg, if_true, if_false] | simp only [eq_true hg, if_true, if_false]))) | (with_reducible first | refine qd ?_ | refine qc ?_ | refine qi ?_ | refine qh ?_) | refine qf ?_ | refine qj ?_ | refine qk ?_ | refine qn ?_) <;> (try simp (disch := first | omega | simp) [ql, -qu, -qx, hlt])) | ((with_reducible first | refine sideG ?_ ?_ | refine qr ?_ ?_ | refine sideS ?_ ?_ | refine qs ?_ ?_ | refine qt ?_ ?_ | refine sideA ?_ ?_ | refine qp ?_ ?_ | refine qq ?_ ?_); first | omega | assumption | (simp; done)) | (refine qg fun K hK => ?_) | (refine qa ?_) | (refine qb true (by kernel_rfl) (by kernel_rfl) ?_) | (refine hK _ ?_; clear hK K) | (clear hK K; refine hK _ ?_; clear hK K) | (clear hK K; clear hK K; refine hK _ ?_; clear hK K) | refine qe ?_)
    · have : C = none := by rw [hC, if_neg]; intro h; rw [h] at h2; exact h2 rfl
      subst this
      refine qm Tryd.func152 Tryd.ntmps152 rfl rfl (by decide) rfl (by intro n; simp) fun σ n0 hcl hft => ?_
      repeat' (first | ((first | ((with_reducible refine qo (fun hg => ?_) (fun hg => ?_)) <;> (try simp only [hg]) <;> (try simp only [beq_iff_eq, beq_eq_false_iff_ne, ne_eq, decide_eq_true_eq, decide_eq_false_iff_not, bne_iff_ne, bne_eq_false_iff_eq] at hg) <;> (try (first | simp only [eq_false hg, if_true, if_false] | simp only [eq_true hg, if_true, if_false]))) | (with_reducible first | refine qd ?_ | refine qc ?_ | refine qi ?_ | refine qh ?_) | refine qf ?_ | refine qj ?_ | refine qk ?_ | refine qn ?_) <;> (try simp (disch := first | omega | simp) [ql, -qu, -qx, h0, h1, h1', ← hf, h2])) | ((with_reducible first | refine sideG ?_ ?_ | refine qr ?_ ?_ | refine sideS ?_ ?_ | refine qs ?_ ?_ | refine qt ?_ ?_ | refine sideA ?_ ?_ | refine qp ?_ ?_ | refine qq ?_ ?_); first | omega | assumption | (simp; done)) | (refine qg fun K hK => ?_) | (refine qa ?_) | (refine qb true (by kernel_rfl) (by kernel_rfl) ?_) | (refine hK _ ?_; clear hK K) | (clear hK K; refine hK _ ?_; clear hK K) | (clear hK K; clear hK K; refine hK _ ?_; clear hK K) | refine qe ?_)
      all_goals (exfalso; omega)
  · rw [List.getElem?_eq_none (by omega)] at hC
    subst hC
    have h2 : (F.length : Int) ≤ k := by omega
    refine qm Tryd.func152 Tryd.ntmps152 rfl rfl (by decide) rfl (by intro n; simp) fun σ n0 hcl hft => ?_
    repeat' (first | ((first | ((with_reducible refine qo (fun hg => ?_) (fun hg => ?_)) <;> (try simp only [hg]) <;> (try simp only [beq_iff_eq, beq_eq_false_iff_ne, ne_eq, decide_eq_true_eq, decide_eq_false_iff_not, bne_iff_ne, bne_eq_false_iff_eq] at hg) <;> (try (first | simp only [eq_false hg, if_true, if_false] | simp only [eq_true hg, if_true, if_false]))) | (with_reducible first | refine qd ?_ | refine qc ?_ | refine qi ?_ | refine qh ?_) | refine qf ?_ | refine qj ?_ | refine qk ?_ | refine qn ?_) <;> (try simp (disch := first | omega | simp) [ql, -qu, -qx, h0, h1, h2])) | ((with_reducible first | refine sideG ?_ ?_ | refine qr ?_ ?_ | refine sideS ?_ ?_ | refine qs ?_ ?_ | refine qt ?_ ?_ | refine sideA ?_ ?_ | refine qp ?_ ?_ | refine qq ?_ ?_); first | omega | assumption | (simp; done)) | (refine qg fun K hK => ?_) | (refine qa ?_) | (refine qb true (by kernel_rfl) (by kernel_rfl) ?_) | (refine hK _ ?_; clear hK K) | (clear hK K; refine hK _ ?_; clear hK K) | (clear hK K; clear hK K; refine hK _ ?_; clear hK K) | refine qe ?_)
def tailX (F : List Fn) (c p : List Int) (o n : Int) (s : ByteArray) (ts : List Int) : Int :=
  if s.size ≠ 0 ∧ o ≠ 1 then 0 else if o = 22 then (callT F n ts).getD 0 else if numP o ≠ ts.length then 0
  else if o = 0 then 0 else if o = 2 then 2 else if o = 3 then atX c n else if o = 4 then atX p n else if n ≠ 0 then 0
  else if o = 1 then 1 else if o = 5 then 0 else if o = 6 then 2 else if o = 7 ∨ o = 20 then 0 else if o ≤ 12 then 0 else if o ≤ 18 then 2 else if o = 19 then 1 else ts.getD 1 0
def innerX (F : List Fn) (c p : List Int) : Ex → Int
  | .mk o n s l => match tys F c p l with
    | some ts => tailX F c p o n s ts
    | none => 0
theorem at_pick {l : List Int} {n t : Int} (h : pickT l n = some t) : atX l n = t := by
  unfold pickT at h
  split at h
  · cases h
  · cases hv : l[n.toNat]? with
    | none => rw [hv] at h; cases h
    | some v =>
      rw [hv] at h
      dsimp only at h
      split at h
      · cases h
        have := (List.getElem?_eq_some_iff.1 hv).1
        unfold atX
        rw [if_pos (by omega), List.getD_eq_getElem?_getD, hv]; rfl
      · cases h
theorem tailT_num {F : List Fn} {c p : List Int} {o n t : Int} {s : ByteArray} {ts : List Int} (h : tailT F c p o n s ts = some t) (h22 : o ≠ 22) : numP o = ts.length := by
  unfold tailT at h
  split at h
  · cases h
  unfold numP
  split at h
  · rename_i hn
    subst hn
    unfold leafT at h
    split at h
    · subst o; rfl
    split at h
    · subst o; rfl
    split at h
    · subst o; rfl
    split at h
    · subst o; rfl
    split at h
    · subst o; rfl
    split at h
    · subst o; rfl
    · cases h
  · unfold operT at h
    split at h
    · cases h
    split at h
    · subst o; split at h
      · rename_i e; rw [e]; rfl
      · cases h
    split at h
    · subst o; split at h
      · rename_i e; rw [e]; rfl
      · cases h
    split at h
    · subst o; split at h
      · rename_i e; rw [e]; rfl
      · cases h
    split at h
    · split at h
      · rename_i ho e; rw [e, if_neg (by omega), if_neg (by omega), if_neg (by omega), if_pos (by omega)]; rfl
      · cases h
    split at h
    · split at h
      · rename_i ho _ _ _ ; rw [if_neg (by omega), if_neg (by omega), if_neg (by omega), if_pos (by omega)]; rfl
      · cases h
    split at h
    · split at h
      · rename_i ho e; rw [e, if_neg (by omega), if_neg (by omega), if_neg (by omega), if_pos (by omega)]; rfl
      · cases h
    split at h
    · split at h
      · rename_i ho e; rw [e, if_neg (by omega), if_neg (by omega), if_neg (by omega), if_pos (by omega)]; rfl
      · cases h
    split at h
    · subst o
      split at h
      · rfl
      · cases h
    · cases h
theorem tys_all {F : List Fn} {c p : List Int} : ∀ (l : List Ex), (∀ i (h : i < l.length), (ty F c p l[i]).isSome = true) → tys F c p l = some (l.map fun e => (ty F c p e).getD 0)
  | [], _ => by rw [tys]; rfl
  | e :: l, h => by
    have h0 := h 0 (by simp)
    simp only [List.getElem_cons_zero] at h0
    obtain ⟨t, ht⟩ := Option.isSome_iff_exists.1 h0
    rw [tys, ht, tys_all l (fun i hi => by have := h (i + 1) (by simpa using hi); simpa only [List.getElem_cons_succ] using this)]
    simp [ht]
theorem tys_stop {F : List Fn} {c p : List Int} : ∀ (l : List Ex) (k : Nat) (h : k < l.length), ty F c p l[k] = none → tys F c p l = none
  | [], k, h, _ => by simp at h
  | e :: l, 0, h, he => by
    simp only [List.getElem_cons_zero] at he
    rw [tys, he]
  | e :: l, k + 1, h, he => by
    rw [tys, tys_stop l k (by simpa using h) (by simpa only [List.getElem_cons_succ] using he)]
    cases ty F c p e <;> rfl
theorem tail_eq {F : List Fn} {c p : List Int} {o n t : Int} {s : ByteArray} {ts : List Int} (h : tailT F c p o n s ts = some t) : tailX F c p o n s ts = t := by
  have hnum := fun h22 => tailT_num h h22
  unfold tailT at h
  unfold tailX
  split at h
  · cases h
  rename_i hs
  rw [if_neg hs]
  split at h
  · rename_i h22
    rw [if_pos h22, h]; rfl
  rename_i h22
  rw [if_neg h22, if_neg (by rw [hnum h22]; simp)]
  split at h
  · unfold leafT at h
    split at h
    · rename_i h0; rw [if_pos h0]; cases h; rfl
    rename_i h0; rw [if_neg h0]
    split at h
    · rename_i h2; rw [if_pos h2]; split at h <;> cases h; rfl
    rename_i h2; rw [if_neg h2]
    split at h
    · rename_i h3; rw [if_pos h3]; exact at_pick h
    rename_i h3; rw [if_neg h3]
    split at h
    · rename_i h4; rw [if_pos h4]; exact at_pick h
    rename_i h4; rw [if_neg h4]
    split at h
    · rename_i h1
      split at h
      · rename_i hn; cases h; rw [if_neg (by omega), if_pos h1]
      · cases h
    rename_i h1
    split at h
    · rename_i h5
      split at h
      · rename_i hn; cases h; rw [if_neg (by omega), if_neg h1, if_pos h5]
      · cases h
    · cases h
  · unfold operT at h
    split at h
    · cases h
    rename_i hn
    split at h
    · subst o; split at h <;> cases h; simp [hn]
    split at h
    · subst o; split at h <;> cases h; simp [hn]
    split at h
    · subst o; split at h <;> cases h; simp [hn]
    split at h
    · rename_i ho; split at h <;> cases h
      rw [if_neg (by omega), if_neg (by omega), if_neg (by omega), if_neg (by omega), if_neg hn, if_neg (by omega), if_neg (by omega), if_neg (by omega), if_neg (by omega), if_pos (by omega)]
    split at h
    · rename_i ho
      rw [if_neg (by omega), if_neg (by omega), if_neg (by omega), if_neg (by omega), if_neg hn, if_neg (by omega), if_neg (by omega), if_neg (by omega), if_neg (by omega), if_neg (by omega), if_pos (by omega)]
      split at h
      · split at h <;> cases h; rfl
      · cases h
    split at h
    · rename_i ho; split at h <;> cases h
      rw [if_neg (by omega), if_neg (by omega), if_neg (by omega), if_neg (by omega), if_neg hn, if_neg (by omega), if_neg (by omega), if_neg (by omega), if_neg (by omega), if_neg (by omega), if_pos (by omega)]
    split at h
    · subst o; split at h <;> cases h; simp [hn]
    split at h
    · subst o
      split at h
      · split at h
        · rename_i hb; cases h; simp [hn]; exact hb.2
        · cases h
      · cases h
    · cases h
theorem inner_eq (F : List Fn) (c p : List Int) : ∀ (e : Ex) (t : Int), ty F c p e = some t → innerX F c p e = t
  | .mk o n s l, t, h => by
    rw [ty] at h
    rw [innerX]
    cases hl : tys F c p l with
    | none => rw [hl] at h; cases h
    | some ts => rw [hl] at h; exact tail_eq h
theorem numP_len {o : Int} {ts : List Int} (h : numP o = ts.length) (h22 : o ≠ 22) :
    ((o = 0 ∨ o = 1 ∨ o = 2 ∨ o = 3 ∨ o = 4 ∨ o = 5) ∧ ts = []) ∨ ((o = 6 ∨ o = 7 ∨ o = 20) ∧ ∃ a, ts = [a]) ∨ (o = 21 ∧ ∃ a b d, ts = [a, b, d]) ∨
    ((o = 8 ∨ o = 9 ∨ o = 10 ∨ o = 11 ∨ o = 12 ∨ o = 13 ∨ o = 14 ∨ o = 15 ∨ o = 16 ∨ o = 17 ∨ o = 18 ∨ o = 19) ∧ ∃ a b, ts = [a, b]) := by
  unfold numP at h
  split at h
  · exact .inl ⟨by omega, List.eq_nil_of_length_eq_zero (by omega)⟩
  split at h
  · refine .inr (.inl ⟨by omega, ?_⟩)
    match ts, h with
    | [a], _ => exact ⟨a, rfl⟩
  split at h
  · refine .inr (.inr (.inl ⟨by omega, ?_⟩))
    match ts, h with
    | [a, b, d], _ => exact ⟨a, b, d, rfl⟩
  split at h
  · refine .inr (.inr (.inr ⟨by omega, ?_⟩))
    match ts, h with
    | [a, b], _ => exact ⟨a, b, rfl⟩
  · omega
end Go.Proofs.YtnkakofcejkhiaaDoor

/- Data of layer 16 as abstract values. -/
namespace Go.Proofs.YtnkakofcejkhiaaDoor
open Go.RowKit Go.Lib
theorem ints_d_av (L : List Int) : (D.sl (L.map D.int)).av = .sl (L.map AV.int) := by
  rw [D.av, D.avs_map, List.map_map]; rfl
theorem Ex.d_av (e : Ex) : e.d.av = e.av := by
  induction e using Ex.ind with | h o n s l ih => ?_
  rw [Ex.d, Ex.ds_map, D.av, Ex.av_mk]
  simp only [D.cs, D.avs_map, List.map_map]
  congr 4
  simp only [List.cons.injEq, AV.sl.injEq, and_true, true_and]
  exact List.map_congr_left fun x hx => ih x hx
theorem Fn.d_av (f : Fn) : f.d.av = f.av := by
  obtain ⟨nm, ps, rs, b⟩ := f
  have h1 := ints_d_av ps
  have h2 := Ex.d_av b
  cases b with | mk o n s l => ?_
  rw [D.av] at h1
  injection h1 with h1
  have h5 := Ex.av_eq (.mk o n s l)
  rw [Fn.d, D.av]
  rw [Ex.d, D.av, h5] at h2
  injection h2 with h2
  simp only [Ex.d, D.cs, List.append_nil] at h2 ⊢
  rw [h2, h1]
  rfl
end Go.Proofs.YtnkakofcejkhiaaDoor

/- Contracts of layer 16, as abstract ones. -/
namespace Go.Proofs.YtnkakofcejkhiaaDoor
open Go.RowKit Go.Lib
theorem arg_ex {X : St} {e : Ex} {v : Value} (h : RR1 X e.av v) : ∃ cs : List Value, v = .agg cs.toArray ∧ Rd X.w Any e.d cs := by
  rw [Ex.av_eq] at h
  obtain ⟨cs, rfl, h2⟩ := h
  refine ⟨cs, rfl, rd_of_rc e.d cs ?_⟩
  rw [Ex.d_av, Ex.av_eq, RC]; exact h2
theorem arg_v {X : St} {x v : Value} (h : RR1 X (.v x) v) : v = x := by
  have h' : RC X (.v x) [v] := h
  rw [RC] at h'; simpa using h'
end Go.Proofs.YtnkakofcejkhiaaDoor

/- Walks of layer 27: what the instructions compute for one row. -/
namespace Go.Proofs.YtnkakofcejkhiaaDoor
open Go.RowKit Go.Lib
theorem vnum_g (n : Int) : Gives Tryd.prog 85 [.int n] (numV n).av := vint_g n
theorem vtxt_g (s : ByteArray) : Gives Tryd.prog 86 [.str s] (textV s).av := vtext_g s
theorem qdb (b : Bool) : Gives Tryd.prog 87 [.bool b] (boolV b).av := by
  cases b
  · exact vfalse_g
  · exact vtrue_g
theorem cmp_g (a b : Val) : Gives Tryd.prog 115 [a.av, b.av] (.int (cmpV a b)) :=
  gives_v fun X vals ha => by
    obtain ⟨v0, _, rfl, h0, v1, _, rfl, h1, h3⟩ := ha
    cases h3
    have e : ∀ (x : Val) {v : Value}, RR1 X x.av v → v = x.v := fun x v h => by
      obtain ⟨cs, rfl, h2⟩ := h
      simp only [R1s] at h2
      obtain ⟨_, _, rfl, -, h3, _, _, rfl, -, h4, _, _, rfl, -, h5, rfl⟩ := h2
      rw [arg_v (X := X) h3, arg_v (X := X) h4, arg_v (X := X) h5]
      rfl
    rw [e a h0, e b h1]
    exact compare_any a b X.w
theorem hw64 (n : Int) : IntKind.i64.wrap n = wrap64 n := by rw [IntKind.wrap_i64]; unfold wrap64; rfl
theorem eqB_eqV (a b : Val) : Val.eqB a b = eqV a b := by
  rw [Bool.eq_iff_iff]
  simp [Val.eqB, eqV]
def Upto (σ τ : Nat → AB) : Prop := ∀ r, σ r ≠ .unborn → τ r = σ r
theorem Upto.at {σ τ : Nat → AB} (h : Upto σ τ) {r : Nat} {ab : AB} (hr : σ r = ab) (hn : ab ≠ .unborn) : τ r = ab := by rw [h r (by rw [hr]; exact hn), hr]
theorem upto_loc {σ : Nat → AB} {n0 : Nat} (h : Fin σ n0) (L : List AB) : Upto σ (loc σ n0 L) := fun r hr => loc_lt σ n0 r L (Nat.lt_of_not_le fun hn => hr (h r hn))
section
variable {x : Ins} {L : List Delta} {σ : Nat → AB} {a b c d m v n : Nat}
set_option maxHeartbeats 4000000 in
theorem source1_g (hb : σ b = .cells [.int x.op, .int x.to, .int x.a, .int x.b, .int x.c, .int x.n, .str x.s] 68) (ha : σ a = .cells [.ptr m 0] 112) (hm : σ m = .cells [.sl (L.map Delta.av), .own v n] 115) {i : Nat} (hi : i < L.length)
    (hop : x.op = 0 ∨ x.op = 1 ∨ x.op = 2 ∨ x.op = 3 ∨ x.op = 5) (hc : x.op = 3 → 0 ≤ x.n ∧ x.n < L[i].row.length) : qbj Tryd.prog 112 [.int i, .ptr b 0, .ptr a 0] σ (opI L[i].time L[i].row x []).av := by
  obtain ⟨R, hR⟩ : ∃ R, R = opI L[i].time L[i].row x [] := ⟨_, rfl⟩
  rw [← hR]
  unfold opI at hR
  rw [if_neg (by omega)] at hR
  unfold opV at hR
  refine qy Tryd.func112 Tryd.ntmps112 rfl rfl (by decide) rfl (by intro n; simp) fun n0 hfin hcl hft => ?_
  have hl1 := qbz hfin hb (by simp)
  have hl2 := qbz hfin ha (by simp)
  have hl3 := qbz hfin hm (by simp)
  repeat' (first | ((first | ((with_reducible refine qo (fun hg => ?_) (fun hg => ?_)) <;> (try simp only [hg]) <;> (try simp only [beq_iff_eq, beq_eq_false_iff_ne, ne_eq, decide_eq_true_eq, decide_eq_false_iff_not, bne_iff_ne, bne_eq_false_iff_eq] at hg) <;> (try (first | simp only [eq_false hg, if_true, if_false] | simp only [eq_true hg, if_true, if_false]))) | (with_reducible first | refine qd ?_ | refine qc ?_ | refine qi ?_ | refine qh ?_) | refine acall (vnum_g _) ?_ | refine qv (vnum_g _) ?_ | refine qw (vnum_g _) ?_ | refine acall (qdb _) ?_ | refine qv (qdb _) ?_ | refine qw (qdb _) ?_ | refine acall (vtxt_g _) ?_ | refine qv (vtxt_g _) ?_ | refine qw (vtxt_g _) ?_ | refine qf ?_ | refine qj ?_ | refine qk ?_ | refine qn ?_) <;> (try simp (disch := first | omega | simp) [ql, -qu, -qx, hl1, hl2, hl3, hi])) | ((with_reducible first | refine sideG ?_ ?_ | refine qr ?_ ?_ | refine sideS ?_ ?_ | refine qs ?_ ?_ | refine qt ?_ ?_ | refine sideA ?_ ?_ | refine qp ?_ ?_ | refine qq ?_ ?_); first | omega | assumption | (simp; done)) | (refine qg fun K hK => ?_) | (refine qa ?_) | (refine qb true (by kernel_rfl) (by kernel_rfl) ?_) | (refine qb false (by kernel_rfl) (by kernel_rfl) ?_) | (refine hK _ ?_; clear hK K) | (clear hK K; refine hK _ ?_; clear hK K) | (clear hK K; clear hK K; refine hK _ ?_; clear hK K) | refine qe ?_ | (clear hK; clear K; clear hK; clear K; clear hK; clear K; refine hK _ ?_; clear hK; clear K) | (clear hK; clear K; clear hK; clear K; clear hK; clear K; clear hK; clear K; refine hK _ ?_; clear hK; clear K) | (clear hK; clear K; clear hK; clear K; clear hK; clear K; clear hK; clear K; clear hK; clear K; refine hK _ ?_; clear hK; clear K) | (clear hK; clear K; clear hK; clear K; clear hK; clear K; clear hK; clear K; clear hK; clear K; clear hK; clear K; refine hK _ ?_; clear hK; clear K))
  all_goals
    by_cases h3 : x.op = 3
    · obtain ⟨q0, q1⟩ := hc h3
      first
      | (exfalso; omega)
      | (rw [hR, if_neg (by omega), if_neg (by omega), if_neg (by omega), if_pos h3, List.getD_eq_getElem?_getD, List.getElem?_eq_getElem (by omega)]; rfl)
    · first
      | (exfalso; omega)
      | (rw [hR]; simp_all [Val.av, numV, boolV, textV, hw64, -Val.av_fold]; done)
set_option maxHeartbeats 4000000 in
theorem one1_g {A : List Val} (hb : σ b = .cells [.int x.op, .int x.to, .int x.a, .int x.b, .int x.c, .int x.n, .str x.s] 68) (ha : σ a = .cells [.sl (A.map Val.av)] 33) {i : Nat} (hi : i < A.length)
    (hop : x.op = 6 ∨ x.op = 7 ∨ x.op = 20) (time : Int) (row : List Val) : qbj Tryd.prog 113 [.int i, .ptr b 0, .ptr a 0] σ (opI time row x [A[i]]).av := by
  obtain ⟨R, hR⟩ : ∃ R, R = opI time row x [A[i]] := ⟨_, rfl⟩
  rw [← hR]
  unfold opI at hR
  rw [if_neg (by omega)] at hR
  unfold opV at hR
  rw [if_neg (by omega), if_neg (by omega), if_neg (by omega), if_neg (by omega), if_neg (by omega), if_neg (by omega)] at hR
  refine qy Tryd.func113 Tryd.ntmps113 rfl rfl (by decide) rfl (by intro n; simp) fun n0 hfin hcl hft => ?_
  have hl1 := qbz hfin hb (by simp)
  have hl2 := qbz hfin ha (by simp)
  repeat' (first | ((first | ((with_reducible refine qo (fun hg => ?_) (fun hg => ?_)) <;> (try simp only [hg]) <;> (try simp only [beq_iff_eq, beq_eq_false_iff_ne, ne_eq, decide_eq_true_eq, decide_eq_false_iff_not, bne_iff_ne, bne_eq_false_iff_eq] at hg) <;> (try (first | simp only [eq_false hg, if_true, if_false] | simp only [eq_true hg, if_true, if_false]))) | (with_reducible first | refine qd ?_ | refine qc ?_ | refine qi ?_ | refine qh ?_) | refine acall (vnum_g _) ?_ | refine qv (vnum_g _) ?_ | refine qw (vnum_g _) ?_ | refine acall (qdb _) ?_ | refine qv (qdb _) ?_ | refine qw (qdb _) ?_ | refine qf ?_ | refine qj ?_ | refine qk ?_ | refine qn ?_) <;> (try simp (disch := first | omega | simp) [ql, -qu, -qx, hl1, hl2, hi])) | ((with_reducible first | refine sideG ?_ ?_ | refine qr ?_ ?_ | refine sideS ?_ ?_ | refine qs ?_ ?_ | refine qt ?_ ?_ | refine sideA ?_ ?_ | refine qp ?_ ?_ | refine qq ?_ ?_); first | omega | assumption | (simp; done)) | (refine qg fun K hK => ?_) | (refine qa ?_) | (refine qb true (by kernel_rfl) (by kernel_rfl) ?_) | (refine qb false (by kernel_rfl) (by kernel_rfl) ?_) | (refine hK _ ?_; clear hK K) | (clear hK K; refine hK _ ?_; clear hK K) | (clear hK K; clear hK K; refine hK _ ?_; clear hK K) | refine qe ?_ | (clear hK; clear K; clear hK; clear K; clear hK; clear K; refine hK _ ?_; clear hK; clear K) | (clear hK; clear K; clear hK; clear K; clear hK; clear K; clear hK; clear K; refine hK _ ?_; clear hK; clear K) | (clear hK; clear K; clear hK; clear K; clear hK; clear K; clear hK; clear K; clear hK; clear K; refine hK _ ?_; clear hK; clear K) | (clear hK; clear K; clear hK; clear K; clear hK; clear K; clear hK; clear K; clear hK; clear K; clear hK; clear K; refine hK _ ?_; clear hK; clear K))
  all_goals (rw [hR]; simp_all [Val.av, numV, boolV, textV, hw64, -Val.av_fold])
theorem div_g (p q : Int) : Gives Tryd.prog 136 [.int p, .int q] (.tup [.int (divI p q), .int (modI p q)]) := by
  by_cases h : q = 0
  · subst h
    refine qm Tryd.func136 Tryd.ntmps136 rfl rfl (by decide) rfl (by intro n; simp) fun σ n0 hcl hft => ?_
    repeat' (first | ((first | ((with_reducible refine qo (fun hg => ?_) (fun hg => ?_)) <;> (try simp only [hg]) <;> (try simp only [beq_iff_eq, beq_eq_false_iff_ne, ne_eq, decide_eq_true_eq, decide_eq_false_iff_not, bne_iff_ne, bne_eq_false_iff_eq] at hg) <;> (try (first | simp only [eq_false hg, if_true, if_false] | simp only [eq_true hg, if_true, if_false]))) | (with_reducible first | refine qd ?_ | refine qc ?_ | refine qi ?_ | refine qh ?_) | refine qf ?_ | refine qj ?_ | refine qk ?_ | refine qn ?_) <;> (try simp (disch := first | omega | simp) [ql, -qu, -qx])) | ((with_reducible first | refine sideG ?_ ?_ | refine qr ?_ ?_ | refine sideS ?_ ?_ | refine qs ?_ ?_ | refine qt ?_ ?_ | refine sideA ?_ ?_ | refine qp ?_ ?_ | refine qq ?_ ?_); first | omega | assumption | (simp; done)) | (refine qg fun K hK => ?_) | (refine qa ?_) | (refine qb true (by kernel_rfl) (by kernel_rfl) ?_) | (refine hK _ ?_; clear hK K) | (clear hK K; refine hK _ ?_; clear hK K) | (clear hK K; clear hK K; refine hK _ ?_; clear hK K) | refine qe ?_)
    all_goals simp [divI, modI]
  · have e1 : divI p q = wrap64 (p.tdiv q) := if_neg h
    have e2 : modI p q = p.tmod q := if_neg h
    rw [e1, e2]
    refine qm Tryd.func136 Tryd.ntmps136 rfl rfl (by decide) rfl (by intro n; simp) fun σ n0 hcl hft => ?_
    repeat' (first | ((first | ((with_reducible refine qo (fun hg => ?_) (fun hg => ?_)) <;> (try simp only [hg]) <;> (try simp only [beq_iff_eq, beq_eq_false_iff_ne, ne_eq, decide_eq_true_eq, decide_eq_false_iff_not, bne_iff_ne, bne_eq_false_iff_eq] at hg) <;> (try (first | simp only [eq_false hg, if_true, if_false] | simp only [eq_true hg, if_true, if_false]))) | (with_reducible first | refine qd ?_ | refine qc ?_ | refine qi ?_ | refine qh ?_) | refine qf ?_ | refine qj ?_ | refine qk ?_ | refine qn ?_) <;> (try simp (disch := first | omega | simp) [ql, -qu, -qx, h])) | ((with_reducible first | refine sideG ?_ ?_ | refine qr ?_ ?_ | refine sideS ?_ ?_ | refine qs ?_ ?_ | refine qt ?_ ?_ | refine sideA ?_ ?_ | refine qp ?_ ?_ | refine qq ?_ ?_); first | omega | assumption | (simp; done)) | (refine qg fun K hK => ?_) | (refine qa ?_) | (refine qb true (by kernel_rfl) (by kernel_rfl) ?_) | (refine hK _ ?_; clear hK K) | (clear hK K; refine hK _ ?_; clear hK K) | (clear hK K; clear hK K; refine hK _ ?_; clear hK K) | refine qe ?_)
    all_goals first | exact absurd (by assumption) h | exact (hw64 _).symm
set_option maxHeartbeats 4000000 in
theorem num_g (op : Int) (p q : Val) (hop : 8 ≤ op ∧ op ≤ 12) : Gives Tryd.prog 116 [.int op, .int p.n, .int q.n] (binV op p q).av := by
  obtain ⟨R, hR⟩ : ∃ R, R = binV op p q := ⟨_, rfl⟩
  rw [← hR]
  unfold binV at hR
  refine qm Tryd.func116 Tryd.ntmps116 rfl rfl (by decide) rfl (by intro n; simp) fun σ n0 hcl hft => ?_
  repeat' (first | ((first | ((with_reducible refine qo (fun hg => ?_) (fun hg => ?_)) <;> (try simp only [hg]) <;> (try simp only [beq_iff_eq, beq_eq_false_iff_ne, ne_eq, decide_eq_true_eq, decide_eq_false_iff_not, bne_iff_ne, bne_eq_false_iff_eq] at hg) <;> (try (first | simp only [eq_false hg, if_true, if_false] | simp only [eq_true hg, if_true, if_false]))) | (with_reducible first | refine qd ?_ | refine qc ?_ | refine qi ?_ | refine qh ?_) | refine acall (div_g _ _) ?_ | refine qv (div_g _ _) ?_ | refine qw (div_g _ _) ?_ | refine acall (vnum_g _) ?_ | refine qv (vnum_g _) ?_ | refine qw (vnum_g _) ?_ | refine qf ?_ | refine qj ?_ | refine qk ?_ | refine qn ?_) <;> (try simp (disch := first | omega | simp) [ql, -qu, -qx])) | ((with_reducible first | refine sideG ?_ ?_ | refine qr ?_ ?_ | refine sideS ?_ ?_ | refine qs ?_ ?_ | refine qt ?_ ?_ | refine sideA ?_ ?_ | refine qp ?_ ?_ | refine qq ?_ ?_); first | omega | assumption | (simp; done)) | (refine qg fun K hK => ?_) | (refine qa ?_) | (refine qb true (by kernel_rfl) (by kernel_rfl) ?_) | (refine qb false (by kernel_rfl) (by kernel_rfl) ?_) | (refine hK _ ?_; clear hK K) | (clear hK K; refine hK _ ?_; clear hK K) | (clear hK K; clear hK K; refine hK _ ?_; clear hK K) | refine qe ?_ | (clear hK; clear K; clear hK; clear K; clear hK; clear K; refine hK _ ?_; clear hK; clear K) | (clear hK; clear K; clear hK; clear K; clear hK; clear K; clear hK; clear K; refine hK _ ?_; clear hK; clear K) | (clear hK; clear K; clear hK; clear K; clear hK; clear K; clear hK; clear K; clear hK; clear K; refine hK _ ?_; clear hK; clear K) | (clear hK; clear K; clear hK; clear K; clear hK; clear K; clear hK; clear K; clear hK; clear K; clear hK; clear K; refine hK _ ?_; clear hK; clear K))
  all_goals (rw [hR]; simp_all [Val.av, numV, boolV, textV, hw64, -Val.av_fold])
  all_goals (rw [if_pos (by omega)]; exact ⟨rfl, rfl, rfl⟩)
set_option maxHeartbeats 8000000 in
theorem two1_g {A B : List Val} (hb : σ b = .cells [.int x.op, .int x.to, .int x.a, .int x.b, .int x.c, .int x.n, .str x.s] 68) (ha : σ a = .cells [.sl (A.map Val.av)] 33) (hc : σ c = .cells [.sl (B.map Val.av)] 33)
    {i : Nat} (hi : i < A.length) (hi2 : i < B.length) (hop : 8 ≤ x.op ∧ x.op ≤ 19) (hs : A[i].s.size + B[i].s.size ≤ 1000) (time : Int) (row : List Val) : qbj Tryd.prog 114 [.int i, .ptr b 0, .ptr a 0, .ptr c 0] σ (opI time row x [A[i], B[i]]).av := by
  obtain ⟨R, hR⟩ : ∃ R, R = opI time row x [A[i], B[i]] := ⟨_, rfl⟩
  rw [← hR]
  unfold opI at hR
  rw [if_neg (by omega)] at hR
  unfold opV at hR
  rw [if_neg (by omega), if_neg (by omega), if_neg (by omega), if_neg (by omega), if_neg (by omega), if_neg (by omega), if_neg (by omega), if_neg (by omega), if_neg (by omega), if_neg (by omega)] at hR
  rw [show [A[i], B[i]].getD 0 zeroV = A[i] from rfl, show [A[i], B[i]].getD 1 zeroV = B[i] from rfl] at hR
  unfold binV at hR
  have hnum : x.op ≤ 12 → Gives Tryd.prog 116 [.int x.op, .int A[i].n, .int B[i].n] R.av := fun h => by
    have := num_g x.op A[i] B[i] ⟨by omega, h⟩
    unfold binV at this
    rwa [← hR] at this
  have hsz : A[i].s.size + B[i].s.size ≤ 9223372036854775807 := by omega
  have hM : (if (200 : Int) < (A[i].s.size : Int) + (B[i].s.size : Int) then 200 else (A[i].s.size : Int) + (B[i].s.size : Int)) = ((min (A[i].s.size + B[i].s.size) 200 : Nat) : Int) := by split <;> omega
  have hM2 : min (A[i].s.size + B[i].s.size) 200 ≤ A[i].s.size + B[i].s.size := by omega
  have hJ : joinS A[i].s B[i].s = (A[i].s ++ B[i].s).extract 0 (min (A[i].s.size + B[i].s.size) 200) := rfl
  generalize hMM : min (A[i].s.size + B[i].s.size) 200 = M at *
  refine qy Tryd.func114 Tryd.ntmps114 rfl rfl (by decide) rfl (by intro n; simp) fun n0 hfin hcl hft => ?_
  have hl1 := qbz hfin hb (by simp)
  have hl2 := qbz hfin ha (by simp)
  have hl3 := qbz hfin hc (by simp)
  repeat' (first | ((first | ((with_reducible refine qo (fun hg => ?_) (fun hg => ?_)) <;> (try simp only [hg]) <;> (try simp only [beq_iff_eq, beq_eq_false_iff_ne, ne_eq, decide_eq_true_eq, decide_eq_false_iff_not, bne_iff_ne, bne_eq_false_iff_eq] at hg) <;> (try (first | simp only [eq_false hg, if_true, if_false] | simp only [eq_true hg, if_true, if_false]))) | (with_reducible first | refine qd ?_ | refine qc ?_ | refine qi ?_ | refine qh ?_) | refine acall (cmp_g _ _) ?_ | refine qv (cmp_g _ _) ?_ | refine qw (cmp_g _ _) ?_ | refine acall (qdb _) ?_ | refine qv (qdb _) ?_ | refine qw (qdb _) ?_ | refine acall (vtxt_g _) ?_ | refine qv (vtxt_g _) ?_ | refine qw (vtxt_g _) ?_ | refine acall (hnum (by omega)) ?_ | refine qv (hnum (by omega)) ?_ | refine qw (hnum (by omega)) ?_ | refine qf ?_ | refine qj ?_ | refine qk ?_ | refine qn ?_) <;> (try simp (disch := first | omega | simp) [ql, -qu, -qx, hl1, hl2, hl3, hi, hi2, hsz, hM, hM2])) | ((with_reducible first | refine sideG ?_ ?_ | refine qr ?_ ?_ | refine sideS ?_ ?_ | refine qs ?_ ?_ | refine qt ?_ ?_ | refine sideA ?_ ?_ | refine qp ?_ ?_ | refine qq ?_ ?_); first | omega | assumption | (simp; done)) | (refine qg fun K hK => ?_) | (refine qa ?_) | (refine qb true (by kernel_rfl) (by kernel_rfl) ?_) | (refine qb false (by kernel_rfl) (by kernel_rfl) ?_) | (refine hK _ ?_; clear hK K) | (clear hK K; refine hK _ ?_; clear hK K) | (clear hK K; clear hK K; refine hK _ ?_; clear hK K) | refine qe ?_ | (clear hK; clear K; clear hK; clear K; clear hK; clear K; refine hK _ ?_; clear hK; clear K) | (clear hK; clear K; clear hK; clear K; clear hK; clear K; clear hK; clear K; refine hK _ ?_; clear hK; clear K) | (clear hK; clear K; clear hK; clear K; clear hK; clear K; clear hK; clear K; clear hK; clear K; refine hK _ ?_; clear hK; clear K) | (clear hK; clear K; clear hK; clear K; clear hK; clear K; clear hK; clear K; clear hK; clear K; clear hK; clear K; refine hK _ ?_; clear hK; clear K))
  all_goals (rw [hR]; simp_all [Val.av, numV, boolV, textV, hw64, eqB_eqV, -Val.av_fold])
set_option maxHeartbeats 4000000 in
theorem three1_g {A B C : List Val} (ha : σ a = .cells [.sl (A.map Val.av)] 33) (hb : σ b = .cells [.sl (B.map Val.av)] 33) (hc : σ c = .cells [.sl (C.map Val.av)] 33)
    {i : Nat} (hi : i < A.length) (hi2 : i < B.length) (hi3 : i < C.length) : qbj Tryd.prog 117 [.int i, .ptr a 0, .ptr b 0, .ptr c 0] σ (ifV [A[i], B[i], C[i]]).av := by
  obtain ⟨R, hR⟩ : ∃ R, R = ifV [A[i], B[i], C[i]] := ⟨_, rfl⟩
  rw [← hR]
  unfold ifV at hR
  rw [show [A[i], B[i], C[i]].getD 0 zeroV = A[i] from rfl, show [A[i], B[i], C[i]].getD 1 zeroV = B[i] from rfl, show [A[i], B[i], C[i]].getD 2 zeroV = C[i] from rfl] at hR
  refine qy Tryd.func117 Tryd.ntmps117 rfl rfl (by decide) rfl (by intro n; simp) fun n0 hfin hcl hft => ?_
  have hl1 := qbz hfin ha (by simp)
  have hl2 := qbz hfin hb (by simp)
  have hl3 := qbz hfin hc (by simp)
  repeat' (first | ((first | ((with_reducible refine qo (fun hg => ?_) (fun hg => ?_)) <;> (try simp only [hg]) <;> (try simp only [beq_iff_eq, beq_eq_false_iff_ne, ne_eq, decide_eq_true_eq, decide_eq_false_iff_not, bne_iff_ne, bne_eq_false_iff_eq] at hg) <;> (try (first | simp only [eq_false hg, if_true, if_false] | simp only [eq_true hg, if_true, if_false]))) | (with_reducible first | refine qd ?_ | refine qc ?_ | refine qi ?_ | refine qh ?_) | refine qf ?_ | refine qj ?_ | refine qk ?_ | refine qn ?_) <;> (try simp (disch := first | omega | simp) [ql, -qu, -qx, hl1, hl2, hl3, hi, hi2, hi3])) | ((with_reducible first | refine sideG ?_ ?_ | refine qr ?_ ?_ | refine sideS ?_ ?_ | refine qs ?_ ?_ | refine qt ?_ ?_ | refine sideA ?_ ?_ | refine qp ?_ ?_ | refine qq ?_ ?_); first | omega | assumption | (simp; done)) | (refine qg fun K hK => ?_) | (refine qa ?_) | (refine qb true (by kernel_rfl) (by kernel_rfl) ?_) | (refine hK _ ?_; clear hK K) | (clear hK K; refine hK _ ?_; clear hK K) | (clear hK K; clear hK K; refine hK _ ?_; clear hK K) | refine qe ?_)
  all_goals (rw [hR]; simp_all)
end
end Go.Proofs.YtnkakofcejkhiaaDoor

/- Tables of the program: the address of an element of a global array, and what stands there. -/
namespace Go.Proofs.YtnkakofcejkhiaaDoor
open Go.RowKit Go.Lib
section
variable {P : Program} {ev : Operand → AV} {σ : Nat → AB}
theorem fop_indexG {t e : TypeId} {n g : Nat} {p i : Operand} {ik : IntKind} {k : Int} {ag : Bool} {sz : Nat} (ht : P.underlying t = some (.array n e)) (hs : tinfo P e = some (ag, sz)) (hp : ev p = .v (.pointer (some ⟨g, 0, none⟩))) (hi : ev i = .v (.int ik k)) (h0 : 0 ≤ k) (h1 : k < n) :
    FOp P ev σ (.indexAddr t p i) (.v (.pointer (some ⟨g, k.toNat * sz, none⟩))) none := FOp.of fun X a oper ho hS hsub hev => by
  have h := hev p (by simp [Op.operands])
  have h2 := hev i (by simp [Op.operands])
  rw [hp, RR.v] at h; rw [hi, RR.v] at h2
  refine ⟨.pointer (some ⟨g, k.toNat * sz, none⟩), ?_, RR.v.2 rfl⟩
  have := (qbr hs X.w).2
  simp [execOp, ho, h, h2, Instr.indexAt, Instr.sureAddr, asIntOf, underlying, ht, h0, h1, this, qbp]
theorem fop_loadG {t : TypeId} {p : Operand} {g o n : Nat} {cs : List Value} {v : Value} (ht : tinfo P t = some (false, n)) (hp : ev p = .v (.pointer (some ⟨g, o, none⟩))) (hg : gtab g = some cs) (hv : cs[o]? = some v) :
    FOp P ev σ (.load t p) (.v v) none := FOp.of fun X a oper ho hS hsub hev => by
  have h := hev p (by simp [Op.operands])
  rw [hp, RR.v] at h
  have hG := gtab_ok hS.glob hg
  have hc := hG.1.at.get o v hv
  rw [Nat.zero_add] at hc
  refine ⟨v, ?_, RR.v.2 rfl⟩
  have h1 : (loadVar t ⟨g, o, none⟩).run P X.w = .ok v X.w := by simp [loadVar, (qbr ht X.w).1, hc]
  simp [execOp, ho, h, Instr.loadAt, Instr.sureAddr, h1]
end
def aevG (P : Program) (s : AS) (o : Op) (K : AV → AS → Prop) : Prop :=
  match o with
  | .indexAddr t p i => match P.underlying t with
    | some (.array n e) => match tinfo P e, s.eval p, s.eval i with
      | some (_, sz), .v (.pointer (some ⟨g, 0, none⟩)), .v (.int _ k) => 0 ≤ k ∧ k < n ∧ K (.v (.pointer (some ⟨g, k.toNat * sz, none⟩))) s
      | _, _, _ => False
    | _ => aev P s (.indexAddr t p i) K
  | .load t p => match s.eval p with
    | .v (.pointer (some ⟨g, o, none⟩)) => match tinfo P t, gtab g with
      | some (false, _), some cs => match cs[o]? with
        | some v => K (.v v) s
        | none => False
      | _, _ => False
    | _ => aev P s (.load t p) K
  | o => aev P s o K
theorem aevG_sound {P : Program} {s : AS} {o : Op} {K : AV → AS → Prop} (h : aevG P s o K) : EOp P s o K := by
  unfold aevG at h
  split at h
  · split at h
    · split at h
      · exact eop_fun (nb := none) (fop_indexG ‹_› ‹_› ‹_› ‹_› h.1 h.2.1) h.2.2
      · exact h.elim
    · exact qcm h
  · split at h
    · split at h
      · split at h
        · exact eop_fun (nb := none) (fop_loadG ‹_› ‹_› ‹_› ‹_›) h
        · exact h.elim
      · exact h.elim
    · exact qcm h
  · exact qcm h
def aseqG (P : Program) (ops : Array Oper) (K : AS → Prop) : List Oper → AS → Prop
  | [], s => K s
  | o :: l, s => match awant ops o s.t with
    | some b => qbi b (aevG P s o.op (fun x s1 => dstOk o.dst s1.n ∧ aseqG P ops K l (s1.put o.dst x))) (dstOk o.dst s.n ∧ aseqG P ops K l (s.put o.dst (.v undef)))
    | none => False
theorem aseqG_sound {P : Program} {ops : Array Oper} {K : AS → Prop} : ∀ {l : List Oper} {s : AS}, aseqG P ops K l s → aseq P ops K l s
  | [], _, h => h
  | o :: l, s, h => by
    rw [aseqG] at h
    rw [aseq]
    split at h
    · rename_i b hb
      cases b with
      | true => exact ⟨true, hb, (aevG_sound (h.1 rfl)).mono fun x s1 ⟨h1, h2⟩ => ⟨h1, aseqG_sound h2⟩⟩
      | false => exact ⟨false, hb, (h.2 rfl).1, aseqG_sound (h.2 rfl).2⟩
    · exact h.elim
theorem awp_regionG {P : Program} {s : AS} {id : Nat} {l : List Oper} {Q : Exit → AS → Prop} (h : aseqG P l.toArray (Q .normal) l s) : awp P (.region id l.toArray false) Q s := awp_region (aseqG_sound h)
theorem aseqG_step {P : Program} {ops : Array Oper} {K : AS → Prop} {o : Oper} {l : List Oper} {s : AS} (h : match awant ops o s.t with
    | some b => qbi b (aevG P s o.op (fun x s1 => dstOk o.dst s1.n ∧ aseqG P ops K l (s1.put o.dst x))) (dstOk o.dst s.n ∧ aseqG P ops K l (s.put o.dst (.v undef)))
    | none => False) : aseqG P ops K (o :: l) s := h
theorem aseqG_end {P : Program} {ops : Array Oper} {K : AS → Prop} {s : AS} (h : K s) : aseqG P ops K [] s := h
attribute [simp] aevG
end Go.Proofs.YtnkakofcejkhiaaDoor
