/- Walks of layer 25: operations, operands, and whether an instruction is formed. -/
import Derived.WideShapes
import Derived.Laws.Strings
import Derived.Scope
import Derived.Test.YtgpcpmfdklpifaaGreatDoorGa1
import Derived.Test.YtgpcpmfdklpifaaGreatDoorGa2
import Derived.Test.YtgpcpmfdklpifaaGreatDoorGa9
import Derived.Test.YtgpcpmfdklpifaaGreatDoorGa11
import Derived.Test.YtgpcpmfdklpifaaGreatDoorGa13
set_option linter.unusedSimpArgs false
set_option linter.unusedVariables false
namespace Go.Proofs.YtgpcpmfdklpifaaGreatDoor
open Go.RowKit Go.Lib
theorem isOp_g (o : Int) : Gives Tryz.prog 32 [.int o] (.bool (opOk o)) := by
  by_cases h : 0 ≤ o ∧ o < 23
  · have h2 : o = 0 ∨ o = 1 ∨ o = 2 ∨ o = 3 ∨ o = 4 ∨ o = 5 ∨ o = 6 ∨ o = 7 ∨ o = 8 ∨ o = 9 ∨ o = 10 ∨ o = 11 ∨ o = 12 ∨ o = 13 ∨ o = 14 ∨ o = 15 ∨ o = 16 ∨ o = 17 ∨ o = 18 ∨ o = 19 ∨ o = 20 ∨ o = 21 ∨ o = 22 := by omega
    clear h
    rcases h2 with rfl | rfl | rfl | rfl | rfl | rfl | rfl | rfl | rfl | rfl | rfl | rfl | rfl | rfl | rfl | rfl | rfl | rfl | rfl | rfl | rfl | rfl | rfl
    all_goals
      refine qn Tryz.func32 Tryz.ntmps32 rfl rfl (by decide) rfl (by intro n; simp) fun σ n0 hcl hft => ?_
      repeat' (first | ((first | ((with_reducible refine qo (fun hg => ?_) (fun hg => ?_)) <;> (try simp only [hg]) <;> (try simp only [gS] at hg) <;> (try (first | simp only [eq_false hg, gI] | simp only [eq_true hg, gI]))) | (with_reducible first | refine qc ?_ | refine qb ?_ | refine qi ?_ | refine qh ?_ | refine qcy ?_ | refine qdw ?_) | refine qe ?_ | refine qj ?_ | refine qk ?_ | refine qm ?_) <;> (try simp (disch := first | omega | simp) [qg, -qq, -qs])) | (with_reducible refine qcl (id := 1) ?_) | ((with_reducible refine sideT ?_ ?_); first | omega | assumption | (simp; done)) | (refine qf fun K hK => ?_) | (refine qa ?_) | refine ql ?_ | ((first | refine hK _ ?_ | (clear hK K; refine hK _ ?_) | (clear hK K; clear hK K; refine hK _ ?_)); clear hK K) | refine qd ?_)
      try rfl
  · have hf : opOk o = false := by unfold opOk; simp; omega
    rw [hf]
    by_cases h0 : 0 ≤ o
    · have h1 : ¬ o < 23 := by omega
      refine qn Tryz.func32 Tryz.ntmps32 rfl rfl (by decide) rfl (by intro n; simp) fun σ n0 hcl hft => ?_
      repeat' (first | ((first | ((with_reducible refine qo (fun hg => ?_) (fun hg => ?_)) <;> (try simp only [hg]) <;> (try simp only [gS] at hg) <;> (try (first | simp only [eq_false hg, gI] | simp only [eq_true hg, gI]))) | (with_reducible first | refine qc ?_ | refine qb ?_ | refine qi ?_ | refine qh ?_ | refine qcy ?_ | refine qdw ?_) | refine qe ?_ | refine qj ?_ | refine qk ?_ | refine qm ?_) <;> (try simp (disch := first | omega | simp) [qg, -qq, -qs, h0, h1])) | (with_reducible refine qcl (id := 1) ?_) | ((with_reducible refine sideT ?_ ?_); first | omega | assumption | (simp; done)) | (refine qf fun K hK => ?_) | (refine qa ?_) | refine ql ?_ | ((first | refine hK _ ?_ | (clear hK K; refine hK _ ?_) | (clear hK K; clear hK K; refine hK _ ?_)); clear hK K) | refine qd ?_)
    · refine qn Tryz.func32 Tryz.ntmps32 rfl rfl (by decide) rfl (by intro n; simp) fun σ n0 hcl hft => ?_
      repeat' (first | ((first | ((with_reducible refine qo (fun hg => ?_) (fun hg => ?_)) <;> (try simp only [hg]) <;> (try simp only [gS] at hg) <;> (try (first | simp only [eq_false hg, gI] | simp only [eq_true hg, gI]))) | (with_reducible first | refine qc ?_ | refine qb ?_ | refine qi ?_ | refine qh ?_ | refine qcy ?_ | refine qdw ?_) | refine qe ?_ | refine qj ?_ | refine qk ?_ | refine qm ?_) <;> (try simp (disch := first | omega | simp) [qg, -qq, -qs, h0])) | (with_reducible refine qcl (id := 1) ?_) | ((with_reducible refine sideT ?_ ?_); first | omega | assumption | (simp; done)) | (refine qf fun K hK => ?_) | (refine qa ?_) | refine ql ?_ | ((first | refine hK _ ?_ | (clear hK K; refine hK _ ?_) | (clear hK K; clear hK K; refine hK _ ?_)); clear hK K) | refine qd ?_)
theorem arity_g (o : Int) : Gives Tryz.prog 33 [.int o] (.int (arO o)) := by
  obtain ⟨R, hR⟩ : ∃ R, R = arO o := ⟨_, rfl⟩
  rw [← hR]
  unfold arO at hR
  refine qn Tryz.func33 Tryz.ntmps33 rfl rfl (by decide) rfl (by intro n; simp) fun σ n0 hcl hft => ?_
  repeat' (first | ((first | ((with_reducible refine qo (fun hg => ?_) (fun hg => ?_)) <;> (try simp only [hg]) <;> (try simp only [gS] at hg) <;> (try (first | simp only [eq_false hg, gI] | simp only [eq_true hg, gI]))) | (with_reducible first | refine qc ?_ | refine qb ?_ | refine qi ?_ | refine qh ?_) | refine qe ?_ | refine qj ?_ | refine qk ?_ | refine qm ?_) <;> (try simp (disch := first | omega | simp) [qg, -qq, -qs])) | ((with_reducible refine sideT ?_ ?_); first | omega | assumption | (simp; done)) | (refine qf fun K hK => ?_) | (refine qa ?_) | refine ql ?_ | ((first | refine hK _ ?_ | (clear hK K; refine hK _ ?_) | (clear hK K; clear hK K; refine hK _ ?_)); clear hK K) | refine qd ?_)
  all_goals (subst hR; simp_all)
theorem ops_g (x : Ins) : Gives Tryz.prog 10 [x.av] (.sl ((opsP x).map AV.int)) := by
  have c1 := isOp_g x.op
  have c2 := arity_g x.op
  have hle := qdd x.op
  unfold opsP
  generalize opOk x.op = b at *
  generalize arO x.op = n at *
  have hcl : ∀ m, AV.cls m ([AV.int x.a, .int x.b, .int x.c].take n) := fun m => AV.cls_take (by simp) n
  cases b
  · refine qn Tryz.func10 Tryz.ntmps10 rfl rfl (by decide) rfl (by intro n; simp) fun σ n0 hcl hft => ?_
    repeat' (first | ((first | ((with_reducible refine qo (fun hg => ?_) (fun hg => ?_)) <;> (try simp only [hg]) <;> (try simp only [gS] at hg) <;> (try (first | simp only [eq_false hg, gI] | simp only [eq_true hg, gI]))) | (with_reducible first | refine qc ?_ | refine qb ?_ | refine qi ?_ | refine qh ?_) | refine acall (c1) ?_ | refine qp (c1) ?_ | refine qe ?_ | refine qj ?_ | refine qk ?_ | refine qm ?_) <;> (try simp (disch := first | omega | simp) [qg, -qq, -qs])) | ((with_reducible refine sideT ?_ ?_); first | omega | assumption | (simp; done)) | (refine qf fun K hK => ?_) | (refine qa ?_) | refine ql ?_ | ((first | refine hK _ ?_ | (clear hK K; refine hK _ ?_) | (clear hK K; clear hK K; refine hK _ ?_)); clear hK K) | refine qd ?_)
  · refine qn Tryz.func10 Tryz.ntmps10 rfl rfl (by decide) rfl (by intro n; simp) fun σ n0 hcl hft => ?_
    repeat' (first | ((first | ((with_reducible refine qo (fun hg => ?_) (fun hg => ?_)) <;> (try simp only [hg]) <;> (try simp only [gS] at hg) <;> (try (first | simp only [eq_false hg, gI] | simp only [eq_true hg, gI]))) | (with_reducible first | refine qc ?_ | refine qb ?_ | refine qi ?_ | refine qh ?_) | refine acall (c1) ?_ | refine qp (c1) ?_ | refine acall (c2) ?_ | refine qp (c2) ?_ | refine qe ?_ | refine qj ?_ | refine qk ?_ | refine qm ?_) <;> (try simp (disch := first | omega | simp) [qg, -qq, -qs])) | ((with_reducible refine sideT ?_ ?_); first | omega | assumption | (simp; done)) | (refine qf fun K hK => ?_) | (refine qa ?_) | refine ql ?_ | ((first | refine hK _ ?_ | (clear hK K; refine hK _ ?_) | (clear hK K; clear hK K; refine hK _ ?_)); clear hK K) | refine qd ?_)
    all_goals first | exact hcl _ | simp_all
def bareI (x : Ins) : Ins := ⟨x.op, x.tgt, if 1 ≤ arO x.op then x.a else 0, if 2 ≤ arO x.op then x.b else 0, if 3 ≤ arO x.op then x.c else 0, if x.op = 0 ∨ x.op = 2 ∨ x.op = 3 then x.n else 0, if x.op = 1 then x.s else ByteArray.empty⟩
set_option maxHeartbeats 4000000 in
theorem bare_g (x : Ins) : Gives Tryz.prog 78 [x.av] (bareI x).av := by
  have c2 := arity_g x.op
  have hle := qdd x.op
  obtain ⟨R, hR⟩ : ∃ R, R = bareI x := ⟨_, rfl⟩
  rw [← hR]
  unfold bareI at hR
  generalize arO x.op = n at *
  have hn : n = 0 ∨ n = 1 ∨ n = 2 ∨ n = 3 := by omega
  rcases hn with rfl | rfl | rfl | rfl
  all_goals
    refine qn Tryz.func78 Tryz.ntmps78 rfl rfl (by decide) rfl (by intro n; simp) fun σ n0 hcl hft => ?_
    repeat' (first | ((first | ((with_reducible refine qo (fun hg => ?_) (fun hg => ?_)) <;> (try simp only [hg]) <;> (try simp only [gS] at hg) <;> (try (first | simp only [eq_false hg, gI] | simp only [eq_true hg, gI]))) | (with_reducible first | refine qc ?_ | refine qb ?_ | refine qi ?_ | refine qh ?_) | refine acall (c2) ?_ | refine qp (c2) ?_ | refine qe ?_ | refine qj ?_ | refine qk ?_ | refine qm ?_) <;> (try simp (disch := first | omega | simp) [qg, -qq, -qs])) | ((with_reducible refine sideT ?_ ?_); first | omega | assumption | (simp; done)) | (refine qf fun K hK => ?_) | (refine qa ?_) | refine ql ?_ | ((first | refine hK _ ?_ | (clear hK K; refine hK _ ?_) | (clear hK K; clear hK K; refine hK _ ?_)); clear hK K) | refine qd ?_ | (clear hK; clear K; clear hK; clear K; clear hK; clear K; refine hK _ ?_; clear hK; clear K) | (clear hK; clear K; clear hK; clear K; clear hK; clear K; clear hK; clear K; refine hK _ ?_; clear hK; clear K) | (clear hK; clear K; clear hK; clear K; clear hK; clear K; clear hK; clear K; clear hK; clear K; refine hK _ ?_; clear hK; clear K) | (clear hK; clear K; clear hK; clear K; clear hK; clear K; clear hK; clear K; clear hK; clear K; clear hK; clear K; refine hK _ ?_; clear hK; clear K))
    all_goals
      subst hR
      simp_all [Ins.av, -Ins.av_fold]
end Go.Proofs.YtgpcpmfdklpifaaGreatDoor

/- Walk of layer 25: whether an instruction is formed. -/
namespace Go.Proofs.YtgpcpmfdklpifaaGreatDoor
open Go.RowKit Go.Lib
theorem bare_same (x : Ins) : Ins.eqB (bareI x) x = true ↔ (3 ≤ arO x.op ∨ x.c = 0) ∧ (2 ≤ arO x.op ∨ x.b = 0) ∧ (1 ≤ arO x.op ∨ x.a = 0) ∧ ((x.op = 0 ∨ x.op = 2 ∨ x.op = 3) ∨ x.n = 0) ∧ (x.op = 1 ∨ x.s.size = 0) := by
  rw [Ins.eqB_iff]
  obtain ⟨o, t, a, b, c, n, s⟩ := x
  unfold bareI
  simp only [Ins.mk.injEq, true_and]
  have hs : (if o = 1 then s else ByteArray.empty) = s ↔ (o = 1 ∨ s.size = 0) := by
    split
    · rename_i h; exact ⟨fun _ => .inl h, fun _ => rfl⟩
    · rename_i h
      exact ⟨fun e => .inr (by rw [← e]; rfl), fun e => by rcases e with e | e; exact absurd e h; exact (size_empty e).symm⟩
  rw [hs]
  have hi : ∀ (p : Prop) [Decidable p] (v : Int), (if p then v else 0) = v ↔ (p ∨ v = 0) := fun p _ v => by
    split
    · rename_i h; exact ⟨fun _ => .inl h, fun _ => rfl⟩
    · rename_i h; exact ⟨fun e => .inr e.symm, fun e => e.elim (fun e => absurd e h) fun e => e.symm⟩
  rw [hi, hi, hi, hi]
  constructor
  · rintro ⟨h1, h2, h3, h4, h5⟩; exact ⟨h3, h2, h1, h4, h5⟩
  · rintro ⟨h1, h2, h3, h4, h5⟩; exact ⟨h3, h2, h1, h4, h5⟩
theorem formed_is (x : Ins) : qbh x = (opOk x.op && (Ins.eqB (bareI x) x && (decide ((x.s.size : Int) ≤ 200) && decide (x.op = 2 → x.n = 0 ∨ x.n = 1)))) := by
  have h := bare_same x
  have hle := qdd x.op
  unfold qbh
  cases ho : opOk x.op
  · rfl
  rw [Bool.true_and, Bool.true_and, Bool.eq_iff_iff]
  simp only [Bool.and_eq_true, h, decide_eq_true_eq]
  by_cases h0 : x.op = 0 ∨ x.op = 3
  · rw [if_pos h0]
    simp only [decide_eq_true_eq]
    omega
  · rw [if_neg h0]
    by_cases h2 : x.op = 2
    · rw [if_pos h2]
      simp only [Bool.and_eq_true, decide_eq_true_eq]
      omega
    · rw [if_neg h2]
      by_cases h1 : x.op = 1
      · rw [if_pos h1]
        simp only [Bool.and_eq_true, decide_eq_true_eq]
        omega
      · rw [if_neg h1]
        simp only [Bool.and_eq_true, decide_eq_true_eq]
        omega
set_option maxHeartbeats 1000000 in
theorem formed_g (x : Ins) : Gives Tryz.prog 61 [x.av] (.bool (qbh x)) := by
  have c1 := isOp_g x.op
  have c2 := bare_g x
  obtain ⟨R, hR⟩ : ∃ R, R = qbh x := ⟨_, rfl⟩
  rw [← hR]
  rw [formed_is] at hR
  generalize opOk x.op = b at *
  cases b
  · refine qn Tryz.func61 Tryz.ntmps61 rfl rfl (by decide) rfl (by intro n; simp) fun σ n0 hcl hft => ?_
    repeat' (first | ((first | ((with_reducible refine qo (fun hg => ?_) (fun hg => ?_)) <;> (try simp only [hg]) <;> (try simp only [gS] at hg) <;> (try (first | simp only [eq_false hg, gI] | simp only [eq_true hg, gI]))) | (with_reducible first | refine qc ?_ | refine qb ?_ | refine qi ?_ | refine qh ?_) | refine acall (c1) ?_ | refine qp (c1) ?_ | refine qe ?_ | refine qj ?_ | refine qk ?_ | refine qm ?_) <;> (try simp (disch := first | omega | simp) [qg, -qq, -qs])) | ((with_reducible refine sideT ?_ ?_); first | omega | assumption | (simp; done)) | (refine qf fun K hK => ?_) | (refine qa ?_) | refine ql ?_ | ((first | refine hK _ ?_ | (clear hK K; refine hK _ ?_) | (clear hK K; clear hK K; refine hK _ ?_)); clear hK K) | refine qd ?_)
    all_goals (subst hR; simp_all)
  generalize bareI x = y at *
  cases hy : Ins.eqB y x
  · rw [hy] at hR
    refine qn Tryz.func61 Tryz.ntmps61 rfl rfl (by decide) rfl (by intro n; simp) fun σ n0 hcl hft => ?_
    repeat' (first | ((first | ((with_reducible refine qo (fun hg => ?_) (fun hg => ?_)) <;> (try simp only [hg]) <;> (try simp only [gS] at hg) <;> (try (first | simp only [eq_false hg, gI] | simp only [eq_true hg, gI]))) | (with_reducible first | refine qc ?_ | refine qb ?_ | refine qi ?_ | refine qh ?_) | refine acall (c1) ?_ | refine qp (c1) ?_ | refine acall (c2) ?_ | refine qp (c2) ?_ | refine qe ?_ | refine qj ?_ | refine qk ?_ | refine qm ?_) <;> (try simp (disch := first | omega | simp) [qg, -qq, -qs, hy])) | ((with_reducible refine sideT ?_ ?_); first | omega | assumption | (simp; done)) | (refine qf fun K hK => ?_) | (refine qa ?_) | refine ql ?_ | ((first | refine hK _ ?_ | (clear hK K; refine hK _ ?_) | (clear hK K; clear hK K; refine hK _ ?_)); clear hK K) | refine qd ?_)
    all_goals (subst hR; simp_all)
  rw [hy] at hR
  by_cases hs : (x.s.size : Int) ≤ 200
  · have hsh : ((x.n).fdiv 2 = 0) ↔ (x.n = 0 ∨ x.n = 1) := by
      rw [Int.fdiv_eq_ediv_of_nonneg _ (by omega)]
      omega
    refine qn Tryz.func61 Tryz.ntmps61 rfl rfl (by decide) rfl (by intro n; simp) fun σ n0 hcl hft => ?_
    repeat' (first | ((first | ((with_reducible refine qo (fun hg => ?_) (fun hg => ?_)) <;> (try simp only [hg]) <;> (try simp only [gS] at hg) <;> (try (first | simp only [eq_false hg, gI] | simp only [eq_true hg, gI]))) | (with_reducible first | refine qc ?_ | refine qb ?_ | refine qi ?_ | refine qh ?_) | refine acall (c1) ?_ | refine qp (c1) ?_ | refine acall (c2) ?_ | refine qp (c2) ?_ | refine qe ?_ | refine qj ?_ | refine qk ?_ | refine qm ?_) <;> (try simp (disch := first | omega | simp) [qg, -qq, -qs, hy, hs])) | ((with_reducible refine sideT ?_ ?_); first | omega | assumption | (simp; done)) | (refine qf fun K hK => ?_) | (refine qa ?_) | refine ql ?_ | ((first | refine hK _ ?_ | (clear hK K; refine hK _ ?_) | (clear hK K; clear hK K; refine hK _ ?_)); clear hK K) | refine qd ?_)
    · rw [hR]; simp [hs, hg]
    · rw [show (2 : Int) ^ min 1 IntKind.i64.bits = 2 from rfl, hR, Bool.eq_iff_iff]
      simp only [beq_iff_eq, hsh]
      simp [hs, hg]
  · refine qn Tryz.func61 Tryz.ntmps61 rfl rfl (by decide) rfl (by intro n; simp) fun σ n0 hcl hft => ?_
    repeat' (first | ((first | ((with_reducible refine qo (fun hg => ?_) (fun hg => ?_)) <;> (try simp only [hg]) <;> (try simp only [gS] at hg) <;> (try (first | simp only [eq_false hg, gI] | simp only [eq_true hg, gI]))) | (with_reducible first | refine qc ?_ | refine qb ?_ | refine qi ?_ | refine qh ?_) | refine acall (c1) ?_ | refine qp (c1) ?_ | refine acall (c2) ?_ | refine qp (c2) ?_ | refine qe ?_ | refine qj ?_ | refine qk ?_ | refine qm ?_) <;> (try simp (disch := first | omega | simp) [qg, -qq, -qs, hy, hs])) | ((with_reducible refine sideT ?_ ?_); first | omega | assumption | (simp; done)) | (refine qf fun K hK => ?_) | (refine qa ?_) | refine ql ?_ | ((first | refine hK _ ?_ | (clear hK K; refine hK _ ?_) | (clear hK K; clear hK K; refine hK _ ?_)); clear hK K) | refine qd ?_)
    all_goals (subst hR; simp_all)
    all_goals omega
end Go.Proofs.YtgpcpmfdklpifaaGreatDoor

/- api.Value as an abstract value. -/
namespace Go.Proofs.YtgpcpmfdklpifaaGreatDoor
open Go.RowKit Go.Lib
def Val.av (x : Val) : AV := .agg [.int x.k, .int x.n, .str x.s]
@[simp] theorem Val.av_nt (x : Val) : x.av.nt = true := rfl
@[simp] theorem Val.av_sure (x : Val) : x.av.sure = true := rfl
@[simp] theorem Val.av_elem (x : Val) : x.av.elem = true := rfl
@[simp] theorem Val.av_width (x : Val) : x.av.width = 3 := rfl
@[simp] theorem Val.av_pub (x : Val) : x.av.pub = x.av := by unfold Val.av; rw [AV.pub]; simp only [AV.pubs_cons, AV.pubs_nil, AV.pub_v, pubV, AV.pub_sl]
@[simp] theorem Val.av_cells (x : Val) : x.av.cells = [.int x.k, .int x.n, .str x.s] := rfl
@[simp] theorem Val.av_fold (x : Val) : AV.agg [.int x.k, .int x.n, .str x.s] = x.av := rfl
@[simp] theorem Val.av_val? (x : Val) : x.av.val? = none := rfl
@[simp] theorem Val.rd_all (x : Val) (σ : Nat → AB) : rdAt σ true 3 (.ep x.av 0) = some x.av := rfl
@[simp] theorem Val.rd_0 (x : Val) (σ : Nat → AB) (n : Nat) : rdAt σ false n (.ep x.av 0) = some (.int x.k) := rfl
@[simp] theorem Val.rd_1 (x : Val) (σ : Nat → AB) (n : Nat) : rdAt σ false n (.ep x.av 1) = some (.int x.n) := rfl
@[simp] theorem Val.rd_2 (x : Val) (σ : Nat → AB) (n : Nat) : rdAt σ false n (.ep x.av 2) = some (.str x.s) := rfl
@[simp] theorem Val.av_cl (x : Val) (m : Nat) : x.av.cl m := by unfold Val.av; simp [-Val.av_fold]
@[simp] theorem Val.avs_cl (l : List Val) (m : Nat) : AV.cls m (l.map Val.av) := AV.cls_map (fun f => f.av_cl m) l
@[simp] theorem Val.avs_wid (l : List Val) : AV.wid (l.map Val.av) 3 := AV.wid_map (f := Val.av) (fun a => a.av_width) l
@[simp] theorem Val.avs_elms (l : List Val) : AV.elms (l.map Val.av) := AV.elms_map (f := Val.av) (fun a => a.av_elem) l
theorem Val.q : qinfo Tryz.prog 40 = some [(0, 0), (1, 0), (2, 2)] := by kernel_rfl
def Val.eqB (x y : Val) : Bool := ((x.k == y.k) && ((x.n == y.n) && (x.s.toList == y.s.toList)))
@[simp] theorem Val.aeq (x y : Val) : Proofs.YtgpcpmfdklpifaaGreatDoor.aeq Tryz.prog .eql 40 x.av y.av = some (Val.eqB x y) := by
  simp only [Proofs.YtgpcpmfdklpifaaGreatDoor.aeq, aeqS, Val.q, Val.av, feq, feq1, Val.eqB]
  simp
@[simp] theorem Val.aneq (x y : Val) : Proofs.YtgpcpmfdklpifaaGreatDoor.aeq Tryz.prog .neq 40 x.av y.av = some (!Val.eqB x y) := by
  simp only [Proofs.YtgpcpmfdklpifaaGreatDoor.aeq, aeqS, Val.q, Val.av, feq, feq1, Val.eqB]
  simp
theorem Val.eqB_iff (x y : Val) : Val.eqB x y = true ↔ x = y := by
  obtain ⟨a0, a1, a2⟩ := x
  obtain ⟨b0, b1, b2⟩ := y
  simp only [Val.eqB, Bool.and_eq_true, beq_iff_eq, Val.mk.injEq, ByteArray.toList_eq]
  have e2 : a2.data.toList = b2.data.toList ↔ a2 = b2 := ⟨fun h => WideShapes.bytes_inj h, fun h => by rw [h]⟩
  rw [e2]
theorem Val.d_av (x : Val) : x.d.av = x.av := rfl
theorem Val.ds_av (l : List Val) : (D.sl (l.map Val.d)).av = .sl (l.map Val.av) := by
  rw [D.av, D.avs_map, List.map_map]
  first
  | rfl
  | (congr 1; exact List.map_congr_left fun x _ => x.d_av)
theorem Val.flat {w : World} {x : Val} {cs : List Value} (h : Rd w Any x.d cs) : RR1 (St.flat w) x.av (.agg cs.toArray) := by
  have := qdg h
  rw [Val.d_av, Val.av, RC] at this
  exact ⟨cs, rfl, this⟩
theorem Val.flats {w : World} {l : List Val} {v : Value} (h : Rd w Any (.sl (l.map Val.d)) [v]) : RR1 (St.flat w) (.sl (l.map Val.av)) v := by
  have := qdg h
  rw [Val.ds_av] at this
  exact this
end Go.Proofs.YtgpcpmfdklpifaaGreatDoor

/- Expressions and their like as abstract values. -/
namespace Go.Proofs.YtgpcpmfdklpifaaGreatDoor
open Go.RowKit Go.Lib
mutual
def Ex.av : Ex → AV
  | .mk o n s l => .agg [.int o, .int n, .str s, .sl (Ex.avs l)]
def Ex.avs : List Ex → List AV
  | [] => []
  | e :: l => e.av :: Ex.avs l
end
theorem Ex.avs_map : ∀ l : List Ex, Ex.avs l = l.map Ex.av
  | [] => by rw [Ex.avs]; rfl
  | e :: l => by rw [Ex.avs, Ex.avs_map l]; rfl
@[simp] theorem Ex.av_mk (o n : Int) (s : ByteArray) (l : List Ex) : (Ex.mk o n s l).av = .agg [.int o, .int n, .str s, .sl (l.map Ex.av)] := by
  rw [Ex.av, Ex.avs_map]
theorem Ex.av_eq (e : Ex) : e.av = .agg [.int e.op, .int e.n, .str e.s, .sl (e.args.map Ex.av)] := by
  cases e; rw [Ex.av_mk]; rfl
@[simp] theorem Ex.av_fold (e : Ex) : AV.agg [.int e.op, .int e.n, .str e.s, .sl (e.args.map Ex.av)] = e.av := e.av_eq.symm
@[simp] theorem Ex.av_nt (e : Ex) : e.av.nt = true := by rw [Ex.av_eq]; rfl
@[simp] theorem Ex.av_pub (e : Ex) : e.av.pub = e.av := by rw [Ex.av_eq, AV.pub]; simp only [AV.pubs_cons, AV.pubs_nil, AV.pub_v, pubV, AV.pub_sl]
@[simp] theorem Ex.av_sure (e : Ex) : e.av.sure = true := by rw [Ex.av_eq]; rfl
@[simp] theorem Ex.av_cells (e : Ex) : e.av.cells = [.int e.op, .int e.n, .str e.s, .sl (e.args.map Ex.av)] := by rw [Ex.av_eq]; rfl
@[simp] theorem Ex.rd_all (e : Ex) (σ : Nat → AB) : rdAt σ true 4 (.ep e.av 0) = some e.av := by rw [Ex.av_eq]; rfl
@[simp] theorem Ex.rd_0 (e : Ex) (σ : Nat → AB) (n : Nat) : rdAt σ false n (.ep e.av 0) = some (.int e.op) := by rw [Ex.av_eq]; rfl
@[simp] theorem Ex.rd_1 (e : Ex) (σ : Nat → AB) (n : Nat) : rdAt σ false n (.ep e.av 1) = some (.int e.n) := by rw [Ex.av_eq]; rfl
@[simp] theorem Ex.rd_2 (e : Ex) (σ : Nat → AB) (n : Nat) : rdAt σ false n (.ep e.av 2) = some (.str e.s) := by rw [Ex.av_eq]; rfl
@[simp] theorem Ex.rd_3 (e : Ex) (σ : Nat → AB) (n : Nat) : rdAt σ false n (.ep e.av 3) = some (.sl (e.args.map Ex.av)) := by rw [Ex.av_eq]; rfl
@[simp] theorem Ex.av_width (e : Ex) : e.av.width = 4 := by rw [Ex.av_eq]; rfl
@[simp] theorem Ex.av_elem (e : Ex) : e.av.elem = true := by rw [Ex.av_eq]; rfl
@[simp] theorem Ex.av_cl (e : Ex) (m : Nat) : e.av.cl m := by
  induction e using Ex.ind with | h o n s l ih => ?_
  rw [Ex.av_mk, AV.cl]
  simp only [AV.cls, AV.cl, true_and, and_true]
  rw [AV.cls_iff]
  intro x hx
  obtain ⟨e, he, rfl⟩ := List.mem_map.1 hx
  exact ih e he
@[simp] theorem Ex.avs_cl (l : List Ex) (m : Nat) : AV.cls m (l.map Ex.av) := by
  rw [AV.cls_iff]
  intro x hx
  obtain ⟨e, -, rfl⟩ := List.mem_map.1 hx
  exact e.av_cl m
def Ex.cells (e : Ex) : List AV := [.int e.op, .int e.n, .str e.s, .sl (e.args.map Ex.av)]
def Fn.av (f : Fn) : AV := .agg [.str f.name, .sl (f.params.map AV.int), .int f.res, .int f.body.op, .int f.body.n, .str f.body.s, .sl (f.body.args.map Ex.av)]
@[simp] theorem Fn.av_nt (f : Fn) : f.av.nt = true := rfl
@[simp] theorem Fn.av_sure (f : Fn) : f.av.sure = true := rfl
@[simp] theorem Fn.av_elem (f : Fn) : f.av.elem = true := rfl
@[simp] theorem Fn.av_width (f : Fn) : f.av.width = 7 := rfl
@[simp] theorem Fn.av_pub (f : Fn) : f.av.pub = f.av := by unfold Fn.av; rw [AV.pub]; simp only [AV.pubs_cons, AV.pubs_nil, AV.pub_v, pubV, AV.pub_sl]
@[simp] theorem Fn.av_cells (f : Fn) : f.av.cells = [.str f.name, .sl (f.params.map AV.int), .int f.res, .int f.body.op, .int f.body.n, .str f.body.s, .sl (f.body.args.map Ex.av)] := rfl
@[simp] theorem Fn.av_fold (f : Fn) : AV.agg [.str f.name, .sl (f.params.map AV.int), .int f.res, .int f.body.op, .int f.body.n, .str f.body.s, .sl (f.body.args.map Ex.av)] = f.av := rfl
@[simp] theorem Fn.av_cl (f : Fn) (m : Nat) : f.av.cl m := by unfold Fn.av; simp [-Fn.av_fold]
@[simp] theorem Fn.rd_all (f : Fn) (σ : Nat → AB) : rdAt σ true 7 (.ep f.av 0) = some f.av := rfl
@[simp] theorem Fn.rd_0 (f : Fn) (σ : Nat → AB) (n : Nat) : rdAt σ false n (.ep f.av 0) = some (.str f.name) := rfl
@[simp] theorem Fn.rd_1 (f : Fn) (σ : Nat → AB) (n : Nat) : rdAt σ false n (.ep f.av 1) = some (.sl (f.params.map AV.int)) := rfl
@[simp] theorem Fn.rd_2 (f : Fn) (σ : Nat → AB) (n : Nat) : rdAt σ false n (.ep f.av 2) = some (.int f.res) := rfl
@[simp] theorem Fn.rd_3 (f : Fn) (σ : Nat → AB) : rdAt σ true 4 (.ep f.av 3) = some f.body.av := by rw [Ex.av_eq]; rfl
@[simp] theorem Fn.rd_30 (f : Fn) (σ : Nat → AB) (n : Nat) : rdAt σ false n (.ep f.av 3) = some (.int f.body.op) := rfl
@[simp] theorem Fn.rd_31 (f : Fn) (σ : Nat → AB) (n : Nat) : rdAt σ false n (.ep f.av 4) = some (.int f.body.n) := rfl
@[simp] theorem Fn.rd_32 (f : Fn) (σ : Nat → AB) (n : Nat) : rdAt σ false n (.ep f.av 5) = some (.str f.body.s) := rfl
@[simp] theorem Fn.rd_33 (f : Fn) (σ : Nat → AB) (n : Nat) : rdAt σ false n (.ep f.av 6) = some (.sl (f.body.args.map Ex.av)) := rfl
@[simp] theorem Fn.avs_cl (l : List Fn) (m : Nat) : AV.cls m (l.map Fn.av) := AV.cls_map (fun f => f.av_cl m) l
@[simp] theorem Ex.avs_wid (l : List Ex) : AV.wid (l.map Ex.av) 4 := AV.wid_map (f := Ex.av) (fun a => a.av_width) l
@[simp] theorem Ex.avs_elms (l : List Ex) : AV.elms (l.map Ex.av) := AV.elms_map (f := Ex.av) (fun a => a.av_elem) l
@[simp] theorem Fn.avs_wid (l : List Fn) : AV.wid (l.map Fn.av) 7 := AV.wid_map (f := Fn.av) (fun a => a.av_width) l
@[simp] theorem Fn.avs_elms (l : List Fn) : AV.elms (l.map Fn.av) := AV.elms_map (f := Fn.av) (fun a => a.av_elem) l
end Go.Proofs.YtgpcpmfdklpifaaGreatDoor

/- A slice that could grow, from now on only read. -/
namespace Go.Proofs.YtgpcpmfdklpifaaGreatDoor
open Go.RowKit Go.Lib
theorem awp_pubR {P : Program} {c : Code} {Q : Exit → AS → Prop} {n n0 : Nat} {t : Nat → AV} {σ : Nat → AB} {L : List AB} (d : Nat) {r : Nat} {l : List AV} (hd : t d = .gs r l)
    (h : awp P c Q ⟨n, upd t d (.sl l), σ, n0, L⟩) : awp P c Q ⟨n, t, σ, n0, L⟩ := by
  intro X0 a w ⟨X, hc⟩
  refine h X0 a w ⟨X, ⟨hc.w, hc.σ, hc.sr, hc.fr, hc.size, fun k => ?_, hc.defers, hc.fin⟩⟩
  show RR X (upd t d _ k) _
  unfold upd
  by_cases hk : k = d
  · subst hk
    rw [if_pos rfl]
    have h1 := hc.regs k
    change RR X (t k) _ at h1
    rw [hd] at h1
    have h2 : RC X (.gs r l) [_] := h1
    have h3 := RC.pub1 (x := .gs r l) rfl h2
    rw [AV.pub] at h3
    exact h3
  · rw [if_neg hk]; exact hc.regs k
end Go.Proofs.YtgpcpmfdklpifaaGreatDoor

/- Labels; a slice literal that the call may write (and then freeze, and let grow): regions in text order in which each literal is one. -/
namespace Go.Proofs.YtgpcpmfdklpifaaGreatDoor
open Go.RowKit Go.Lib
theorem awp_label {P : Program} {id : Nat} {Q : Exit → AS → Prop} {s : AS} (h : Q .normal s) : awp P (.label id) Q s := fun _ _ _ hc => wp_label ⟨s, h, hc⟩
def ANoGoto (Q : Exit → AS → Prop) : Exit → AS → Prop
  | .goto _, _ => False
  | e, s => Q e s
theorem awp_scope {P : Program} {c : Code} {Q : Exit → AS → Prop} {s : AS} (h : awp P c (ANoGoto Q) s) : awp P (.scope c) Q s := fun X0 a w hc =>
  wp_scope_straight (wp_mono (h X0 a w hc) fun e a' w' ⟨s', q, hc'⟩ => by
    cases e with
    | normal => exact ⟨s', q, hc'⟩
    | exit id => exact ⟨s', q, hc'⟩
    | goto l => exact q.elim
    | ret => exact ⟨s', q, hc'⟩
    | panic c => exact ⟨s', q, hc'⟩
    | outgrown => exact ⟨s', q, hc'⟩)
attribute [simp] ANoGoto
section
variable {P : Program} {ev : Operand → AV} {σ : Nat → AB}
theorem fop_litVec {t e : TypeId} {ps : List (Nat × Operand)} {n sz by_ r : Nat} (ht : vinfo P t = some (e, sz, by_)) (hn : n = ps.length) (hsm : n * sz ≤ 16777216) (hb : bldS sz 0 (ps.map fun p => (p.1, ev p.2))) (hw : AV.wid (ps.map fun p => (ev p.2).pub) sz) :
    FOp P ev σ (.buildSlice t n ps.toArray) (.own r n) (some (r, .vec (ps.map fun p => (ev p.2).pub) e sz)) := by
  intro X a oper hop hS hsub hev hnb Q
  have hu0 := hnb r _ rfl
  obtain ⟨hu, i, z, hi, hz, rfl, rfl, hzs, hsz0, hby0, hz1⟩ := qbj ht
  subst hn
  obtain ⟨c, h2, h3⟩ := bldS_run (X := X) (sz := i.size) (k := 0) (l := []) (xs := []) (vs := ps.map fun p => (p.1, a.eval p.2)) (cells := (Array.range (ps.length * i.size)).map ((if ps.length * i.size = 0 then #[] else z.cells)[· % (if ps.length * i.size = 0 then #[] else z.cells).size]!)) (by simp) (fun j p q hj hq => by
    rw [List.getElem?_map] at hj hq
    cases hp : ps[j]? with
    | none => rw [hp] at hj; cases hj
    | some p0 =>
      rw [hp] at hj hq
      cases hj; cases hq
      exact hev _ (by simp [Op.operands]; exact ⟨_, List.mem_of_getElem? hp⟩)) hb (by simp) rfl (by simp) (by simp)
  have hrun : (execOp a.eval oper).run P X.w = .ok (.value (.slice (some ⟨X.w.heap.size, 0, none⟩) ps.length ps.length)) (X.w.alloc (.cells c e)) := by
    have hbig : ¬ (2 ^ 24 < ps.length * i.size) := by omega
    have hul : (underlying t).run P X.w = .ok (.slice e) X.w := run_underlying hu X.w
    have hsz : (sizeOf e).run P X.w = .ok i.size X.w := by simp [sizeOf, typeInfo, hi]
    have hzv : (zeroValue e).run P X.w = .ok z X.w := by simp [zeroValue, typeInfo, hi, hz]
    have hps : (ps.toArray.map fun (p : Nat × Operand) => (p.1, a.eval p.2)).toList = ps.map fun p => (p.1, a.eval p.2) := by simp
    have key : (Instr.buildSlice t ps.length (ps.toArray.map fun (p : Nat × Operand) => (p.1, a.eval p.2))).run P X.w = .ok (.slice (some ⟨X.w.heap.size, 0, none⟩) ps.length ps.length) (X.w.alloc (.cells c e)) := by
      unfold Instr.buildSlice
      rw [Sem.run_bind, hul, Result.andThen_ok, Sem.run_bind, hsz, Result.andThen_ok]
      dsimp only
      rw [if_neg (by simpa using hbig)]
      by_cases h0 : ps.length * i.size = 0
      · rw [if_pos h0] at h2
        rw [if_pos h0, hps]
        simp only [Sem.run_bind, Sem.run_pure, Result.andThen_ok]
        rw [h2]
        simp [newRow]
      · rw [if_neg h0] at h2
        rw [if_neg h0, hps]
        simp only [Sem.run_bind, Sem.run_pure, Result.andThen_ok, hzv]
        rw [h2]
        simp [newRow]
    simp only [execOp, hop]
    rw [Sem.run_bind, key]; rfl
  have hlen : (ps.map fun p => (ev p.2).pub).length = ps.length := by simp
  have hv : (AB.vec (ps.map fun p => (ev p.2).pub) e i.size).blk (.slice (some ⟨X.w.heap.size, 0, none⟩) ps.length ps.length) = some X.w.heap.size := rfl
  have hF := qee hS (cs := c) (t := e) hu0 hv
  rw [List.nil_append, List.map_map] at h3
  have h3' : RCs X (ps.map fun p => (ev p.2).pub) c.toList := h3
  have hcl := RCs.len h3' hw
  rw [hlen] at hcl
  have hnl := Nat.le_mul_of_pos_right ps.length hsz0
  refine qbd hrun ⟨_, X.born r _ c e (.slice (some ⟨X.w.heap.size, 0, none⟩) ps.length ps.length), rfl, rfl, born_sr hS hu0 hv ?_, hF, ?_, rfl⟩
  · refine ⟨hw, c.toList, ⟨by rw [hlen]; exact hcl, .inr ⟨X.w.heap.size, ps.length, c, by rw [hlen], Nat.zero_le _, heap_alloc_new X.w _, by rw [hlen]; exact Nat.le_refl _, by unfold maxLen; omega, by rw [← hcl]; simp, by rw [hlen, ← hcl, List.take_length]⟩⟩, h3'.fr hF⟩
  · show RC _ (.own r _) [_]
    rw [RC]
    refine ⟨by simp [St.born, upd], _, rfl, ⟨rfl, fun I h => by simp [St.born, upd] at h⟩, fun l e2 s2 hl => ?_⟩
    simp [St.born, upd] at hl
    obtain ⟨rfl, rfl, rfl⟩ := hl
    exact ⟨by simp, fun _ => by simp [St.born, upd]⟩
end
def aevL (P : Program) (s : AS) (o : Op) (K : AV → AS → Prop) : Prop :=
  match o with
  | .buildSlice t n ⟨p :: ps⟩ => match vinfo P t with
    | some (e, sz, _) => n = (p :: ps).length ∧ n * sz ≤ 16777216 ∧ bldS sz 0 ((p :: ps).map fun p => (p.1, s.eval p.2)) ∧ AV.wid ((p :: ps).map fun p => (s.eval p.2).pub) sz ∧ K (.own s.nx n) (s.ext (some (.vec ((p :: ps).map fun p => (s.eval p.2).pub) e sz)))
    | none => False
  | o => aev P s o K
theorem aevL_sound {P : Program} {s : AS} {o : Op} {K : AV → AS → Prop} (h : aevL P s o K) : EOp P s o K := by
  unfold aevL at h
  split at h
  · split at h
    · exact eop_fun (nb := some _) (fop_litVec ‹_› h.1 h.2.1 h.2.2.1 h.2.2.2.1) h.2.2.2.2
    · exact h.elim
  · exact qcc h
def aseqL (P : Program) (ops : Array Oper) (K : AS → Prop) : List Oper → AS → Prop
  | [], s => K s
  | o :: l, s => match awant ops o s.t with
    | some b => qbq b (aevL P s o.op (fun x s1 => dstOk o.dst s1.n ∧ aseqL P ops K l (s1.put o.dst x))) (dstOk o.dst s.n ∧ aseqL P ops K l (s.put o.dst (.v undef)))
    | none => False
theorem aseqL_sound {P : Program} {ops : Array Oper} {K : AS → Prop} : ∀ {l : List Oper} {s : AS}, aseqL P ops K l s → aseq P ops K l s
  | [], _, h => h
  | o :: l, s, h => by
    rw [aseqL] at h
    rw [aseq]
    split at h
    · rename_i b hb
      cases b with
      | true => exact ⟨true, hb, (aevL_sound (h.1 rfl)).mono fun x s1 ⟨h1, h2⟩ => ⟨h1, aseqL_sound h2⟩⟩
      | false => exact ⟨false, hb, (h.2 rfl).1, aseqL_sound (h.2 rfl).2⟩
    · exact h.elim
theorem awp_regionL {P : Program} {s : AS} {id : Nat} {l : List Oper} {Q : Exit → AS → Prop} (h : aseqL P l.toArray (Q .normal) l s) : awp P (.region id l.toArray false) Q s := qck (aseqL_sound h)
attribute [simp] aevL aseqL
end Go.Proofs.YtgpcpmfdklpifaaGreatDoor

/- Walk: the levels of an expression, as the reference counts them. -/
namespace Go.Proofs.YtgpcpmfdklpifaaGreatDoor
open Go.RowKit Go.Lib
set_option maxHeartbeats 4000000 in
theorem rlevels_g' (e : Ex) : levels e ≤ 1000000 → Gives Tryz.prog 58 [e.av] (.int (levels e)) := by
  induction e using Ex.ind with | h o m s l ih => ?_
  intro hl
  rw [levels] at hl ⊢
  refine qn Tryz.func58 Tryz.ntmps58 rfl rfl (by decide) rfl (by intro n; simp) fun σ n0 hcl hft => ?_
  have hfl : l.length ≤ 9223372036854775807 := by
    simp [AV.fitss, AV.fits] at hft
    exact hft.1
  repeat' (first | ((first | ((with_reducible refine qo (fun hg => ?_) (fun hg => ?_)) <;> (try simp only [hg]) <;> (try simp only [gS] at hg) <;> (try (first | simp only [eq_false hg, gI] | simp only [eq_true hg, gI]))) | (with_reducible first | refine qc ?_ | refine qb ?_ | refine qi ?_ | refine qh ?_) | refine qe ?_ | refine qj ?_ | refine qk ?_ | refine qm ?_) <;> (try simp (disch := first | omega | simp) [qg, -qq, -qs])) | ((with_reducible refine sideT ?_ ?_); first | omega | assumption | (simp; done)) | (refine qf fun K hK => ?_) | (refine qa ?_) | refine ql ?_ | ((first | refine hK _ ?_ | (clear hK K; refine hK _ ?_) | (clear hK K; clear hK K; refine hK _ ?_)); clear hK K) | refine qd ?_)
  refine qr hcl (fun k : Nat => [(1, .ptr n0 0), (3, .int (qz (l.take k) 0)), (4, .int k)]) (fun _ => [.cells [.int o, .int m, .str s, .sl (l.map Ex.av)] 36]) (fun k => k ≤ l.length) (fun k => l.length - k) 0 (Nat.zero_le _) (by simp [qz]) fun k hk => ?_
  by_cases hlt : k < l.length
  · have c := ih l[k] (List.getElem_mem hlt) (by have := levelsL_mem l 0 l[k] (List.getElem_mem hlt); omega)
    have e1 : qz (l.take (k + 1)) 0 = max (qz (l.take k) 0) (levels l[k]) := by rw [List.take_succ_eq_append_getElem hlt, levelsL_snoc]
    repeat' (first | ((first | ((with_reducible refine qo (fun hg => ?_) (fun hg => ?_)) <;> (try simp only [hg]) <;> (try simp only [gS] at hg) <;> (try (first | simp only [eq_false hg, gI] | simp only [eq_true hg, gI]))) | (with_reducible first | refine qc ?_ | refine qb ?_ | refine qi ?_ | refine qh ?_) | refine acall (c) ?_ | refine qp (c) ?_ | refine qe ?_ | refine qj ?_ | refine qk ?_ | refine qm ?_) <;> (try simp (disch := first | omega | simp) [qg, -qq, -qs, hlt])) | ((with_reducible refine sideT ?_ ?_); first | omega | assumption | (simp; done)) | (refine qf fun K hK => ?_) | (refine qa ?_) | refine ql ?_ | ((first | refine hK _ ?_ | (clear hK K; refine hK _ ?_) | (clear hK K; clear hK K; refine hK _ ?_)); clear hK K) | refine qd ?_)
    all_goals refine ⟨k + 1, by omega, by omega, ?_⟩
    all_goals simp only [e1]
    all_goals simp
    all_goals split <;> omega
  · obtain rfl : k = l.length := by omega
    rw [List.take_length]
    have hpos := (levelsL_le l 0 0 (by omega) (by omega)).1
    generalize qz l 0 = V at *
    repeat' (first | ((first | ((with_reducible refine qo (fun hg => ?_) (fun hg => ?_)) <;> (try simp only [hg]) <;> (try simp only [gS] at hg) <;> (try (first | simp only [eq_false hg, gI] | simp only [eq_true hg, gI]))) | (with_reducible first | refine qc ?_ | refine qb ?_ | refine qi ?_ | refine qh ?_) | refine qe ?_ | refine qj ?_ | refine qk ?_ | refine qm ?_) <;> (try simp (disch := first | omega | simp) [qg, -qq, -qs, hlt])) | ((with_reducible refine sideT ?_ ?_); first | omega | assumption | (simp; done)) | (refine qf fun K hK => ?_) | (refine qa ?_) | refine ql ?_ | ((first | refine hK _ ?_ | (clear hK K; refine hK _ ?_) | (clear hK K; clear hK K; refine hK _ ?_)); clear hK K) | refine qd ?_)
theorem levels_g (e : Ex) : levels e ≤ 1000000 → Gives Tryz.prog 112 [e.av] (.int (levels e)) := by
  induction e using Ex.ind with | h o m s l ih => ?_
  intro hl
  rw [levels] at hl ⊢
  refine qn Tryz.func112 Tryz.ntmps112 rfl rfl (by decide) rfl (by intro n; simp) fun σ n0 hcl hft => ?_
  have hfl : l.length ≤ 9223372036854775807 := by
    simp [AV.fitss, AV.fits] at hft
    exact hft.1
  repeat' (first | ((first | ((with_reducible refine qo (fun hg => ?_) (fun hg => ?_)) <;> (try simp only [hg]) <;> (try simp only [gS] at hg) <;> (try (first | simp only [eq_false hg, gI] | simp only [eq_true hg, gI]))) | (with_reducible first | refine qc ?_ | refine qb ?_ | refine qi ?_ | refine qh ?_) | refine qe ?_ | refine qj ?_ | refine qk ?_ | refine qm ?_) <;> (try simp (disch := first | omega | simp) [qg, -qq, -qs])) | ((with_reducible refine sideT ?_ ?_); first | omega | assumption | (simp; done)) | (refine qf fun K hK => ?_) | (refine qa ?_) | refine ql ?_ | ((first | refine hK _ ?_ | (clear hK K; refine hK _ ?_) | (clear hK K; clear hK K; refine hK _ ?_)); clear hK K) | refine qd ?_)
  refine qr hcl (fun k : Nat => [(1, .ptr n0 0), (3, .int (qz (l.take k) 0)), (7, .sl (l.map Ex.av)), (8, .int l.length), (9, .int k)]) (fun _ => [.cells [.int o, .int m, .str s, .sl (l.map Ex.av)] 36]) (fun k => k ≤ l.length) (fun k => l.length - k) 0 (Nat.zero_le _) (by simp [qz]) fun k hk => ?_
  by_cases hlt : k < l.length
  · have c := ih l[k] (List.getElem_mem hlt) (by have := levelsL_mem l 0 l[k] (List.getElem_mem hlt); omega)
    have e1 : qz (l.take (k + 1)) 0 = max (qz (l.take k) 0) (levels l[k]) := by rw [List.take_succ_eq_append_getElem hlt, levelsL_snoc]
    repeat' (first | ((first | ((with_reducible refine qo (fun hg => ?_) (fun hg => ?_)) <;> (try simp only [hg]) <;> (try simp only [gS] at hg) <;> (try (first | simp only [eq_false hg, gI] | simp only [eq_true hg, gI]))) | (with_reducible first | refine qc ?_ | refine qb ?_ | refine qi ?_ | refine qh ?_) | refine acall (c) ?_ | refine qp (c) ?_ | refine qe ?_ | refine qj ?_ | refine qk ?_ | refine qm ?_) <;> (try simp (disch := first | omega | simp) [qg, -qq, -qs, hlt])) | ((with_reducible refine sideT ?_ ?_); first | omega | assumption | (simp; done)) | (refine qf fun K hK => ?_) | (refine qa ?_) | refine ql ?_ | ((first | refine hK _ ?_ | (clear hK K; refine hK _ ?_) | (clear hK K; clear hK K; refine hK _ ?_)); clear hK K) | refine qd ?_)
    all_goals refine ⟨k + 1, by omega, by omega, ?_⟩
    all_goals simp only [e1]
    all_goals simp
    all_goals split <;> omega
  · obtain rfl : k = l.length := by omega
    rw [List.take_length]
    have hpos := (levelsL_le l 0 0 (by omega) (by omega)).1
    generalize qz l 0 = V at *
    repeat' (first | ((first | ((with_reducible refine qo (fun hg => ?_) (fun hg => ?_)) <;> (try simp only [hg]) <;> (try simp only [gS] at hg) <;> (try (first | simp only [eq_false hg, gI] | simp only [eq_true hg, gI]))) | (with_reducible first | refine qc ?_ | refine qb ?_ | refine qi ?_ | refine qh ?_) | refine qe ?_ | refine qj ?_ | refine qk ?_ | refine qm ?_) <;> (try simp (disch := first | omega | simp) [qg, -qq, -qs, hlt])) | ((with_reducible refine sideT ?_ ?_); first | omega | assumption | (simp; done)) | (refine qf fun K hK => ?_) | (refine qa ?_) | refine ql ?_ | ((first | refine hK _ ?_ | (clear hK K; refine hK _ ?_) | (clear hK K; clear hK K; refine hK _ ?_)); clear hK K) | refine qd ?_)
end Go.Proofs.YtgpcpmfdklpifaaGreatDoor

/- Data of layer 16 as abstract values. -/
namespace Go.Proofs.YtgpcpmfdklpifaaGreatDoor
open Go.RowKit Go.Lib
theorem ints_d_av (L : List Int) : (D.sl (L.map D.int)).av = .sl (L.map AV.int) := by
  rw [D.av, D.avs_map, List.map_map]; rfl
theorem Ex.d_av (e : Ex) : e.d.av = e.av := by
  induction e using Ex.ind with | h o n s l ih => ?_
  rw [Ex.d, Ex.ds_map, D.av, Ex.av_mk]
  simp only [D.cs, D.avs_map, List.map_map]
  congr 4
  simp only [List.cons.injEq, AV.sl.injEq, and_true, true_and]
  exact List.map_congr_left fun x hx => ih x hx
theorem Fn.d_av (f : Fn) : f.d.av = f.av := by
  obtain ⟨nm, ps, rs, b⟩ := f
  have h1 := ints_d_av ps
  have h2 := Ex.d_av b
  cases b with | mk o n s l => ?_
  rw [D.av] at h1
  injection h1 with h1
  have h5 := Ex.av_eq (.mk o n s l)
  rw [Fn.d, D.av]
  rw [Ex.d, D.av, h5] at h2
  injection h2 with h2
  simp only [Ex.d, D.cs, List.append_nil] at h2 ⊢
  rw [h2, h1]
  rfl
end Go.Proofs.YtgpcpmfdklpifaaGreatDoor

/- Contracts of layer 16, as abstract ones. -/
namespace Go.Proofs.YtgpcpmfdklpifaaGreatDoor
open Go.RowKit Go.Lib
end Go.Proofs.YtgpcpmfdklpifaaGreatDoor

/- Arguments of contracts of layer 16. -/
namespace Go.Proofs.YtgpcpmfdklpifaaGreatDoor
open Go.RowKit Go.Lib
end Go.Proofs.YtgpcpmfdklpifaaGreatDoor

/- The first element with a property, and what loops that look for it know. -/
namespace Go.Proofs.YtgpcpmfdklpifaaGreatDoor
def idxP {α : Type} (p : α → Bool) : List α → Int
  | [] => -1
  | x :: l => if p x then 0 else if idxP p l = -1 then -1 else idxP p l + 1
section
variable {α : Type} {p : α → Bool}
theorem qdz (x : α) (l : List α) : idxP p (x :: l) = if p x then 0 else if idxP p l = -1 then -1 else idxP p l + 1 := rfl
theorem idxP_ge : ∀ l : List α, -1 ≤ idxP p l
  | [] => by simp [idxP]
  | x :: l => by
    have := idxP_ge l
    rw [qdz]
    split
    · omega
    · split <;> omega
theorem idxP_hit : ∀ {l : List α} {k : Nat} (h : k < l.length), p l[k] = true → (∀ j (h : j < l.length), j < k → p l[j] = false) → idxP p l = k
  | [], k, h, _, _ => by simp at h
  | x :: l, 0, h, h1, _ => by
    have h1' : p x = true := h1
    rw [qdz, if_pos h1']; rfl
  | x :: l, k + 1, h, h1, h2 => by
    have h0 : p x = false := h2 0 (by simp) (by omega)
    have hk : k < l.length := by simpa using h
    have ih := idxP_hit (l := l) (k := k) hk (by simpa using h1) fun j hj hjk => by have := h2 (j + 1) (by simpa using hj) (by omega); simpa using this
    rw [qdz, if_neg (by rw [h0]; simp), ih, if_neg (by omega)]
    omega
theorem idxP_miss : ∀ {l : List α}, (∀ j (h : j < l.length), p l[j] = false) → idxP p l = -1
  | [], _ => rfl
  | x :: l, h => by
    have h0 : p x = false := h 0 (by simp)
    rw [qdz, if_neg (by rw [h0]; simp), idxP_miss (l := l) fun j hj => by have := h (j + 1) (by simpa using hj); simpa using this]
    rfl
theorem idxP_any (l : List α) : decide (0 ≤ idxP p l) = l.any p := by
  induction l with
  | nil => rfl
  | cons x l ih =>
    have hge := idxP_ge (p := p) l
    rw [List.any_cons, ← ih]
    rw [qdz]
    by_cases hx : p x = true
    · rw [if_pos hx, hx]; rfl
    · rw [if_neg hx]
      have : p x = false := by simpa using hx
      rw [this, Bool.false_or]
      split
      · rename_i h; rw [h]
      · exact decide_eq_decide.2 (by omega)
theorem all_hit {l : List α} {k : Nat} (h : k < l.length) (h1 : p l[k] = false) : l.all p = false := by
  rw [Bool.eq_false_iff]; intro h2
  rw [List.all_eq_true] at h2
  have := h2 l[k] (List.getElem_mem h)
  rw [h1] at this; cases this
theorem all_end {l : List α} (h : ∀ j (h : j < l.length), p l[j] = true) : l.all p = true := by
  rw [List.all_eq_true]
  intro x hx
  obtain ⟨j, hj, rfl⟩ := List.getElem_of_mem hx
  exact h j hj
theorem qcu {C : α → Prop} {l : List α} {k : Nat} (h : ∀ j (h : j < l.length), j < k → C l[j]) (hk : ∀ h : k < l.length, C l[k]) : ∀ j (h : j < l.length), j < k + 1 → C l[j] := fun j hj hjk => by
  by_cases he : j = k
  · subst he; exact hk hj
  · exact h j hj (by omega)
theorem upto_all {C : α → Prop} {l : List α} {k : Nat} (h : ∀ j (h : j < l.length), j < k → C l[j]) (hk : ¬ k < l.length) : ∀ j (h : j < l.length), C l[j] := fun j hj => h j hj (by omega)
end
section
variable {α : Type} {f : α → AV} {z : AV} {L : List α} {k : Nat}
end
end Go.Proofs.YtgpcpmfdklpifaaGreatDoor

/- Walks: slices.IndexFunc and ContainsFunc at ints, with a closure over one variable, or over none. -/
namespace Go.Proofs.YtgpcpmfdklpifaaGreatDoor
open Go.RowKit Go.Lib
theorem idxI_p (L : List Int) (p : Int → Bool) (q : Nat) (hq : enters Tryz.prog q = true) (b : Nat) (σ : Nat → AB) {cs : List AV} {t : TypeId} (hb : σ b = .cells cs t) (h : ∀ x ∈ L, qbu Tryz.prog q [.int x, .ptr b 0] σ (.bool (p x))) (hL : L.length ≤ 1000000) :
    qbu Tryz.prog 60 [.sl (L.map AV.int), .fn q [.ptr b 0]] σ (.int (idxP p L)) := by
  refine qbe Tryz.func60 Tryz.ntmps60 rfl rfl (by decide) rfl (by intro n; simp) fun n0 hfin hcl hft => ?_
  have hrn := fin_lt hfin hb (by simp)
  rw [← loc_nil hfin] at h
  repeat' (first | ((first | ((with_reducible refine qo (fun hg => ?_) (fun hg => ?_)) <;> (try simp only [hg]) <;> (try simp only [gS] at hg) <;> (try (first | simp only [eq_false hg, gI] | simp only [eq_true hg, gI]))) | (with_reducible first | refine qc ?_ | refine qb ?_ | refine qi ?_ | refine qh ?_) | refine qe ?_ | refine qj ?_ | refine qk ?_ | refine qm ?_) <;> (try simp (disch := first | omega | simp) [qg, -qq, -qs])) | ((with_reducible refine sideT ?_ ?_); first | omega | assumption | (simp; done)) | (refine qf fun K hK => ?_) | (refine qa ?_) | refine ql ?_ | ((first | refine hK _ ?_ | (clear hK K; refine hK _ ?_) | (clear hK K; clear hK K; refine hK _ ?_)); clear hK K) | refine qd ?_)
  refine qr hcl (fun k : Nat => [(0, .sl (L.map AV.int)), (1, .fn q [.ptr b 0]), (7, .int L.length), (8, .int k)]) (fun _ => [])
    (fun k => k ≤ L.length ∧ ∀ j (h : j < L.length), j < k → p L[j] = false) (fun k => L.length - k) 0 (by simp) (by simp [hrn]) fun k ⟨hk, he⟩ => ?_
  by_cases hlt : k < L.length
  · have c1 := h L[k] (List.getElem_mem _)
    cases hp : p L[k]
    · rw [hp] at c1
      repeat' (first | ((first | ((with_reducible refine qo (fun hg => ?_) (fun hg => ?_)) <;> (try simp only [hg]) <;> (try simp only [gS] at hg) <;> (try (first | simp only [eq_false hg, gI] | simp only [eq_true hg, gI]))) | (with_reducible first | refine qc ?_ | refine qb ?_ | refine qi ?_ | refine qh ?_) | refine acall (c1) ?_ | refine qp (c1) ?_ | refine qbv (c1) ?_ | refine qe ?_ | refine qj ?_ | refine qk ?_ | refine qm ?_) <;> (try simp (disch := first | omega | simp) [qg, -qq, -qs, hlt, hrn, hq])) | ((with_reducible refine sideT ?_ ?_); first | omega | assumption | (simp; done)) | (refine qf fun K hK => ?_) | (refine qa ?_) | refine ql ?_ | ((first | refine hK _ ?_ | (clear hK K; refine hK _ ?_) | (clear hK K; clear hK K; refine hK _ ?_)); clear hK K) | refine qd ?_)
      exact ⟨k + 1, ⟨by omega, qcu (C := fun x : Int => p x = false) he fun _ => hp⟩, by omega, by simp [hrn]⟩
    · rw [hp] at c1
      repeat' (first | ((first | ((with_reducible refine qo (fun hg => ?_) (fun hg => ?_)) <;> (try simp only [hg]) <;> (try simp only [gS] at hg) <;> (try (first | simp only [eq_false hg, gI] | simp only [eq_true hg, gI]))) | (with_reducible first | refine qc ?_ | refine qb ?_ | refine qi ?_ | refine qh ?_) | refine acall (c1) ?_ | refine qp (c1) ?_ | refine qbv (c1) ?_ | refine qe ?_ | refine qj ?_ | refine qk ?_ | refine qm ?_) <;> (try simp (disch := first | omega | simp) [qg, -qq, -qs, hlt, hrn, hq])) | ((with_reducible refine sideT ?_ ?_); first | omega | assumption | (simp; done)) | (refine qf fun K hK => ?_) | (refine qa ?_) | refine ql ?_ | ((first | refine hK _ ?_ | (clear hK K; refine hK _ ?_) | (clear hK K; clear hK K; refine hK _ ?_)); clear hK K) | refine qd ?_)
      exact (idxP_hit hlt hp he).symm
  · repeat' (first | ((first | ((with_reducible refine qo (fun hg => ?_) (fun hg => ?_)) <;> (try simp only [hg]) <;> (try simp only [gS] at hg) <;> (try (first | simp only [eq_false hg, gI] | simp only [eq_true hg, gI]))) | (with_reducible first | refine qc ?_ | refine qb ?_ | refine qi ?_ | refine qh ?_) | refine qe ?_ | refine qj ?_ | refine qk ?_ | refine qm ?_) <;> (try simp (disch := first | omega | simp) [qg, -qq, -qs, hlt])) | ((with_reducible refine sideT ?_ ?_); first | omega | assumption | (simp; done)) | (refine qf fun K hK => ?_) | (refine qa ?_) | refine ql ?_ | ((first | refine hK _ ?_ | (clear hK K; refine hK _ ?_) | (clear hK K; clear hK K; refine hK _ ?_)); clear hK K) | refine qd ?_)
    exact (idxP_miss (upto_all (C := fun x : Int => p x = false) he hlt)).symm
theorem idxI_n (L : List Int) (p : Int → Bool) (q : Nat) (hq : enters Tryz.prog q = true) (h : ∀ x ∈ L, Gives Tryz.prog q [.int x] (.bool (p x))) (hL : L.length ≤ 1000000) :
    Gives Tryz.prog 60 [.sl (L.map AV.int), .fn q []] (.int (idxP p L)) := by
  refine qn Tryz.func60 Tryz.ntmps60 rfl rfl (by decide) rfl (by intro n; simp) fun σ n0 hcl hft => ?_
  repeat' (first | ((first | ((with_reducible refine qo (fun hg => ?_) (fun hg => ?_)) <;> (try simp only [hg]) <;> (try simp only [gS] at hg) <;> (try (first | simp only [eq_false hg, gI] | simp only [eq_true hg, gI]))) | (with_reducible first | refine qc ?_ | refine qb ?_ | refine qi ?_ | refine qh ?_) | refine qe ?_ | refine qj ?_ | refine qk ?_ | refine qm ?_) <;> (try simp (disch := first | omega | simp) [qg, -qq, -qs])) | ((with_reducible refine sideT ?_ ?_); first | omega | assumption | (simp; done)) | (refine qf fun K hK => ?_) | (refine qa ?_) | refine ql ?_ | ((first | refine hK _ ?_ | (clear hK K; refine hK _ ?_) | (clear hK K; clear hK K; refine hK _ ?_)); clear hK K) | refine qd ?_)
  refine qr hcl (fun k : Nat => [(0, .sl (L.map AV.int)), (1, .fn q []), (7, .int L.length), (8, .int k)]) (fun _ => [])
    (fun k => k ≤ L.length ∧ ∀ j (h : j < L.length), j < k → p L[j] = false) (fun k => L.length - k) 0 (by simp) (by simp) fun k ⟨hk, he⟩ => ?_
  by_cases hlt : k < L.length
  · have c1 := h L[k] (List.getElem_mem _)
    cases hp : p L[k]
    · rw [hp] at c1
      repeat' (first | ((first | ((with_reducible refine qo (fun hg => ?_) (fun hg => ?_)) <;> (try simp only [hg]) <;> (try simp only [gS] at hg) <;> (try (first | simp only [eq_false hg, gI] | simp only [eq_true hg, gI]))) | (with_reducible first | refine qc ?_ | refine qb ?_ | refine qi ?_ | refine qh ?_) | refine acall (c1) ?_ | refine qp (c1) ?_ | refine qbv (c1) ?_ | refine qe ?_ | refine qj ?_ | refine qk ?_ | refine qm ?_) <;> (try simp (disch := first | omega | simp) [qg, -qq, -qs, hlt, hq])) | ((with_reducible refine sideT ?_ ?_); first | omega | assumption | (simp; done)) | (refine qf fun K hK => ?_) | (refine qa ?_) | refine ql ?_ | ((first | refine hK _ ?_ | (clear hK K; refine hK _ ?_) | (clear hK K; clear hK K; refine hK _ ?_)); clear hK K) | refine qd ?_)
      exact ⟨k + 1, ⟨by omega, qcu (C := fun x : Int => p x = false) he fun _ => hp⟩, by omega, by simp⟩
    · rw [hp] at c1
      repeat' (first | ((first | ((with_reducible refine qo (fun hg => ?_) (fun hg => ?_)) <;> (try simp only [hg]) <;> (try simp only [gS] at hg) <;> (try (first | simp only [eq_false hg, gI] | simp only [eq_true hg, gI]))) | (with_reducible first | refine qc ?_ | refine qb ?_ | refine qi ?_ | refine qh ?_) | refine acall (c1) ?_ | refine qp (c1) ?_ | refine qbv (c1) ?_ | refine qe ?_ | refine qj ?_ | refine qk ?_ | refine qm ?_) <;> (try simp (disch := first | omega | simp) [qg, -qq, -qs, hlt, hq])) | ((with_reducible refine sideT ?_ ?_); first | omega | assumption | (simp; done)) | (refine qf fun K hK => ?_) | (refine qa ?_) | refine ql ?_ | ((first | refine hK _ ?_ | (clear hK K; refine hK _ ?_) | (clear hK K; clear hK K; refine hK _ ?_)); clear hK K) | refine qd ?_)
      exact (idxP_hit hlt hp he).symm
  · repeat' (first | ((first | ((with_reducible refine qo (fun hg => ?_) (fun hg => ?_)) <;> (try simp only [hg]) <;> (try simp only [gS] at hg) <;> (try (first | simp only [eq_false hg, gI] | simp only [eq_true hg, gI]))) | (with_reducible first | refine qc ?_ | refine qb ?_ | refine qi ?_ | refine qh ?_) | refine qe ?_ | refine qj ?_ | refine qk ?_ | refine qm ?_) <;> (try simp (disch := first | omega | simp) [qg, -qq, -qs, hlt])) | ((with_reducible refine sideT ?_ ?_); first | omega | assumption | (simp; done)) | (refine qf fun K hK => ?_) | (refine qa ?_) | refine ql ?_ | ((first | refine hK _ ?_ | (clear hK K; refine hK _ ?_) | (clear hK K; clear hK K; refine hK _ ?_)); clear hK K) | refine qd ?_)
    exact (idxP_miss (upto_all (C := fun x : Int => p x = false) he hlt)).symm
theorem contI_p (L : List Int) (p : Int → Bool) (q : Nat) (hq : enters Tryz.prog q = true) (b : Nat) (σ : Nat → AB) {cs : List AV} {t : TypeId} (hb : σ b = .cells cs t) (h : ∀ x ∈ L, qbu Tryz.prog q [.int x, .ptr b 0] σ (.bool (p x))) (hL : L.length ≤ 1000000) :
    qbu Tryz.prog 41 [.sl (L.map AV.int), .fn q [.ptr b 0]] σ (.bool (L.any p)) := by
  rw [← idxP_any]
  refine qbe Tryz.func41 Tryz.ntmps41 rfl rfl (by decide) rfl (by intro n; simp) fun n0 hfin hcl hft => ?_
  have hrn := fin_lt hfin hb (by simp)
  have c1 := idxI_p L p q hq b σ hb h hL
  rw [← loc_nil hfin] at c1
  repeat' (first | ((first | ((with_reducible refine qo (fun hg => ?_) (fun hg => ?_)) <;> (try simp only [hg]) <;> (try simp only [gS] at hg) <;> (try (first | simp only [eq_false hg, gI] | simp only [eq_true hg, gI]))) | (with_reducible first | refine qc ?_ | refine qb ?_ | refine qi ?_ | refine qh ?_) | refine acall (c1) ?_ | refine qp (c1) ?_ | refine qbv (c1) ?_ | refine qe ?_ | refine qj ?_ | refine qk ?_ | refine qm ?_) <;> (try simp (disch := first | omega | simp) [qg, -qq, -qs])) | ((with_reducible refine sideT ?_ ?_); first | omega | assumption | (simp; done)) | (refine qf fun K hK => ?_) | (refine qa ?_) | refine ql ?_ | ((first | refine hK _ ?_ | (clear hK K; refine hK _ ?_) | (clear hK K; clear hK K; refine hK _ ?_)); clear hK K) | refine qd ?_)
theorem contI_n (L : List Int) (p : Int → Bool) (q : Nat) (hq : enters Tryz.prog q = true) (h : ∀ x ∈ L, Gives Tryz.prog q [.int x] (.bool (p x))) (hL : L.length ≤ 1000000) :
    Gives Tryz.prog 41 [.sl (L.map AV.int), .fn q []] (.bool (L.any p)) := by
  rw [← idxP_any]
  refine qn Tryz.func41 Tryz.ntmps41 rfl rfl (by decide) rfl (by intro n; simp) fun σ n0 hcl hft => ?_
  repeat' (first | ((first | ((with_reducible refine qo (fun hg => ?_) (fun hg => ?_)) <;> (try simp only [hg]) <;> (try simp only [gS] at hg) <;> (try (first | simp only [eq_false hg, gI] | simp only [eq_true hg, gI]))) | (with_reducible first | refine qc ?_ | refine qb ?_ | refine qi ?_ | refine qh ?_) | refine acall (idxI_n L p q hq h hL) ?_ | refine qp (idxI_n L p q hq h hL) ?_ | refine qbv (idxI_n L p q hq h hL) ?_ | refine qe ?_ | refine qj ?_ | refine qk ?_ | refine qm ?_) <;> (try simp (disch := first | omega | simp) [qg, -qq, -qs])) | ((with_reducible refine sideT ?_ ?_); first | omega | assumption | (simp; done)) | (refine qf fun K hK => ?_) | (refine qa ?_) | refine ql ?_ | ((first | refine hK _ ?_ | (clear hK K; refine hK _ ?_) | (clear hK K; clear hK K; refine hK _ ?_)); clear hK K) | refine qd ?_)
end Go.Proofs.YtgpcpmfdklpifaaGreatDoor
