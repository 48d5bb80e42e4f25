/- Walks of chapter 3: right values and rows; of the reference, too. -/
import Derived.WideShapes
import Derived.Laws.Strings
import Derived.Test.YtnkakofcejkhiaaDoorGa1
import Derived.Test.YtnkakofcejkhiaaDoorGa4
import Derived.Test.YtnkakofcejkhiaaDoorGa10
import Derived.Test.YtnkakofcejkhiaaDoorGa12
import Derived.Test.YtnkakofcejkhiaaDoorGa14
set_option linter.unusedSimpArgs false
set_option linter.unusedVariables false
namespace Go.Proofs.YtnkakofcejkhiaaDoor
open Go.RowKit Go.Lib
def qbn (v : Val) : Bool :=
  if v.k = 0 then Val.eqB v ⟨0, v.n, ⟨#[]⟩⟩
  else if v.k = 1 then Val.eqB v ⟨1, 0, v.s⟩ && decide (v.s.size ≤ 200)
  else Val.eqB v ⟨2, 0, ⟨#[]⟩⟩ || Val.eqB v ⟨2, 1, ⟨#[]⟩⟩
def rowOk (r : List Val) : Bool := decide (r.length ≤ 12) && r.all qbn
def shortB (v : Val) : Bool := decide (v.s.size ≤ 300)
def qce (r : List Val) (n : Int) : Bool := r.all shortB && decide ((r.length : Int) ≤ n)
theorem rightV_eq (v : Val) : qbn v = if v.k = 0 then decide (v.s.toList = []) else if v.k = 1 then decide (v.n = 0) && decide (v.s.size ≤ 200) else decide (v.k = 2) && (decide (v.n = 0) || decide (v.n = 1)) && decide (v.s.toList = []) := by
  obtain ⟨k, n, s⟩ := v
  have e : (⟨#[]⟩ : ByteArray).toList = [] := by rw [ByteArray.toList_eq]
  unfold qbn
  dsimp only
  by_cases h0 : k = 0
  · subst h0
    rw [if_pos rfl, if_pos rfl]
    rw [Bool.eq_iff_iff]
    simp [Val.eqB, e]
  · rw [if_neg h0, if_neg h0]
    by_cases h1 : k = 1
    · subst h1
      rw [if_pos rfl, if_pos rfl]
      rw [Bool.eq_iff_iff]
      simp [Val.eqB]
    · rw [if_neg h1, if_neg h1]
      rw [Bool.eq_iff_iff]
      simp only [Val.eqB, e, Bool.or_eq_true, Bool.and_eq_true, beq_iff_eq, decide_eq_true_eq]
      constructor
      · rintro (⟨a, b, c⟩ | ⟨a, b, c⟩)
        · exact ⟨⟨a, .inl b⟩, c⟩
        · exact ⟨⟨a, .inr b⟩, c⟩
      · rintro ⟨⟨a, b | b⟩, c⟩
        · exact .inl ⟨a, b, c⟩
        · exact .inr ⟨a, b, c⟩
theorem less_self : ∀ l : List UInt8, Op.bytesLess l l = false
  | [] => rfl
  | c :: l => by simp [Op.bytesLess, less_self l]
theorem vint_g (n : Int) : Gives Tryd.prog 85 [.int n] (Val.av ⟨0, n, ⟨#[]⟩⟩) := by
  refine qm Tryd.func85 Tryd.ntmps85 rfl rfl (by decide) rfl (by intro n; simp) fun σ n0 hcl hft => ?_
  repeat' (first | ((first | ((with_reducible refine qo (fun hg => ?_) (fun hg => ?_)) <;> (try simp only [hg]) <;> (try simp only [beq_iff_eq, beq_eq_false_iff_ne, ne_eq, decide_eq_true_eq, decide_eq_false_iff_not, bne_iff_ne, bne_eq_false_iff_eq] at hg) <;> (try (first | simp only [eq_false hg, if_true, if_false] | simp only [eq_true hg, if_true, if_false]))) | (with_reducible first | refine qd ?_ | refine qc ?_ | refine qi ?_ | refine qh ?_) | refine qf ?_ | refine qj ?_ | refine qk ?_ | refine qn ?_) <;> (try simp (disch := first | omega | simp) [ql, -qu, -qx])) | ((with_reducible first | refine sideG ?_ ?_ | refine qr ?_ ?_ | refine sideS ?_ ?_ | refine qs ?_ ?_ | refine qt ?_ ?_ | refine sideA ?_ ?_ | refine qp ?_ ?_ | refine qq ?_ ?_); first | omega | assumption | (simp; done)) | (refine qg fun K hK => ?_) | (refine qa ?_) | (refine qb true (by kernel_rfl) (by kernel_rfl) ?_) | (refine hK _ ?_; clear hK K) | (clear hK K; refine hK _ ?_; clear hK K) | (clear hK K; clear hK K; refine hK _ ?_; clear hK K) | refine qe ?_)
  rfl
theorem vtext_g (s : ByteArray) : Gives Tryd.prog 86 [.str s] (Val.av ⟨1, 0, s⟩) := by
  refine qm Tryd.func86 Tryd.ntmps86 rfl rfl (by decide) rfl (by intro n; simp) fun σ n0 hcl hft => ?_
  repeat' (first | ((first | ((with_reducible refine qo (fun hg => ?_) (fun hg => ?_)) <;> (try simp only [hg]) <;> (try simp only [beq_iff_eq, beq_eq_false_iff_ne, ne_eq, decide_eq_true_eq, decide_eq_false_iff_not, bne_iff_ne, bne_eq_false_iff_eq] at hg) <;> (try (first | simp only [eq_false hg, if_true, if_false] | simp only [eq_true hg, if_true, if_false]))) | (with_reducible first | refine qd ?_ | refine qc ?_ | refine qi ?_ | refine qh ?_) | refine qf ?_ | refine qj ?_ | refine qk ?_ | refine qn ?_) <;> (try simp (disch := first | omega | simp) [ql, -qu, -qx])) | ((with_reducible first | refine sideG ?_ ?_ | refine qr ?_ ?_ | refine sideS ?_ ?_ | refine qs ?_ ?_ | refine qt ?_ ?_ | refine sideA ?_ ?_ | refine qp ?_ ?_ | refine qq ?_ ?_); first | omega | assumption | (simp; done)) | (refine qg fun K hK => ?_) | (refine qa ?_) | (refine qb true (by kernel_rfl) (by kernel_rfl) ?_) | (refine hK _ ?_; clear hK K) | (clear hK K; refine hK _ ?_; clear hK K) | (clear hK K; clear hK K; refine hK _ ?_; clear hK K) | refine qe ?_)
  rfl
theorem vfalse_g : Gives Tryd.prog 87 [.bool false] (Val.av ⟨2, 0, ⟨#[]⟩⟩) := by
  refine qm Tryd.func87 Tryd.ntmps87 rfl rfl (by decide) rfl (by intro n; simp) fun σ n0 hcl hft => ?_
  repeat' (first | ((first | ((with_reducible refine qo (fun hg => ?_) (fun hg => ?_)) <;> (try simp only [hg]) <;> (try simp only [beq_iff_eq, beq_eq_false_iff_ne, ne_eq, decide_eq_true_eq, decide_eq_false_iff_not, bne_iff_ne, bne_eq_false_iff_eq] at hg) <;> (try (first | simp only [eq_false hg, if_true, if_false] | simp only [eq_true hg, if_true, if_false]))) | (with_reducible first | refine qd ?_ | refine qc ?_ | refine qi ?_ | refine qh ?_) | refine qf ?_ | refine qj ?_ | refine qk ?_ | refine qn ?_) <;> (try simp (disch := first | omega | simp) [ql, -qu, -qx])) | ((with_reducible first | refine sideG ?_ ?_ | refine qr ?_ ?_ | refine sideS ?_ ?_ | refine qs ?_ ?_ | refine qt ?_ ?_ | refine sideA ?_ ?_ | refine qp ?_ ?_ | refine qq ?_ ?_); first | omega | assumption | (simp; done)) | (refine qg fun K hK => ?_) | (refine qa ?_) | (refine qb true (by kernel_rfl) (by kernel_rfl) ?_) | (refine hK _ ?_; clear hK K) | (clear hK K; refine hK _ ?_; clear hK K) | (clear hK K; clear hK K; refine hK _ ?_; clear hK K) | refine qe ?_)
  rfl
theorem vtrue_g : Gives Tryd.prog 87 [.bool true] (Val.av ⟨2, 1, ⟨#[]⟩⟩) := by
  refine qm Tryd.func87 Tryd.ntmps87 rfl rfl (by decide) rfl (by intro n; simp) fun σ n0 hcl hft => ?_
  repeat' (first | ((first | ((with_reducible refine qo (fun hg => ?_) (fun hg => ?_)) <;> (try simp only [hg]) <;> (try simp only [beq_iff_eq, beq_eq_false_iff_ne, ne_eq, decide_eq_true_eq, decide_eq_false_iff_not, bne_iff_ne, bne_eq_false_iff_eq] at hg) <;> (try (first | simp only [eq_false hg, if_true, if_false] | simp only [eq_true hg, if_true, if_false]))) | (with_reducible first | refine qd ?_ | refine qc ?_ | refine qi ?_ | refine qh ?_) | refine qf ?_ | refine qj ?_ | refine qk ?_ | refine qn ?_) <;> (try simp (disch := first | omega | simp) [ql, -qu, -qx])) | ((with_reducible first | refine sideG ?_ ?_ | refine qr ?_ ?_ | refine sideS ?_ ?_ | refine qs ?_ ?_ | refine qt ?_ ?_ | refine sideA ?_ ?_ | refine qp ?_ ?_ | refine qq ?_ ?_); first | omega | assumption | (simp; done)) | (refine qg fun K hK => ?_) | (refine qa ?_) | (refine qb true (by kernel_rfl) (by kernel_rfl) ?_) | (refine hK _ ?_; clear hK K) | (clear hK K; refine hK _ ?_; clear hK K) | (clear hK K; clear hK K; refine hK _ ?_; clear hK K) | refine qe ?_)
  rfl
theorem vright_g (v : Val) : Gives Tryd.prog 54 [v.av] (.bool (qbn v)) := by
  refine qm Tryd.func54 Tryd.ntmps54 rfl rfl (by decide) rfl (by intro n; simp) fun σ n0 hcl hft => ?_
  repeat' (first | ((first | ((with_reducible refine qo (fun hg => ?_) (fun hg => ?_)) <;> (try simp only [hg]) <;> (try simp only [beq_iff_eq, beq_eq_false_iff_ne, ne_eq, decide_eq_true_eq, decide_eq_false_iff_not, bne_iff_ne, bne_eq_false_iff_eq] at hg) <;> (try (first | simp only [eq_false hg, if_true, if_false] | simp only [eq_true hg, if_true, if_false]))) | (with_reducible first | refine qd ?_ | refine qc ?_ | refine qi ?_ | refine qh ?_) | refine acall (vint_g _) ?_ | refine qv (vint_g _) ?_ | refine acall (vtext_g _) ?_ | refine qv (vtext_g _) ?_ | refine acall (vfalse_g) ?_ | refine qv (vfalse_g) ?_ | refine acall (vtrue_g) ?_ | refine qv (vtrue_g) ?_ | refine qf ?_ | refine qj ?_ | refine qk ?_ | refine qn ?_) <;> (try simp (disch := first | omega | simp) [ql, -qu, -qx])) | ((with_reducible first | refine sideG ?_ ?_ | refine qr ?_ ?_ | refine sideS ?_ ?_ | refine qs ?_ ?_ | refine qt ?_ ?_ | refine sideA ?_ ?_ | refine qp ?_ ?_ | refine qq ?_ ?_); first | omega | assumption | (simp; done)) | (refine qg fun K hK => ?_) | (refine qa ?_) | (refine qb true (by kernel_rfl) (by kernel_rfl) ?_) | (refine hK _ ?_; clear hK K) | (clear hK K; refine hK _ ?_; clear hK K) | (clear hK K; clear hK K; refine hK _ ?_; clear hK K) | refine qe ?_)
  all_goals simp_all [qbn] <;> omega
theorem all1_g (v : Val) : Gives Tryd.prog 132 [v.av] (.bool (!qbn v)) := by
  refine qm Tryd.func132 Tryd.ntmps132 rfl rfl (by decide) rfl (by intro n; simp) fun σ n0 hcl hft => ?_
  repeat' (first | ((first | ((with_reducible refine qo (fun hg => ?_) (fun hg => ?_)) <;> (try simp only [hg]) <;> (try simp only [beq_iff_eq, beq_eq_false_iff_ne, ne_eq, decide_eq_true_eq, decide_eq_false_iff_not, bne_iff_ne, bne_eq_false_iff_eq] at hg) <;> (try (first | simp only [eq_false hg, if_true, if_false] | simp only [eq_true hg, if_true, if_false]))) | (with_reducible first | refine qd ?_ | refine qc ?_ | refine qi ?_ | refine qh ?_) | refine acall (vright_g _) ?_ | refine qv (vright_g _) ?_ | refine qf ?_ | refine qj ?_ | refine qk ?_ | refine qn ?_) <;> (try simp (disch := first | omega | simp) [ql, -qu, -qx])) | ((with_reducible first | refine sideG ?_ ?_ | refine qr ?_ ?_ | refine sideS ?_ ?_ | refine qs ?_ ?_ | refine qt ?_ ?_ | refine sideA ?_ ?_ | refine qp ?_ ?_ | refine qq ?_ ?_); first | omega | assumption | (simp; done)) | (refine qg fun K hK => ?_) | (refine qa ?_) | (refine qb true (by kernel_rfl) (by kernel_rfl) ?_) | (refine hK _ ?_; clear hK K) | (clear hK K; refine hK _ ?_; clear hK K) | (clear hK K; clear hK K; refine hK _ ?_; clear hK K) | refine qe ?_)
theorem idxV_g (L : List Val) (hL : L.length ≤ 1000000) : Gives Tryd.prog 145 [.sl (L.map Val.av), .fn 132 []] (.int (idxP (fun v => !qbn v) L)) := by
  refine qm Tryd.func145 Tryd.ntmps145 rfl rfl (by decide) rfl (by intro n; simp) fun σ n0 hcl hft => ?_
  repeat' (first | ((first | ((with_reducible refine qo (fun hg => ?_) (fun hg => ?_)) <;> (try simp only [hg]) <;> (try simp only [beq_iff_eq, beq_eq_false_iff_ne, ne_eq, decide_eq_true_eq, decide_eq_false_iff_not, bne_iff_ne, bne_eq_false_iff_eq] at hg) <;> (try (first | simp only [eq_false hg, if_true, if_false] | simp only [eq_true hg, if_true, if_false]))) | (with_reducible first | refine qd ?_ | refine qc ?_ | refine qi ?_ | refine qh ?_) | refine qf ?_ | refine qj ?_ | refine qk ?_ | refine qn ?_) <;> (try simp (disch := first | omega | simp) [ql, -qu, -qx])) | ((with_reducible first | refine sideG ?_ ?_ | refine qr ?_ ?_ | refine sideS ?_ ?_ | refine qs ?_ ?_ | refine qt ?_ ?_ | refine sideA ?_ ?_ | refine qp ?_ ?_ | refine qq ?_ ?_); first | omega | assumption | (simp; done)) | (refine qg fun K hK => ?_) | (refine qa ?_) | (refine qb true (by kernel_rfl) (by kernel_rfl) ?_) | (refine hK _ ?_; clear hK K) | (clear hK K; refine hK _ ?_; clear hK K) | (clear hK K; clear hK K; refine hK _ ?_; clear hK K) | refine qe ?_)
  refine qbb hcl (fun k : Nat => [(0, .sl (L.map Val.av)), (1, .fn 132 []), (7, .int L.length), (8, .int k)]) (fun _ => [])
    (fun k => k ≤ L.length ∧ ∀ j (h : j < L.length), j < k → qbn L[j] = true) (fun k => L.length - k) 0 (by simp) (by simp) fun k ⟨hk, he⟩ => ?_
  by_cases hlt : k < L.length
  · cases hr : qbn L[k] with
    | true =>
      have c1 := all1_g L[k]
      rw [hr] at c1
      repeat' (first | ((first | ((with_reducible refine qo (fun hg => ?_) (fun hg => ?_)) <;> (try simp only [hg]) <;> (try simp only [beq_iff_eq, beq_eq_false_iff_ne, ne_eq, decide_eq_true_eq, decide_eq_false_iff_not, bne_iff_ne, bne_eq_false_iff_eq] at hg) <;> (try (first | simp only [eq_false hg, if_true, if_false] | simp only [eq_true hg, if_true, if_false]))) | (with_reducible first | refine qd ?_ | refine qc ?_ | refine qi ?_ | refine qh ?_) | refine acall (c1) ?_ | refine qv (c1) ?_ | refine qf ?_ | refine qj ?_ | refine qk ?_ | refine qn ?_) <;> (try simp (disch := first | omega | simp) [ql, -qu, -qx, hlt])) | ((with_reducible first | refine sideG ?_ ?_ | refine qr ?_ ?_ | refine sideS ?_ ?_ | refine qs ?_ ?_ | refine qt ?_ ?_ | refine sideA ?_ ?_ | refine qp ?_ ?_ | refine qq ?_ ?_); first | omega | assumption | (simp; done)) | (refine qg fun K hK => ?_) | (refine qa ?_) | (refine qb true (by kernel_rfl) (by kernel_rfl) ?_) | (refine hK _ ?_; clear hK K) | (clear hK K; refine hK _ ?_; clear hK K) | (clear hK K; clear hK K; refine hK _ ?_; clear hK K) | refine qe ?_)
      exact ⟨k + 1, ⟨by omega, qbs (C := fun v : Val => qbn v = true) he fun _ => hr⟩, by omega, by simp⟩
    | false =>
      have c1 := all1_g L[k]
      rw [hr] at c1
      repeat' (first | ((first | ((with_reducible refine qo (fun hg => ?_) (fun hg => ?_)) <;> (try simp only [hg]) <;> (try simp only [beq_iff_eq, beq_eq_false_iff_ne, ne_eq, decide_eq_true_eq, decide_eq_false_iff_not, bne_iff_ne, bne_eq_false_iff_eq] at hg) <;> (try (first | simp only [eq_false hg, if_true, if_false] | simp only [eq_true hg, if_true, if_false]))) | (with_reducible first | refine qd ?_ | refine qc ?_ | refine qi ?_ | refine qh ?_) | refine acall (c1) ?_ | refine qv (c1) ?_ | refine qf ?_ | refine qj ?_ | refine qk ?_ | refine qn ?_) <;> (try simp (disch := first | omega | simp) [ql, -qu, -qx, hlt])) | ((with_reducible first | refine sideG ?_ ?_ | refine qr ?_ ?_ | refine sideS ?_ ?_ | refine qs ?_ ?_ | refine qt ?_ ?_ | refine sideA ?_ ?_ | refine qp ?_ ?_ | refine qq ?_ ?_); first | omega | assumption | (simp; done)) | (refine qg fun K hK => ?_) | (refine qa ?_) | (refine qb true (by kernel_rfl) (by kernel_rfl) ?_) | (refine hK _ ?_; clear hK K) | (clear hK K; refine hK _ ?_; clear hK K) | (clear hK K; clear hK K; refine hK _ ?_; clear hK K) | refine qe ?_)
      exact (idxP_hit (p := fun v => !qbn v) hlt (by simp [hr]) fun j h1 h2 => by simpa using he j h1 h2).symm
  · repeat' (first | ((first | ((with_reducible refine qo (fun hg => ?_) (fun hg => ?_)) <;> (try simp only [hg]) <;> (try simp only [beq_iff_eq, beq_eq_false_iff_ne, ne_eq, decide_eq_true_eq, decide_eq_false_iff_not, bne_iff_ne, bne_eq_false_iff_eq] at hg) <;> (try (first | simp only [eq_false hg, if_true, if_false] | simp only [eq_true hg, if_true, if_false]))) | (with_reducible first | refine qd ?_ | refine qc ?_ | refine qi ?_ | refine qh ?_) | refine qf ?_ | refine qj ?_ | refine qk ?_ | refine qn ?_) <;> (try simp (disch := first | omega | simp) [ql, -qu, -qx, hlt])) | ((with_reducible first | refine sideG ?_ ?_ | refine qr ?_ ?_ | refine sideS ?_ ?_ | refine qs ?_ ?_ | refine qt ?_ ?_ | refine sideA ?_ ?_ | refine qp ?_ ?_ | refine qq ?_ ?_); first | omega | assumption | (simp; done)) | (refine qg fun K hK => ?_) | (refine qa ?_) | (refine qb true (by kernel_rfl) (by kernel_rfl) ?_) | (refine qb false (by kernel_rfl) (by kernel_rfl) ?_) | (refine hK _ ?_; clear hK K) | (clear hK K; refine hK _ ?_; clear hK K) | (clear hK K; clear hK K; refine hK _ ?_; clear hK K) | refine qe ?_)
    exact (idxP_miss (p := fun v => !qbn v) (qda (C := fun v : Val => (!qbn v) = false) (fun j h1 h2 => by simpa using he j h1 h2) hlt)).symm
theorem all_idx (L : List Val) : decide (0 ≤ idxP (fun v => !qbn v) L) = !L.all qbn := by
  rw [idxP_any, List.not_all_eq_any_not]
theorem cont_g (L : List Val) (hL : L.length ≤ 1000000) : Gives Tryd.prog 131 [.sl (L.map Val.av), .fn 132 []] (.bool (!L.all qbn)) := by
  rw [← all_idx]
  refine qm Tryd.func131 Tryd.ntmps131 rfl rfl (by decide) rfl (by intro n; simp) fun σ n0 hcl hft => ?_
  repeat' (first | ((first | ((with_reducible refine qo (fun hg => ?_) (fun hg => ?_)) <;> (try simp only [hg]) <;> (try simp only [beq_iff_eq, beq_eq_false_iff_ne, ne_eq, decide_eq_true_eq, decide_eq_false_iff_not, bne_iff_ne, bne_eq_false_iff_eq] at hg) <;> (try (first | simp only [eq_false hg, if_true, if_false] | simp only [eq_true hg, if_true, if_false]))) | (with_reducible first | refine qd ?_ | refine qc ?_ | refine qi ?_ | refine qh ?_) | refine acall (idxV_g L hL) ?_ | refine qv (idxV_g L hL) ?_ | refine qf ?_ | refine qj ?_ | refine qk ?_ | refine qn ?_) <;> (try simp (disch := first | omega | simp) [ql, -qu, -qx])) | ((with_reducible first | refine sideG ?_ ?_ | refine qr ?_ ?_ | refine sideS ?_ ?_ | refine qs ?_ ?_ | refine qt ?_ ?_ | refine sideA ?_ ?_ | refine qp ?_ ?_ | refine qq ?_ ?_); first | omega | assumption | (simp; done)) | (refine qg fun K hK => ?_) | (refine qa ?_) | (refine qb true (by kernel_rfl) (by kernel_rfl) ?_) | (refine hK _ ?_; clear hK K) | (clear hK K; refine hK _ ?_; clear hK K) | (clear hK K; clear hK K; refine hK _ ?_; clear hK K) | refine qe ?_)
theorem vall_g (L : List Val) (hL : L.length ≤ 1000000) : Gives Tryd.prog 110 [.sl (L.map Val.av)] (.bool (L.all qbn)) := by
  refine qm Tryd.func110 Tryd.ntmps110 rfl rfl (by decide) rfl (by intro n; simp) fun σ n0 hcl hft => ?_
  repeat' (first | ((first | ((with_reducible refine qo (fun hg => ?_) (fun hg => ?_)) <;> (try simp only [hg]) <;> (try simp only [beq_iff_eq, beq_eq_false_iff_ne, ne_eq, decide_eq_true_eq, decide_eq_false_iff_not, bne_iff_ne, bne_eq_false_iff_eq] at hg) <;> (try (first | simp only [eq_false hg, if_true, if_false] | simp only [eq_true hg, if_true, if_false]))) | (with_reducible first | refine qd ?_ | refine qc ?_ | refine qi ?_ | refine qh ?_) | refine acall (cont_g L hL) ?_ | refine qv (cont_g L hL) ?_ | refine qf ?_ | refine qj ?_ | refine qk ?_ | refine qn ?_) <;> (try simp (disch := first | omega | simp) [ql, -qu, -qx])) | ((with_reducible first | refine sideG ?_ ?_ | refine qr ?_ ?_ | refine sideS ?_ ?_ | refine qs ?_ ?_ | refine qt ?_ ?_ | refine sideA ?_ ?_ | refine qp ?_ ?_ | refine qq ?_ ?_); first | omega | assumption | (simp; done)) | (refine qg fun K hK => ?_) | (refine qa ?_) | (refine qb true (by kernel_rfl) (by kernel_rfl) ?_) | (refine hK _ ?_; clear hK K) | (clear hK K; refine hK _ ?_; clear hK K) | (clear hK K; clear hK K; refine hK _ ?_; clear hK K) | refine qe ?_)
theorem row_g (L : List Val) (hL : L.length ≤ 1000000) : Gives Tryd.prog 65 [.sl (L.map Val.av)] (.bool (rowOk L)) := by
  unfold rowOk
  by_cases h : L.length ≤ 12
  · have h' : (L.length : Int) ≤ 12 := by omega
    refine qm Tryd.func65 Tryd.ntmps65 rfl rfl (by decide) rfl (by intro n; simp) fun σ n0 hcl hft => ?_
    repeat' (first | ((first | ((with_reducible refine qo (fun hg => ?_) (fun hg => ?_)) <;> (try simp only [hg]) <;> (try simp only [beq_iff_eq, beq_eq_false_iff_ne, ne_eq, decide_eq_true_eq, decide_eq_false_iff_not, bne_iff_ne, bne_eq_false_iff_eq] at hg) <;> (try (first | simp only [eq_false hg, if_true, if_false] | simp only [eq_true hg, if_true, if_false]))) | (with_reducible first | refine qd ?_ | refine qc ?_ | refine qi ?_ | refine qh ?_) | refine acall (vall_g L hL) ?_ | refine qv (vall_g L hL) ?_ | refine qf ?_ | refine qj ?_ | refine qk ?_ | refine qn ?_) <;> (try simp (disch := first | omega | simp) [ql, -qu, -qx, h, h'])) | ((with_reducible first | refine sideG ?_ ?_ | refine qr ?_ ?_ | refine sideS ?_ ?_ | refine qs ?_ ?_ | refine qt ?_ ?_ | refine sideA ?_ ?_ | refine qp ?_ ?_ | refine qq ?_ ?_); first | omega | assumption | (simp; done)) | (refine qg fun K hK => ?_) | (refine qa ?_) | (refine qb true (by kernel_rfl) (by kernel_rfl) ?_) | (refine hK _ ?_; clear hK K) | (clear hK K; refine hK _ ?_; clear hK K) | (clear hK K; clear hK K; refine hK _ ?_; clear hK K) | refine qe ?_)
  · have h' : ¬ (L.length : Int) ≤ 12 := by omega
    refine qm Tryd.func65 Tryd.ntmps65 rfl rfl (by decide) rfl (by intro n; simp) fun σ n0 hcl hft => ?_
    repeat' (first | ((first | ((with_reducible refine qo (fun hg => ?_) (fun hg => ?_)) <;> (try simp only [hg]) <;> (try simp only [beq_iff_eq, beq_eq_false_iff_ne, ne_eq, decide_eq_true_eq, decide_eq_false_iff_not, bne_iff_ne, bne_eq_false_iff_eq] at hg) <;> (try (first | simp only [eq_false hg, if_true, if_false] | simp only [eq_true hg, if_true, if_false]))) | (with_reducible first | refine qd ?_ | refine qc ?_ | refine qi ?_ | refine qh ?_) | refine acall (vall_g L hL) ?_ | refine qv (vall_g L hL) ?_ | refine qf ?_ | refine qj ?_ | refine qk ?_ | refine qn ?_) <;> (try simp (disch := first | omega | simp) [ql, -qu, -qx, h, h'])) | ((with_reducible first | refine sideG ?_ ?_ | refine qr ?_ ?_ | refine sideS ?_ ?_ | refine qs ?_ ?_ | refine qt ?_ ?_ | refine sideA ?_ ?_ | refine qp ?_ ?_ | refine qq ?_ ?_); first | omega | assumption | (simp; done)) | (refine qg fun K hK => ?_) | (refine qa ?_) | (refine qb true (by kernel_rfl) (by kernel_rfl) ?_) | (refine hK _ ?_; clear hK K) | (clear hK K; refine hK _ ?_; clear hK K) | (clear hK K; clear hK K; refine hK _ ?_; clear hK K) | refine qe ?_)
theorem short_g (L : List Val) (n : Int) (hL : L.length ≤ 9223372036854775807) : Gives Tryd.prog 33 [.sl (L.map Val.av), .int n] (.bool (qce L n)) := by
  refine qm Tryd.func33 Tryd.ntmps33 rfl rfl (by decide) rfl (by intro n; simp) fun σ n0 hcl hft => ?_
  repeat' (first | ((first | ((with_reducible refine qo (fun hg => ?_) (fun hg => ?_)) <;> (try simp only [hg]) <;> (try simp only [beq_iff_eq, beq_eq_false_iff_ne, ne_eq, decide_eq_true_eq, decide_eq_false_iff_not, bne_iff_ne, bne_eq_false_iff_eq] at hg) <;> (try (first | simp only [eq_false hg, if_true, if_false] | simp only [eq_true hg, if_true, if_false]))) | (with_reducible first | refine qd ?_ | refine qc ?_ | refine qi ?_ | refine qh ?_) | refine qf ?_ | refine qj ?_ | refine qk ?_ | refine qn ?_) <;> (try simp (disch := first | omega | simp) [ql, -qu, -qx])) | ((with_reducible first | refine sideG ?_ ?_ | refine qr ?_ ?_ | refine sideS ?_ ?_ | refine qs ?_ ?_ | refine qt ?_ ?_ | refine sideA ?_ ?_ | refine qp ?_ ?_ | refine qq ?_ ?_); first | omega | assumption | (simp; done)) | (refine qg fun K hK => ?_) | (refine qa ?_) | (refine qb true (by kernel_rfl) (by kernel_rfl) ?_) | (refine hK _ ?_; clear hK K) | (clear hK K; refine hK _ ?_; clear hK K) | (clear hK K; clear hK K; refine hK _ ?_; clear hK K) | refine qe ?_)
  refine qbb hcl (fun k : Nat => [(0, .sl (L.map Val.av)), (1, .int n), (5, .int k)]) (fun _ => [])
    (fun k => k ≤ L.length ∧ ∀ j (h : j < L.length), j < k → shortB L[j] = true) (fun k => L.length - k) 0 (by simp) (by simp) fun k ⟨hk, he⟩ => ?_
  by_cases hlt : k < L.length
  · repeat' (first | ((first | ((with_reducible refine qo (fun hg => ?_) (fun hg => ?_)) <;> (try simp only [hg]) <;> (try simp only [beq_iff_eq, beq_eq_false_iff_ne, ne_eq, decide_eq_true_eq, decide_eq_false_iff_not, bne_iff_ne, bne_eq_false_iff_eq] at hg) <;> (try (first | simp only [eq_false hg, if_true, if_false] | simp only [eq_true hg, if_true, if_false]))) | (with_reducible first | refine qd ?_ | refine qc ?_ | refine qi ?_ | refine qh ?_) | refine qf ?_ | refine qj ?_ | refine qk ?_ | refine qn ?_) <;> (try simp (disch := first | omega | simp) [ql, -qu, -qx, hlt])) | ((with_reducible first | refine sideG ?_ ?_ | refine qr ?_ ?_ | refine sideS ?_ ?_ | refine qs ?_ ?_ | refine qt ?_ ?_ | refine sideA ?_ ?_ | refine qp ?_ ?_ | refine qq ?_ ?_); first | omega | assumption | (simp; done)) | (refine qg fun K hK => ?_) | (refine qa ?_) | (refine qb true (by kernel_rfl) (by kernel_rfl) ?_) | (refine qb false (by kernel_rfl) (by kernel_rfl) ?_) | (refine hK _ ?_; clear hK K) | (clear hK K; refine hK _ ?_; clear hK K) | (clear hK K; clear hK K; refine hK _ ?_; clear hK K) | refine qe ?_)
    all_goals
      first
      | exact ⟨k + 1, ⟨by omega, qbs (C := fun c => shortB c = true) he fun _ => by unfold shortB; simp; omega⟩, by omega, by simp⟩
      | (unfold qce; rw [all_hit hlt (by unfold shortB; simp; omega)]; rfl)
  · repeat' (first | ((first | ((with_reducible refine qo (fun hg => ?_) (fun hg => ?_)) <;> (try simp only [hg]) <;> (try simp only [beq_iff_eq, beq_eq_false_iff_ne, ne_eq, decide_eq_true_eq, decide_eq_false_iff_not, bne_iff_ne, bne_eq_false_iff_eq] at hg) <;> (try (first | simp only [eq_false hg, if_true, if_false] | simp only [eq_true hg, if_true, if_false]))) | (with_reducible first | refine qd ?_ | refine qc ?_ | refine qi ?_ | refine qh ?_) | refine qf ?_ | refine qj ?_ | refine qk ?_ | refine qn ?_) <;> (try simp (disch := first | omega | simp) [ql, -qu, -qx, hlt])) | ((with_reducible first | refine sideG ?_ ?_ | refine qr ?_ ?_ | refine sideS ?_ ?_ | refine qs ?_ ?_ | refine qt ?_ ?_ | refine sideA ?_ ?_ | refine qp ?_ ?_ | refine qq ?_ ?_); first | omega | assumption | (simp; done)) | (refine qg fun K hK => ?_) | (refine qa ?_) | (refine qb true (by kernel_rfl) (by kernel_rfl) ?_) | (refine qb false (by kernel_rfl) (by kernel_rfl) ?_) | (refine hK _ ?_; clear hK K) | (clear hK K; refine hK _ ?_; clear hK K) | (clear hK K; clear hK K; refine hK _ ?_; clear hK K) | refine qe ?_)
    unfold qce
    rw [all_end (qda (C := fun c => shortB c = true) he hlt)]
    rfl
theorem rvright_g (v : Val) : Gives Tryd.prog 108 [v.av] (.bool (qbn v)) := by
  have hR := rightV_eq v
  obtain ⟨R, hR2⟩ : ∃ R, R = qbn v := ⟨_, rfl⟩
  rw [← hR2] at hR ⊢
  clear hR2
  refine qm Tryd.func108 Tryd.ntmps108 rfl rfl (by decide) rfl (by intro n; simp) fun σ n0 hcl hft => ?_
  repeat' (first | ((first | ((with_reducible refine qo (fun hg => ?_) (fun hg => ?_)) <;> (try simp only [hg]) <;> (try simp only [beq_iff_eq, beq_eq_false_iff_ne, ne_eq, decide_eq_true_eq, decide_eq_false_iff_not, bne_iff_ne, bne_eq_false_iff_eq] at hg) <;> (try (first | simp only [eq_false hg, if_true, if_false] | simp only [eq_true hg, if_true, if_false]))) | (with_reducible first | refine qd ?_ | refine qc ?_ | refine qi ?_ | refine qh ?_) | refine qf ?_ | refine qj ?_ | refine qk ?_ | refine qn ?_) <;> (try simp (disch := first | omega | simp) [ql, -qu, -qx])) | ((with_reducible first | refine sideG ?_ ?_ | refine qr ?_ ?_ | refine sideS ?_ ?_ | refine qs ?_ ?_ | refine qt ?_ ?_ | refine sideA ?_ ?_ | refine qp ?_ ?_ | refine qq ?_ ?_); first | omega | assumption | (simp; done)) | (refine qg fun K hK => ?_) | (refine qa ?_) | (refine qb true (by kernel_rfl) (by kernel_rfl) ?_) | (refine hK _ ?_; clear hK K) | (clear hK K; refine hK _ ?_; clear hK K) | (clear hK K; clear hK K; refine hK _ ?_; clear hK K) | refine qe ?_)
  all_goals (rw [hR, Bool.eq_iff_iff]; simp_all)
  all_goals first | omega | skip
theorem rall_g (L : List Val) (hL : L.length ≤ 1000000) : Gives Tryd.prog 61 [.sl (L.map Val.av)] (.bool (L.all qbn)) := by
  obtain ⟨R, hR⟩ : ∃ R, R = L.all qbn := ⟨_, rfl⟩
  rw [← hR]
  refine qm Tryd.func61 Tryd.ntmps61 rfl rfl (by decide) rfl (by intro n; simp) fun σ n0 hcl hft => ?_
  repeat' (first | ((first | ((with_reducible refine qo (fun hg => ?_) (fun hg => ?_)) <;> (try simp only [hg]) <;> (try simp only [beq_iff_eq, beq_eq_false_iff_ne, ne_eq, decide_eq_true_eq, decide_eq_false_iff_not, bne_iff_ne, bne_eq_false_iff_eq] at hg) <;> (try (first | simp only [eq_false hg, if_true, if_false] | simp only [eq_true hg, if_true, if_false]))) | (with_reducible first | refine qd ?_ | refine qc ?_ | refine qi ?_ | refine qh ?_) | refine qf ?_ | refine qj ?_ | refine qk ?_ | refine qn ?_) <;> (try simp (disch := first | omega | simp) [ql, -qu, -qx])) | ((with_reducible first | refine sideG ?_ ?_ | refine qr ?_ ?_ | refine sideS ?_ ?_ | refine qs ?_ ?_ | refine qt ?_ ?_ | refine sideA ?_ ?_ | refine qp ?_ ?_ | refine qq ?_ ?_); first | omega | assumption | (simp; done)) | (refine qg fun K hK => ?_) | (refine qa ?_) | (refine qb true (by kernel_rfl) (by kernel_rfl) ?_) | (refine hK _ ?_; clear hK K) | (clear hK K; refine hK _ ?_; clear hK K) | (clear hK K; clear hK K; refine hK _ ?_; clear hK K) | refine qe ?_)
  refine qbb hcl (fun k : Nat => [(0, .sl (L.map Val.av)), (3, .int k)]) (fun _ => [])
    (fun k => k ≤ L.length ∧ ∀ j (h : j < L.length), j < k → qbn L[j] = true) (fun k => L.length - k) 0 (by simp) (by simp) fun k ⟨hk, he⟩ => ?_
  by_cases hlt : k < L.length
  · have c1 := rvright_g L[k]
    cases hr : qbn L[k] with
    | true =>
      rw [hr] at c1
      repeat' (first | ((first | ((with_reducible refine qo (fun hg => ?_) (fun hg => ?_)) <;> (try simp only [hg]) <;> (try simp only [beq_iff_eq, beq_eq_false_iff_ne, ne_eq, decide_eq_true_eq, decide_eq_false_iff_not, bne_iff_ne, bne_eq_false_iff_eq] at hg) <;> (try (first | simp only [eq_false hg, if_true, if_false] | simp only [eq_true hg, if_true, if_false]))) | (with_reducible first | refine qd ?_ | refine qc ?_ | refine qi ?_ | refine qh ?_) | refine acall (c1) ?_ | refine qv (c1) ?_ | refine qf ?_ | refine qj ?_ | refine qk ?_ | refine qn ?_) <;> (try simp (disch := first | omega | simp) [ql, -qu, -qx, hlt])) | ((with_reducible first | refine sideG ?_ ?_ | refine qr ?_ ?_ | refine sideS ?_ ?_ | refine qs ?_ ?_ | refine qt ?_ ?_ | refine sideA ?_ ?_ | refine qp ?_ ?_ | refine qq ?_ ?_); first | omega | assumption | (simp; done)) | (refine qg fun K hK => ?_) | (refine qa ?_) | (refine qb true (by kernel_rfl) (by kernel_rfl) ?_) | (refine hK _ ?_; clear hK K) | (clear hK K; refine hK _ ?_; clear hK K) | (clear hK K; clear hK K; refine hK _ ?_; clear hK K) | refine qe ?_)
      exact ⟨k + 1, ⟨by omega, qbs (C := fun v : Val => qbn v = true) he fun _ => hr⟩, by omega, by simp⟩
    | false =>
      rw [hr] at c1
      repeat' (first | ((first | ((with_reducible refine qo (fun hg => ?_) (fun hg => ?_)) <;> (try simp only [hg]) <;> (try simp only [beq_iff_eq, beq_eq_false_iff_ne, ne_eq, decide_eq_true_eq, decide_eq_false_iff_not, bne_iff_ne, bne_eq_false_iff_eq] at hg) <;> (try (first | simp only [eq_false hg, if_true, if_false] | simp only [eq_true hg, if_true, if_false]))) | (with_reducible first | refine qd ?_ | refine qc ?_ | refine qi ?_ | refine qh ?_) | refine acall (c1) ?_ | refine qv (c1) ?_ | refine qf ?_ | refine qj ?_ | refine qk ?_ | refine qn ?_) <;> (try simp (disch := first | omega | simp) [ql, -qu, -qx, hlt])) | ((with_reducible first | refine sideG ?_ ?_ | refine qr ?_ ?_ | refine sideS ?_ ?_ | refine qs ?_ ?_ | refine qt ?_ ?_ | refine sideA ?_ ?_ | refine qp ?_ ?_ | refine qq ?_ ?_); first | omega | assumption | (simp; done)) | (refine qg fun K hK => ?_) | (refine qa ?_) | (refine qb true (by kernel_rfl) (by kernel_rfl) ?_) | (refine hK _ ?_; clear hK K) | (clear hK K; refine hK _ ?_; clear hK K) | (clear hK K; clear hK K; refine hK _ ?_; clear hK K) | refine qe ?_)
      rw [hR, all_hit hlt hr]
  · repeat' (first | ((first | ((with_reducible refine qo (fun hg => ?_) (fun hg => ?_)) <;> (try simp only [hg]) <;> (try simp only [beq_iff_eq, beq_eq_false_iff_ne, ne_eq, decide_eq_true_eq, decide_eq_false_iff_not, bne_iff_ne, bne_eq_false_iff_eq] at hg) <;> (try (first | simp only [eq_false hg, if_true, if_false] | simp only [eq_true hg, if_true, if_false]))) | (with_reducible first | refine qd ?_ | refine qc ?_ | refine qi ?_ | refine qh ?_) | refine qf ?_ | refine qj ?_ | refine qk ?_ | refine qn ?_) <;> (try simp (disch := first | omega | simp) [ql, -qu, -qx, hlt])) | ((with_reducible first | refine sideG ?_ ?_ | refine qr ?_ ?_ | refine sideS ?_ ?_ | refine qs ?_ ?_ | refine qt ?_ ?_ | refine sideA ?_ ?_ | refine qp ?_ ?_ | refine qq ?_ ?_); first | omega | assumption | (simp; done)) | (refine qg fun K hK => ?_) | (refine qa ?_) | (refine qb true (by kernel_rfl) (by kernel_rfl) ?_) | (refine qb false (by kernel_rfl) (by kernel_rfl) ?_) | (refine hK _ ?_; clear hK K) | (clear hK K; refine hK _ ?_; clear hK K) | (clear hK K; clear hK K; refine hK _ ?_; clear hK K) | refine qe ?_)
    rw [hR, all_end (qda (C := fun v : Val => qbn v = true) he hlt)]
theorem rrow_g (L : List Val) (hL : L.length ≤ 1000000) : Gives Tryd.prog 34 [.sl (L.map Val.av)] (.bool (rowOk L)) := by
  unfold rowOk
  by_cases h : L.length ≤ 12
  · have h' : (L.length : Int) ≤ 12 := by omega
    refine qm Tryd.func34 Tryd.ntmps34 rfl rfl (by decide) rfl (by intro n; simp) fun σ n0 hcl hft => ?_
    repeat' (first | ((first | ((with_reducible refine qo (fun hg => ?_) (fun hg => ?_)) <;> (try simp only [hg]) <;> (try simp only [beq_iff_eq, beq_eq_false_iff_ne, ne_eq, decide_eq_true_eq, decide_eq_false_iff_not, bne_iff_ne, bne_eq_false_iff_eq] at hg) <;> (try (first | simp only [eq_false hg, if_true, if_false] | simp only [eq_true hg, if_true, if_false]))) | (with_reducible first | refine qd ?_ | refine qc ?_ | refine qi ?_ | refine qh ?_) | refine acall (rall_g L hL) ?_ | refine qv (rall_g L hL) ?_ | refine qf ?_ | refine qj ?_ | refine qk ?_ | refine qn ?_) <;> (try simp (disch := first | omega | simp) [ql, -qu, -qx, h, h'])) | ((with_reducible first | refine sideG ?_ ?_ | refine qr ?_ ?_ | refine sideS ?_ ?_ | refine qs ?_ ?_ | refine qt ?_ ?_ | refine sideA ?_ ?_ | refine qp ?_ ?_ | refine qq ?_ ?_); first | omega | assumption | (simp; done)) | (refine qg fun K hK => ?_) | (refine qa ?_) | (refine qb true (by kernel_rfl) (by kernel_rfl) ?_) | (refine hK _ ?_; clear hK K) | (clear hK K; refine hK _ ?_; clear hK K) | (clear hK K; clear hK K; refine hK _ ?_; clear hK K) | refine qe ?_)
  · have h' : ¬ (L.length : Int) ≤ 12 := by omega
    refine qm Tryd.func34 Tryd.ntmps34 rfl rfl (by decide) rfl (by intro n; simp) fun σ n0 hcl hft => ?_
    repeat' (first | ((first | ((with_reducible refine qo (fun hg => ?_) (fun hg => ?_)) <;> (try simp only [hg]) <;> (try simp only [beq_iff_eq, beq_eq_false_iff_ne, ne_eq, decide_eq_true_eq, decide_eq_false_iff_not, bne_iff_ne, bne_eq_false_iff_eq] at hg) <;> (try (first | simp only [eq_false hg, if_true, if_false] | simp only [eq_true hg, if_true, if_false]))) | (with_reducible first | refine qd ?_ | refine qc ?_ | refine qi ?_ | refine qh ?_) | refine acall (rall_g L hL) ?_ | refine qv (rall_g L hL) ?_ | refine qf ?_ | refine qj ?_ | refine qk ?_ | refine qn ?_) <;> (try simp (disch := first | omega | simp) [ql, -qu, -qx, h, h'])) | ((with_reducible first | refine sideG ?_ ?_ | refine qr ?_ ?_ | refine sideS ?_ ?_ | refine qs ?_ ?_ | refine qt ?_ ?_ | refine sideA ?_ ?_ | refine qp ?_ ?_ | refine qq ?_ ?_); first | omega | assumption | (simp; done)) | (refine qg fun K hK => ?_) | (refine qa ?_) | (refine qb true (by kernel_rfl) (by kernel_rfl) ?_) | (refine hK _ ?_; clear hK K) | (clear hK K; refine hK _ ?_; clear hK K) | (clear hK K; clear hK K; refine hK _ ?_; clear hK K) | refine qe ?_)
theorem rcmp_g (v : Val) : Gives Tryd.prog 70 [v.av, v.av] (.int 0) := by
  have hl := less_self v.s.toList
  refine qm Tryd.func70 Tryd.ntmps70 rfl rfl (by decide) rfl (by intro n; simp) fun σ n0 hcl hft => ?_
  repeat' (first | ((first | ((with_reducible refine qo (fun hg => ?_) (fun hg => ?_)) <;> (try simp only [hg]) <;> (try simp only [beq_iff_eq, beq_eq_false_iff_ne, ne_eq, decide_eq_true_eq, decide_eq_false_iff_not, bne_iff_ne, bne_eq_false_iff_eq] at hg) <;> (try (first | simp only [eq_false hg, if_true, if_false] | simp only [eq_true hg, if_true, if_false]))) | (with_reducible first | refine qd ?_ | refine qc ?_ | refine qi ?_ | refine qh ?_) | refine qf ?_ | refine qj ?_ | refine qk ?_ | refine qn ?_) <;> (try simp (disch := first | omega | simp) [ql, -qu, -qx, hl])) | ((with_reducible first | refine sideG ?_ ?_ | refine qr ?_ ?_ | refine sideS ?_ ?_ | refine qs ?_ ?_ | refine qt ?_ ?_ | refine sideA ?_ ?_ | refine qp ?_ ?_ | refine qq ?_ ?_); first | omega | assumption | (simp; done)) | (refine qg fun K hK => ?_) | (refine qa ?_) | (refine qb true (by kernel_rfl) (by kernel_rfl) ?_) | (refine hK _ ?_; clear hK K) | (clear hK K; refine hK _ ?_; clear hK K) | (clear hK K; clear hK K; refine hK _ ?_; clear hK K) | refine qe ?_)
  all_goals first | omega | skip
theorem rcmps_g (L : List Val) (hL : L.length ≤ 1000000) : Gives Tryd.prog 40 [.sl (L.map Val.av), .sl (L.map Val.av)] (.int 0) := by
  refine qm Tryd.func40 Tryd.ntmps40 rfl rfl (by decide) rfl (by intro n; simp) fun σ n0 hcl hft => ?_
  repeat' (first | ((first | ((with_reducible refine qo (fun hg => ?_) (fun hg => ?_)) <;> (try simp only [hg]) <;> (try simp only [beq_iff_eq, beq_eq_false_iff_ne, ne_eq, decide_eq_true_eq, decide_eq_false_iff_not, bne_iff_ne, bne_eq_false_iff_eq] at hg) <;> (try (first | simp only [eq_false hg, if_true, if_false] | simp only [eq_true hg, if_true, if_false]))) | (with_reducible first | refine qd ?_ | refine qc ?_ | refine qi ?_ | refine qh ?_) | refine qf ?_ | refine qj ?_ | refine qk ?_ | refine qn ?_) <;> (try simp (disch := first | omega | simp) [ql, -qu, -qx])) | ((with_reducible first | refine sideG ?_ ?_ | refine qr ?_ ?_ | refine sideS ?_ ?_ | refine qs ?_ ?_ | refine qt ?_ ?_ | refine sideA ?_ ?_ | refine qp ?_ ?_ | refine qq ?_ ?_); first | omega | assumption | (simp; done)) | (refine qg fun K hK => ?_) | (refine qa ?_) | (refine qb true (by kernel_rfl) (by kernel_rfl) ?_) | (refine hK _ ?_; clear hK K) | (clear hK K; refine hK _ ?_; clear hK K) | (clear hK K; clear hK K; refine hK _ ?_; clear hK K) | refine qe ?_)
  refine qbb hcl (fun k : Nat => [(0, .sl (L.map Val.av)), (1, .sl (L.map Val.av)), (5, .int k)]) (fun _ => [])
    (fun k => k ≤ L.length) (fun k => L.length - k) 0 (by simp) (by simp) fun k hk => ?_
  by_cases hlt : k < L.length
  · repeat' (first | ((first | ((with_reducible refine qo (fun hg => ?_) (fun hg => ?_)) <;> (try simp only [hg]) <;> (try simp only [beq_iff_eq, beq_eq_false_iff_ne, ne_eq, decide_eq_true_eq, decide_eq_false_iff_not, bne_iff_ne, bne_eq_false_iff_eq] at hg) <;> (try (first | simp only [eq_false hg, if_true, if_false] | simp only [eq_true hg, if_true, if_false]))) | (with_reducible first | refine qd ?_ | refine qc ?_ | refine qi ?_ | refine qh ?_) | refine acall (rcmp_g _) ?_ | refine qv (rcmp_g _) ?_ | refine qw (rcmp_g _) ?_ | refine qf ?_ | refine qj ?_ | refine qk ?_ | refine qn ?_) <;> (try simp (disch := first | omega | simp) [ql, -qu, -qx, hlt])) | ((with_reducible first | refine sideG ?_ ?_ | refine qr ?_ ?_ | refine sideS ?_ ?_ | refine qs ?_ ?_ | refine qt ?_ ?_ | refine sideA ?_ ?_ | refine qp ?_ ?_ | refine qq ?_ ?_); first | omega | assumption | (simp; done)) | (refine qg fun K hK => ?_) | (refine qa ?_) | (refine qb true (by kernel_rfl) (by kernel_rfl) ?_) | (refine qb false (by kernel_rfl) (by kernel_rfl) ?_) | (refine hK _ ?_; clear hK K) | (clear hK K; refine hK _ ?_; clear hK K) | (clear hK K; clear hK K; refine hK _ ?_; clear hK K) | refine qe ?_)
    exact ⟨k + 1, by omega, by omega, by simp⟩
  · repeat' (first | ((first | ((with_reducible refine qo (fun hg => ?_) (fun hg => ?_)) <;> (try simp only [hg]) <;> (try simp only [beq_iff_eq, beq_eq_false_iff_ne, ne_eq, decide_eq_true_eq, decide_eq_false_iff_not, bne_iff_ne, bne_eq_false_iff_eq] at hg) <;> (try (first | simp only [eq_false hg, if_true, if_false] | simp only [eq_true hg, if_true, if_false]))) | (with_reducible first | refine qd ?_ | refine qc ?_ | refine qi ?_ | refine qh ?_) | refine qf ?_ | refine qj ?_ | refine qk ?_ | refine qn ?_) <;> (try simp (disch := first | omega | simp) [ql, -qu, -qx, hlt])) | ((with_reducible first | refine sideG ?_ ?_ | refine qr ?_ ?_ | refine sideS ?_ ?_ | refine qs ?_ ?_ | refine qt ?_ ?_ | refine sideA ?_ ?_ | refine qp ?_ ?_ | refine qq ?_ ?_); first | omega | assumption | (simp; done)) | (refine qg fun K hK => ?_) | (refine qa ?_) | (refine qb true (by kernel_rfl) (by kernel_rfl) ?_) | (refine qb false (by kernel_rfl) (by kernel_rfl) ?_) | (refine hK _ ?_; clear hK K) | (clear hK K; refine hK _ ?_; clear hK K) | (clear hK K; clear hK K; refine hK _ ?_; clear hK K) | refine qe ?_)
    all_goals omega
theorem rsame03_g (L : List Val) (hL : L.length ≤ 1000000) : Gives Tryd.prog 13 [.sl (L.map Val.av), .sl (L.map Val.av)] (.bool true) := by
  refine qm Tryd.func13 Tryd.ntmps13 rfl rfl (by decide) rfl (by intro n; simp) fun σ n0 hcl hft => ?_
  repeat' (first | ((first | ((with_reducible refine qo (fun hg => ?_) (fun hg => ?_)) <;> (try simp only [hg]) <;> (try simp only [beq_iff_eq, beq_eq_false_iff_ne, ne_eq, decide_eq_true_eq, decide_eq_false_iff_not, bne_iff_ne, bne_eq_false_iff_eq] at hg) <;> (try (first | simp only [eq_false hg, if_true, if_false] | simp only [eq_true hg, if_true, if_false]))) | (with_reducible first | refine qd ?_ | refine qc ?_ | refine qi ?_ | refine qh ?_) | refine acall (rcmps_g L hL) ?_ | refine qv (rcmps_g L hL) ?_ | refine qf ?_ | refine qj ?_ | refine qk ?_ | refine qn ?_) <;> (try simp (disch := first | omega | simp) [ql, -qu, -qx])) | ((with_reducible first | refine sideG ?_ ?_ | refine qr ?_ ?_ | refine sideS ?_ ?_ | refine qs ?_ ?_ | refine qt ?_ ?_ | refine sideA ?_ ?_ | refine qp ?_ ?_ | refine qq ?_ ?_); first | omega | assumption | (simp; done)) | (refine qg fun K hK => ?_) | (refine qa ?_) | (refine qb true (by kernel_rfl) (by kernel_rfl) ?_) | (refine hK _ ?_; clear hK K) | (clear hK K; refine hK _ ?_; clear hK K) | (clear hK K; clear hK K; refine hK _ ?_; clear hK K) | refine qe ?_)
end Go.Proofs.YtnkakofcejkhiaaDoor

/- Layer 27 on plain data: batches that fit; the columns of a program. -/
namespace Go.Proofs.YtnkakofcejkhiaaDoor
open Go.RowKit Go.Lib
theorem rightV_sound {v : Val} (h : qbn v = true) : qbh v := by
  rw [rightV_eq] at h
  unfold qbh okV
  by_cases h0 : v.k = 0
  · rw [if_pos h0] at h ⊢
    refine ⟨h, ?_⟩
    have h1 : v.s.toList = [] := by simpa using h
    have h2 : v.s.size = 0 := by rw [Lib.size_eq, ← ByteArray.toList_eq, h1]; rfl
    omega
  · rw [if_neg h0] at h ⊢
    by_cases h1 : v.k = 1
    · rw [if_pos h1] at h ⊢
      simp only [Bool.and_eq_true, decide_eq_true_eq] at h ⊢
      exact ⟨⟨h.1, by omega⟩, h.2⟩
    · rw [if_neg h1] at h ⊢
      refine ⟨h, ?_⟩
      simp only [Bool.and_eq_true, decide_eq_true_eq] at h
      have h2 : v.s.size = 0 := by rw [Lib.size_eq, ← ByteArray.toList_eq, h.2]; rfl
      omega
def qbq (cols : List Int) (r : List Val) : Bool := decide (r.length = cols.length) && rowOk r && decide (r.map Val.k = cols)
def fitsD (cols : List Int) (l : List Delta) : Bool := l.all fun d => qbq cols d.row
theorem fitRow_fit {cols : List Int} {r : List Val} (h : qbq cols r = true) : qca cols r := by
  unfold qbq rowOk at h
  simp only [Bool.and_eq_true, decide_eq_true_eq, List.all_eq_true] at h
  rw [← h.2]
  exact qca.of fun v hv => rightV_sound (h.1.2.2 v hv)
theorem fitsD_mem {cols : List Int} {l : List Delta} (h : fitsD cols l = true) {d : Delta} (hd : d ∈ l) : qca cols d.row := by
  unfold fitsD at h
  rw [List.all_eq_true] at h
  exact fitRow_fit (h d hd)
def colD (l : List Delta) (ins : List Ins) (nt : Nat) (r : Nat) : List Val := l.map fun d => (regsI d.time d.row ins (List.replicate nt zeroV)).getD r zeroV
def runD (c : Cod) (l : List Delta) : List Val := l.map fun d => valC c d.time d.row
def runP (c : Cod) (cols : List Int) (l : List Delta) : List Val × Int :=
  if (verP c cols).2 ≠ 0 then ([], (verP c cols).2) else if fitsD cols l = false then ([], 16) else (runD c l, 0)
def workP (c : Cod) (rows : Int) : Int :=
  if rows ≤ 0 ∨ c.ins.length = 0 then 0 else if 1099511627776 / (c.ins.length : Int) < rows then 1099511627776 else c.ins.length * rows
end Go.Proofs.YtnkakofcejkhiaaDoor

/- api.Delta as an abstract value. -/
namespace Go.Proofs.YtnkakofcejkhiaaDoor
open Go.RowKit Go.Lib
def Delta.av (x : Delta) : AV := .agg [.int x.time, .sl (x.row.map Val.av), .int x.n]
@[simp] theorem Delta.av_nt (x : Delta) : x.av.nt = true := rfl
@[simp] theorem Delta.av_sure (x : Delta) : x.av.sure = true := rfl
@[simp] theorem Delta.av_elem (x : Delta) : x.av.elem = true := rfl
@[simp] theorem Delta.av_width (x : Delta) : x.av.width = 3 := rfl
@[simp] theorem Delta.av_pub (x : Delta) : x.av.pub = x.av := by unfold Delta.av; rw [AV.pub]; simp only [AV.pubs_cons, AV.pubs_nil, AV.pub_v, pubV, AV.pub_sl]
@[simp] theorem Delta.av_cells (x : Delta) : x.av.cells = [.int x.time, .sl (x.row.map Val.av), .int x.n] := rfl
@[simp] theorem Delta.av_fold (x : Delta) : AV.agg [.int x.time, .sl (x.row.map Val.av), .int x.n] = x.av := rfl
@[simp] theorem Delta.av_val? (x : Delta) : x.av.val? = none := rfl
@[simp] theorem Delta.rd_all (x : Delta) (σ : Nat → AB) : rdAt σ true 3 (.ep x.av 0) = some x.av := rfl
@[simp] theorem Delta.rd_0 (x : Delta) (σ : Nat → AB) (n : Nat) : rdAt σ false n (.ep x.av 0) = some (.int x.time) := rfl
@[simp] theorem Delta.rd_1 (x : Delta) (σ : Nat → AB) (n : Nat) : rdAt σ false n (.ep x.av 1) = some (.sl (x.row.map Val.av)) := rfl
@[simp] theorem Delta.rd_2 (x : Delta) (σ : Nat → AB) (n : Nat) : rdAt σ false n (.ep x.av 2) = some (.int x.n) := rfl
@[simp] theorem Delta.av_cl (x : Delta) (m : Nat) : x.av.cl m := by unfold Delta.av; simp [-Delta.av_fold]
@[simp] theorem Delta.avs_cl (l : List Delta) (m : Nat) : AV.cls m (l.map Delta.av) := AV.cls_map (fun f => f.av_cl m) l
@[simp] theorem Delta.avs_wid (l : List Delta) : AV.wid (l.map Delta.av) 3 := AV.wid_map (f := Delta.av) (fun a => a.av_width) l
@[simp] theorem Delta.avs_elms (l : List Delta) : AV.elms (l.map Delta.av) := AV.elms_map (f := Delta.av) (fun a => a.av_elem) l
theorem Delta.d_av (x : Delta) : x.d.av = x.av := by
  simp only [Delta.d, Delta.av, D.av, D.cs, D.avs_map, List.map_map, List.nil_append, List.cons_append, List.append_nil]
  rw [show D.av ∘ Val.d = Val.av from funext Val.d_av]
  try rfl
theorem Delta.ds_av (l : List Delta) : (D.sl (l.map Delta.d)).av = .sl (l.map Delta.av) := by
  rw [D.av, D.avs_map, List.map_map]
  first
  | rfl
  | (congr 1; exact List.map_congr_left fun x _ => x.d_av)
theorem Delta.flat {w : World} {x : Delta} {cs : List Value} (h : Rd w Any x.d cs) : RR1 (St.flat w) x.av (.agg cs.toArray) := by
  have := qcz h
  rw [Delta.d_av, Delta.av, RC] at this
  exact ⟨cs, rfl, this⟩
theorem Delta.flats {w : World} {l : List Delta} {v : Value} (h : Rd w Any (.sl (l.map Delta.d)) [v]) : RR1 (St.flat w) (.sl (l.map Delta.av)) v := by
  have := qcz h
  rw [Delta.ds_av] at this
  exact this
end Go.Proofs.YtnkakofcejkhiaaDoor

/- api.Ins as an abstract value. -/
namespace Go.Proofs.YtnkakofcejkhiaaDoor
open Go.RowKit Go.Lib
def Ins.av (x : Ins) : AV := .agg [.int x.op, .int x.to, .int x.a, .int x.b, .int x.c, .int x.n, .str x.s]
@[simp] theorem Ins.av_nt (x : Ins) : x.av.nt = true := rfl
@[simp] theorem Ins.av_sure (x : Ins) : x.av.sure = true := rfl
@[simp] theorem Ins.av_elem (x : Ins) : x.av.elem = true := rfl
@[simp] theorem Ins.av_width (x : Ins) : x.av.width = 7 := rfl
@[simp] theorem Ins.av_pub (x : Ins) : x.av.pub = x.av := by unfold Ins.av; rw [AV.pub]; simp only [AV.pubs_cons, AV.pubs_nil, AV.pub_v, pubV, AV.pub_sl]
@[simp] theorem Ins.av_cells (x : Ins) : x.av.cells = [.int x.op, .int x.to, .int x.a, .int x.b, .int x.c, .int x.n, .str x.s] := rfl
@[simp] theorem Ins.av_fold (x : Ins) : AV.agg [.int x.op, .int x.to, .int x.a, .int x.b, .int x.c, .int x.n, .str x.s] = x.av := rfl
@[simp] theorem Ins.av_val? (x : Ins) : x.av.val? = none := rfl
@[simp] theorem Ins.rd_all (x : Ins) (σ : Nat → AB) : rdAt σ true 7 (.ep x.av 0) = some x.av := rfl
@[simp] theorem Ins.rd_0 (x : Ins) (σ : Nat → AB) (n : Nat) : rdAt σ false n (.ep x.av 0) = some (.int x.op) := rfl
@[simp] theorem Ins.rd_1 (x : Ins) (σ : Nat → AB) (n : Nat) : rdAt σ false n (.ep x.av 1) = some (.int x.to) := rfl
@[simp] theorem Ins.rd_2 (x : Ins) (σ : Nat → AB) (n : Nat) : rdAt σ false n (.ep x.av 2) = some (.int x.a) := rfl
@[simp] theorem Ins.rd_3 (x : Ins) (σ : Nat → AB) (n : Nat) : rdAt σ false n (.ep x.av 3) = some (.int x.b) := rfl
@[simp] theorem Ins.rd_4 (x : Ins) (σ : Nat → AB) (n : Nat) : rdAt σ false n (.ep x.av 4) = some (.int x.c) := rfl
@[simp] theorem Ins.rd_5 (x : Ins) (σ : Nat → AB) (n : Nat) : rdAt σ false n (.ep x.av 5) = some (.int x.n) := rfl
@[simp] theorem Ins.rd_6 (x : Ins) (σ : Nat → AB) (n : Nat) : rdAt σ false n (.ep x.av 6) = some (.str x.s) := rfl
@[simp] theorem Ins.av_cl (x : Ins) (m : Nat) : x.av.cl m := by unfold Ins.av; simp [-Ins.av_fold]
@[simp] theorem Ins.avs_cl (l : List Ins) (m : Nat) : AV.cls m (l.map Ins.av) := AV.cls_map (fun f => f.av_cl m) l
@[simp] theorem Ins.avs_wid (l : List Ins) : AV.wid (l.map Ins.av) 7 := AV.wid_map (f := Ins.av) (fun a => a.av_width) l
@[simp] theorem Ins.avs_elms (l : List Ins) : AV.elms (l.map Ins.av) := AV.elms_map (f := Ins.av) (fun a => a.av_elem) l
theorem Ins.q : qinfo Tryd.prog 68 = some [(0, 0), (1, 0), (2, 0), (3, 0), (4, 0), (5, 0), (6, 2)] := by kernel_rfl
def Ins.eqB (x y : Ins) : Bool := ((x.op == y.op) && ((x.to == y.to) && ((x.a == y.a) && ((x.b == y.b) && ((x.c == y.c) && ((x.n == y.n) && (x.s.toList == y.s.toList)))))))
@[simp] theorem Ins.aeq (x y : Ins) : Proofs.YtnkakofcejkhiaaDoor.aeq Tryd.prog .eql 68 x.av y.av = some (Ins.eqB x y) := by
  simp only [Proofs.YtnkakofcejkhiaaDoor.aeq, aeqS, Ins.q, Ins.av, feq, feq1, Ins.eqB]
  simp
@[simp] theorem Ins.aneq (x y : Ins) : Proofs.YtnkakofcejkhiaaDoor.aeq Tryd.prog .neq 68 x.av y.av = some (!Ins.eqB x y) := by
  simp only [Proofs.YtnkakofcejkhiaaDoor.aeq, aeqS, Ins.q, Ins.av, feq, feq1, Ins.eqB]
  simp
theorem Ins.eqB_iff (x y : Ins) : Ins.eqB x y = true ↔ x = y := by
  obtain ⟨a0, a1, a2, a3, a4, a5, a6⟩ := x
  obtain ⟨b0, b1, b2, b3, b4, b5, b6⟩ := y
  simp only [Ins.eqB, Bool.and_eq_true, beq_iff_eq, Ins.mk.injEq, ByteArray.toList_eq]
  have e6 : a6.data.toList = b6.data.toList ↔ a6 = b6 := ⟨fun h => WideShapes.bytes_inj h, fun h => by rw [h]⟩
  rw [e6]
theorem Ins.d_av (x : Ins) : x.d.av = x.av := rfl
theorem Ins.ds_av (l : List Ins) : (D.sl (l.map Ins.d)).av = .sl (l.map Ins.av) := by
  rw [D.av, D.avs_map, List.map_map]
  first
  | rfl
  | (congr 1; exact List.map_congr_left fun x _ => x.d_av)
theorem Ins.flat {w : World} {x : Ins} {cs : List Value} (h : Rd w Any x.d cs) : RR1 (St.flat w) x.av (.agg cs.toArray) := by
  have := qcz h
  rw [Ins.d_av, Ins.av, RC] at this
  exact ⟨cs, rfl, this⟩
theorem Ins.flats {w : World} {l : List Ins} {v : Value} (h : Rd w Any (.sl (l.map Ins.d)) [v]) : RR1 (St.flat w) (.sl (l.map Ins.av)) v := by
  have := qcz h
  rw [Ins.ds_av] at this
  exact this
end Go.Proofs.YtnkakofcejkhiaaDoor

/- Slices that a call does not make: parts of them. -/
namespace Go.Proofs.YtnkakofcejkhiaaDoor
@[simp] theorem AV.cls_take {m : Nat} {l : List AV} (h : AV.cls m l) (k : Nat) : AV.cls m (l.take k) := AV.cls_iff.2 fun x hx => AV.cls_iff.1 h x (List.mem_of_mem_take hx)
@[simp] theorem AV.cls_drop {m : Nat} {l : List AV} (h : AV.cls m l) (k : Nat) : AV.cls m (l.drop k) := AV.cls_iff.2 fun x hx => AV.cls_iff.1 h x (List.mem_of_mem_drop hx)
@[simp] theorem AV.cls_replicate {m n : Nat} {x : AV} (h : x.cl m) : AV.cls m (List.replicate n x) := AV.cls_iff.2 fun y hy => by rw [(List.mem_replicate.1 hy).2]; exact h
theorem loc_nil {σ : Nat → AB} {n0 : Nat} (h : Fin σ n0) : loc σ n0 [] = σ := by
  funext r
  unfold loc
  split
  · rfl
  · rename_i hr; rw [h r (by omega)]; rfl
end Go.Proofs.YtnkakofcejkhiaaDoor

/- Expressions and their like as abstract values. -/
namespace Go.Proofs.YtnkakofcejkhiaaDoor
open Go.RowKit Go.Lib
mutual
def Ex.av : Ex → AV
  | .mk o n s l => .agg [.int o, .int n, .str s, .sl (Ex.avs l)]
def Ex.avs : List Ex → List AV
  | [] => []
  | e :: l => e.av :: Ex.avs l
end
theorem Ex.avs_map : ∀ l : List Ex, Ex.avs l = l.map Ex.av
  | [] => by rw [Ex.avs]; rfl
  | e :: l => by rw [Ex.avs, Ex.avs_map l]; rfl
@[simp] theorem Ex.av_mk (o n : Int) (s : ByteArray) (l : List Ex) : (Ex.mk o n s l).av = .agg [.int o, .int n, .str s, .sl (l.map Ex.av)] := by
  rw [Ex.av, Ex.avs_map]
theorem Ex.av_eq (e : Ex) : e.av = .agg [.int e.op, .int e.n, .str e.s, .sl (e.args.map Ex.av)] := by
  cases e; rw [Ex.av_mk]; rfl
@[simp] theorem Ex.av_fold (e : Ex) : AV.agg [.int e.op, .int e.n, .str e.s, .sl (e.args.map Ex.av)] = e.av := e.av_eq.symm
@[simp] theorem Ex.av_nt (e : Ex) : e.av.nt = true := by rw [Ex.av_eq]; rfl
@[simp] theorem Ex.av_pub (e : Ex) : e.av.pub = e.av := by rw [Ex.av_eq, AV.pub]; simp only [AV.pubs_cons, AV.pubs_nil, AV.pub_v, pubV, AV.pub_sl]
@[simp] theorem Ex.av_sure (e : Ex) : e.av.sure = true := by rw [Ex.av_eq]; rfl
@[simp] theorem Ex.av_cells (e : Ex) : e.av.cells = [.int e.op, .int e.n, .str e.s, .sl (e.args.map Ex.av)] := by rw [Ex.av_eq]; rfl
@[simp] theorem Ex.rd_all (e : Ex) (σ : Nat → AB) : rdAt σ true 4 (.ep e.av 0) = some e.av := by rw [Ex.av_eq]; rfl
@[simp] theorem Ex.rd_0 (e : Ex) (σ : Nat → AB) (n : Nat) : rdAt σ false n (.ep e.av 0) = some (.int e.op) := by rw [Ex.av_eq]; rfl
@[simp] theorem Ex.rd_1 (e : Ex) (σ : Nat → AB) (n : Nat) : rdAt σ false n (.ep e.av 1) = some (.int e.n) := by rw [Ex.av_eq]; rfl
@[simp] theorem Ex.rd_2 (e : Ex) (σ : Nat → AB) (n : Nat) : rdAt σ false n (.ep e.av 2) = some (.str e.s) := by rw [Ex.av_eq]; rfl
@[simp] theorem Ex.rd_3 (e : Ex) (σ : Nat → AB) (n : Nat) : rdAt σ false n (.ep e.av 3) = some (.sl (e.args.map Ex.av)) := by rw [Ex.av_eq]; rfl
@[simp] theorem Ex.av_width (e : Ex) : e.av.width = 4 := by rw [Ex.av_eq]; rfl
@[simp] theorem Ex.av_elem (e : Ex) : e.av.elem = true := by rw [Ex.av_eq]; rfl
@[simp] theorem Ex.av_cl (e : Ex) (m : Nat) : e.av.cl m := by
  induction e using Ex.ind with | h o n s l ih => ?_
  rw [Ex.av_mk, AV.cl]
  simp only [AV.cls, AV.cl, true_and, and_true]
  rw [AV.cls_iff]
  intro x hx
  obtain ⟨e, he, rfl⟩ := List.mem_map.1 hx
  exact ih e he
@[simp] theorem Ex.avs_cl (l : List Ex) (m : Nat) : AV.cls m (l.map Ex.av) := by
  rw [AV.cls_iff]
  intro x hx
  obtain ⟨e, -, rfl⟩ := List.mem_map.1 hx
  exact e.av_cl m
def Ex.cells (e : Ex) : List AV := [.int e.op, .int e.n, .str e.s, .sl (e.args.map Ex.av)]
def Fn.av (f : Fn) : AV := .agg [.str f.name, .sl (f.params.map AV.int), .int f.res, .int f.body.op, .int f.body.n, .str f.body.s, .sl (f.body.args.map Ex.av)]
@[simp] theorem Fn.av_nt (f : Fn) : f.av.nt = true := rfl
@[simp] theorem Fn.av_sure (f : Fn) : f.av.sure = true := rfl
@[simp] theorem Fn.av_elem (f : Fn) : f.av.elem = true := rfl
@[simp] theorem Fn.av_width (f : Fn) : f.av.width = 7 := rfl
@[simp] theorem Fn.av_pub (f : Fn) : f.av.pub = f.av := by unfold Fn.av; rw [AV.pub]; simp only [AV.pubs_cons, AV.pubs_nil, AV.pub_v, pubV, AV.pub_sl]
@[simp] theorem Fn.av_cells (f : Fn) : f.av.cells = [.str f.name, .sl (f.params.map AV.int), .int f.res, .int f.body.op, .int f.body.n, .str f.body.s, .sl (f.body.args.map Ex.av)] := rfl
@[simp] theorem Fn.av_fold (f : Fn) : AV.agg [.str f.name, .sl (f.params.map AV.int), .int f.res, .int f.body.op, .int f.body.n, .str f.body.s, .sl (f.body.args.map Ex.av)] = f.av := rfl
@[simp] theorem Fn.av_cl (f : Fn) (m : Nat) : f.av.cl m := by unfold Fn.av; simp [-Fn.av_fold]
@[simp] theorem Fn.rd_all (f : Fn) (σ : Nat → AB) : rdAt σ true 7 (.ep f.av 0) = some f.av := rfl
@[simp] theorem Fn.rd_0 (f : Fn) (σ : Nat → AB) (n : Nat) : rdAt σ false n (.ep f.av 0) = some (.str f.name) := rfl
@[simp] theorem Fn.rd_1 (f : Fn) (σ : Nat → AB) (n : Nat) : rdAt σ false n (.ep f.av 1) = some (.sl (f.params.map AV.int)) := rfl
@[simp] theorem Fn.rd_2 (f : Fn) (σ : Nat → AB) (n : Nat) : rdAt σ false n (.ep f.av 2) = some (.int f.res) := rfl
@[simp] theorem Fn.rd_3 (f : Fn) (σ : Nat → AB) : rdAt σ true 4 (.ep f.av 3) = some f.body.av := by rw [Ex.av_eq]; rfl
@[simp] theorem Fn.rd_30 (f : Fn) (σ : Nat → AB) (n : Nat) : rdAt σ false n (.ep f.av 3) = some (.int f.body.op) := rfl
@[simp] theorem Fn.rd_31 (f : Fn) (σ : Nat → AB) (n : Nat) : rdAt σ false n (.ep f.av 4) = some (.int f.body.n) := rfl
@[simp] theorem Fn.rd_32 (f : Fn) (σ : Nat → AB) (n : Nat) : rdAt σ false n (.ep f.av 5) = some (.str f.body.s) := rfl
@[simp] theorem Fn.rd_33 (f : Fn) (σ : Nat → AB) (n : Nat) : rdAt σ false n (.ep f.av 6) = some (.sl (f.body.args.map Ex.av)) := rfl
@[simp] theorem Fn.avs_cl (l : List Fn) (m : Nat) : AV.cls m (l.map Fn.av) := AV.cls_map (fun f => f.av_cl m) l
@[simp] theorem Ex.avs_wid (l : List Ex) : AV.wid (l.map Ex.av) 4 := AV.wid_map (f := Ex.av) (fun a => a.av_width) l
@[simp] theorem Ex.avs_elms (l : List Ex) : AV.elms (l.map Ex.av) := AV.elms_map (f := Ex.av) (fun a => a.av_elem) l
@[simp] theorem Fn.avs_wid (l : List Fn) : AV.wid (l.map Fn.av) 7 := AV.wid_map (f := Fn.av) (fun a => a.av_width) l
@[simp] theorem Fn.avs_elms (l : List Fn) : AV.elms (l.map Fn.av) := AV.elms_map (f := Fn.av) (fun a => a.av_elem) l
end Go.Proofs.YtnkakofcejkhiaaDoor

/- A slice that could grow, from now on only read. -/
namespace Go.Proofs.YtnkakofcejkhiaaDoor
open Go.RowKit Go.Lib
end Go.Proofs.YtnkakofcejkhiaaDoor
