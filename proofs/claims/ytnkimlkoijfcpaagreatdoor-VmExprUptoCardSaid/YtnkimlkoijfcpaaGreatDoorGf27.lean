/- Walks of chapter 3: right values and rows; of the reference, too. -/
import Derived.Test.YtnkimlkoijfcpaaGreatDoorGf3
import Derived.Test.YtnkimlkoijfcpaaGreatDoorGf5
import Derived.Test.YtnkimlkoijfcpaaGreatDoorGf9
import Derived.Test.YtnkimlkoijfcpaaGreatDoorGf14
import Derived.Test.YtnkimlkoijfcpaaGreatDoorGf15
import Derived.Test.YtnkimlkoijfcpaaGreatDoorGf17
import Derived.Test.YtnkimlkoijfcpaaGreatDoorGf18
import Derived.Test.YtnkimlkoijfcpaaGreatDoorGf20
import Derived.Test.YtnkimlkoijfcpaaGreatDoorGf24
import Derived.Test.YtnkimlkoijfcpaaGreatDoorGf26
set_option linter.unusedSimpArgs false
set_option linter.unusedVariables false
namespace Go.Proofs.YtnkimlkoijfcpaaGreatDoor
open Go.RowKit Go.Lib
def qbt (v : Val) : Bool :=
  if v.k = 0 then Val.eqB v ⟨0, v.n, ⟨#[]⟩⟩
  else if v.k = 1 then Val.eqB v ⟨1, 0, v.s⟩ && decide (v.s.size ≤ 200)
  else Val.eqB v ⟨2, 0, ⟨#[]⟩⟩ || Val.eqB v ⟨2, 1, ⟨#[]⟩⟩
def rowOk (r : List Val) : Bool := decide (r.length ≤ 12) && r.all qbt
theorem rightV_eq (v : Val) : qbt v = if v.k = 0 then decide (v.s.toList = []) else if v.k = 1 then decide (v.n = 0) && decide (v.s.size ≤ 200) else decide (v.k = 2) && (decide (v.n = 0) || decide (v.n = 1)) && decide (v.s.toList = []) := by
  obtain ⟨k, n, s⟩ := v
  have e : (⟨#[]⟩ : ByteArray).toList = [] := by rw [ByteArray.toList_eq]
  unfold qbt
  dsimp only
  by_cases h0 : k = 0
  · subst h0
    rw [if_pos rfl, if_pos rfl]
    rw [Bool.eq_iff_iff]
    simp [Val.eqB, e]
  · rw [if_neg h0, if_neg h0]
    by_cases h1 : k = 1
    · subst h1
      rw [if_pos rfl, if_pos rfl]
      rw [Bool.eq_iff_iff]
      simp [Val.eqB]
    · rw [if_neg h1, if_neg h1]
      rw [Bool.eq_iff_iff]
      simp only [Val.eqB, e, Bool.or_eq_true, Bool.and_eq_true, beq_iff_eq, decide_eq_true_eq]
      constructor
      · rintro (⟨a, b, c⟩ | ⟨a, b, c⟩)
        · exact ⟨⟨a, .inl b⟩, c⟩
        · exact ⟨⟨a, .inr b⟩, c⟩
      · rintro ⟨⟨a, b | b⟩, c⟩
        · exact .inl ⟨a, b, c⟩
        · exact .inr ⟨a, b, c⟩
theorem less_self : ∀ l : List UInt8, Op.bytesLess l l = false
  | [] => rfl
  | c :: l => by simp [Op.bytesLess, less_self l]
theorem vint_g (n : Int) : Gives Tryz.prog 94 [.int n] (Val.av ⟨0, n, ⟨#[]⟩⟩) := by
  refine qn Tryz.func94 Tryz.ntmps94 rfl rfl (by decide) rfl (by intro n; simp) fun σ n0 hcl hft => ?_
  repeat' (first | ((first | ((with_reducible refine qo (fun hg => ?_) (fun hg => ?_)) <;> (try simp only [hg]) <;> (try simp only [gS] at hg) <;> (try (first | simp only [eq_false hg, gI] | simp only [eq_true hg, gI]))) | (with_reducible first | refine qg ?_ | refine qf ?_ | refine ql ?_ | refine qk ?_) | refine qd ?_ | refine qi ?_ | refine qj ?_ | refine qm ?_) <;> (try simp (disch := first | omega | simp) [qh, -qq, -qs])) | ((with_reducible refine sideT ?_ ?_); first | omega | assumption | (simp; done)) | (refine qe fun K hK => ?_) | (refine qa ?_) | (refine qb true (by kernel_rfl) (by kernel_rfl) ?_) | (refine hK _ ?_; clear hK K) | (clear hK K; refine hK _ ?_; clear hK K) | (clear hK K; clear hK K; refine hK _ ?_; clear hK K) | refine qc ?_)
  rfl
theorem vtext_g (s : ByteArray) : Gives Tryz.prog 95 [.str s] (Val.av ⟨1, 0, s⟩) := by
  refine qn Tryz.func95 Tryz.ntmps95 rfl rfl (by decide) rfl (by intro n; simp) fun σ n0 hcl hft => ?_
  repeat' (first | ((first | ((with_reducible refine qo (fun hg => ?_) (fun hg => ?_)) <;> (try simp only [hg]) <;> (try simp only [gS] at hg) <;> (try (first | simp only [eq_false hg, gI] | simp only [eq_true hg, gI]))) | (with_reducible first | refine qg ?_ | refine qf ?_ | refine ql ?_ | refine qk ?_) | refine qd ?_ | refine qi ?_ | refine qj ?_ | refine qm ?_) <;> (try simp (disch := first | omega | simp) [qh, -qq, -qs])) | ((with_reducible refine sideT ?_ ?_); first | omega | assumption | (simp; done)) | (refine qe fun K hK => ?_) | (refine qa ?_) | (refine qb true (by kernel_rfl) (by kernel_rfl) ?_) | (refine hK _ ?_; clear hK K) | (clear hK K; refine hK _ ?_; clear hK K) | (clear hK K; clear hK K; refine hK _ ?_; clear hK K) | refine qc ?_)
  rfl
theorem vfalse_g : Gives Tryz.prog 96 [.bool false] (Val.av ⟨2, 0, ⟨#[]⟩⟩) := by
  refine qn Tryz.func96 Tryz.ntmps96 rfl rfl (by decide) rfl (by intro n; simp) fun σ n0 hcl hft => ?_
  repeat' (first | ((first | ((with_reducible refine qo (fun hg => ?_) (fun hg => ?_)) <;> (try simp only [hg]) <;> (try simp only [gS] at hg) <;> (try (first | simp only [eq_false hg, gI] | simp only [eq_true hg, gI]))) | (with_reducible first | refine qg ?_ | refine qf ?_ | refine ql ?_ | refine qk ?_) | refine qd ?_ | refine qi ?_ | refine qj ?_ | refine qm ?_) <;> (try simp (disch := first | omega | simp) [qh, -qq, -qs])) | ((with_reducible refine sideT ?_ ?_); first | omega | assumption | (simp; done)) | (refine qe fun K hK => ?_) | (refine qa ?_) | (refine qb true (by kernel_rfl) (by kernel_rfl) ?_) | (refine hK _ ?_; clear hK K) | (clear hK K; refine hK _ ?_; clear hK K) | (clear hK K; clear hK K; refine hK _ ?_; clear hK K) | refine qc ?_)
  rfl
theorem vtrue_g : Gives Tryz.prog 96 [.bool true] (Val.av ⟨2, 1, ⟨#[]⟩⟩) := by
  refine qn Tryz.func96 Tryz.ntmps96 rfl rfl (by decide) rfl (by intro n; simp) fun σ n0 hcl hft => ?_
  repeat' (first | ((first | ((with_reducible refine qo (fun hg => ?_) (fun hg => ?_)) <;> (try simp only [hg]) <;> (try simp only [gS] at hg) <;> (try (first | simp only [eq_false hg, gI] | simp only [eq_true hg, gI]))) | (with_reducible first | refine qg ?_ | refine qf ?_ | refine ql ?_ | refine qk ?_) | refine qd ?_ | refine qi ?_ | refine qj ?_ | refine qm ?_) <;> (try simp (disch := first | omega | simp) [qh, -qq, -qs])) | ((with_reducible refine sideT ?_ ?_); first | omega | assumption | (simp; done)) | (refine qe fun K hK => ?_) | (refine qa ?_) | (refine qb true (by kernel_rfl) (by kernel_rfl) ?_) | (refine hK _ ?_; clear hK K) | (clear hK K; refine hK _ ?_; clear hK K) | (clear hK K; clear hK K; refine hK _ ?_; clear hK K) | refine qc ?_)
  rfl
theorem vright_g (v : Val) : Gives Tryz.prog 51 [v.av] (.bool (qbt v)) := by
  refine qn Tryz.func51 Tryz.ntmps51 rfl rfl (by decide) rfl (by intro n; simp) fun σ n0 hcl hft => ?_
  repeat' (first | ((first | ((with_reducible refine qo (fun hg => ?_) (fun hg => ?_)) <;> (try simp only [hg]) <;> (try simp only [gS] at hg) <;> (try (first | simp only [eq_false hg, gI] | simp only [eq_true hg, gI]))) | (with_reducible first | refine qg ?_ | refine qf ?_ | refine ql ?_ | refine qk ?_) | refine acall (vint_g _) ?_ | refine qp (vint_g _) ?_ | refine acall (vtext_g _) ?_ | refine qp (vtext_g _) ?_ | refine acall (vfalse_g) ?_ | refine qp (vfalse_g) ?_ | refine acall (vtrue_g) ?_ | refine qp (vtrue_g) ?_ | refine qd ?_ | refine qi ?_ | refine qj ?_ | refine qm ?_) <;> (try simp (disch := first | omega | simp) [qh, -qq, -qs])) | ((with_reducible refine sideT ?_ ?_); first | omega | assumption | (simp; done)) | (refine qe fun K hK => ?_) | (refine qa ?_) | (refine qb true (by kernel_rfl) (by kernel_rfl) ?_) | (refine hK _ ?_; clear hK K) | (clear hK K; refine hK _ ?_; clear hK K) | (clear hK K; clear hK K; refine hK _ ?_; clear hK K) | refine qc ?_)
  all_goals simp_all [qbt] <;> omega
theorem all1_g (v : Val) : Gives Tryz.prog 195 [v.av] (.bool (!qbt v)) := by
  refine qn Tryz.func195 Tryz.ntmps195 rfl rfl (by decide) rfl (by intro n; simp) fun σ n0 hcl hft => ?_
  repeat' (first | ((first | ((with_reducible refine qo (fun hg => ?_) (fun hg => ?_)) <;> (try simp only [hg]) <;> (try simp only [gS] at hg) <;> (try (first | simp only [eq_false hg, gI] | simp only [eq_true hg, gI]))) | (with_reducible first | refine qg ?_ | refine qf ?_ | refine ql ?_ | refine qk ?_) | refine acall (vright_g _) ?_ | refine qp (vright_g _) ?_ | refine qd ?_ | refine qi ?_ | refine qj ?_ | refine qm ?_) <;> (try simp (disch := first | omega | simp) [qh, -qq, -qs])) | ((with_reducible refine sideT ?_ ?_); first | omega | assumption | (simp; done)) | (refine qe fun K hK => ?_) | (refine qa ?_) | (refine qb true (by kernel_rfl) (by kernel_rfl) ?_) | (refine hK _ ?_; clear hK K) | (clear hK K; refine hK _ ?_; clear hK K) | (clear hK K; clear hK K; refine hK _ ?_; clear hK K) | refine qc ?_)
theorem idxV_g (L : List Val) (hL : L.length ≤ 1000000) : Gives Tryz.prog 199 [.sl (L.map Val.av), .fn 195 []] (.int (idxP (fun v => !qbt v) L)) := by
  refine qn Tryz.func199 Tryz.ntmps199 rfl rfl (by decide) rfl (by intro n; simp) fun σ n0 hcl hft => ?_
  repeat' (first | ((first | ((with_reducible refine qo (fun hg => ?_) (fun hg => ?_)) <;> (try simp only [hg]) <;> (try simp only [gS] at hg) <;> (try (first | simp only [eq_false hg, gI] | simp only [eq_true hg, gI]))) | (with_reducible first | refine qg ?_ | refine qf ?_ | refine ql ?_ | refine qk ?_) | refine qd ?_ | refine qi ?_ | refine qj ?_ | refine qm ?_) <;> (try simp (disch := first | omega | simp) [qh, -qq, -qs])) | ((with_reducible refine sideT ?_ ?_); first | omega | assumption | (simp; done)) | (refine qe fun K hK => ?_) | (refine qa ?_) | (refine qb true (by kernel_rfl) (by kernel_rfl) ?_) | (refine hK _ ?_; clear hK K) | (clear hK K; refine hK _ ?_; clear hK K) | (clear hK K; clear hK K; refine hK _ ?_; clear hK K) | refine qc ?_)
  refine qt hcl (fun k : Nat => [(0, .sl (L.map Val.av)), (1, .fn 195 []), (7, .int L.length), (8, .int k)]) (fun _ => [])
    (fun k => k ≤ L.length ∧ ∀ j (h : j < L.length), j < k → qbt L[j] = true) (fun k => L.length - k) 0 (by simp) (by simp) fun k ⟨hk, he⟩ => ?_
  by_cases hlt : k < L.length
  · cases hr : qbt L[k] with
    | true =>
      have c1 := all1_g L[k]
      rw [hr] at c1
      repeat' (first | ((first | ((with_reducible refine qo (fun hg => ?_) (fun hg => ?_)) <;> (try simp only [hg]) <;> (try simp only [gS] at hg) <;> (try (first | simp only [eq_false hg, gI] | simp only [eq_true hg, gI]))) | (with_reducible first | refine qg ?_ | refine qf ?_ | refine ql ?_ | refine qk ?_) | refine acall (c1) ?_ | refine qp (c1) ?_ | refine qd ?_ | refine qi ?_ | refine qj ?_ | refine qm ?_) <;> (try simp (disch := first | omega | simp) [qh, -qq, -qs, hlt])) | ((with_reducible refine sideT ?_ ?_); first | omega | assumption | (simp; done)) | (refine qe fun K hK => ?_) | (refine qa ?_) | (refine qb true (by kernel_rfl) (by kernel_rfl) ?_) | (refine hK _ ?_; clear hK K) | (clear hK K; refine hK _ ?_; clear hK K) | (clear hK K; clear hK K; refine hK _ ?_; clear hK K) | refine qc ?_)
      exact ⟨k + 1, ⟨by omega, qdd (C := fun v : Val => qbt v = true) he fun _ => hr⟩, by omega, by simp⟩
    | false =>
      have c1 := all1_g L[k]
      rw [hr] at c1
      repeat' (first | ((first | ((with_reducible refine qo (fun hg => ?_) (fun hg => ?_)) <;> (try simp only [hg]) <;> (try simp only [gS] at hg) <;> (try (first | simp only [eq_false hg, gI] | simp only [eq_true hg, gI]))) | (with_reducible first | refine qg ?_ | refine qf ?_ | refine ql ?_ | refine qk ?_) | refine acall (c1) ?_ | refine qp (c1) ?_ | refine qd ?_ | refine qi ?_ | refine qj ?_ | refine qm ?_) <;> (try simp (disch := first | omega | simp) [qh, -qq, -qs, hlt])) | ((with_reducible refine sideT ?_ ?_); first | omega | assumption | (simp; done)) | (refine qe fun K hK => ?_) | (refine qa ?_) | (refine qb true (by kernel_rfl) (by kernel_rfl) ?_) | (refine hK _ ?_; clear hK K) | (clear hK K; refine hK _ ?_; clear hK K) | (clear hK K; clear hK K; refine hK _ ?_; clear hK K) | refine qc ?_)
      exact (idxP_hit (p := fun v => !qbt v) hlt (by simp [hr]) fun j h1 h2 => by simpa using he j h1 h2).symm
  · repeat' (first | ((first | ((with_reducible refine qo (fun hg => ?_) (fun hg => ?_)) <;> (try simp only [hg]) <;> (try simp only [gS] at hg) <;> (try (first | simp only [eq_false hg, gI] | simp only [eq_true hg, gI]))) | (with_reducible first | refine qg ?_ | refine qf ?_ | refine ql ?_ | refine qk ?_) | refine qd ?_ | refine qi ?_ | refine qj ?_ | refine qm ?_) <;> (try simp (disch := first | omega | simp) [qh, -qq, -qs, hlt])) | ((with_reducible refine sideT ?_ ?_); first | omega | assumption | (simp; done)) | (refine qe fun K hK => ?_) | (refine qa ?_) | (refine qb true (by kernel_rfl) (by kernel_rfl) ?_) | (refine qb false (by kernel_rfl) (by kernel_rfl) ?_) | (refine hK _ ?_; clear hK K) | (clear hK K; refine hK _ ?_; clear hK K) | (clear hK K; clear hK K; refine hK _ ?_; clear hK K) | refine qc ?_)
    exact (idxP_miss (p := fun v => !qbt v) (qep (C := fun v : Val => (!qbt v) = false) (fun j h1 h2 => by simpa using he j h1 h2) hlt)).symm
theorem all_idx (L : List Val) : decide (0 ≤ idxP (fun v => !qbt v) L) = !L.all qbt := by
  rw [idxP_any, List.not_all_eq_any_not]
theorem cont_g (L : List Val) (hL : L.length ≤ 1000000) : Gives Tryz.prog 194 [.sl (L.map Val.av), .fn 195 []] (.bool (!L.all qbt)) := by
  rw [← all_idx]
  refine qn Tryz.func194 Tryz.ntmps194 rfl rfl (by decide) rfl (by intro n; simp) fun σ n0 hcl hft => ?_
  repeat' (first | ((first | ((with_reducible refine qo (fun hg => ?_) (fun hg => ?_)) <;> (try simp only [hg]) <;> (try simp only [gS] at hg) <;> (try (first | simp only [eq_false hg, gI] | simp only [eq_true hg, gI]))) | (with_reducible first | refine qg ?_ | refine qf ?_ | refine ql ?_ | refine qk ?_) | refine acall (idxV_g L hL) ?_ | refine qp (idxV_g L hL) ?_ | refine qd ?_ | refine qi ?_ | refine qj ?_ | refine qm ?_) <;> (try simp (disch := first | omega | simp) [qh, -qq, -qs])) | ((with_reducible refine sideT ?_ ?_); first | omega | assumption | (simp; done)) | (refine qe fun K hK => ?_) | (refine qa ?_) | (refine qb true (by kernel_rfl) (by kernel_rfl) ?_) | (refine hK _ ?_; clear hK K) | (clear hK K; refine hK _ ?_; clear hK K) | (clear hK K; clear hK K; refine hK _ ?_; clear hK K) | refine qc ?_)
theorem vall_g (L : List Val) (hL : L.length ≤ 1000000) : Gives Tryz.prog 168 [.sl (L.map Val.av)] (.bool (L.all qbt)) := by
  refine qn Tryz.func168 Tryz.ntmps168 rfl rfl (by decide) rfl (by intro n; simp) fun σ n0 hcl hft => ?_
  repeat' (first | ((first | ((with_reducible refine qo (fun hg => ?_) (fun hg => ?_)) <;> (try simp only [hg]) <;> (try simp only [gS] at hg) <;> (try (first | simp only [eq_false hg, gI] | simp only [eq_true hg, gI]))) | (with_reducible first | refine qg ?_ | refine qf ?_ | refine ql ?_ | refine qk ?_) | refine acall (cont_g L hL) ?_ | refine qp (cont_g L hL) ?_ | refine qd ?_ | refine qi ?_ | refine qj ?_ | refine qm ?_) <;> (try simp (disch := first | omega | simp) [qh, -qq, -qs])) | ((with_reducible refine sideT ?_ ?_); first | omega | assumption | (simp; done)) | (refine qe fun K hK => ?_) | (refine qa ?_) | (refine qb true (by kernel_rfl) (by kernel_rfl) ?_) | (refine hK _ ?_; clear hK K) | (clear hK K; refine hK _ ?_; clear hK K) | (clear hK K; clear hK K; refine hK _ ?_; clear hK K) | refine qc ?_)
theorem row_g (L : List Val) (hL : L.length ≤ 1000000) : Gives Tryz.prog 132 [.sl (L.map Val.av)] (.bool (rowOk L)) := by
  unfold rowOk
  by_cases h : L.length ≤ 12
  · have h' : (L.length : Int) ≤ 12 := by omega
    refine qn Tryz.func132 Tryz.ntmps132 rfl rfl (by decide) rfl (by intro n; simp) fun σ n0 hcl hft => ?_
    repeat' (first | ((first | ((with_reducible refine qo (fun hg => ?_) (fun hg => ?_)) <;> (try simp only [hg]) <;> (try simp only [gS] at hg) <;> (try (first | simp only [eq_false hg, gI] | simp only [eq_true hg, gI]))) | (with_reducible first | refine qg ?_ | refine qf ?_ | refine ql ?_ | refine qk ?_) | refine acall (vall_g L hL) ?_ | refine qp (vall_g L hL) ?_ | refine qd ?_ | refine qi ?_ | refine qj ?_ | refine qm ?_) <;> (try simp (disch := first | omega | simp) [qh, -qq, -qs, h, h'])) | ((with_reducible refine sideT ?_ ?_); first | omega | assumption | (simp; done)) | (refine qe fun K hK => ?_) | (refine qa ?_) | (refine qb true (by kernel_rfl) (by kernel_rfl) ?_) | (refine hK _ ?_; clear hK K) | (clear hK K; refine hK _ ?_; clear hK K) | (clear hK K; clear hK K; refine hK _ ?_; clear hK K) | refine qc ?_)
  · have h' : ¬ (L.length : Int) ≤ 12 := by omega
    refine qn Tryz.func132 Tryz.ntmps132 rfl rfl (by decide) rfl (by intro n; simp) fun σ n0 hcl hft => ?_
    repeat' (first | ((first | ((with_reducible refine qo (fun hg => ?_) (fun hg => ?_)) <;> (try simp only [hg]) <;> (try simp only [gS] at hg) <;> (try (first | simp only [eq_false hg, gI] | simp only [eq_true hg, gI]))) | (with_reducible first | refine qg ?_ | refine qf ?_ | refine ql ?_ | refine qk ?_) | refine acall (vall_g L hL) ?_ | refine qp (vall_g L hL) ?_ | refine qd ?_ | refine qi ?_ | refine qj ?_ | refine qm ?_) <;> (try simp (disch := first | omega | simp) [qh, -qq, -qs, h, h'])) | ((with_reducible refine sideT ?_ ?_); first | omega | assumption | (simp; done)) | (refine qe fun K hK => ?_) | (refine qa ?_) | (refine qb true (by kernel_rfl) (by kernel_rfl) ?_) | (refine hK _ ?_; clear hK K) | (clear hK K; refine hK _ ?_; clear hK K) | (clear hK K; clear hK K; refine hK _ ?_; clear hK K) | refine qc ?_)
theorem rvright_g (v : Val) : Gives Tryz.prog 165 [v.av] (.bool (qbt v)) := by
  have hR := rightV_eq v
  obtain ⟨R, hR2⟩ : ∃ R, R = qbt v := ⟨_, rfl⟩
  rw [← hR2] at hR ⊢
  clear hR2
  refine qn Tryz.func165 Tryz.ntmps165 rfl rfl (by decide) rfl (by intro n; simp) fun σ n0 hcl hft => ?_
  repeat' (first | ((first | ((with_reducible refine qo (fun hg => ?_) (fun hg => ?_)) <;> (try simp only [hg]) <;> (try simp only [gS] at hg) <;> (try (first | simp only [eq_false hg, gI] | simp only [eq_true hg, gI]))) | (with_reducible first | refine qg ?_ | refine qf ?_ | refine ql ?_ | refine qk ?_) | refine qd ?_ | refine qi ?_ | refine qj ?_ | refine qm ?_) <;> (try simp (disch := first | omega | simp) [qh, -qq, -qs])) | ((with_reducible refine sideT ?_ ?_); first | omega | assumption | (simp; done)) | (refine qe fun K hK => ?_) | (refine qa ?_) | (refine qb true (by kernel_rfl) (by kernel_rfl) ?_) | (refine hK _ ?_; clear hK K) | (clear hK K; refine hK _ ?_; clear hK K) | (clear hK K; clear hK K; refine hK _ ?_; clear hK K) | refine qc ?_)
  all_goals (rw [hR, Bool.eq_iff_iff]; simp_all)
  all_goals first | omega | skip
theorem rall_g (L : List Val) (hL : L.length ≤ 1000000) : Gives Tryz.prog 129 [.sl (L.map Val.av)] (.bool (L.all qbt)) := by
  obtain ⟨R, hR⟩ : ∃ R, R = L.all qbt := ⟨_, rfl⟩
  rw [← hR]
  refine qn Tryz.func129 Tryz.ntmps129 rfl rfl (by decide) rfl (by intro n; simp) fun σ n0 hcl hft => ?_
  repeat' (first | ((first | ((with_reducible refine qo (fun hg => ?_) (fun hg => ?_)) <;> (try simp only [hg]) <;> (try simp only [gS] at hg) <;> (try (first | simp only [eq_false hg, gI] | simp only [eq_true hg, gI]))) | (with_reducible first | refine qg ?_ | refine qf ?_ | refine ql ?_ | refine qk ?_) | refine qd ?_ | refine qi ?_ | refine qj ?_ | refine qm ?_) <;> (try simp (disch := first | omega | simp) [qh, -qq, -qs])) | ((with_reducible refine sideT ?_ ?_); first | omega | assumption | (simp; done)) | (refine qe fun K hK => ?_) | (refine qa ?_) | (refine qb true (by kernel_rfl) (by kernel_rfl) ?_) | (refine hK _ ?_; clear hK K) | (clear hK K; refine hK _ ?_; clear hK K) | (clear hK K; clear hK K; refine hK _ ?_; clear hK K) | refine qc ?_)
  refine qt hcl (fun k : Nat => [(0, .sl (L.map Val.av)), (3, .int k)]) (fun _ => [])
    (fun k => k ≤ L.length ∧ ∀ j (h : j < L.length), j < k → qbt L[j] = true) (fun k => L.length - k) 0 (by simp) (by simp) fun k ⟨hk, he⟩ => ?_
  by_cases hlt : k < L.length
  · have c1 := rvright_g L[k]
    cases hr : qbt L[k] with
    | true =>
      rw [hr] at c1
      repeat' (first | ((first | ((with_reducible refine qo (fun hg => ?_) (fun hg => ?_)) <;> (try simp only [hg]) <;> (try simp only [gS] at hg) <;> (try (first | simp only [eq_false hg, gI] | simp only [eq_true hg, gI]))) | (with_reducible first | refine qg ?_ | refine qf ?_ | refine ql ?_ | refine qk ?_) | refine acall (c1) ?_ | refine qp (c1) ?_ | refine qd ?_ | refine qi ?_ | refine qj ?_ | refine qm ?_) <;> (try simp (disch := first | omega | simp) [qh, -qq, -qs, hlt])) | ((with_reducible refine sideT ?_ ?_); first | omega | assumption | (simp; done)) | (refine qe fun K hK => ?_) | (refine qa ?_) | (refine qb true (by kernel_rfl) (by kernel_rfl) ?_) | (refine hK _ ?_; clear hK K) | (clear hK K; refine hK _ ?_; clear hK K) | (clear hK K; clear hK K; refine hK _ ?_; clear hK K) | refine qc ?_)
      exact ⟨k + 1, ⟨by omega, qdd (C := fun v : Val => qbt v = true) he fun _ => hr⟩, by omega, by simp⟩
    | false =>
      rw [hr] at c1
      repeat' (first | ((first | ((with_reducible refine qo (fun hg => ?_) (fun hg => ?_)) <;> (try simp only [hg]) <;> (try simp only [gS] at hg) <;> (try (first | simp only [eq_false hg, gI] | simp only [eq_true hg, gI]))) | (with_reducible first | refine qg ?_ | refine qf ?_ | refine ql ?_ | refine qk ?_) | refine acall (c1) ?_ | refine qp (c1) ?_ | refine qd ?_ | refine qi ?_ | refine qj ?_ | refine qm ?_) <;> (try simp (disch := first | omega | simp) [qh, -qq, -qs, hlt])) | ((with_reducible refine sideT ?_ ?_); first | omega | assumption | (simp; done)) | (refine qe fun K hK => ?_) | (refine qa ?_) | (refine qb true (by kernel_rfl) (by kernel_rfl) ?_) | (refine hK _ ?_; clear hK K) | (clear hK K; refine hK _ ?_; clear hK K) | (clear hK K; clear hK K; refine hK _ ?_; clear hK K) | refine qc ?_)
      rw [hR, all_hit hlt hr]
  · repeat' (first | ((first | ((with_reducible refine qo (fun hg => ?_) (fun hg => ?_)) <;> (try simp only [hg]) <;> (try simp only [gS] at hg) <;> (try (first | simp only [eq_false hg, gI] | simp only [eq_true hg, gI]))) | (with_reducible first | refine qg ?_ | refine qf ?_ | refine ql ?_ | refine qk ?_) | refine qd ?_ | refine qi ?_ | refine qj ?_ | refine qm ?_) <;> (try simp (disch := first | omega | simp) [qh, -qq, -qs, hlt])) | ((with_reducible refine sideT ?_ ?_); first | omega | assumption | (simp; done)) | (refine qe fun K hK => ?_) | (refine qa ?_) | (refine qb true (by kernel_rfl) (by kernel_rfl) ?_) | (refine qb false (by kernel_rfl) (by kernel_rfl) ?_) | (refine hK _ ?_; clear hK K) | (clear hK K; refine hK _ ?_; clear hK K) | (clear hK K; clear hK K; refine hK _ ?_; clear hK K) | refine qc ?_)
    rw [hR, all_end (qep (C := fun v : Val => qbt v = true) he hlt)]
theorem rrow_g (L : List Val) (hL : L.length ≤ 1000000) : Gives Tryz.prog 82 [.sl (L.map Val.av)] (.bool (rowOk L)) := by
  unfold rowOk
  by_cases h : L.length ≤ 12
  · have h' : (L.length : Int) ≤ 12 := by omega
    refine qn Tryz.func82 Tryz.ntmps82 rfl rfl (by decide) rfl (by intro n; simp) fun σ n0 hcl hft => ?_
    repeat' (first | ((first | ((with_reducible refine qo (fun hg => ?_) (fun hg => ?_)) <;> (try simp only [hg]) <;> (try simp only [gS] at hg) <;> (try (first | simp only [eq_false hg, gI] | simp only [eq_true hg, gI]))) | (with_reducible first | refine qg ?_ | refine qf ?_ | refine ql ?_ | refine qk ?_) | refine acall (rall_g L hL) ?_ | refine qp (rall_g L hL) ?_ | refine qd ?_ | refine qi ?_ | refine qj ?_ | refine qm ?_) <;> (try simp (disch := first | omega | simp) [qh, -qq, -qs, h, h'])) | ((with_reducible refine sideT ?_ ?_); first | omega | assumption | (simp; done)) | (refine qe fun K hK => ?_) | (refine qa ?_) | (refine qb true (by kernel_rfl) (by kernel_rfl) ?_) | (refine hK _ ?_; clear hK K) | (clear hK K; refine hK _ ?_; clear hK K) | (clear hK K; clear hK K; refine hK _ ?_; clear hK K) | refine qc ?_)
  · have h' : ¬ (L.length : Int) ≤ 12 := by omega
    refine qn Tryz.func82 Tryz.ntmps82 rfl rfl (by decide) rfl (by intro n; simp) fun σ n0 hcl hft => ?_
    repeat' (first | ((first | ((with_reducible refine qo (fun hg => ?_) (fun hg => ?_)) <;> (try simp only [hg]) <;> (try simp only [gS] at hg) <;> (try (first | simp only [eq_false hg, gI] | simp only [eq_true hg, gI]))) | (with_reducible first | refine qg ?_ | refine qf ?_ | refine ql ?_ | refine qk ?_) | refine acall (rall_g L hL) ?_ | refine qp (rall_g L hL) ?_ | refine qd ?_ | refine qi ?_ | refine qj ?_ | refine qm ?_) <;> (try simp (disch := first | omega | simp) [qh, -qq, -qs, h, h'])) | ((with_reducible refine sideT ?_ ?_); first | omega | assumption | (simp; done)) | (refine qe fun K hK => ?_) | (refine qa ?_) | (refine qb true (by kernel_rfl) (by kernel_rfl) ?_) | (refine hK _ ?_; clear hK K) | (clear hK K; refine hK _ ?_; clear hK K) | (clear hK K; clear hK K; refine hK _ ?_; clear hK K) | refine qc ?_)
theorem rcmp_g (v : Val) : Gives Tryz.prog 164 [v.av, v.av] (.int 0) := by
  have hl := less_self v.s.toList
  refine qn Tryz.func164 Tryz.ntmps164 rfl rfl (by decide) rfl (by intro n; simp) fun σ n0 hcl hft => ?_
  repeat' (first | ((first | ((with_reducible refine qo (fun hg => ?_) (fun hg => ?_)) <;> (try simp only [hg]) <;> (try simp only [gS] at hg) <;> (try (first | simp only [eq_false hg, gI] | simp only [eq_true hg, gI]))) | (with_reducible first | refine qg ?_ | refine qf ?_ | refine ql ?_ | refine qk ?_) | refine qd ?_ | refine qi ?_ | refine qj ?_ | refine qm ?_) <;> (try simp (disch := first | omega | simp) [qh, -qq, -qs, hl])) | ((with_reducible refine sideT ?_ ?_); first | omega | assumption | (simp; done)) | (refine qe fun K hK => ?_) | (refine qa ?_) | (refine qb true (by kernel_rfl) (by kernel_rfl) ?_) | (refine hK _ ?_; clear hK K) | (clear hK K; refine hK _ ?_; clear hK K) | (clear hK K; clear hK K; refine hK _ ?_; clear hK K) | refine qc ?_)
  all_goals first | omega | skip
theorem rcmps_g (L : List Val) (hL : L.length ≤ 1000000) : Gives Tryz.prog 125 [.sl (L.map Val.av), .sl (L.map Val.av)] (.int 0) := by
  refine qn Tryz.func125 Tryz.ntmps125 rfl rfl (by decide) rfl (by intro n; simp) fun σ n0 hcl hft => ?_
  repeat' (first | ((first | ((with_reducible refine qo (fun hg => ?_) (fun hg => ?_)) <;> (try simp only [hg]) <;> (try simp only [gS] at hg) <;> (try (first | simp only [eq_false hg, gI] | simp only [eq_true hg, gI]))) | (with_reducible first | refine qg ?_ | refine qf ?_ | refine ql ?_ | refine qk ?_) | refine qd ?_ | refine qi ?_ | refine qj ?_ | refine qm ?_) <;> (try simp (disch := first | omega | simp) [qh, -qq, -qs])) | ((with_reducible refine sideT ?_ ?_); first | omega | assumption | (simp; done)) | (refine qe fun K hK => ?_) | (refine qa ?_) | (refine qb true (by kernel_rfl) (by kernel_rfl) ?_) | (refine hK _ ?_; clear hK K) | (clear hK K; refine hK _ ?_; clear hK K) | (clear hK K; clear hK K; refine hK _ ?_; clear hK K) | refine qc ?_)
  refine qt hcl (fun k : Nat => [(0, .sl (L.map Val.av)), (1, .sl (L.map Val.av)), (5, .int k)]) (fun _ => [])
    (fun k => k ≤ L.length) (fun k => L.length - k) 0 (by simp) (by simp) fun k hk => ?_
  by_cases hlt : k < L.length
  · repeat' (first | ((first | ((with_reducible refine qo (fun hg => ?_) (fun hg => ?_)) <;> (try simp only [hg]) <;> (try simp only [gS] at hg) <;> (try (first | simp only [eq_false hg, gI] | simp only [eq_true hg, gI]))) | (with_reducible first | refine qg ?_ | refine qf ?_ | refine ql ?_ | refine qk ?_) | refine acall (rcmp_g _) ?_ | refine qp (rcmp_g _) ?_ | refine qr (rcmp_g _) ?_ | refine qd ?_ | refine qi ?_ | refine qj ?_ | refine qm ?_) <;> (try simp (disch := first | omega | simp) [qh, -qq, -qs, hlt])) | ((with_reducible refine sideT ?_ ?_); first | omega | assumption | (simp; done)) | (refine qe fun K hK => ?_) | (refine qa ?_) | (refine qb true (by kernel_rfl) (by kernel_rfl) ?_) | (refine qb false (by kernel_rfl) (by kernel_rfl) ?_) | (refine hK _ ?_; clear hK K) | (clear hK K; refine hK _ ?_; clear hK K) | (clear hK K; clear hK K; refine hK _ ?_; clear hK K) | refine qc ?_)
    exact ⟨k + 1, by omega, by omega, by simp⟩
  · repeat' (first | ((first | ((with_reducible refine qo (fun hg => ?_) (fun hg => ?_)) <;> (try simp only [hg]) <;> (try simp only [gS] at hg) <;> (try (first | simp only [eq_false hg, gI] | simp only [eq_true hg, gI]))) | (with_reducible first | refine qg ?_ | refine qf ?_ | refine ql ?_ | refine qk ?_) | refine qd ?_ | refine qi ?_ | refine qj ?_ | refine qm ?_) <;> (try simp (disch := first | omega | simp) [qh, -qq, -qs, hlt])) | ((with_reducible refine sideT ?_ ?_); first | omega | assumption | (simp; done)) | (refine qe fun K hK => ?_) | (refine qa ?_) | (refine qb true (by kernel_rfl) (by kernel_rfl) ?_) | (refine qb false (by kernel_rfl) (by kernel_rfl) ?_) | (refine hK _ ?_; clear hK K) | (clear hK K; refine hK _ ?_; clear hK K) | (clear hK K; clear hK K; refine hK _ ?_; clear hK K) | refine qc ?_)
    all_goals omega
theorem rsame03_g (L : List Val) (hL : L.length ≤ 1000000) : Gives Tryz.prog 69 [.sl (L.map Val.av), .sl (L.map Val.av)] (.bool true) := by
  refine qn Tryz.func69 Tryz.ntmps69 rfl rfl (by decide) rfl (by intro n; simp) fun σ n0 hcl hft => ?_
  repeat' (first | ((first | ((with_reducible refine qo (fun hg => ?_) (fun hg => ?_)) <;> (try simp only [hg]) <;> (try simp only [gS] at hg) <;> (try (first | simp only [eq_false hg, gI] | simp only [eq_true hg, gI]))) | (with_reducible first | refine qg ?_ | refine qf ?_ | refine ql ?_ | refine qk ?_) | refine acall (rcmps_g L hL) ?_ | refine qp (rcmps_g L hL) ?_ | refine qd ?_ | refine qi ?_ | refine qj ?_ | refine qm ?_) <;> (try simp (disch := first | omega | simp) [qh, -qq, -qs])) | ((with_reducible refine sideT ?_ ?_); first | omega | assumption | (simp; done)) | (refine qe fun K hK => ?_) | (refine qa ?_) | (refine qb true (by kernel_rfl) (by kernel_rfl) ?_) | (refine hK _ ?_; clear hK K) | (clear hK K; refine hK _ ?_; clear hK K) | (clear hK K; clear hK K; refine hK _ ?_; clear hK K) | refine qc ?_)
end Go.Proofs.YtnkimlkoijfcpaaGreatDoor

/- Walks of the laws of layer 26: the examples, and the bounds. -/
namespace Go.Proofs.YtnkimlkoijfcpaaGreatDoor
open Go.RowKit Go.Lib
end Go.Proofs.YtnkimlkoijfcpaaGreatDoor

/- Walks of the laws of layer 26: running a program. -/
namespace Go.Proofs.YtnkimlkoijfcpaaGreatDoor
open Go.RowKit Go.Lib
theorem callN_zero (time : Int) (m : Nat) : callN [] time m = fun _ _ => zeroV := by
  funext i vs; exact callN_nil time m i vs
end Go.Proofs.YtnkimlkoijfcpaaGreatDoor

/- Contracts of Steps, as abstract ones. -/
namespace Go.Proofs.YtnkimlkoijfcpaaGreatDoor
open Go.RowKit Go.Lib
end Go.Proofs.YtnkimlkoijfcpaaGreatDoor

/- Layer 27 on plain data: batches that fit; the columns of a program. -/
namespace Go.Proofs.YtnkimlkoijfcpaaGreatDoor
open Go.RowKit Go.Lib
theorem rightV_sound {v : Val} (h : qbt v = true) : qba v := by
  rw [rightV_eq] at h
  unfold qba okV
  by_cases h0 : v.k = 0
  · rw [if_pos h0] at h ⊢
    refine ⟨h, ?_⟩
    have h1 : v.s.toList = [] := by simpa using h
    have h2 : v.s.size = 0 := by rw [Lib.size_eq, ← ByteArray.toList_eq, h1]; rfl
    omega
  · rw [if_neg h0] at h ⊢
    by_cases h1 : v.k = 1
    · rw [if_pos h1] at h ⊢
      simp only [Bool.and_eq_true, decide_eq_true_eq] at h ⊢
      exact ⟨⟨h.1, by omega⟩, h.2⟩
    · rw [if_neg h1] at h ⊢
      refine ⟨h, ?_⟩
      simp only [Bool.and_eq_true, decide_eq_true_eq] at h
      have h2 : v.s.size = 0 := by rw [Lib.size_eq, ← ByteArray.toList_eq, h.2]; rfl
      omega
def qby (cols : List Int) (r : List Val) : Bool := decide (r.length = cols.length) && rowOk r && decide (r.map Val.k = cols)
def fitsD (cols : List Int) (l : List Delta) : Bool := l.all fun d => qby cols d.row
theorem fitRow_fit {cols : List Int} {r : List Val} (h : qby cols r = true) : qbn cols r := by
  unfold qby rowOk at h
  simp only [Bool.and_eq_true, decide_eq_true_eq, List.all_eq_true] at h
  rw [← h.2]
  exact qbn.of fun v hv => rightV_sound (h.1.2.2 v hv)
theorem fitsD_mem {cols : List Int} {l : List Delta} (h : fitsD cols l = true) {d : Delta} (hd : d ∈ l) : qbn cols d.row := by
  unfold fitsD at h
  rw [List.all_eq_true] at h
  exact fitRow_fit (h d hd)
def colD (l : List Delta) (ins : List Ins) (nt : Nat) (r : Nat) : List Val := l.map fun d => (regsI d.time d.row ins (List.replicate nt zeroV)).getD r zeroV
def runD (c : Cod) (l : List Delta) : List Val := l.map fun d => valC c d.time d.row
def runP (c : Cod) (cols : List Int) (l : List Delta) : List Val × Int :=
  if (verP c cols).2 ≠ 0 then ([], (verP c cols).2) else if fitsD cols l = false then ([], 16) else (runD c l, 0)
def workP (c : Cod) (rows : Int) : Int :=
  if rows ≤ 0 ∨ c.ins.length = 0 then 0 else if 1099511627776 / (c.ins.length : Int) < rows then 1099511627776 else c.ins.length * rows
end Go.Proofs.YtnkimlkoijfcpaaGreatDoor

/- Walks of the laws of layer 26: the bounds. -/
namespace Go.Proofs.YtnkimlkoijfcpaaGreatDoor
open Go.RowKit Go.Lib
end Go.Proofs.YtnkimlkoijfcpaaGreatDoor

/- Layer 26 on plain data: Compact keeps the type of the result. -/
namespace Go.Proofs.YtnkimlkoijfcpaaGreatDoor
open Go.RowKit Go.Lib
theorem last_keep : ∀ (l : List Ins) (i0 : Nat) (last : List Nat) (r : Nat), (∀ j (h : j < l.length), l[j].to.toNat ≠ r) → (lastL l i0 last).getD r 0 = last.getD r 0
  | [], _, _, _, _ => rfl
  | y :: l, k, last, r, h => by
    rw [lastL, last_keep l _ _ _ fun j hj => h (j + 1) (by simpa using hj), qx, if_neg (fun e => h 0 (by simp) e.1)]
theorem last_to : ∀ (l : List Ins) (i0 : Nat) (last : List Nat) (r : Nat), r < last.length → (∃ i, ∃ h : i < l.length, l[i].to.toNat = r) → ∃ j, ∃ h : j < l.length, (lastL l i0 last).getD r 0 = i0 + j ∧ l[j].to.toNat = r
  | [], _, _, _, _, ⟨_, h, _⟩ => absurd h (by simp)
  | x :: l, i0, last, r, hr, ⟨i, hi, he⟩ => by
    by_cases hex : ∃ i, ∃ h : i < l.length, l[i].to.toNat = r
    · obtain ⟨j, hj, h1, h2⟩ := last_to l (i0 + 1) (last.set x.to.toNat i0) r (by simpa using hr) hex
      exact ⟨j + 1, by simpa using hj, by rw [lastL, h1]; omega, by simpa using h2⟩
    · have hx : x.to.toNat = r := by
        cases i with
        | zero => simpa using he
        | succ i => exact absurd ⟨i, by simpa using hi, by simpa using he⟩ hex
      refine ⟨0, by simp, ?_, by simpa using hx⟩
      rw [lastL, last_keep l _ _ _ fun j hj e => hex ⟨j, hj, e⟩, qx, if_pos ⟨hx, by rw [hx]; exact hr⟩]; rfl
theorem done_some26 : ∀ (l : List Ins) (done : List Bool) (r : Nat), (doneL l done).getD r false = true → done.getD r false = false → ∃ i, ∃ h : i < l.length, l[i].to.toNat = r
  | [], done, r, h1, h2 => by rw [doneL] at h1; rw [h1] at h2; cases h2
  | x :: l, done, r, h1, h2 => by
    by_cases hx : x.to.toNat = r
    · exact ⟨0, by simp, hx⟩
    · rw [doneL] at h1
      obtain ⟨i, hi, h⟩ := done_some26 l _ r h1 (by rw [qx, if_neg (fun e => hx e.1)]; exact h2)
      exact ⟨i + 1, by simpa using hi, h⟩
theorem nodes_x : ∀ (l : List Ins) (i : Nat) (last : List Nat) (k : Nat), ((nodes l i last)[k]?).map Nd.x = l[k]?
  | [], _, _, k => by rw [nodes]; simp
  | x :: l, i, last, 0 => by rw [nodes]; rfl
  | x :: l, i, last, k + 1 => by rw [nodes, List.getElem?_cons_succ, List.getElem?_cons_succ, nodes_x l]
theorem root_to {c : Cod} {cols : List Int} (h : CodOk c cols) : ∃ d, (qy c)[rootC c]? = some d ∧ d.x.to.toNat = c.out.toNat := by
  have o0 := h.out0
  have o1 := h.out1
  obtain ⟨j, hj, h1, h2⟩ := last_to c.ins 0 (List.replicate c.types.length 0) c.out.toNat (by simp; omega) (done_some26 c.ins _ _ h.out2 (by rw [List.getD_eq_getElem?_getD, List.getElem?_replicate]; split <;> rfl))
  have hr : rootC c = j := by unfold rootC; rw [h1]; omega
  have hx := nodes_x c.ins 0 (List.replicate c.types.length 0) j
  rw [List.getElem?_eq_getElem hj] at hx
  rw [hr]
  cases hd : (qy c)[j]? with
  | none => unfold qy at hd; rw [hd] at hx; cases hx
  | some d =>
    unfold qy at hd
    rw [hd] at hx
    have hx2 : d.x = c.ins[j] := Option.some.inj hx
    exact ⟨d, rfl, by rw [hx2]; exact h2⟩
theorem comp_type {c : Cod} {cols : List Int} (h : CodOk c cols) : (compP c).types.getD (compP c).out.toNat 0 = c.types.getD c.out.toNat 0 := by
  obtain ⟨h1, -, -, h4, h5, -⟩ := comp_all_ok h 0 []
  obtain ⟨ht, -, -⟩ := trim_ok h 0 []
  obtain ⟨a, ha, ha2⟩ := root_to h1
  obtain ⟨b, hb, hb2⟩ := root_to ht
  have hk : ((qy (compP c)).map (keyN (compP c).types))[rootC (compP c)]? = ((qy (trimP c)).map (keyN (trimP c).types))[rootC (trimP c)]? := by rw [h5, h4]
  rw [List.getElem?_map, List.getElem?_map, ha, hb] at hk
  have hk2 := Option.some.inj hk
  unfold keyN at hk2
  simp only [Prod.mk.injEq] at hk2
  rw [ha2, hb2] at hk2
  exact hk2.2.2.2.2
theorem comp_typ {cols : List Int} {f : Ex} (h : TypE cols f) (hp : parts f ≤ 1000) : CodOk (compP (rawP cols f)) cols ∧ (∀ time row, valC (compP (rawP cols f)) time row = ev (fun _ _ => zeroV) time row [] f) ∧ (compP (rawP cols f)).types.getD (compP (rawP cols f)).out.toNat 0 = typE cols f := by
  obtain ⟨h1, h2, h3⟩ := raw_ok h hp
  refine ⟨(comp_ok h1 0 []).1, fun time row => ?_, by rw [comp_type h1]; exact h3⟩
  rw [(comp_ok h1 time row).2.1, h2]
end Go.Proofs.YtnkimlkoijfcpaaGreatDoor

/- Walk of layer 25: whether an instruction is formed. -/
namespace Go.Proofs.YtnkimlkoijfcpaaGreatDoor
open Go.RowKit Go.Lib
theorem bare_same (x : Ins) : Ins.eqB (bareI x) x = true ↔ (3 ≤ arO x.op ∨ x.c = 0) ∧ (2 ≤ arO x.op ∨ x.b = 0) ∧ (1 ≤ arO x.op ∨ x.a = 0) ∧ ((x.op = 0 ∨ x.op = 2 ∨ x.op = 3) ∨ x.n = 0) ∧ (x.op = 1 ∨ x.s.size = 0) := by
  rw [Ins.eqB_iff]
  obtain ⟨o, to, a, b, c, n, s⟩ := x
  unfold bareI
  simp only [Ins.mk.injEq, true_and]
  have hs : (if o = 1 then s else ByteArray.empty) = s ↔ (o = 1 ∨ s.size = 0) := by
    split
    · rename_i h; exact ⟨fun _ => .inl h, fun _ => rfl⟩
    · rename_i h
      exact ⟨fun e => .inr (by rw [← e]; rfl), fun e => by rcases e with e | e; exact absurd e h; exact (size_empty e).symm⟩
  rw [hs]
  have hi : ∀ (p : Prop) [Decidable p] (v : Int), (if p then v else 0) = v ↔ (p ∨ v = 0) := fun p _ v => by
    split
    · rename_i h; exact ⟨fun _ => .inl h, fun _ => rfl⟩
    · rename_i h; exact ⟨fun e => .inr e.symm, fun e => e.elim (fun e => absurd e h) fun e => e.symm⟩
  rw [hi, hi, hi, hi]
  constructor
  · rintro ⟨h1, h2, h3, h4, h5⟩; exact ⟨h3, h2, h1, h4, h5⟩
  · rintro ⟨h1, h2, h3, h4, h5⟩; exact ⟨h3, h2, h1, h4, h5⟩
theorem formed_is (x : Ins) : qbj x = (opOk x.op && (Ins.eqB (bareI x) x && (decide ((x.s.size : Int) ≤ 200) && decide (x.op = 2 → x.n = 0 ∨ x.n = 1)))) := by
  have h := bare_same x
  have hle := arO_le x.op
  unfold qbj
  cases ho : opOk x.op
  · rfl
  rw [Bool.true_and, Bool.true_and, Bool.eq_iff_iff]
  simp only [Bool.and_eq_true, h, decide_eq_true_eq]
  by_cases h0 : x.op = 0 ∨ x.op = 3
  · rw [if_pos h0]
    simp only [decide_eq_true_eq]
    omega
  · rw [if_neg h0]
    by_cases h2 : x.op = 2
    · rw [if_pos h2]
      simp only [Bool.and_eq_true, decide_eq_true_eq]
      omega
    · rw [if_neg h2]
      by_cases h1 : x.op = 1
      · rw [if_pos h1]
        simp only [Bool.and_eq_true, decide_eq_true_eq]
        omega
      · rw [if_neg h1]
        simp only [Bool.and_eq_true, decide_eq_true_eq]
        omega
set_option maxHeartbeats 1000000 in
theorem formed_g (x : Ins) : Gives Tryz.prog 166 [x.av] (.bool (qbj x)) := by
  have c1 := isOp_g x.op
  have c2 := bare_g x
  obtain ⟨R, hR⟩ : ∃ R, R = qbj x := ⟨_, rfl⟩
  rw [← hR]
  rw [formed_is] at hR
  generalize opOk x.op = b at *
  cases b
  · refine qn Tryz.func166 Tryz.ntmps166 rfl rfl (by decide) rfl (by intro n; simp) fun σ n0 hcl hft => ?_
    repeat' (first | ((first | ((with_reducible refine qo (fun hg => ?_) (fun hg => ?_)) <;> (try simp only [hg]) <;> (try simp only [gS] at hg) <;> (try (first | simp only [eq_false hg, gI] | simp only [eq_true hg, gI]))) | (with_reducible first | refine qg ?_ | refine qf ?_ | refine ql ?_ | refine qk ?_) | refine acall (c1) ?_ | refine qp (c1) ?_ | refine qd ?_ | refine qi ?_ | refine qj ?_ | refine qm ?_) <;> (try simp (disch := first | omega | simp) [qh, -qq, -qs])) | ((with_reducible refine sideT ?_ ?_); first | omega | assumption | (simp; done)) | (refine qe fun K hK => ?_) | (refine qa ?_) | (refine qb true (by kernel_rfl) (by kernel_rfl) ?_) | (refine hK _ ?_; clear hK K) | (clear hK K; refine hK _ ?_; clear hK K) | (clear hK K; clear hK K; refine hK _ ?_; clear hK K) | refine qc ?_)
    all_goals (subst hR; simp_all)
  generalize bareI x = y at *
  cases hy : Ins.eqB y x
  · rw [hy] at hR
    refine qn Tryz.func166 Tryz.ntmps166 rfl rfl (by decide) rfl (by intro n; simp) fun σ n0 hcl hft => ?_
    repeat' (first | ((first | ((with_reducible refine qo (fun hg => ?_) (fun hg => ?_)) <;> (try simp only [hg]) <;> (try simp only [gS] at hg) <;> (try (first | simp only [eq_false hg, gI] | simp only [eq_true hg, gI]))) | (with_reducible first | refine qg ?_ | refine qf ?_ | refine ql ?_ | refine qk ?_) | refine acall (c1) ?_ | refine qp (c1) ?_ | refine acall (c2) ?_ | refine qp (c2) ?_ | refine qd ?_ | refine qi ?_ | refine qj ?_ | refine qm ?_) <;> (try simp (disch := first | omega | simp) [qh, -qq, -qs, hy])) | ((with_reducible refine sideT ?_ ?_); first | omega | assumption | (simp; done)) | (refine qe fun K hK => ?_) | (refine qa ?_) | (refine qb true (by kernel_rfl) (by kernel_rfl) ?_) | (refine hK _ ?_; clear hK K) | (clear hK K; refine hK _ ?_; clear hK K) | (clear hK K; clear hK K; refine hK _ ?_; clear hK K) | refine qc ?_)
    all_goals (subst hR; simp_all)
  rw [hy] at hR
  by_cases hs : (x.s.size : Int) ≤ 200
  · have hsh : ((x.n).fdiv 2 = 0) ↔ (x.n = 0 ∨ x.n = 1) := by
      rw [Int.fdiv_eq_ediv_of_nonneg _ (by omega)]
      omega
    refine qn Tryz.func166 Tryz.ntmps166 rfl rfl (by decide) rfl (by intro n; simp) fun σ n0 hcl hft => ?_
    repeat' (first | ((first | ((with_reducible refine qo (fun hg => ?_) (fun hg => ?_)) <;> (try simp only [hg]) <;> (try simp only [gS] at hg) <;> (try (first | simp only [eq_false hg, gI] | simp only [eq_true hg, gI]))) | (with_reducible first | refine qg ?_ | refine qf ?_ | refine ql ?_ | refine qk ?_) | refine acall (c1) ?_ | refine qp (c1) ?_ | refine acall (c2) ?_ | refine qp (c2) ?_ | refine qd ?_ | refine qi ?_ | refine qj ?_ | refine qm ?_) <;> (try simp (disch := first | omega | simp) [qh, -qq, -qs, hy, hs])) | ((with_reducible refine sideT ?_ ?_); first | omega | assumption | (simp; done)) | (refine qe fun K hK => ?_) | (refine qa ?_) | (refine qb true (by kernel_rfl) (by kernel_rfl) ?_) | (refine hK _ ?_; clear hK K) | (clear hK K; refine hK _ ?_; clear hK K) | (clear hK K; clear hK K; refine hK _ ?_; clear hK K) | refine qc ?_)
    · rw [hR]; simp [hs, hg]
    · rw [show (2 : Int) ^ min 1 IntKind.i64.bits = 2 from rfl, hR, Bool.eq_iff_iff]
      simp only [beq_iff_eq, hsh]
      simp [hs, hg]
  · refine qn Tryz.func166 Tryz.ntmps166 rfl rfl (by decide) rfl (by intro n; simp) fun σ n0 hcl hft => ?_
    repeat' (first | ((first | ((with_reducible refine qo (fun hg => ?_) (fun hg => ?_)) <;> (try simp only [hg]) <;> (try simp only [gS] at hg) <;> (try (first | simp only [eq_false hg, gI] | simp only [eq_true hg, gI]))) | (with_reducible first | refine qg ?_ | refine qf ?_ | refine ql ?_ | refine qk ?_) | refine acall (c1) ?_ | refine qp (c1) ?_ | refine acall (c2) ?_ | refine qp (c2) ?_ | refine qd ?_ | refine qi ?_ | refine qj ?_ | refine qm ?_) <;> (try simp (disch := first | omega | simp) [qh, -qq, -qs, hy, hs])) | ((with_reducible refine sideT ?_ ?_); first | omega | assumption | (simp; done)) | (refine qe fun K hK => ?_) | (refine qa ?_) | (refine qb true (by kernel_rfl) (by kernel_rfl) ?_) | (refine hK _ ?_; clear hK K) | (clear hK K; refine hK _ ?_; clear hK K) | (clear hK K; clear hK K; refine hK _ ?_; clear hK K) | refine qc ?_)
    all_goals (subst hR; simp_all)
    all_goals omega
end Go.Proofs.YtnkimlkoijfcpaaGreatDoor

/- Walk of layer 25: the error of an instruction. -/
namespace Go.Proofs.YtnkimlkoijfcpaaGreatDoor
open Go.RowKit Go.Lib
theorem bad_g (done : List Bool) (r : Int) (h0 : 0 ≤ r) (h1 : r < done.length) (σ : Nat → AB) (b d : Nat) (hb : σ b = .cells [.own d done.length] 54) (hd : σ d = .vec (done.map AV.bool) 4 1) :
    qbh Tryz.prog 167 [.int r, .ptr b 0] σ (.bool (!done.getD r.toNat false)) := by
  have hg : done[r.toNat]? = some (done.getD r.toNat false) := by
    rw [List.getD_eq_getElem?_getD, List.getElem?_eq_getElem (by omega)]; rfl
  refine qw Tryz.func167 Tryz.ntmps167 rfl rfl (by decide) rfl (by intro n; simp) fun n0 hfin hcl hft => ?_
  have hloc := qbo hfin hb (by simp)
  have hloc2 := qbo hfin hd (by simp)
  repeat' (first | ((first | ((with_reducible refine qo (fun hg => ?_) (fun hg => ?_)) <;> (try simp only [hg]) <;> (try simp only [gS] at hg) <;> (try (first | simp only [eq_false hg, gI] | simp only [eq_true hg, gI]))) | (with_reducible first | refine qg ?_ | refine qf ?_ | refine ql ?_ | refine qk ?_) | refine qd ?_ | refine qi ?_ | refine qj ?_ | refine qm ?_) <;> (try simp (disch := first | omega | simp) [qh, -qq, -qs, hloc, hloc2, h0, h1])) | ((with_reducible refine sideT ?_ ?_); first | omega | assumption | (simp; done)) | (refine qe fun K hK => ?_) | (refine qa ?_) | (refine qb true (by kernel_rfl) (by kernel_rfl) ?_) | (refine qb false (by kernel_rfl) (by kernel_rfl) ?_) | (refine hK _ ?_; clear hK K) | (clear hK K; refine hK _ ?_; clear hK K) | (clear hK K; clear hK K; refine hK _ ?_; clear hK K) | refine qc ?_)
def offR (types : List Int) (r : Int) : Bool := decide (r < 0) || decide ((types.length : Int) ≤ r)
end Go.Proofs.YtnkimlkoijfcpaaGreatDoor

/- Slice literals that grow. -/
namespace Go.Proofs.YtnkimlkoijfcpaaGreatDoor
open Go.RowKit Go.Lib
theorem EOp.frz {P : Program} {s : AS} {o : Op} {K : AV → AS → Prop} {r n : Nat} {l : List AV} {et : TypeId} {sz : Nat} (h : EOp P s o fun x s1 => x = .own r n ∧ n = l.length ∧ s1.st r = .vec l et sz ∧ K (.gs s1.nx l) ((s1.set r .dead).ext (some (.tail l.length et sz)))) : EOp P s o K := by
  intro X0 a w X oper ho hc Q
  refine Oper.wp_mono ?_ (h X0 a w X oper ho hc Q)
  rintro a' w' ⟨v, x, s1, X', e1, ⟨rfl, hn, hσ, hK⟩, hc', hr⟩
  obtain ⟨X2, hw, hc2, hF, hR⟩ := con_freeze hc' hσ
  exact ⟨v, _, _, X2, e1, hK, hc2, hR v n hn hr⟩
theorem ext_dead (s : AS) (ab cd : AB) : ((s.ext (some ab)).set s.nx .dead).ext (some cd) = (s.ext (some .dead)).ext (some cd) := by
  have h : (s.ext (some ab)).set s.nx .dead = s.ext (some .dead) := by
    unfold AS.set AS.ext AS.nx
    dsimp only
    rw [if_neg (by omega), Nat.add_sub_cancel_left]
    simp
  rw [h]
def aevZ (P : Program) (s : AS) (o : Op) (K : AV → AS → Prop) : Prop :=
  match o with
  | .buildSlice t n ⟨p :: ps⟩ => match vinfo P t with
    | some (e, sz, _) => n = (p :: ps).length ∧ n * sz ≤ 16777216 ∧ bldS sz 0 ((p :: ps).map fun p => (p.1, s.eval p.2)) ∧ AV.wid ((p :: ps).map fun p => (s.eval p.2).pub) sz ∧
        K (.gs (s.n0 + (s.L.length + 1)) ((p :: ps).map fun p => (s.eval p.2).pub)) ((s.ext (some .dead)).ext (some (.tail n e sz)))
    | none => False
  | o => aev P s o K
theorem aevZ_sound {P : Program} {s : AS} {o : Op} {K : AV → AS → Prop} (h : aevZ P s o K) : EOp P s o K := by
  unfold aevZ at h
  split at h
  · rename_i t n p ps
    split at h
    · rename_i e sz _ hv
      obtain ⟨h1, h2, h3, h4, h5⟩ := h
      have hlen : ((p :: ps).map fun p => (s.eval p.2).pub).length = n := by rw [List.length_map, h1]
      refine EOp.frz (r := s.nx) (n := n) (l := (p :: ps).map fun p => (s.eval p.2).pub) (et := e) (sz := sz) (eop_fun (nb := some _) (fop_litVec hv h1 h2 h3 h4) ⟨rfl, hlen.symm, ?_, ?_⟩)
      · show loc s.σ s.n0 (s.L ++ [_]) (s.n0 + s.L.length) = _
        rw [loc_add]; simp
      · rw [ext_dead, hlen]
        have : (s.ext (some (AB.vec ((p :: ps).map fun p => (s.eval p.2).pub) e sz))).nx = s.n0 + (s.L.length + 1) := by
          show s.n0 + (s.L ++ [_]).length = _
          simp
        rw [this]
        exact h5
    · exact h.elim
  · exact qcq h
def aseqZ (P : Program) (ops : Array Oper) (K : AS → Prop) : List Oper → AS → Prop
  | [], s => K s
  | o :: l, s => match awant ops o s.t with
    | some b => qbq b (aevZ P s o.op (fun x s1 => dstOk o.dst s1.n ∧ aseqZ P ops K l (s1.put o.dst x))) (dstOk o.dst s.n ∧ aseqZ P ops K l (s.put o.dst (.v undef)))
    | none => False
theorem aseqZ_sound {P : Program} {ops : Array Oper} {K : AS → Prop} : ∀ {l : List Oper} {s : AS}, aseqZ P ops K l s → aseq P ops K l s
  | [], _, h => h
  | o :: l, s, h => by
    rw [aseqZ] at h
    rw [aseq]
    split at h
    · rename_i b hb
      cases b with
      | true => exact ⟨true, hb, (aevZ_sound (h.1 rfl)).mono fun x s1 ⟨h1, h2⟩ => ⟨h1, aseqZ_sound h2⟩⟩
      | false => exact ⟨false, hb, (h.2 rfl).1, aseqZ_sound (h.2 rfl).2⟩
    · exact h.elim
theorem awp_regionZ {P : Program} {s : AS} {id : Nat} {l : List Oper} {Q : Exit → AS → Prop} (h : aseqZ P l.toArray (Q .normal) l s) : awp P (.region id l.toArray false) Q s := qdt (aseqZ_sound h)
theorem aseqZ_step {P : Program} {ops : Array Oper} {K : AS → Prop} {o : Oper} {l : List Oper} {s : AS} (h : match awant ops o s.t with
    | some b => qbq b (aevZ P s o.op (fun x s1 => dstOk o.dst s1.n ∧ aseqZ P ops K l (s1.put o.dst x))) (dstOk o.dst s.n ∧ aseqZ P ops K l (s.put o.dst (.v undef)))
    | none => False) : aseqZ P ops K (o :: l) s := h
theorem aseqZ_end {P : Program} {ops : Array Oper} {K : AS → Prop} {s : AS} (h : K s) : aseqZ P ops K [] s := h
attribute [simp] aevZ
end Go.Proofs.YtnkimlkoijfcpaaGreatDoor
