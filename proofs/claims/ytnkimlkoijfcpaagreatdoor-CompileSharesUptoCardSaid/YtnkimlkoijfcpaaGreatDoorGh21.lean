/- Walks of layer 26: constants, and folding. -/
import Derived.Test.YtnkimlkoijfcpaaGreatDoorGh1
import Derived.Test.YtnkimlkoijfcpaaGreatDoorGh3
import Derived.Test.YtnkimlkoijfcpaaGreatDoorGh12
import Derived.Test.YtnkimlkoijfcpaaGreatDoorGh14
import Derived.Test.YtnkimlkoijfcpaaGreatDoorGh16
import Derived.Test.YtnkimlkoijfcpaaGreatDoorGh18
import Derived.Test.YtnkimlkoijfcpaaGreatDoorGh20
set_option linter.unusedSimpArgs false
set_option linter.unusedVariables false
namespace Go.Proofs.YtnkimlkoijfcpaaGreatDoor
open Go.RowKit Go.Lib
@[simp] theorem Ex.av_keep (x : AV) (o : Nat) (e : Ex) : x.keep o e.av = e.av := by
  have h := e.av_pub
  rw [Ex.av_eq] at h ⊢
  exact keep_all (by simp) h x o
set_option maxHeartbeats 4000000 in
theorem qdy (e : Ex) : Gives Tryz.prog 42 [e.av] (.bool (qbf e)) := by
  obtain ⟨o, n, s, l⟩ := e
  refine qn Tryz.func42 Tryz.ntmps42 rfl rfl (by decide) rfl (by intro n; simp) fun σ n0 hcl hft => ?_
  repeat' (first | ((first | ((with_reducible refine qo (fun hg => ?_) (fun hg => ?_)) <;> (try simp only [hg]) <;> (try simp only [gS] at hg) <;> (try (first | simp only [eq_false hg, gI] | simp only [eq_true hg, gI]))) | (with_reducible first | refine qh ?_ | refine qg ?_ | refine ql ?_ | refine qk ?_) | refine qd ?_ | refine qi ?_ | refine qj ?_ | refine qm ?_) <;> (try simp (disch := first | omega | simp) [qf, -qq, -qs])) | ((with_reducible refine sideT ?_ ?_); first | omega | assumption | (simp; done)) | (refine qe fun K hK => ?_) | (refine qb ?_) | (refine qa true (by kernel_rfl) (by kernel_rfl) ?_) | (refine hK _ ?_; clear hK K) | (clear hK K; refine hK _ ?_; clear hK K) | (clear hK K; clear hK K; refine hK _ ?_; clear hK K) | refine qc ?_)
  all_goals (unfold qbf; simp_all [Ex.op])
  all_goals (by_cases h2 : o = 2 <;> simp [h2])
set_option maxHeartbeats 4000000 in
theorem Constant_g (v : Val) : Gives Tryz.prog 26 [v.av] (.tup [(qbl v).av, .bool (decide (v.k = 0 ∨ v.k = 1 ∨ v.k = 2))]) := by
  obtain ⟨k, n, s⟩ := v
  refine qn Tryz.func26 Tryz.ntmps26 rfl rfl (by decide) rfl (by intro n; simp) fun σ n0 hcl hft => ?_
  repeat' (first | ((first | ((with_reducible refine qo (fun hg => ?_) (fun hg => ?_)) <;> (try simp only [hg]) <;> (try simp only [gS] at hg) <;> (try (first | simp only [eq_false hg, gI] | simp only [eq_true hg, gI]))) | (with_reducible first | refine qh ?_ | refine qg ?_ | refine ql ?_ | refine qk ?_) | refine qd ?_ | refine qi ?_ | refine qj ?_ | refine qm ?_) <;> (try simp (disch := first | omega | simp) [qf, -qq, -qs])) | ((with_reducible refine sideT ?_ ?_); first | omega | assumption | (simp; done)) | (refine qe fun K hK => ?_) | (refine qb ?_) | (refine qa true (by kernel_rfl) (by kernel_rfl) ?_) | (refine hK _ ?_; clear hK K) | (clear hK K; refine hK _ ?_; clear hK K) | (clear hK K; clear hK K; refine hK _ ?_; clear hK K) | refine qc ?_)
  all_goals simp_all [qbl, zeroE]
set_option maxHeartbeats 4000000 in
theorem choice_g (n : Int) (s : ByteArray) (a b c : Ex) (hp : parts b ≤ 1000000) : Gives Tryz.prog 43 [(Ex.mk 21 n s [a, b, c]).av] (choiceP 21 n s [a, b, c]).av := by
  have c1 := qdy a
  have c2 := same_g b c hp
  obtain ⟨R, hR⟩ : ∃ R, R = choiceP 21 n s [a, b, c] := ⟨_, rfl⟩
  rw [← hR]
  unfold choiceP at hR
  refine qn Tryz.func43 Tryz.ntmps43 rfl rfl (by decide) rfl (by intro n; simp) fun σ n0 hcl hft => ?_
  repeat' (first | ((first | ((with_reducible refine qo (fun hg => ?_) (fun hg => ?_)) <;> (try simp only [hg]) <;> (try simp only [gS] at hg) <;> (try (first | simp only [eq_false hg, gI] | simp only [eq_true hg, gI]))) | (with_reducible first | refine qh ?_ | refine qg ?_ | refine ql ?_ | refine qk ?_) | refine acall (c1) ?_ | refine qr (c1) ?_ | refine qp (c1) ?_ | refine acall (c2) ?_ | refine qr (c2) ?_ | refine qp (c2) ?_ | refine qd ?_ | refine qi ?_ | refine qj ?_ | refine qm ?_) <;> (try simp (disch := first | omega | simp) [qf, -qq, -qs])) | ((with_reducible refine sideT ?_ ?_); first | omega | assumption | (simp; done)) | (refine qe fun K hK => ?_) | (refine qb ?_) | (refine qa true (by kernel_rfl) (by kernel_rfl) ?_) | (refine qa false (by kernel_rfl) (by kernel_rfl) ?_) | (refine hK _ ?_; clear hK K) | (clear hK K; refine hK _ ?_; clear hK K) | (clear hK K; clear hK K; refine hK _ ?_; clear hK K) | refine qc ?_)
  all_goals (rw [hR]; simp_all)
set_option maxHeartbeats 4000000 in
theorem logic_g (o n : Int) (s : ByteArray) (a b : Ex) : Gives Tryz.prog 44 [(Ex.mk o n s [a, b]).av] (logicP o n s [a, b]).av := by
  have c1 := qdy a
  have c2 := qdy b
  obtain ⟨R, hR⟩ : ∃ R, R = logicP o n s [a, b] := ⟨_, rfl⟩
  rw [← hR]
  unfold logicP at hR
  dsimp only at hR
  refine qn Tryz.func44 Tryz.ntmps44 rfl rfl (by decide) rfl (by intro n; simp) fun σ n0 hcl hft => ?_
  repeat' (first | ((first | ((with_reducible refine qo (fun hg => ?_) (fun hg => ?_)) <;> (try simp only [hg]) <;> (try simp only [gS] at hg) <;> (try (first | simp only [eq_false hg, gI] | simp only [eq_true hg, gI]))) | (with_reducible first | refine qh ?_ | refine qg ?_ | refine ql ?_ | refine qk ?_) | refine qd ?_ | refine qi ?_ | refine qj ?_ | refine qm ?_) <;> (try simp (disch := first | omega | simp) [qf, -qq, -qs])) | ((with_reducible refine sideT ?_ ?_); first | omega | assumption | (simp; done)) | (refine qe fun K hK => ?_) | (refine qb ?_) | (refine qa true (by kernel_rfl) (by kernel_rfl) ?_) | (refine qa false (by kernel_rfl) (by kernel_rfl) ?_) | (refine hK _ ?_; clear hK K) | (clear hK K; refine hK _ ?_; clear hK K) | (clear hK K; clear hK K; refine hK _ ?_; clear hK K) | refine qc ?_)
  refine qu hcl (fun k : Nat => [(1, .ptr n0 0), (2, .ptr (n0 + 1) 0), (6, .sl [a.av, b.av]), (7, .int 2), (8, .int k)]) (fun _ => [.cells [.int o, .int n, .str s, .sl [a.av, b.av]] 25, .cells [.int 0, .int 0, .str ByteArray.empty, .v (.slice none 0 0)] 25])
    (fun k => k ≤ 2 ∧ (0 < k → qbf a = false) ∧ (1 < k → qbf b = false)) (fun k => 2 - k) 0 (by simp) (by simp) fun k ⟨hk, h1, h2⟩ => ?_
  match k, hk, h1, h2 with
  | 0, _, _, _ =>
    cases hca : qbf a with
    | true =>
      rw [hca] at c1
      repeat' (first | ((first | ((with_reducible refine qo (fun hg => ?_) (fun hg => ?_)) <;> (try simp only [hg]) <;> (try simp only [gS] at hg) <;> (try (first | simp only [eq_false hg, gI] | simp only [eq_true hg, gI]))) | (with_reducible first | refine qh ?_ | refine qg ?_ | refine ql ?_ | refine qk ?_) | refine acall (c1) ?_ | refine qr (c1) ?_ | refine qp (c1) ?_ | refine qd ?_ | refine qi ?_ | refine qj ?_ | refine qm ?_) <;> (try simp (disch := first | omega | simp) [qf, -qq, -qs])) | ((with_reducible refine sideT ?_ ?_); first | omega | assumption | (simp; done)) | (refine qe fun K hK => ?_) | (refine qb ?_) | (refine qa true (by kernel_rfl) (by kernel_rfl) ?_) | (refine qa false (by kernel_rfl) (by kernel_rfl) ?_) | (refine hK _ ?_; clear hK K) | (clear hK K; refine hK _ ?_; clear hK K) | (clear hK K; clear hK K; refine hK _ ?_; clear hK K) | refine qc ?_)
      all_goals (rw [hR]; by_cases q1 : a.n = 1 <;> by_cases q2 : o = 17 <;> first | (simp_all; done) | (rename_i hg; exact absurd (by rw [beq_eq_false_iff_ne.2 q1, beq_eq_false_iff_ne.2 q2]) hg))
    | false =>
      rw [hca] at c1
      repeat' (first | ((first | ((with_reducible refine qo (fun hg => ?_) (fun hg => ?_)) <;> (try simp only [hg]) <;> (try simp only [gS] at hg) <;> (try (first | simp only [eq_false hg, gI] | simp only [eq_true hg, gI]))) | (with_reducible first | refine qh ?_ | refine qg ?_ | refine ql ?_ | refine qk ?_) | refine acall (c1) ?_ | refine qr (c1) ?_ | refine qp (c1) ?_ | refine qd ?_ | refine qi ?_ | refine qj ?_ | refine qm ?_) <;> (try simp (disch := first | omega | simp) [qf, -qq, -qs])) | ((with_reducible refine sideT ?_ ?_); first | omega | assumption | (simp; done)) | (refine qe fun K hK => ?_) | (refine qb ?_) | (refine qa true (by kernel_rfl) (by kernel_rfl) ?_) | (refine qa false (by kernel_rfl) (by kernel_rfl) ?_) | (refine hK _ ?_; clear hK K) | (clear hK K; refine hK _ ?_; clear hK K) | (clear hK K; clear hK K; refine hK _ ?_; clear hK K) | refine qc ?_)
      exact ⟨1, ⟨by omega, by omega⟩, by omega, rfl⟩
  | 1, _, h1, _ =>
    have hca := h1 (by omega)
    cases hcb : qbf b with
    | true =>
      rw [hcb] at c2
      repeat' (first | ((first | ((with_reducible refine qo (fun hg => ?_) (fun hg => ?_)) <;> (try simp only [hg]) <;> (try simp only [gS] at hg) <;> (try (first | simp only [eq_false hg, gI] | simp only [eq_true hg, gI]))) | (with_reducible first | refine qh ?_ | refine qg ?_ | refine ql ?_ | refine qk ?_) | refine acall (c2) ?_ | refine qr (c2) ?_ | refine qp (c2) ?_ | refine qd ?_ | refine qi ?_ | refine qj ?_ | refine qm ?_) <;> (try simp (disch := first | omega | simp) [qf, -qq, -qs])) | ((with_reducible refine sideT ?_ ?_); first | omega | assumption | (simp; done)) | (refine qe fun K hK => ?_) | (refine qb ?_) | (refine qa true (by kernel_rfl) (by kernel_rfl) ?_) | (refine qa false (by kernel_rfl) (by kernel_rfl) ?_) | (refine hK _ ?_; clear hK K) | (clear hK K; refine hK _ ?_; clear hK K) | (clear hK K; clear hK K; refine hK _ ?_; clear hK K) | refine qc ?_)
      all_goals (rw [hR]; by_cases q1 : b.n = 1 <;> by_cases q2 : o = 17 <;> first | (simp_all; done) | (rename_i hg; exact absurd (by rw [beq_eq_false_iff_ne.2 q1, beq_eq_false_iff_ne.2 q2]) hg))
    | false =>
      rw [hcb] at c2
      repeat' (first | ((first | ((with_reducible refine qo (fun hg => ?_) (fun hg => ?_)) <;> (try simp only [hg]) <;> (try simp only [gS] at hg) <;> (try (first | simp only [eq_false hg, gI] | simp only [eq_true hg, gI]))) | (with_reducible first | refine qh ?_ | refine qg ?_ | refine ql ?_ | refine qk ?_) | refine acall (c2) ?_ | refine qr (c2) ?_ | refine qp (c2) ?_ | refine qd ?_ | refine qi ?_ | refine qj ?_ | refine qm ?_) <;> (try simp (disch := first | omega | simp) [qf, -qq, -qs])) | ((with_reducible refine sideT ?_ ?_); first | omega | assumption | (simp; done)) | (refine qe fun K hK => ?_) | (refine qb ?_) | (refine qa true (by kernel_rfl) (by kernel_rfl) ?_) | (refine qa false (by kernel_rfl) (by kernel_rfl) ?_) | (refine hK _ ?_; clear hK K) | (clear hK K; refine hK _ ?_; clear hK K) | (clear hK K; clear hK K; refine hK _ ?_; clear hK K) | refine qc ?_)
      exact ⟨2, ⟨by omega, fun _ => hca⟩, by omega, rfl⟩
  | 2, _, h1, h2 =>
    have hca := h1 (by omega)
    have hcb := h2 (by omega)
    repeat' (first | ((first | ((with_reducible refine qo (fun hg => ?_) (fun hg => ?_)) <;> (try simp only [hg]) <;> (try simp only [gS] at hg) <;> (try (first | simp only [eq_false hg, gI] | simp only [eq_true hg, gI]))) | (with_reducible first | refine qh ?_ | refine qg ?_ | refine ql ?_ | refine qk ?_) | refine qd ?_ | refine qi ?_ | refine qj ?_ | refine qm ?_) <;> (try simp (disch := first | omega | simp) [qf, -qq, -qs])) | ((with_reducible refine sideT ?_ ?_); first | omega | assumption | (simp; done)) | (refine qe fun K hK => ?_) | (refine qb ?_) | (refine qa true (by kernel_rfl) (by kernel_rfl) ?_) | (refine qa false (by kernel_rfl) (by kernel_rfl) ?_) | (refine hK _ ?_; clear hK K) | (clear hK K; refine hK _ ?_; clear hK K) | (clear hK K; clear hK K; refine hK _ ?_; clear hK K) | refine qc ?_)
    all_goals (rw [hR]; simp_all)
theorem fold1_g (e : Ex) : Gives Tryz.prog 41 [e.av] (.bool (!qbf e)) := by
  refine qn Tryz.func41 Tryz.ntmps41 rfl rfl (by decide) rfl (by intro n; simp) fun σ n0 hcl hft => ?_
  repeat' (first | ((first | ((with_reducible refine qo (fun hg => ?_) (fun hg => ?_)) <;> (try simp only [hg]) <;> (try simp only [gS] at hg) <;> (try (first | simp only [eq_false hg, gI] | simp only [eq_true hg, gI]))) | (with_reducible first | refine qh ?_ | refine qg ?_ | refine ql ?_ | refine qk ?_) | refine acall (qdy e) ?_ | refine qr (qdy e) ?_ | refine qd ?_ | refine qi ?_ | refine qj ?_ | refine qm ?_) <;> (try simp (disch := first | omega | simp) [qf, -qq, -qs])) | ((with_reducible refine sideT ?_ ?_); first | omega | assumption | (simp; done)) | (refine qe fun K hK => ?_) | (refine qb ?_) | (refine qa true (by kernel_rfl) (by kernel_rfl) ?_) | (refine hK _ ?_; clear hK K) | (clear hK K; refine hK _ ?_; clear hK K) | (clear hK K; clear hK K; refine hK _ ?_; clear hK K) | refine qc ?_)
theorem idxF_g (L : List Ex) (hL : L.length ≤ 1000000) : Gives Tryz.prog 90 [.sl (L.map Ex.av), .fn 41 []] (.int (idxP (fun e => !qbf e) L)) := by
  refine qn Tryz.func90 Tryz.ntmps90 rfl rfl (by decide) rfl (by intro n; simp) fun σ n0 hcl hft => ?_
  repeat' (first | ((first | ((with_reducible refine qo (fun hg => ?_) (fun hg => ?_)) <;> (try simp only [hg]) <;> (try simp only [gS] at hg) <;> (try (first | simp only [eq_false hg, gI] | simp only [eq_true hg, gI]))) | (with_reducible first | refine qh ?_ | refine qg ?_ | refine ql ?_ | refine qk ?_) | refine qd ?_ | refine qi ?_ | refine qj ?_ | refine qm ?_) <;> (try simp (disch := first | omega | simp) [qf, -qq, -qs])) | ((with_reducible refine sideT ?_ ?_); first | omega | assumption | (simp; done)) | (refine qe fun K hK => ?_) | (refine qb ?_) | (refine qa true (by kernel_rfl) (by kernel_rfl) ?_) | (refine hK _ ?_; clear hK K) | (clear hK K; refine hK _ ?_; clear hK K) | (clear hK K; clear hK K; refine hK _ ?_; clear hK K) | refine qc ?_)
  refine qu hcl (fun k : Nat => [(0, .sl (L.map Ex.av)), (1, .fn 41 []), (7, .int L.length), (8, .int k)]) (fun _ => [])
    (fun k => k ≤ L.length ∧ ∀ j (h : j < L.length), j < k → qbf L[j] = true) (fun k => L.length - k) 0 (by simp) (by simp) fun k ⟨hk, he⟩ => ?_
  by_cases hlt : k < L.length
  · cases hr : qbf L[k] with
    | true =>
      have c1 := fold1_g L[k]
      rw [hr] at c1
      repeat' (first | ((first | ((with_reducible refine qo (fun hg => ?_) (fun hg => ?_)) <;> (try simp only [hg]) <;> (try simp only [gS] at hg) <;> (try (first | simp only [eq_false hg, gI] | simp only [eq_true hg, gI]))) | (with_reducible first | refine qh ?_ | refine qg ?_ | refine ql ?_ | refine qk ?_) | refine acall (c1) ?_ | refine qr (c1) ?_ | refine qd ?_ | refine qi ?_ | refine qj ?_ | refine qm ?_) <;> (try simp (disch := first | omega | simp) [qf, -qq, -qs, hlt])) | ((with_reducible refine sideT ?_ ?_); first | omega | assumption | (simp; done)) | (refine qe fun K hK => ?_) | (refine qb ?_) | (refine qa true (by kernel_rfl) (by kernel_rfl) ?_) | (refine hK _ ?_; clear hK K) | (clear hK K; refine hK _ ?_; clear hK K) | (clear hK K; clear hK K; refine hK _ ?_; clear hK K) | refine qc ?_)
      exact ⟨k + 1, ⟨by omega, upto_succ (C := fun v : Ex => qbf v = true) he fun _ => hr⟩, by omega, by simp⟩
    | false =>
      have c1 := fold1_g L[k]
      rw [hr] at c1
      repeat' (first | ((first | ((with_reducible refine qo (fun hg => ?_) (fun hg => ?_)) <;> (try simp only [hg]) <;> (try simp only [gS] at hg) <;> (try (first | simp only [eq_false hg, gI] | simp only [eq_true hg, gI]))) | (with_reducible first | refine qh ?_ | refine qg ?_ | refine ql ?_ | refine qk ?_) | refine acall (c1) ?_ | refine qr (c1) ?_ | refine qd ?_ | refine qi ?_ | refine qj ?_ | refine qm ?_) <;> (try simp (disch := first | omega | simp) [qf, -qq, -qs, hlt])) | ((with_reducible refine sideT ?_ ?_); first | omega | assumption | (simp; done)) | (refine qe fun K hK => ?_) | (refine qb ?_) | (refine qa true (by kernel_rfl) (by kernel_rfl) ?_) | (refine hK _ ?_; clear hK K) | (clear hK K; refine hK _ ?_; clear hK K) | (clear hK K; clear hK K; refine hK _ ?_; clear hK K) | refine qc ?_)
      exact (idxP_hit (p := fun v => !qbf v) hlt (by simp [hr]) fun j h1 h2 => by simpa using he j h1 h2).symm
  · repeat' (first | ((first | ((with_reducible refine qo (fun hg => ?_) (fun hg => ?_)) <;> (try simp only [hg]) <;> (try simp only [gS] at hg) <;> (try (first | simp only [eq_false hg, gI] | simp only [eq_true hg, gI]))) | (with_reducible first | refine qh ?_ | refine qg ?_ | refine ql ?_ | refine qk ?_) | refine qd ?_ | refine qi ?_ | refine qj ?_ | refine qm ?_) <;> (try simp (disch := first | omega | simp) [qf, -qq, -qs, hlt])) | ((with_reducible refine sideT ?_ ?_); first | omega | assumption | (simp; done)) | (refine qe fun K hK => ?_) | (refine qb ?_) | (refine qa true (by kernel_rfl) (by kernel_rfl) ?_) | (refine qa false (by kernel_rfl) (by kernel_rfl) ?_) | (refine hK _ ?_; clear hK K) | (clear hK K; refine hK _ ?_; clear hK K) | (clear hK K; clear hK K; refine hK _ ?_; clear hK K) | refine qc ?_)
    exact (idxP_miss (p := fun v => !qbf v) (upto_all (C := fun v : Ex => (!qbf v) = false) (fun j h1 h2 => by simpa using he j h1 h2) hlt)).symm
theorem contF_g (L : List Ex) (hL : L.length ≤ 1000000) : Gives Tryz.prog 40 [.sl (L.map Ex.av), .fn 41 []] (.bool (!L.all qbf)) := by
  have h : decide (0 ≤ idxP (fun e => !qbf e) L) = !L.all qbf := by rw [idxP_any, List.not_all_eq_any_not]
  rw [← h]
  refine qn Tryz.func40 Tryz.ntmps40 rfl rfl (by decide) rfl (by intro n; simp) fun σ n0 hcl hft => ?_
  repeat' (first | ((first | ((with_reducible refine qo (fun hg => ?_) (fun hg => ?_)) <;> (try simp only [hg]) <;> (try simp only [gS] at hg) <;> (try (first | simp only [eq_false hg, gI] | simp only [eq_true hg, gI]))) | (with_reducible first | refine qh ?_ | refine qg ?_ | refine ql ?_ | refine qk ?_) | refine acall (idxF_g L hL) ?_ | refine qr (idxF_g L hL) ?_ | refine qd ?_ | refine qi ?_ | refine qj ?_ | refine qm ?_) <;> (try simp (disch := first | omega | simp) [qf, -qq, -qs])) | ((with_reducible refine sideT ?_ ?_); first | omega | assumption | (simp; done)) | (refine qe fun K hK => ?_) | (refine qb ?_) | (refine qa true (by kernel_rfl) (by kernel_rfl) ?_) | (refine hK _ ?_; clear hK K) | (clear hK K; refine hK _ ?_; clear hK K) | (clear hK K; clear hK K; refine hK _ ?_; clear hK K) | refine qc ?_)
theorem const_ty26 {c : List Int} {x : Ex} {t : Int} (hc : qbf x = true) (h : ty [] c [] x = some t) : ty [] [] [] x = some t := by
  obtain ⟨v, h1, rfl, rfl⟩ := const_is hc h
  exact (qcl h1 [] [] []).1
theorem consts_ty26 {c : List Int} : ∀ {l : List Ex} {ts : List Int}, (∀ x ∈ l, qbf x = true) → tys [] c [] l = some ts → tys [] [] [] l = some ts
  | [], ts, _, h => h
  | x :: l, ts, hc, h => by
    obtain ⟨t, us, rfl, g1, g2⟩ := qdo h
    rw [tys, const_ty26 (hc x (by simp)) g1, consts_ty26 (fun y hy => hc y (by simp [hy])) g2]
theorem closed_ty {c : List Int} {o n : Int} {s : ByteArray} {l : List Ex} {t : Int} (ho : o ≠ 22) (hne : l ≠ []) (hc : ∀ x ∈ l, qbf x = true) (h : ty [] c [] (.mk o n s l) = some t) : ty [] [] [] (.mk o n s l) = some t := by
  obtain ⟨ts, h1, h2⟩ := ty_mk h
  have hts : ts ≠ [] := fun e => hne (by have := qcu l h1; rw [e] at this; exact List.length_eq_zero_iff.1 this.symm)
  rw [ty, consts_ty26 hc h1]
  dsimp only
  unfold tailT at h2 ⊢
  rw [if_neg ho, if_neg hts] at h2 ⊢
  exact h2
theorem ty_op {c : List Int} {o n : Int} {s : ByteArray} {l : List Ex} {t : Int} (h : ty [] c [] (.mk o n s l) = some t) : o ≠ 22 := fun e => by
  have h1 := (ty_form' h).1
  rw [e] at h1
  revert h1; decide
theorem cls_rep {m : Nat} {x : AV} (h : x.cl m) (n : Nat) : AV.cls m (List.replicate n x) := AV.cls_iff.2 fun y hy => by rw [List.eq_of_mem_replicate hy]; exact h
theorem fold_tys {c : List Int} : ∀ {l : List Ex} {ts : List Int}, tys [] c [] l = some ts → tys [] c [] (l.map foldE) = some ts
  | [], _, h => h
  | x :: l, _, h => by
    obtain ⟨t, us, rfl, g1, g2⟩ := qdo h
    rw [List.map_cons, tys, (fold_ok x g1).1, fold_tys g2]
theorem ty_oper26 {c : List Int} {o n : Int} {s : ByteArray} {l : List Ex} {t : Int} (ho : 6 ≤ o) (h : ty [] c [] (.mk o n s l) = some t) : ∃ ts, operT o n ts = some t ∧ ts.length = l.length ∧ tys [] c [] l = some ts := by
  have hl : l ≠ [] := fun e => by
    subst e
    obtain ⟨ts, h1, h2⟩ := ty_mk h
    obtain rfl : ts = [] := by rw [tys] at h1; exact (Option.some.inj h1).symm
    unfold tailT at h2
    split at h2
    · cases h2
    simp only [ty_op h, if_false, if_true] at h2
    unfold leafT at h2
    rw [if_neg (by omega), if_neg (by omega), if_neg (by omega), if_neg (by omega), if_neg (by omega), if_neg (by omega)] at h2
    cases h2
  obtain ⟨ts, h1, h2, -⟩ := ty_oper h (ty_op h) hl
  exact ⟨ts, h2, qcu l h1, h1⟩
theorem oper_one {n : Int} {ts : List Int} {t : Int} (h : operT 6 n ts = some t) : ts = [2] := by
  unfold operT at h
  split at h
  · cases h
  rw [if_pos rfl] at h
  split at h
  · assumption
  · cases h
theorem shape_not {c : List Int} {n : Int} {s : ByteArray} {l : List Ex} {t : Int} (h : ty [] c [] (.mk 6 n s l) = some t) : ∃ x, l = [x] ∧ (x.op = 6 → ∃ y, x.args = [y]) := by
  obtain ⟨ts, h1, h2, h3⟩ := ty_oper26 (by omega) h
  rw [oper_one h1] at h2
  match l, h2 with
  | [x], _ =>
    refine ⟨x, rfl, fun hx => ?_⟩
    obtain ⟨u, us, rfl, g1, -⟩ := qdo h3
    obtain ⟨o2, n2, s2, l2⟩ := x
    simp only [Ex.op] at hx
    subst hx
    obtain ⟨ts2, k1, k2, -⟩ := ty_oper26 (by omega) g1
    rw [oper_one k1] at k2
    match l2, k2 with
    | [y], _ => exact ⟨y, rfl⟩
theorem shape_if {c : List Int} {n : Int} {s : ByteArray} {l : List Ex} {t : Int} (h : ty [] c [] (.mk 21 n s l) = some t) : ∃ a b d, l = [a, b, d] := by
  obtain ⟨ts, h1, h2, -⟩ := ty_oper26 (by omega) h
  unfold operT at h1
  split at h1
  · cases h1
  rw [if_neg (by omega), if_neg (by omega), if_neg (by omega), if_neg (by omega), if_neg (by omega), if_neg (by omega), if_neg (by omega), if_pos rfl] at h1
  split at h1
  · match l, h2 with
    | [a, b, d], _ => exact ⟨a, b, d, rfl⟩
  · cases h1
theorem shape_two {c : List Int} {o n : Int} {s : ByteArray} {l : List Ex} {t : Int} (ho : o = 17 ∨ o = 18) (h : ty [] c [] (.mk o n s l) = some t) : ∃ a b, l = [a, b] := by
  obtain ⟨ts, h1, h2, -⟩ := ty_oper26 (by omega) h
  unfold operT at h1
  split at h1
  · cases h1
  rw [if_neg (by omega), if_neg (by omega), if_neg (by omega), if_neg (by omega), if_neg (by omega), if_pos (by omega)] at h1
  split at h1
  · rename_i hts
    rw [hts] at h2
    match l, h2 with
    | [a, b], _ => exact ⟨a, b, rfl⟩
  · cases h1
def zeroA : AV := .agg [.int 0, .int 0, .str ByteArray.empty, .v (.slice none 0 0)]
set_option maxHeartbeats 8000000 in
theorem Fold_g {c : List Int} (e : Ex) : ∀ {t : Int}, ty [] c [] e = some t → parts e ≤ 1000000 → Gives Tryz.prog 10 [e.av] (foldE e).av := by
  induction e using Ex.ind with | h o n s l ih => ?_
  intro t ht hp
  have hl : l.length ≤ 1000000 := by rw [parts] at hp; have := qbh l; omega
  have ho := ty_op ht
  have hpl : ∀ x ∈ l, parts x ≤ 1000000 := fun x hx => by rw [parts] at hp; have := qbe l x hx; omega
  have htl : ∀ x ∈ l, ∃ u, ty [] c [] x = some u := by
    obtain ⟨ts, h1, -⟩ := ty_mk ht
    exact qet l h1
  obtain ⟨ts, hts, htt⟩ := ty_mk ht
  have hsz : 48 * l.length ≤ 281474976710656 := by omega
  obtain ⟨R, hR⟩ : ∃ R, R = foldE (.mk o n s l) := ⟨_, rfl⟩
  rw [← hR]
  rw [foldE, qdz] at hR
  refine qn Tryz.func10 Tryz.ntmps10 rfl rfl (by decide) rfl (by intro n; simp) fun σ n0 hcl hft => ?_
  repeat' (first | ((first | ((with_reducible refine qo (fun hg => ?_) (fun hg => ?_)) <;> (try simp only [hg]) <;> (try simp only [gS] at hg) <;> (try (first | simp only [eq_false hg, gI] | simp only [eq_true hg, gI]))) | (with_reducible first | refine qh ?_ | refine qg ?_ | refine ql ?_ | refine qk ?_) | refine qd ?_ | refine qi ?_ | refine qj ?_ | refine qm ?_) <;> (try simp (disch := first | omega | simp) [qf, -qq, -qs, hsz])) | ((with_reducible refine sideT ?_ ?_); first | omega | assumption | (simp; done)) | (refine qe fun K hK => ?_) | (refine qb ?_) | (refine qa true (by kernel_rfl) (by kernel_rfl) ?_) | (refine qa false (by kernel_rfl) (by kernel_rfl) ?_) | (refine hK _ ?_; clear hK K) | (clear hK K; refine hK _ ?_; clear hK K) | (clear hK K; clear hK K; refine hK _ ?_; clear hK K) | refine qc ?_)
  refine qu hcl (fun k : Nat => [(1, .ptr n0 0), (2, .ptr (n0 + 1) 0), (3, .own (n0 + 2) l.length), (13, .sl (l.map Ex.av)), (14, .int l.length), (15, .int k)]) (fun k => [.cells [.int o, .int n, .str s, .sl (l.map Ex.av)] 25, .cells [.int 0, .int 0, .str ByteArray.empty, .v (.slice none 0 0)] 25, .vec (fillV (fun x => (foldE x).av) zeroA l k) 25 4])
    (fun k => k ≤ l.length) (fun k => l.length - k) 0 (by simp) (by simp [fillV_zero, zeroA] <;> exact cls_rep (by simp) _) fun k hk => ?_
  by_cases hlt : k < l.length
  · obtain ⟨u, hu⟩ := htl l[k] (List.getElem_mem hlt)
    have c1 := ih l[k] (List.getElem_mem hlt) hu (hpl _ (List.getElem_mem hlt))
    have hfl : (fillV (fun x => (foldE x).av) zeroA l k).length = l.length := fillV_len (by omega)
    have hge : (fillV (fun x => (foldE x).av) zeroA l k)[k]'(by rw [hfl]; exact hlt) = .agg [.int 0, .int 0, .str ByteArray.empty, .v (.slice none 0 0)] := by
      have := fillV_get (f := fun x => (foldE x).av) (z := zeroA) hlt
      rw [List.getElem?_eq_getElem (by rw [hfl]; exact hlt)] at this
      injection this with this
    have hst := fillV_set (f := fun x => (foldE x).av) (z := zeroA) hlt
    repeat' (first | ((first | ((with_reducible refine qo (fun hg => ?_) (fun hg => ?_)) <;> (try simp only [hg]) <;> (try simp only [gS] at hg) <;> (try (first | simp only [eq_false hg, gI] | simp only [eq_true hg, gI]))) | (with_reducible first | refine qh ?_ | refine qg ?_ | refine ql ?_ | refine qk ?_) | refine acall (c1) ?_ | refine qr (c1) ?_ | refine qp (c1) ?_ | refine qd ?_ | refine qi ?_ | refine qj ?_ | refine qm ?_) <;> (try simp (disch := first | omega | simp) [qf, -qq, -qs, hlt, hfl, hge])) | ((with_reducible refine sideT ?_ ?_); first | omega | assumption | (simp; done)) | (refine qe fun K hK => ?_) | (refine qb ?_) | (refine qa true (by kernel_rfl) (by kernel_rfl) ?_) | (refine qa false (by kernel_rfl) (by kernel_rfl) ?_) | (refine hK _ ?_; clear hK K) | (clear hK K; refine hK _ ?_; clear hK K) | (clear hK K; clear hK K; refine hK _ ?_; clear hK K) | refine qc ?_)
    exact ⟨k + 1, by omega, by omega, hst, fillV_cls (fun x => (foldE x).av_cl _) (by simp [zeroA]) , by omega⟩
  · obtain rfl : k = l.length := by omega
    rw [fillV_all]
    refine awp_freezeR 3 2 (k := l.length) (by simp) (by rfl) (by simp) ?_
    refine awp_pubR 3 (r := n0 + 3) (l := l.map fun x => (foldE x).av) (by simp) ?_
    obtain ⟨l', hl'⟩ : ∃ l', l' = l.map foldE := ⟨_, rfl⟩
    have hm : (l.map fun x => (foldE x).av) = l'.map Ex.av := by rw [hl', List.map_map]; rfl
    have hlen : l'.length = l.length := by rw [hl', List.length_map]
    have ht' : ty [] c [] (.mk o n s l') = some t := by rw [hl', ty, fold_tys hts]; exact htt
    have hp' : parts (Ex.mk o n s l') ≤ 1000000 := by
      rw [parts] at hp ⊢
      have := partsL_map (f := foldE) l fun x _ => fold_parts x
      rw [hl']; omega
    rw [hm]
    rw [← hl'] at hR
    clear hl' hm
    have ho22 : (o == 22) = false := beq_eq_false_iff_ne.2 ho
    have ho23 : (o != 22) = true := by rw [bne, ho22]; rfl
    unfold topF at hR
    by_cases hnil : l = []
    · subst hnil
      obtain rfl := List.eq_nil_of_length_eq_zero hlen
      rw [if_pos rfl] at hR
      repeat' (first | ((first | ((with_reducible refine qo (fun hg => ?_) (fun hg => ?_)) <;> (try simp only [hg]) <;> (try simp only [gS] at hg) <;> (try (first | simp only [eq_false hg, gI] | simp only [eq_true hg, gI]))) | (with_reducible first | refine qh ?_ | refine qg ?_ | refine ql ?_ | refine qk ?_) | refine qd ?_ | refine qi ?_ | refine qj ?_ | refine qm ?_) <;> (try simp (disch := first | omega | simp) [qf, -qq, -qs])) | ((with_reducible refine sideT ?_ ?_); first | omega | assumption | (simp; done)) | (refine qe fun K hK => ?_) | (refine qb ?_) | (refine qa true (by kernel_rfl) (by kernel_rfl) ?_) | (refine qa false (by kernel_rfl) (by kernel_rfl) ?_) | (refine hK _ ?_; clear hK K) | (clear hK K; refine hK _ ?_; clear hK K) | (clear hK K; clear hK K; refine hK _ ?_; clear hK K) | refine qc ?_)
      all_goals (rw [hR]; simp)
    have hne : l' ≠ [] := fun e => hnil (List.eq_nil_of_length_eq_zero (by rw [← hlen, e]; rfl))
    have hn0 : ¬ (l'.length : Int) = 0 := fun e => hne (List.eq_nil_of_length_eq_zero (by omega))
    have hn1 : ((l'.length : Int) == 0) = false := beq_eq_false_iff_ne.2 hn0
    rw [if_neg hne] at hR
    by_cases hall : l'.all qbf = true
    · rw [if_pos ⟨ho, hall⟩] at hR
      have c1 := contF_g l' (by omega)
      have c2 := eval_fit_g [] 0 [] (.mk o n s l') t (by simp) (by simp) hp' (closed_ty ho hne (fun x hx => List.all_eq_true.1 hall x hx) ht') (qcc.nil [])
      have c3 := Constant_g (evalP [] 0 [] (.mk o n s l'))
      rw [hall] at c1
      rw [← hR] at c3
      simp only [Ex.av_mk, List.map_nil] at c2
      repeat' (first | ((first | ((with_reducible refine qo (fun hg => ?_) (fun hg => ?_)) <;> (try simp only [hg]) <;> (try simp only [gS] at hg) <;> (try (first | simp only [eq_false hg, gI] | simp only [eq_true hg, gI]))) | (with_reducible first | refine qh ?_ | refine qg ?_ | refine ql ?_ | refine qk ?_) | refine acall (c1) ?_ | refine qr (c1) ?_ | refine qp (c1) ?_ | refine acall (c2) ?_ | refine qr (c2) ?_ | refine qp (c2) ?_ | refine acall (c3) ?_ | refine qr (c3) ?_ | refine qp (c3) ?_ | refine qd ?_ | refine qi ?_ | refine qj ?_ | refine qm ?_) <;> (try simp (disch := first | omega | simp) [qf, -qq, -qs, ho22, ho23, hne, hn0, hn1])) | ((with_reducible refine sideT ?_ ?_); first | omega | assumption | (simp; done)) | (refine qe fun K hK => ?_) | (refine qb ?_) | (refine qa true (by kernel_rfl) (by kernel_rfl) ?_) | (refine qa false (by kernel_rfl) (by kernel_rfl) ?_) | (refine hK _ ?_; clear hK K) | (clear hK K; refine hK _ ?_; clear hK K) | (clear hK K; clear hK K; refine hK _ ?_; clear hK K) | refine qc ?_)
      all_goals first | exact absurd (by assumption) hn0 | (exfalso; omega) | (rw [hR]; simp; done) | (rw [hR]; done) | (rw [hR]; exact rfl) | rfl
    · rw [if_neg fun h => hall h.2] at hR
      have c1 := contF_g l' (by omega)
      rw [Bool.eq_false_iff.2 hall] at c1
      by_cases h21 : o = 21
      · subst h21
        obtain ⟨a, b, d, rfl⟩ := shape_if ht'
        have c2 := choice_g n s a b d (by rw [parts] at hp'; have := qbe [a, b, d] b (by simp); omega)
        rw [if_pos rfl] at hR
        rw [← hR] at c2
        simp only [Ex.av_mk, List.map_cons, List.map_nil] at c2
        repeat' (first | ((first | ((with_reducible refine qo (fun hg => ?_) (fun hg => ?_)) <;> (try simp only [hg]) <;> (try simp only [gS] at hg) <;> (try (first | simp only [eq_false hg, gI] | simp only [eq_true hg, gI]))) | (with_reducible first | refine qh ?_ | refine qg ?_ | refine ql ?_ | refine qk ?_) | refine acall (c1) ?_ | refine qr (c1) ?_ | refine qp (c1) ?_ | refine acall (c2) ?_ | refine qr (c2) ?_ | refine qp (c2) ?_ | refine qd ?_ | refine qi ?_ | refine qj ?_ | refine qm ?_) <;> (try simp (disch := first | omega | simp) [qf, -qq, -qs, hne])) | ((with_reducible refine sideT ?_ ?_); first | omega | assumption | (simp; done)) | (refine qe fun K hK => ?_) | (refine qb ?_) | (refine qa true (by kernel_rfl) (by kernel_rfl) ?_) | (refine qa false (by kernel_rfl) (by kernel_rfl) ?_) | (refine hK _ ?_; clear hK K) | (clear hK K; refine hK _ ?_; clear hK K) | (clear hK K; clear hK K; refine hK _ ?_; clear hK K) | refine qc ?_)
        all_goals first | exact absurd (by assumption) hn0 | (exfalso; omega) | (rw [hR]; simp; done) | (rw [hR]; done) | (rw [hR]; exact rfl) | rfl
      · rw [if_neg h21] at hR
        by_cases h17 : o = 17 ∨ o = 18
        · obtain ⟨a, b, rfl⟩ := shape_two h17 ht'
          have c2 := logic_g o n s a b
          have h211 : (o == 21) = false := beq_eq_false_iff_ne.2 h21
          rw [if_pos h17] at hR
          rw [← hR] at c2
          simp only [Ex.av_mk, List.map_cons, List.map_nil] at c2
          repeat' (first | ((first | ((with_reducible refine qo (fun hg => ?_) (fun hg => ?_)) <;> (try simp only [hg]) <;> (try simp only [gS] at hg) <;> (try (first | simp only [eq_false hg, gI] | simp only [eq_true hg, gI]))) | (with_reducible first | refine qh ?_ | refine qg ?_ | refine ql ?_ | refine qk ?_) | refine acall (c1) ?_ | refine qr (c1) ?_ | refine qp (c1) ?_ | refine acall (c2) ?_ | refine qr (c2) ?_ | refine qp (c2) ?_ | refine qd ?_ | refine qi ?_ | refine qj ?_ | refine qm ?_) <;> (try simp (disch := first | omega | simp) [qf, -qq, -qs, ho22, ho23, hne, hn0, hn1, h211])) | ((with_reducible refine sideT ?_ ?_); first | omega | assumption | (simp; done)) | (refine qe fun K hK => ?_) | (refine qb ?_) | (refine qa true (by kernel_rfl) (by kernel_rfl) ?_) | (refine qa false (by kernel_rfl) (by kernel_rfl) ?_) | (refine hK _ ?_; clear hK K) | (clear hK K; refine hK _ ?_; clear hK K) | (clear hK K; clear hK K; refine hK _ ?_; clear hK K) | refine qc ?_)
          all_goals first | exact absurd (by assumption) hn0 | (exfalso; omega) | (rw [hR]; simp; done) | (rw [hR]; done) | (rw [hR]; exact rfl) | rfl
        · rw [if_neg h17] at hR
          have h171 : (o == 17) = false := beq_eq_false_iff_ne.2 fun e => h17 (.inl e)
          have h172 : (o == 18) = false := beq_eq_false_iff_ne.2 fun e => h17 (.inr e)
          have h211 : (o == 21) = false := beq_eq_false_iff_ne.2 h21
          by_cases h6 : o = 6
          · subst h6
            obtain ⟨x, rfl, hx⟩ := shape_not ht'
            rw [if_pos rfl] at hR
            obtain ⟨o2, n2, s2, l2⟩ := x
            unfold notP at hR
            dsimp only at hR
            by_cases h26 : o2 = 6
            · subst h26
              obtain ⟨y, rfl⟩ := hx rfl
              rw [if_pos rfl] at hR
              simp only [Ex.av_mk, List.map_cons, List.map_nil] at c1
              repeat' (first | ((first | ((with_reducible refine qo (fun hg => ?_) (fun hg => ?_)) <;> (try simp only [hg]) <;> (try simp only [gS] at hg) <;> (try (first | simp only [eq_false hg, gI] | simp only [eq_true hg, gI]))) | (with_reducible first | refine qh ?_ | refine qg ?_ | refine ql ?_ | refine qk ?_) | refine acall (c1) ?_ | refine qr (c1) ?_ | refine qp (c1) ?_ | refine qd ?_ | refine qi ?_ | refine qj ?_ | refine qm ?_) <;> (try simp (disch := first | omega | simp) [qf, -qq, -qs])) | ((with_reducible refine sideT ?_ ?_); first | omega | assumption | (simp; done)) | (refine qe fun K hK => ?_) | (refine qb ?_) | (refine qa true (by kernel_rfl) (by kernel_rfl) ?_) | (refine qa false (by kernel_rfl) (by kernel_rfl) ?_) | (refine hK _ ?_; clear hK K) | (clear hK K; refine hK _ ?_; clear hK K) | (clear hK K; clear hK K; refine hK _ ?_; clear hK K) | refine qc ?_)
              all_goals first | exact absurd (by assumption) hn0 | (exfalso; omega) | (rw [hR]; simp; done) | (rw [hR]; done) | (rw [hR]; exact rfl) | rfl
            · rw [if_neg h26] at hR
              have h27 : (o2 == 6) = false := beq_eq_false_iff_ne.2 h26
              simp only [Ex.av_mk, List.map_cons, List.map_nil] at c1
              repeat' (first | ((first | ((with_reducible refine qo (fun hg => ?_) (fun hg => ?_)) <;> (try simp only [hg]) <;> (try simp only [gS] at hg) <;> (try (first | simp only [eq_false hg, gI] | simp only [eq_true hg, gI]))) | (with_reducible first | refine qh ?_ | refine qg ?_ | refine ql ?_ | refine qk ?_) | refine acall (c1) ?_ | refine qr (c1) ?_ | refine qp (c1) ?_ | refine qd ?_ | refine qi ?_ | refine qj ?_ | refine qm ?_) <;> (try simp (disch := first | omega | simp) [qf, -qq, -qs, h27])) | ((with_reducible refine sideT ?_ ?_); first | omega | assumption | (simp; done)) | (refine qe fun K hK => ?_) | (refine qb ?_) | (refine qa true (by kernel_rfl) (by kernel_rfl) ?_) | (refine qa false (by kernel_rfl) (by kernel_rfl) ?_) | (refine hK _ ?_; clear hK K) | (clear hK K; refine hK _ ?_; clear hK K) | (clear hK K; clear hK K; refine hK _ ?_; clear hK K) | refine qc ?_)
              all_goals first | exact absurd (by assumption) hn0 | (exfalso; omega) | (rw [hR]; simp; done) | (rw [hR]; done) | (rw [hR]; exact rfl) | rfl
          · rw [if_neg h6] at hR
            have h61 : (o == 6) = false := beq_eq_false_iff_ne.2 h6
            repeat' (first | ((first | ((with_reducible refine qo (fun hg => ?_) (fun hg => ?_)) <;> (try simp only [hg]) <;> (try simp only [gS] at hg) <;> (try (first | simp only [eq_false hg, gI] | simp only [eq_true hg, gI]))) | (with_reducible first | refine qh ?_ | refine qg ?_ | refine ql ?_ | refine qk ?_) | refine acall (c1) ?_ | refine qr (c1) ?_ | refine qp (c1) ?_ | refine qd ?_ | refine qi ?_ | refine qj ?_ | refine qm ?_) <;> (try simp (disch := first | omega | simp) [qf, -qq, -qs, ho22, ho23, hne, hn0, hn1, h211, h171, h172, h61])) | ((with_reducible refine sideT ?_ ?_); first | omega | assumption | (simp; done)) | (refine qe fun K hK => ?_) | (refine qb ?_) | (refine qa true (by kernel_rfl) (by kernel_rfl) ?_) | (refine qa false (by kernel_rfl) (by kernel_rfl) ?_) | (refine hK _ ?_; clear hK K) | (clear hK K; refine hK _ ?_; clear hK K) | (clear hK K; clear hK K; refine hK _ ?_; clear hK K) | refine qc ?_)
            all_goals first | exact absurd (by assumption) hn0 | (exfalso; omega) | (rw [hR]; simp; done) | (rw [hR]; done) | (rw [hR]; exact rfl) | rfl
end Go.Proofs.YtnkimlkoijfcpaaGreatDoor

/- The empty expression, and an expression or none, as abstract values. -/
namespace Go.Proofs.YtnkimlkoijfcpaaGreatDoor
open Go.RowKit Go.Lib
@[simp] def exr (o : Option Ex) : AV := .tup [(o.getD zeroE).av, .bool o.isSome]
@[simp] theorem zeroE_av : zeroE.av = .agg [.int 0, .int 0, .str ByteArray.empty, .sl []] := by unfold zeroE; rw [Ex.av_mk]; rfl
end Go.Proofs.YtnkimlkoijfcpaaGreatDoor

/- Walks of layer 16: clone and put, of the program. -/
namespace Go.Proofs.YtnkimlkoijfcpaaGreatDoor
open Go.RowKit Go.Lib
set_option maxHeartbeats 4000000 in
theorem pclone_g (e : Ex) : parts e ≤ 1000000 → Gives Tryz.prog 144 [e.av] e.av := by
  induction e using Ex.ind with | h o n s l ih => ?_
  intro hb
  have hl : l.length ≤ 1000000 := by rw [parts] at hb; have := qbh l; omega
  refine qn Tryz.func144 Tryz.ntmps144 rfl rfl (by decide) rfl (by intro n; simp) fun σ n0 hcl hft => ?_
  repeat' (first | ((first | ((with_reducible refine qo (fun hg => ?_) (fun hg => ?_)) <;> (try simp only [hg]) <;> (try simp only [gS] at hg) <;> (try (first | simp only [eq_false hg, gI] | simp only [eq_true hg, gI]))) | (with_reducible first | refine qh ?_ | refine qg ?_ | refine ql ?_ | refine qk ?_) | refine qd ?_ | refine qi ?_ | refine qj ?_ | refine qm ?_) <;> (try simp (disch := first | omega | simp) [qf, -qq, -qs])) | ((with_reducible refine sideT ?_ ?_); first | omega | assumption | (simp; done)) | (refine qe fun K hK => ?_) | (refine qb ?_) | (refine qa true (by kernel_rfl) (by kernel_rfl) ?_) | (refine qa false (by kernel_rfl) (by kernel_rfl) ?_) | (refine hK _ ?_; clear hK K) | (clear hK K; refine hK _ ?_; clear hK K) | (clear hK K; clear hK K; refine hK _ ?_; clear hK K) | refine qc ?_)
  refine qcf 2 3 25 4 (by rfl) (by rfl) ?_
  refine qu hcl (fun k : Nat => [(1, .ptr n0 0), (2, .ptr (n0 + 1) 0), (3, .ptr (n0 + 2) 0), (14, .sl (l.map Ex.av)), (15, .int l.length), (16, .int k)])
    (fun k => [.cells [.int o, .int n, .str s, .sl (l.map Ex.av)] 25, .cells [.int 0, .int 0, .str ByteArray.empty, .v (.slice none 0 0)] 25, .cells [.int o, .int n, .str s, .gs (n0 + 3) ((l.take k).map Ex.av)] 25, .tail k 25 4])
    (fun k => k ≤ l.length) (fun k => l.length - k) 0 (by simp) (by simp) fun k hk => ?_
  have hcls : ∀ m k, AV.cls m (List.take k (l.map Ex.av)) := fun m k => by rw [← List.map_take]; exact AV.cls_map (fun e => e.av_cl m) _
  by_cases hlt : k < l.length
  · have hpk : parts l[k] ≤ 1000000 := by rw [parts] at hb; have := qbe l l[k] (List.getElem_mem hlt); omega
    have c1 := ih _ (List.getElem_mem hlt) hpk
    have hlk : min k l.length = k := by omega
    have bs : (k + 1) * 40 ≤ 140737488355328 := by omega
    repeat' (first | ((first | ((with_reducible refine qo (fun hg => ?_) (fun hg => ?_)) <;> (try simp only [hg]) <;> (try simp only [gS] at hg) <;> (try (first | simp only [eq_false hg, gI] | simp only [eq_true hg, gI]))) | (with_reducible first | refine qh ?_ | refine qg ?_ | refine ql ?_ | refine qk ?_) | refine acall (c1) ?_ | refine qr (c1) ?_ | refine qp (c1) ?_ | refine qd ?_ | refine qi ?_ | refine qj ?_ | refine qm ?_) <;> (try simp (disch := first | omega | simp) [qf, -qq, -qs, hlt, hlk, bs, hcls])) | (with_reducible refine qa (id := 5) false (by kernel_rfl) (by kernel_rfl) ?_) | ((with_reducible refine sideT ?_ ?_); first | omega | assumption | (simp; done)) | (refine qe fun K hK => ?_) | (refine qb ?_) | (refine qa true (by kernel_rfl) (by kernel_rfl) ?_) | (refine qa false (by kernel_rfl) (by kernel_rfl) ?_) | (refine hK _ ?_; clear hK K) | (clear hK K; refine hK _ ?_; clear hK K) | (clear hK K; clear hK K; refine hK _ ?_; clear hK K) | refine qc ?_)
    exact ⟨k + 1, by omega, by omega, by simp [List.take_add_one, hlt, hcls]⟩
  · obtain rfl : k = l.length := by omega
    rw [List.take_length]
    repeat' (first | ((first | ((with_reducible refine qo (fun hg => ?_) (fun hg => ?_)) <;> (try simp only [hg]) <;> (try simp only [gS] at hg) <;> (try (first | simp only [eq_false hg, gI] | simp only [eq_true hg, gI]))) | (with_reducible first | refine qh ?_ | refine qg ?_ | refine ql ?_ | refine qk ?_) | refine qd ?_ | refine qi ?_ | refine qj ?_ | refine qm ?_) <;> (try simp (disch := first | omega | simp) [qf, -qq, -qs, hlt])) | ((with_reducible refine sideT ?_ ?_); first | omega | assumption | (simp; done)) | (refine qe fun K hK => ?_) | (refine qb ?_) | (refine qa true (by kernel_rfl) (by kernel_rfl) ?_) | (refine qa false (by kernel_rfl) (by kernel_rfl) ?_) | (refine hK _ ?_; clear hK K) | (clear hK K; refine hK _ ?_; clear hK K) | (clear hK K; clear hK K; refine hK _ ?_; clear hK K) | refine qc ?_)
set_option maxHeartbeats 4000000 in
theorem put_g (op : Int) (L : List Ex) (hL : ∀ x ∈ L, parts x ≤ 1000000) (e : Ex) : parts e ≤ 1000000 → Gives Tryz.prog 111 [e.av, .int op, .sl (L.map Ex.av)] (exr (putP op L e)) := by
  induction e using Ex.ind with | h o n s l ih => ?_
  intro hb
  have hl : l.length ≤ 1000000 := by rw [parts] at hb; have := qbh l; omega
  obtain ⟨R, hR⟩ : ∃ R, R = putP op L (.mk o n s l) := ⟨_, rfl⟩
  rw [← hR]
  rw [putP] at hR
  refine qn Tryz.func111 Tryz.ntmps111 rfl rfl (by decide) rfl (by intro n; simp) fun σ n0 hcl hft => ?_
  by_cases ho : o = op
  · have hob : (o == op) = true := beq_iff_eq.2 ho
    rw [if_pos ho] at hR
    by_cases hn : n < 0
    · rw [if_pos hn] at hR
      repeat' (first | ((first | ((with_reducible refine qo (fun hg => ?_) (fun hg => ?_)) <;> (try simp only [hg]) <;> (try simp only [gS] at hg) <;> (try (first | simp only [eq_false hg, gI] | simp only [eq_true hg, gI]))) | (with_reducible first | refine qh ?_ | refine qg ?_ | refine ql ?_ | refine qk ?_) | refine qd ?_ | refine qi ?_ | refine qj ?_ | refine qm ?_) <;> (try simp (disch := first | omega | simp) [qf, -qq, -qs, hob, hn])) | ((with_reducible refine sideT ?_ ?_); first | omega | assumption | (simp; done)) | (refine qe fun K hK => ?_) | (refine qb ?_) | (refine qa true (by kernel_rfl) (by kernel_rfl) ?_) | (refine qa false (by kernel_rfl) (by kernel_rfl) ?_) | (refine hK _ ?_; clear hK K) | (clear hK K; refine hK _ ?_; clear hK K) | (clear hK K; clear hK K; refine hK _ ?_; clear hK K) | refine qc ?_)
      all_goals (rw [hR]; simp)
    · rw [if_neg hn] at hR
      by_cases hn2 : n.toNat < L.length
      · have c1 := pclone_g L[n.toNat] (hL _ (List.getElem_mem hn2))
        have hn3 : n < L.length := by omega
        have hn4 : ¬ (L.length : Int) ≤ n := by omega
        rw [List.getElem?_eq_getElem hn2] at hR
        repeat' (first | ((first | ((with_reducible refine qo (fun hg => ?_) (fun hg => ?_)) <;> (try simp only [hg]) <;> (try simp only [gS] at hg) <;> (try (first | simp only [eq_false hg, gI] | simp only [eq_true hg, gI]))) | (with_reducible first | refine qh ?_ | refine qg ?_ | refine ql ?_ | refine qk ?_) | refine acall (c1) ?_ | refine qr (c1) ?_ | refine qp (c1) ?_ | refine qd ?_ | refine qi ?_ | refine qj ?_ | refine qm ?_) <;> (try simp (disch := first | omega | simp) [qf, -qq, -qs, hob, hn, hn2, hn3, hn4])) | ((with_reducible refine sideT ?_ ?_); first | omega | assumption | (simp; done)) | (refine qe fun K hK => ?_) | (refine qb ?_) | (refine qa true (by kernel_rfl) (by kernel_rfl) ?_) | (refine qa false (by kernel_rfl) (by kernel_rfl) ?_) | (refine hK _ ?_; clear hK K) | (clear hK K; refine hK _ ?_; clear hK K) | (clear hK K; clear hK K; refine hK _ ?_; clear hK K) | refine qc ?_)
        all_goals (rw [hR]; simp)
      · have hn4 : (L.length : Int) ≤ n := by omega
        rw [List.getElem?_eq_none (by omega)] at hR
        repeat' (first | ((first | ((with_reducible refine qo (fun hg => ?_) (fun hg => ?_)) <;> (try simp only [hg]) <;> (try simp only [gS] at hg) <;> (try (first | simp only [eq_false hg, gI] | simp only [eq_true hg, gI]))) | (with_reducible first | refine qh ?_ | refine qg ?_ | refine ql ?_ | refine qk ?_) | refine qd ?_ | refine qi ?_ | refine qj ?_ | refine qm ?_) <;> (try simp (disch := first | omega | simp) [qf, -qq, -qs, hob, hn, hn4])) | ((with_reducible refine sideT ?_ ?_); first | omega | assumption | (simp; done)) | (refine qe fun K hK => ?_) | (refine qb ?_) | (refine qa true (by kernel_rfl) (by kernel_rfl) ?_) | (refine qa false (by kernel_rfl) (by kernel_rfl) ?_) | (refine hK _ ?_; clear hK K) | (clear hK K; refine hK _ ?_; clear hK K) | (clear hK K; clear hK K; refine hK _ ?_; clear hK K) | refine qc ?_)
        all_goals (rw [hR]; simp)
  · have hob : (o == op) = false := beq_eq_false_iff_ne.2 ho
    rw [if_neg ho] at hR
    repeat' (first | ((first | ((with_reducible refine qo (fun hg => ?_) (fun hg => ?_)) <;> (try simp only [hg]) <;> (try simp only [gS] at hg) <;> (try (first | simp only [eq_false hg, gI] | simp only [eq_true hg, gI]))) | (with_reducible first | refine qh ?_ | refine qg ?_ | refine ql ?_ | refine qk ?_) | refine qd ?_ | refine qi ?_ | refine qj ?_ | refine qm ?_) <;> (try simp (disch := first | omega | simp) [qf, -qq, -qs, hob])) | ((with_reducible refine sideT ?_ ?_); first | omega | assumption | (simp; done)) | (refine qe fun K hK => ?_) | (refine qb ?_) | (refine qa true (by kernel_rfl) (by kernel_rfl) ?_) | (refine qa false (by kernel_rfl) (by kernel_rfl) ?_) | (refine hK _ ?_; clear hK K) | (clear hK K; refine hK _ ?_; clear hK K) | (clear hK K; clear hK K; refine hK _ ?_; clear hK K) | refine qc ?_)
    refine qcf 2 3 25 4 (by rfl) (by rfl) ?_
    refine qu hcl (fun ys : List Ex => [(1, .int op), (2, .sl (L.map Ex.av)), (3, .ptr n0 0), (6, .ptr (n0 + 1) 0), (7, .bool false), (8, .ptr (n0 + 2) 0), (42, .sl (l.map Ex.av)), (43, .int l.length), (44, .int ys.length)])
      (fun ys => [.cells [.int o, .int n, .str s, .sl (l.map Ex.av)] 25, .cells [.int 0, .int 0, .str ByteArray.empty, .v (.slice none 0 0)] 25, .cells [.int o, .int n, .str s, .gs (n0 + 3) (ys.map Ex.av)] 25, .tail ys.length 25 4])
      (fun ys => ys.length ≤ l.length ∧ putPs op L (l.take ys.length) = some ys) (fun ys => l.length - ys.length) [] (by simp [putPs]) (by simp) fun ys ⟨hk, hys⟩ => ?_
    by_cases hlt : ys.length < l.length
    · have hpk : parts l[ys.length] ≤ 1000000 := by rw [parts] at hb; have := qbe l l[ys.length] (List.getElem_mem hlt); omega
      have c1 := ih _ (List.getElem_mem hlt) hpk
      have bs : (ys.length + 1) * 40 ≤ 140737488355328 := by omega
      cases hx : putP op L l[ys.length] with
      | none =>
        rw [hx] at c1
        rw [putPs_none l (List.getElem_mem hlt) hx] at hR
        repeat' (first | ((first | ((with_reducible refine qo (fun hg => ?_) (fun hg => ?_)) <;> (try simp only [hg]) <;> (try simp only [gS] at hg) <;> (try (first | simp only [eq_false hg, gI] | simp only [eq_true hg, gI]))) | (with_reducible first | refine qh ?_ | refine qg ?_ | refine ql ?_ | refine qk ?_) | refine acall (c1) ?_ | refine qr (c1) ?_ | refine qp (c1) ?_ | refine qd ?_ | refine qi ?_ | refine qj ?_ | refine qm ?_) <;> (try simp (disch := first | omega | simp) [qf, -qq, -qs, hlt, bs])) | ((with_reducible refine sideT ?_ ?_); first | omega | assumption | (simp; done)) | (refine qe fun K hK => ?_) | (refine qb ?_) | (refine qa true (by kernel_rfl) (by kernel_rfl) ?_) | (refine qa false (by kernel_rfl) (by kernel_rfl) ?_) | (refine hK _ ?_; clear hK K) | (clear hK K; refine hK _ ?_; clear hK K) | (clear hK K; clear hK K; refine hK _ ?_; clear hK K) | refine qc ?_)
        all_goals (rw [hR]; simp)
      | some x =>
        rw [hx] at c1
        have hst : putPs op L (l.take (ys.length + 1)) = some (ys ++ [x]) := by
          rw [List.take_succ_eq_append_getElem hlt]; exact putPs_snoc hx _ hys
        repeat' (first | ((first | ((with_reducible refine qo (fun hg => ?_) (fun hg => ?_)) <;> (try simp only [hg]) <;> (try simp only [gS] at hg) <;> (try (first | simp only [eq_false hg, gI] | simp only [eq_true hg, gI]))) | (with_reducible first | refine qh ?_ | refine qg ?_ | refine ql ?_ | refine qk ?_) | refine acall (c1) ?_ | refine qr (c1) ?_ | refine qp (c1) ?_ | refine qd ?_ | refine qi ?_ | refine qj ?_ | refine qm ?_) <;> (try simp (disch := first | omega | simp) [qf, -qq, -qs, hlt, bs])) | ((with_reducible refine sideT ?_ ?_); first | omega | assumption | (simp; done)) | (refine qe fun K hK => ?_) | (refine qb ?_) | (refine qa true (by kernel_rfl) (by kernel_rfl) ?_) | (refine qa false (by kernel_rfl) (by kernel_rfl) ?_) | (refine hK _ ?_; clear hK K) | (clear hK K; refine hK _ ?_; clear hK K) | (clear hK K; clear hK K; refine hK _ ?_; clear hK K) | refine qc ?_)
        exact ⟨ys ++ [x], ⟨by simp; omega, by simpa using hst⟩, by simp; omega, by simp⟩
    · have hyl : ys.length = l.length := by omega
      rw [hyl, List.take_length] at hys
      rw [hys] at hR
      repeat' (first | ((first | ((with_reducible refine qo (fun hg => ?_) (fun hg => ?_)) <;> (try simp only [hg]) <;> (try simp only [gS] at hg) <;> (try (first | simp only [eq_false hg, gI] | simp only [eq_true hg, gI]))) | (with_reducible first | refine qh ?_ | refine qg ?_ | refine ql ?_ | refine qk ?_) | refine qd ?_ | refine qi ?_ | refine qj ?_ | refine qm ?_) <;> (try simp (disch := first | omega | simp) [qf, -qq, -qs, hlt])) | ((with_reducible refine sideT ?_ ?_); first | omega | assumption | (simp; done)) | (refine qe fun K hK => ?_) | (refine qb ?_) | (refine qa true (by kernel_rfl) (by kernel_rfl) ?_) | (refine qa false (by kernel_rfl) (by kernel_rfl) ?_) | (refine hK _ ?_; clear hK K) | (clear hK K; refine hK _ ?_; clear hK K) | (clear hK K; clear hK K; refine hK _ ?_; clear hK K) | refine qc ?_)
      all_goals (rw [hR]; simp)
end Go.Proofs.YtnkimlkoijfcpaaGreatDoor
