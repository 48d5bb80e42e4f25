/- Walks: the operations on two values, of the program. -/
import Derived.Test.YtnkimlkoijfcpaaGreatDoorGh1
import Derived.Test.YtnkimlkoijfcpaaGreatDoorGh2
import Derived.Test.YtnkimlkoijfcpaaGreatDoorGh9
import Derived.Test.YtnkimlkoijfcpaaGreatDoorGh10
import Derived.Test.YtnkimlkoijfcpaaGreatDoorGh14
import Derived.Test.YtnkimlkoijfcpaaGreatDoorGh15
set_option linter.unusedSimpArgs false
set_option linter.unusedVariables false
namespace Go.Proofs.YtnkimlkoijfcpaaGreatDoor
open Go.RowKit Go.Lib
theorem qce (n : Int) : Gives Tryz.prog 97 [.int n] (numV n).av := by
  refine qn Tryz.func97 Tryz.ntmps97 rfl rfl (by decide) rfl (by intro n; simp) fun σ n0 hcl hft => ?_
  repeat' (first | ((first | ((with_reducible refine qo (fun hg => ?_) (fun hg => ?_)) <;> (try simp only [hg]) <;> (try simp only [gS] at hg) <;> (try (first | simp only [eq_false hg, gI] | simp only [eq_true hg, gI]))) | (with_reducible first | refine qh ?_ | refine qg ?_ | refine ql ?_ | refine qk ?_) | refine qd ?_ | refine qi ?_ | refine qj ?_ | refine qm ?_) <;> (try simp (disch := first | omega | simp) [qf, -qq, -qs])) | ((with_reducible refine sideT ?_ ?_); first | omega | assumption | (simp; done)) | (refine qe fun K hK => ?_) | (refine qb ?_) | (refine qa true (by kernel_rfl) (by kernel_rfl) ?_) | (refine qa false (by kernel_rfl) (by kernel_rfl) ?_) | (refine hK _ ?_; clear hK K) | (clear hK K; refine hK _ ?_; clear hK K) | (clear hK K; clear hK K; refine hK _ ?_; clear hK K) | refine qc ?_)
  all_goals simp [numV, Val.av, -Val.av_fold]
theorem qbw (b : Bool) : Gives Tryz.prog 98 [.bool b] (boolV b).av := by
  cases b
  · refine qn Tryz.func98 Tryz.ntmps98 rfl rfl (by decide) rfl (by intro n; simp) fun σ n0 hcl hft => ?_
    repeat' (first | ((first | ((with_reducible refine qo (fun hg => ?_) (fun hg => ?_)) <;> (try simp only [hg]) <;> (try simp only [gS] at hg) <;> (try (first | simp only [eq_false hg, gI] | simp only [eq_true hg, gI]))) | (with_reducible first | refine qh ?_ | refine qg ?_ | refine ql ?_ | refine qk ?_) | refine qd ?_ | refine qi ?_ | refine qj ?_ | refine qm ?_) <;> (try simp (disch := first | omega | simp) [qf, -qq, -qs])) | ((with_reducible refine sideT ?_ ?_); first | omega | assumption | (simp; done)) | (refine qe fun K hK => ?_) | (refine qb ?_) | (refine qa true (by kernel_rfl) (by kernel_rfl) ?_) | (refine qa false (by kernel_rfl) (by kernel_rfl) ?_) | (refine hK _ ?_; clear hK K) | (clear hK K; refine hK _ ?_; clear hK K) | (clear hK K; clear hK K; refine hK _ ?_; clear hK K) | refine qc ?_)
    all_goals simp [boolV, Val.av, -Val.av_fold]
  · refine qn Tryz.func98 Tryz.ntmps98 rfl rfl (by decide) rfl (by intro n; simp) fun σ n0 hcl hft => ?_
    repeat' (first | ((first | ((with_reducible refine qo (fun hg => ?_) (fun hg => ?_)) <;> (try simp only [hg]) <;> (try simp only [gS] at hg) <;> (try (first | simp only [eq_false hg, gI] | simp only [eq_true hg, gI]))) | (with_reducible first | refine qh ?_ | refine qg ?_ | refine ql ?_ | refine qk ?_) | refine qd ?_ | refine qi ?_ | refine qj ?_ | refine qm ?_) <;> (try simp (disch := first | omega | simp) [qf, -qq, -qs])) | ((with_reducible refine sideT ?_ ?_); first | omega | assumption | (simp; done)) | (refine qe fun K hK => ?_) | (refine qb ?_) | (refine qa true (by kernel_rfl) (by kernel_rfl) ?_) | (refine qa false (by kernel_rfl) (by kernel_rfl) ?_) | (refine hK _ ?_; clear hK K) | (clear hK K; refine hK _ ?_; clear hK K) | (clear hK K; clear hK K; refine hK _ ?_; clear hK K) | refine qc ?_)
    all_goals simp [boolV, Val.av, -Val.av_fold]
theorem pcmpI_g (x y : Int) : Gives Tryz.prog 179 [.int x, .int y] (.int (compareInt x y)) :=
  gives_v fun X vals ha => by
    obtain ⟨v0, _, rfl, h0, v1, _, rfl, h1, h2⟩ := ha
    cases h2
    cases arg_v h0
    cases arg_v h1
    exact (Tryz.cmp_Compare_int x y X.w).mono fun r w' ⟨h1, h2⟩ => ⟨h1, by subst h2; exact Ext.refl _⟩
theorem pcmpS_g (x y : ByteArray) : Gives Tryz.prog 180 [.str x, .str y] (.int (compareBytes x.data.toList y.data.toList)) :=
  gives_v fun X vals ha => by
    obtain ⟨v0, _, rfl, h0, v1, _, rfl, h1, h2⟩ := ha
    cases h2
    cases arg_v h0
    cases arg_v h1
    exact (Tryz.strings_Compare x y X.w).mono fun r w' ⟨h1, h2⟩ => ⟨h1, by subst h2; exact Ext.refl _⟩
theorem orI_zero : ∀ {l : List Int}, (∀ j (h : j < l.length), l[j] = 0) → orI l = 0
  | [], _ => rfl
  | x :: l, h => by
    have h0 : x = 0 := h 0 (by simp)
    rw [orI, if_neg (by simp [h0])]
    exact orI_zero fun j hj => h (j + 1) (by simpa using hj)
theorem orI_at : ∀ {l : List Int} {k : Nat} (h : k < l.length), (∀ j (h : j < l.length), j < k → l[j] = 0) → l[k] ≠ 0 → orI l = l[k]
  | x :: l, 0, _, _, hk => by rw [orI, if_pos (by simpa using hk)]; rfl
  | x :: l, k + 1, h, h0, hk => by
    have hx : x = 0 := h0 0 (by simp) (by omega)
    rw [orI, if_neg (by simp [hx])]
    have := orI_at (l := l) (k := k) (by simpa using h) (fun j hj hjk => h0 (j + 1) (by simpa using hj) (by omega)) hk
    exact this
theorem por_g (l : List Int) (hl : l.length ≤ 1000000) : Gives Tryz.prog 178 [.sl (l.map AV.int)] (.int (orI l)) := by
  obtain ⟨R, hR⟩ : ∃ R, R = orI l := ⟨_, rfl⟩
  rw [← hR]
  refine qn Tryz.func178 Tryz.ntmps178 rfl rfl (by decide) rfl (by intro n; simp) fun σ n0 hcl hft => ?_
  repeat' (first | ((first | ((with_reducible refine qo (fun hg => ?_) (fun hg => ?_)) <;> (try simp only [hg]) <;> (try simp only [gS] at hg) <;> (try (first | simp only [eq_false hg, gI] | simp only [eq_true hg, gI]))) | (with_reducible first | refine qh ?_ | refine qg ?_ | refine ql ?_ | refine qk ?_) | refine qd ?_ | refine qi ?_ | refine qj ?_ | refine qm ?_) <;> (try simp (disch := first | omega | simp) [qf, -qq, -qs])) | ((with_reducible refine sideT ?_ ?_); first | omega | assumption | (simp; done)) | (refine qe fun K hK => ?_) | (refine qb ?_) | (refine qa true (by kernel_rfl) (by kernel_rfl) ?_) | (refine qa false (by kernel_rfl) (by kernel_rfl) ?_) | (refine hK _ ?_; clear hK K) | (clear hK K; refine hK _ ?_; clear hK K) | (clear hK K; clear hK K; refine hK _ ?_; clear hK K) | refine qc ?_)
  refine qu hcl (fun k : Nat => [(3, .int 0), (6, .sl (l.map AV.int)), (7, .int l.length), (8, .int k)]) (fun _ => [])
    (fun k => k ≤ l.length ∧ ∀ j (h : j < l.length), j < k → l[j] = 0) (fun k => l.length - k) 0 ⟨by omega, fun j h hj => by omega⟩ (by simp) fun k ⟨hk, he⟩ => ?_
  by_cases hlt : k < l.length
  · by_cases hx : l[k] = 0
    · repeat' (first | ((first | ((with_reducible refine qo (fun hg => ?_) (fun hg => ?_)) <;> (try simp only [hg]) <;> (try simp only [gS] at hg) <;> (try (first | simp only [eq_false hg, gI] | simp only [eq_true hg, gI]))) | (with_reducible first | refine qh ?_ | refine qg ?_ | refine ql ?_ | refine qk ?_) | refine qd ?_ | refine qi ?_ | refine qj ?_ | refine qm ?_) <;> (try simp (disch := first | omega | simp) [qf, -qq, -qs, hlt, hx])) | ((with_reducible refine sideT ?_ ?_); first | omega | assumption | (simp; done)) | (refine qe fun K hK => ?_) | (refine qb ?_) | (refine qa true (by kernel_rfl) (by kernel_rfl) ?_) | (refine qa false (by kernel_rfl) (by kernel_rfl) ?_) | (refine hK _ ?_; clear hK K) | (clear hK K; refine hK _ ?_; clear hK K) | (clear hK K; clear hK K; refine hK _ ?_; clear hK K) | refine qc ?_)
      all_goals first
        | exact absurd hx (by assumption)
        | (refine ⟨k + 1, ⟨by omega, fun j h hj => ?_⟩, by omega, by simp⟩
           by_cases hjk : j < k
           · exact he j h hjk
           · obtain rfl : j = k := by omega
             exact hx)
    · have := orI_at hlt he hx
      repeat' (first | ((first | ((with_reducible refine qo (fun hg => ?_) (fun hg => ?_)) <;> (try simp only [hg]) <;> (try simp only [gS] at hg) <;> (try (first | simp only [eq_false hg, gI] | simp only [eq_true hg, gI]))) | (with_reducible first | refine qh ?_ | refine qg ?_ | refine ql ?_ | refine qk ?_) | refine qd ?_ | refine qi ?_ | refine qj ?_ | refine qm ?_) <;> (try simp (disch := first | omega | simp) [qf, -qq, -qs, hlt, hx])) | ((with_reducible refine sideT ?_ ?_); first | omega | assumption | (simp; done)) | (refine qe fun K hK => ?_) | (refine qb ?_) | (refine qa true (by kernel_rfl) (by kernel_rfl) ?_) | (refine qa false (by kernel_rfl) (by kernel_rfl) ?_) | (refine hK _ ?_; clear hK K) | (clear hK K; refine hK _ ?_; clear hK K) | (clear hK K; clear hK K; refine hK _ ?_; clear hK K) | refine qc ?_)
      all_goals first
        | exact absurd (by assumption) hx
        | (rw [hR, this])
  · have := orI_zero fun j h => he j h (by omega)
    repeat' (first | ((first | ((with_reducible refine qo (fun hg => ?_) (fun hg => ?_)) <;> (try simp only [hg]) <;> (try simp only [gS] at hg) <;> (try (first | simp only [eq_false hg, gI] | simp only [eq_true hg, gI]))) | (with_reducible first | refine qh ?_ | refine qg ?_ | refine ql ?_ | refine qk ?_) | refine qd ?_ | refine qi ?_ | refine qj ?_ | refine qm ?_) <;> (try simp (disch := first | omega | simp) [qf, -qq, -qs, hlt])) | ((with_reducible refine sideT ?_ ?_); first | omega | assumption | (simp; done)) | (refine qe fun K hK => ?_) | (refine qb ?_) | (refine qa true (by kernel_rfl) (by kernel_rfl) ?_) | (refine qa false (by kernel_rfl) (by kernel_rfl) ?_) | (refine hK _ ?_; clear hK K) | (clear hK K; refine hK _ ?_; clear hK K) | (clear hK K; clear hK K; refine hK _ ?_; clear hK K) | refine qc ?_)
    all_goals (rw [hR, this])
theorem pcompare_g (a b : Val) : Gives Tryz.prog 143 [a.av, b.av] (.int (cmpV a b)) := by
  have c1 := pcmpI_g a.k b.k
  have c2 := pcmpI_g a.n b.n
  have c3 := pcmpS_g a.s b.s
  have c4 := por_g [compareInt a.k b.k, compareInt a.n b.n, compareBytes a.s.data.toList b.s.data.toList] (by simp)
  have e : cmpV a b = orI [compareInt a.k b.k, compareInt a.n b.n, compareBytes a.s.data.toList b.s.data.toList] := rfl
  rw [← e] at c4
  generalize cmpV a b = C at *
  clear e
  obtain ⟨k, n, s⟩ := a
  obtain ⟨k2, n2, s2⟩ := b
  refine qn Tryz.func143 Tryz.ntmps143 rfl rfl (by decide) rfl (by intro n; simp) fun σ n0 hcl hft => ?_
  repeat' (first | ((first | ((with_reducible refine qo (fun hg => ?_) (fun hg => ?_)) <;> (try simp only [hg]) <;> (try simp only [gS] at hg) <;> (try (first | simp only [eq_false hg, gI] | simp only [eq_true hg, gI]))) | (with_reducible first | refine qh ?_ | refine qg ?_ | refine ql ?_ | refine qk ?_) | refine acall (c1) ?_ | refine qr (c1) ?_ | refine qp (c1) ?_ | refine acall (c2) ?_ | refine qr (c2) ?_ | refine qp (c2) ?_ | refine acall (c3) ?_ | refine qr (c3) ?_ | refine qp (c3) ?_ | refine acall (c4) ?_ | refine qr (c4) ?_ | refine qp (c4) ?_ | refine qd ?_ | refine qi ?_ | refine qj ?_ | refine qm ?_) <;> (try simp (disch := first | omega | simp) [qf, -qq, -qs])) | ((with_reducible refine sideT ?_ ?_); first | omega | assumption | (simp; done)) | (refine qe fun K hK => ?_) | (refine qb ?_) | (refine qa true (by kernel_rfl) (by kernel_rfl) ?_) | (refine qa false (by kernel_rfl) (by kernel_rfl) ?_) | (refine hK _ ?_; clear hK K) | (clear hK K; refine hK _ ?_; clear hK K) | (clear hK K; clear hK K; refine hK _ ?_; clear hK K) | refine qc ?_)
def pairA (a b : Val) : AV := .agg [.int a.k, .int a.n, .str a.s, .int b.k, .int b.n, .str b.s]
theorem pnum_w (n : Int) : Gives Tryz.prog 97 [.int (IntKind.i64.wrap n)] (numV (wrap64 n)).av := by
  have e : IntKind.i64.wrap n = wrap64 n := by rw [IntKind.wrap_i64, wrap64]
  rw [e]; exact qce _
theorem padd_g (a b : Val) : Gives Tryz.prog 99 [pairA a b] (numV (wrap64 (a.n + b.n))).av := by
  have c := pnum_w (a.n + b.n)
  generalize numV (wrap64 (a.n + b.n)) = R at *
  refine qn Tryz.func99 Tryz.ntmps99 rfl rfl (by decide) rfl (by intro n; simp) fun σ n0 hcl hft => ?_
  repeat' (first | ((first | ((with_reducible refine qo (fun hg => ?_) (fun hg => ?_)) <;> (try simp only [hg]) <;> (try simp only [gS] at hg) <;> (try (first | simp only [eq_false hg, gI] | simp only [eq_true hg, gI]))) | (with_reducible first | refine qh ?_ | refine qg ?_ | refine ql ?_ | refine qk ?_) | refine acall (c) ?_ | refine qr (c) ?_ | refine qp (c) ?_ | refine qd ?_ | refine qi ?_ | refine qj ?_ | refine qm ?_) <;> (try simp (disch := first | omega | simp) [qf, -qq, -qs, pairA])) | ((with_reducible refine sideT ?_ ?_); first | omega | assumption | (simp; done)) | (refine qe fun K hK => ?_) | (refine qb ?_) | (refine qa true (by kernel_rfl) (by kernel_rfl) ?_) | (refine qa false (by kernel_rfl) (by kernel_rfl) ?_) | (refine hK _ ?_; clear hK K) | (clear hK K; refine hK _ ?_; clear hK K) | (clear hK K; clear hK K; refine hK _ ?_; clear hK K) | refine qc ?_)
theorem psub_g (a b : Val) : Gives Tryz.prog 100 [pairA a b] (numV (wrap64 (a.n - b.n))).av := by
  have c := pnum_w (a.n - b.n)
  generalize numV (wrap64 (a.n - b.n)) = R at *
  refine qn Tryz.func100 Tryz.ntmps100 rfl rfl (by decide) rfl (by intro n; simp) fun σ n0 hcl hft => ?_
  repeat' (first | ((first | ((with_reducible refine qo (fun hg => ?_) (fun hg => ?_)) <;> (try simp only [hg]) <;> (try simp only [gS] at hg) <;> (try (first | simp only [eq_false hg, gI] | simp only [eq_true hg, gI]))) | (with_reducible first | refine qh ?_ | refine qg ?_ | refine ql ?_ | refine qk ?_) | refine acall (c) ?_ | refine qr (c) ?_ | refine qp (c) ?_ | refine qd ?_ | refine qi ?_ | refine qj ?_ | refine qm ?_) <;> (try simp (disch := first | omega | simp) [qf, -qq, -qs, pairA])) | ((with_reducible refine sideT ?_ ?_); first | omega | assumption | (simp; done)) | (refine qe fun K hK => ?_) | (refine qb ?_) | (refine qa true (by kernel_rfl) (by kernel_rfl) ?_) | (refine qa false (by kernel_rfl) (by kernel_rfl) ?_) | (refine hK _ ?_; clear hK K) | (clear hK K; refine hK _ ?_; clear hK K) | (clear hK K; clear hK K; refine hK _ ?_; clear hK K) | refine qc ?_)
theorem pmul_g (a b : Val) : Gives Tryz.prog 101 [pairA a b] (numV (wrap64 (a.n * b.n))).av := by
  have c := pnum_w (a.n * b.n)
  generalize numV (wrap64 (a.n * b.n)) = R at *
  refine qn Tryz.func101 Tryz.ntmps101 rfl rfl (by decide) rfl (by intro n; simp) fun σ n0 hcl hft => ?_
  repeat' (first | ((first | ((with_reducible refine qo (fun hg => ?_) (fun hg => ?_)) <;> (try simp only [hg]) <;> (try simp only [gS] at hg) <;> (try (first | simp only [eq_false hg, gI] | simp only [eq_true hg, gI]))) | (with_reducible first | refine qh ?_ | refine qg ?_ | refine ql ?_ | refine qk ?_) | refine acall (c) ?_ | refine qr (c) ?_ | refine qp (c) ?_ | refine qd ?_ | refine qi ?_ | refine qj ?_ | refine qm ?_) <;> (try simp (disch := first | omega | simp) [qf, -qq, -qs, pairA])) | ((with_reducible refine sideT ?_ ?_); first | omega | assumption | (simp; done)) | (refine qe fun K hK => ?_) | (refine qb ?_) | (refine qa true (by kernel_rfl) (by kernel_rfl) ?_) | (refine qa false (by kernel_rfl) (by kernel_rfl) ?_) | (refine hK _ ?_; clear hK K) | (clear hK K; refine hK _ ?_; clear hK K) | (clear hK K; clear hK K; refine hK _ ?_; clear hK K) | refine qc ?_)
theorem pdiv_g (a b : Val) : Gives Tryz.prog 102 [pairA a b] (numV (divI a.n b.n)).av := by
  by_cases h0 : b.n = 0
  · have e : divI a.n b.n = 0 := by unfold divI; rw [if_pos h0]
    rw [e]
    have c := qce 0
    generalize numV 0 = R at *
    refine qn Tryz.func102 Tryz.ntmps102 rfl rfl (by decide) rfl (by intro n; simp) fun σ n0 hcl hft => ?_
    repeat' (first | ((first | ((with_reducible refine qo (fun hg => ?_) (fun hg => ?_)) <;> (try simp only [hg]) <;> (try simp only [gS] at hg) <;> (try (first | simp only [eq_false hg, gI] | simp only [eq_true hg, gI]))) | (with_reducible first | refine qh ?_ | refine qg ?_ | refine ql ?_ | refine qk ?_) | refine acall (c) ?_ | refine qr (c) ?_ | refine qp (c) ?_ | refine qd ?_ | refine qi ?_ | refine qj ?_ | refine qm ?_) <;> (try simp (disch := first | omega | simp) [qf, -qq, -qs, pairA, h0])) | ((with_reducible refine sideT ?_ ?_); first | omega | assumption | (simp; done)) | (refine qe fun K hK => ?_) | (refine qb ?_) | (refine qa true (by kernel_rfl) (by kernel_rfl) ?_) | (refine qa false (by kernel_rfl) (by kernel_rfl) ?_) | (refine hK _ ?_; clear hK K) | (clear hK K; refine hK _ ?_; clear hK K) | (clear hK K; clear hK K; refine hK _ ?_; clear hK K) | refine qc ?_)
    all_goals exact absurd h0 (by assumption)
  · have e : divI a.n b.n = wrap64 (a.n.tdiv b.n) := by unfold divI; rw [if_neg h0]
    rw [e]
    have c := pnum_w (a.n.tdiv b.n)
    generalize numV (wrap64 (a.n.tdiv b.n)) = R at *
    refine qn Tryz.func102 Tryz.ntmps102 rfl rfl (by decide) rfl (by intro n; simp) fun σ n0 hcl hft => ?_
    repeat' (first | ((first | ((with_reducible refine qo (fun hg => ?_) (fun hg => ?_)) <;> (try simp only [hg]) <;> (try simp only [gS] at hg) <;> (try (first | simp only [eq_false hg, gI] | simp only [eq_true hg, gI]))) | (with_reducible first | refine qh ?_ | refine qg ?_ | refine ql ?_ | refine qk ?_) | refine acall (c) ?_ | refine qr (c) ?_ | refine qp (c) ?_ | refine qd ?_ | refine qi ?_ | refine qj ?_ | refine qm ?_) <;> (try simp (disch := first | omega | simp) [qf, -qq, -qs, pairA, h0])) | ((with_reducible refine sideT ?_ ?_); first | omega | assumption | (simp; done)) | (refine qe fun K hK => ?_) | (refine qb ?_) | (refine qa true (by kernel_rfl) (by kernel_rfl) ?_) | (refine qa false (by kernel_rfl) (by kernel_rfl) ?_) | (refine hK _ ?_; clear hK K) | (clear hK K; refine hK _ ?_; clear hK K) | (clear hK K; clear hK K; refine hK _ ?_; clear hK K) | refine qc ?_)
    all_goals exact absurd (by assumption) h0
theorem pmod_g (a b : Val) : Gives Tryz.prog 103 [pairA a b] (numV (modI a.n b.n)).av := by
  by_cases h0 : b.n = 0
  · have e : modI a.n b.n = 0 := by unfold modI; rw [if_pos h0]
    rw [e]
    have c := qce 0
    generalize numV 0 = R at *
    refine qn Tryz.func103 Tryz.ntmps103 rfl rfl (by decide) rfl (by intro n; simp) fun σ n0 hcl hft => ?_
    repeat' (first | ((first | ((with_reducible refine qo (fun hg => ?_) (fun hg => ?_)) <;> (try simp only [hg]) <;> (try simp only [gS] at hg) <;> (try (first | simp only [eq_false hg, gI] | simp only [eq_true hg, gI]))) | (with_reducible first | refine qh ?_ | refine qg ?_ | refine ql ?_ | refine qk ?_) | refine acall (c) ?_ | refine qr (c) ?_ | refine qp (c) ?_ | refine qd ?_ | refine qi ?_ | refine qj ?_ | refine qm ?_) <;> (try simp (disch := first | omega | simp) [qf, -qq, -qs, pairA, h0])) | ((with_reducible refine sideT ?_ ?_); first | omega | assumption | (simp; done)) | (refine qe fun K hK => ?_) | (refine qb ?_) | (refine qa true (by kernel_rfl) (by kernel_rfl) ?_) | (refine qa false (by kernel_rfl) (by kernel_rfl) ?_) | (refine hK _ ?_; clear hK K) | (clear hK K; refine hK _ ?_; clear hK K) | (clear hK K; clear hK K; refine hK _ ?_; clear hK K) | refine qc ?_)
    all_goals exact absurd h0 (by assumption)
  · have e : modI a.n b.n = a.n.tmod b.n := by unfold modI; rw [if_neg h0]
    rw [e]
    have c := qce (a.n.tmod b.n)
    generalize numV (a.n.tmod b.n) = R at *
    refine qn Tryz.func103 Tryz.ntmps103 rfl rfl (by decide) rfl (by intro n; simp) fun σ n0 hcl hft => ?_
    repeat' (first | ((first | ((with_reducible refine qo (fun hg => ?_) (fun hg => ?_)) <;> (try simp only [hg]) <;> (try simp only [gS] at hg) <;> (try (first | simp only [eq_false hg, gI] | simp only [eq_true hg, gI]))) | (with_reducible first | refine qh ?_ | refine qg ?_ | refine ql ?_ | refine qk ?_) | refine acall (c) ?_ | refine qr (c) ?_ | refine qp (c) ?_ | refine qd ?_ | refine qi ?_ | refine qj ?_ | refine qm ?_) <;> (try simp (disch := first | omega | simp) [qf, -qq, -qs, pairA, h0])) | ((with_reducible refine sideT ?_ ?_); first | omega | assumption | (simp; done)) | (refine qe fun K hK => ?_) | (refine qb ?_) | (refine qa true (by kernel_rfl) (by kernel_rfl) ?_) | (refine qa false (by kernel_rfl) (by kernel_rfl) ?_) | (refine hK _ ?_; clear hK K) | (clear hK K; refine hK _ ?_; clear hK K) | (clear hK K; clear hK K; refine hK _ ?_; clear hK K) | refine qc ?_)
    all_goals exact absurd (by assumption) h0
theorem plt_g (a b : Val) : Gives Tryz.prog 106 [pairA a b] (boolV (decide (cmpV a b < 0))).av := by
  have c1 := pcompare_g a b
  simp only [Val.av] at c1
  generalize cmpV a b = C at *
  have c2 := qbw (decide (C < 0))
  generalize boolV (decide (C < 0)) = R at *
  refine qn Tryz.func106 Tryz.ntmps106 rfl rfl (by decide) rfl (by intro n; simp) fun σ n0 hcl hft => ?_
  repeat' (first | ((first | ((with_reducible refine qo (fun hg => ?_) (fun hg => ?_)) <;> (try simp only [hg]) <;> (try simp only [gS] at hg) <;> (try (first | simp only [eq_false hg, gI] | simp only [eq_true hg, gI]))) | (with_reducible first | refine qh ?_ | refine qg ?_ | refine ql ?_ | refine qk ?_) | refine acall (c1) ?_ | refine qr (c1) ?_ | refine qp (c1) ?_ | refine acall (c2) ?_ | refine qr (c2) ?_ | refine qp (c2) ?_ | refine qd ?_ | refine qi ?_ | refine qj ?_ | refine qm ?_) <;> (try simp (disch := first | omega | simp) [qf, -qq, -qs, pairA])) | ((with_reducible refine sideT ?_ ?_); first | omega | assumption | (simp; done)) | (refine qe fun K hK => ?_) | (refine qb ?_) | (refine qa true (by kernel_rfl) (by kernel_rfl) ?_) | (refine qa false (by kernel_rfl) (by kernel_rfl) ?_) | (refine hK _ ?_; clear hK K) | (clear hK K; refine hK _ ?_; clear hK K) | (clear hK K; clear hK K; refine hK _ ?_; clear hK K) | refine qc ?_)
theorem ple_g (a b : Val) : Gives Tryz.prog 107 [pairA a b] (boolV (decide (cmpV a b ≤ 0))).av := by
  have c1 := pcompare_g a b
  simp only [Val.av] at c1
  generalize cmpV a b = C at *
  have c2 := qbw (decide (C ≤ 0))
  generalize boolV (decide (C ≤ 0)) = R at *
  refine qn Tryz.func107 Tryz.ntmps107 rfl rfl (by decide) rfl (by intro n; simp) fun σ n0 hcl hft => ?_
  repeat' (first | ((first | ((with_reducible refine qo (fun hg => ?_) (fun hg => ?_)) <;> (try simp only [hg]) <;> (try simp only [gS] at hg) <;> (try (first | simp only [eq_false hg, gI] | simp only [eq_true hg, gI]))) | (with_reducible first | refine qh ?_ | refine qg ?_ | refine ql ?_ | refine qk ?_) | refine acall (c1) ?_ | refine qr (c1) ?_ | refine qp (c1) ?_ | refine acall (c2) ?_ | refine qr (c2) ?_ | refine qp (c2) ?_ | refine qd ?_ | refine qi ?_ | refine qj ?_ | refine qm ?_) <;> (try simp (disch := first | omega | simp) [qf, -qq, -qs, pairA])) | ((with_reducible refine sideT ?_ ?_); first | omega | assumption | (simp; done)) | (refine qe fun K hK => ?_) | (refine qb ?_) | (refine qa true (by kernel_rfl) (by kernel_rfl) ?_) | (refine qa false (by kernel_rfl) (by kernel_rfl) ?_) | (refine hK _ ?_; clear hK K) | (clear hK K; refine hK _ ?_; clear hK K) | (clear hK K; clear hK K; refine hK _ ?_; clear hK K) | refine qc ?_)
theorem pboth_g (a b : Val) : Gives Tryz.prog 108 [pairA a b] (boolV (decide (a.n = 1) && decide (b.n = 1))).av := by
  by_cases h1 : a.n = 1
  · have e : (decide (a.n = 1) && decide (b.n = 1)) = decide (b.n = 1) := by simp [h1]
    rw [e]
    have c : Gives Tryz.prog 98 [.bool (b.n == 1)] (boolV (decide (b.n = 1))).av := qbw _
    generalize boolV (decide (b.n = 1)) = R at *
    refine qn Tryz.func108 Tryz.ntmps108 rfl rfl (by decide) rfl (by intro n; simp) fun σ n0 hcl hft => ?_
    repeat' (first | ((first | ((with_reducible refine qo (fun hg => ?_) (fun hg => ?_)) <;> (try simp only [hg]) <;> (try simp only [gS] at hg) <;> (try (first | simp only [eq_false hg, gI] | simp only [eq_true hg, gI]))) | (with_reducible first | refine qh ?_ | refine qg ?_ | refine ql ?_ | refine qk ?_) | refine acall (c) ?_ | refine qr (c) ?_ | refine qp (c) ?_ | refine qd ?_ | refine qi ?_ | refine qj ?_ | refine qm ?_) <;> (try simp (disch := first | omega | simp) [qf, -qq, -qs, pairA, h1])) | ((with_reducible refine sideT ?_ ?_); first | omega | assumption | (simp; done)) | (refine qe fun K hK => ?_) | (refine qb ?_) | (refine qa true (by kernel_rfl) (by kernel_rfl) ?_) | (refine qa false (by kernel_rfl) (by kernel_rfl) ?_) | (refine hK _ ?_; clear hK K) | (clear hK K; refine hK _ ?_; clear hK K) | (clear hK K; clear hK K; refine hK _ ?_; clear hK K) | refine qc ?_)
    all_goals exact absurd h1 (by assumption)
  · have e : (decide (a.n = 1) && decide (b.n = 1)) = false := by simp [h1]
    rw [e]
    have c : Gives Tryz.prog 98 [.bool (false)] (boolV (false)).av := qbw _
    generalize boolV (false) = R at *
    refine qn Tryz.func108 Tryz.ntmps108 rfl rfl (by decide) rfl (by intro n; simp) fun σ n0 hcl hft => ?_
    repeat' (first | ((first | ((with_reducible refine qo (fun hg => ?_) (fun hg => ?_)) <;> (try simp only [hg]) <;> (try simp only [gS] at hg) <;> (try (first | simp only [eq_false hg, gI] | simp only [eq_true hg, gI]))) | (with_reducible first | refine qh ?_ | refine qg ?_ | refine ql ?_ | refine qk ?_) | refine acall (c) ?_ | refine qr (c) ?_ | refine qp (c) ?_ | refine qd ?_ | refine qi ?_ | refine qj ?_ | refine qm ?_) <;> (try simp (disch := first | omega | simp) [qf, -qq, -qs, pairA, h1])) | ((with_reducible refine sideT ?_ ?_); first | omega | assumption | (simp; done)) | (refine qe fun K hK => ?_) | (refine qb ?_) | (refine qa true (by kernel_rfl) (by kernel_rfl) ?_) | (refine qa false (by kernel_rfl) (by kernel_rfl) ?_) | (refine hK _ ?_; clear hK K) | (clear hK K; refine hK _ ?_; clear hK K) | (clear hK K; clear hK K; refine hK _ ?_; clear hK K) | refine qc ?_)
    all_goals exact absurd (by assumption) h1
theorem pany_g (a b : Val) : Gives Tryz.prog 109 [pairA a b] (boolV (decide (a.n = 1) || decide (b.n = 1))).av := by
  by_cases h1 : a.n = 1
  · have e : (decide (a.n = 1) || decide (b.n = 1)) = true := by simp [h1]
    rw [e]
    have c : Gives Tryz.prog 98 [.bool (true)] (boolV (true)).av := qbw _
    generalize boolV (true) = R at *
    refine qn Tryz.func109 Tryz.ntmps109 rfl rfl (by decide) rfl (by intro n; simp) fun σ n0 hcl hft => ?_
    repeat' (first | ((first | ((with_reducible refine qo (fun hg => ?_) (fun hg => ?_)) <;> (try simp only [hg]) <;> (try simp only [gS] at hg) <;> (try (first | simp only [eq_false hg, gI] | simp only [eq_true hg, gI]))) | (with_reducible first | refine qh ?_ | refine qg ?_ | refine ql ?_ | refine qk ?_) | refine acall (c) ?_ | refine qr (c) ?_ | refine qp (c) ?_ | refine qd ?_ | refine qi ?_ | refine qj ?_ | refine qm ?_) <;> (try simp (disch := first | omega | simp) [qf, -qq, -qs, pairA, h1])) | ((with_reducible refine sideT ?_ ?_); first | omega | assumption | (simp; done)) | (refine qe fun K hK => ?_) | (refine qb ?_) | (refine qa true (by kernel_rfl) (by kernel_rfl) ?_) | (refine qa false (by kernel_rfl) (by kernel_rfl) ?_) | (refine hK _ ?_; clear hK K) | (clear hK K; refine hK _ ?_; clear hK K) | (clear hK K; clear hK K; refine hK _ ?_; clear hK K) | refine qc ?_)
    all_goals exact absurd h1 (by assumption)
  · have e : (decide (a.n = 1) || decide (b.n = 1)) = decide (b.n = 1) := by simp [h1]
    rw [e]
    have c : Gives Tryz.prog 98 [.bool (b.n == 1)] (boolV (decide (b.n = 1))).av := qbw _
    generalize boolV (decide (b.n = 1)) = R at *
    refine qn Tryz.func109 Tryz.ntmps109 rfl rfl (by decide) rfl (by intro n; simp) fun σ n0 hcl hft => ?_
    repeat' (first | ((first | ((with_reducible refine qo (fun hg => ?_) (fun hg => ?_)) <;> (try simp only [hg]) <;> (try simp only [gS] at hg) <;> (try (first | simp only [eq_false hg, gI] | simp only [eq_true hg, gI]))) | (with_reducible first | refine qh ?_ | refine qg ?_ | refine ql ?_ | refine qk ?_) | refine acall (c) ?_ | refine qr (c) ?_ | refine qp (c) ?_ | refine qd ?_ | refine qi ?_ | refine qj ?_ | refine qm ?_) <;> (try simp (disch := first | omega | simp) [qf, -qq, -qs, pairA, h1])) | ((with_reducible refine sideT ?_ ?_); first | omega | assumption | (simp; done)) | (refine qe fun K hK => ?_) | (refine qb ?_) | (refine qa true (by kernel_rfl) (by kernel_rfl) ?_) | (refine qa false (by kernel_rfl) (by kernel_rfl) ?_) | (refine hK _ ?_; clear hK K) | (clear hK K; refine hK _ ?_; clear hK K) | (clear hK K; clear hK K; refine hK _ ?_; clear hK K) | refine qc ?_)
    all_goals exact absurd (by assumption) h1
theorem eqv_av (a b : Val) : aeq Tryz.prog .eql 39 (.agg [.int a.k, .int a.n, .str a.s]) (.agg [.int b.k, .int b.n, .str b.s]) = some (eqV a b) := by
  simp only [aeq, aeqS, Val.q, feq, feq1, eqV]
  by_cases h1 : a.k = b.k <;> by_cases h2 : a.n = b.n <;> by_cases h3 : a.s.toList = b.s.toList <;> simp [h1, h2, h3]
theorem nev_av (a b : Val) : aeq Tryz.prog .neq 39 (.agg [.int a.k, .int a.n, .str a.s]) (.agg [.int b.k, .int b.n, .str b.s]) = some (!eqV a b) := by
  simp only [aeq, aeqS, Val.q, feq, feq1, eqV]
  by_cases h1 : a.k = b.k <;> by_cases h2 : a.n = b.n <;> by_cases h3 : a.s.toList = b.s.toList <;> simp [h1, h2, h3]
theorem peq_g (a b : Val) : Gives Tryz.prog 104 [pairA a b] (boolV (eqV a b)).av := by
  have e := eqv_av a b
  have c := qbw (eqV a b)
  generalize eqV a b = q at *
  generalize boolV q = R at *
  refine qn Tryz.func104 Tryz.ntmps104 rfl rfl (by decide) rfl (by intro n; simp) fun σ n0 hcl hft => ?_
  repeat' (first | ((first | ((with_reducible refine qo (fun hg => ?_) (fun hg => ?_)) <;> (try simp only [hg]) <;> (try simp only [gS] at hg) <;> (try (first | simp only [eq_false hg, gI] | simp only [eq_true hg, gI]))) | (with_reducible first | refine qh ?_ | refine qg ?_ | refine ql ?_ | refine qk ?_) | refine acall (c) ?_ | refine qr (c) ?_ | refine qp (c) ?_ | refine qd ?_ | refine qi ?_ | refine qj ?_ | refine qm ?_) <;> (try simp (disch := first | omega | simp) [qf, -qq, -qs, pairA, e, -Val.av_fold])) | ((with_reducible refine sideT ?_ ?_); first | omega | assumption | (simp; done)) | (refine qe fun K hK => ?_) | (refine qb ?_) | (refine qa true (by kernel_rfl) (by kernel_rfl) ?_) | (refine qa false (by kernel_rfl) (by kernel_rfl) ?_) | (refine hK _ ?_; clear hK K) | (clear hK K; refine hK _ ?_; clear hK K) | (clear hK K; clear hK K; refine hK _ ?_; clear hK K) | refine qc ?_)
  all_goals rfl
theorem pne_g (a b : Val) : Gives Tryz.prog 105 [pairA a b] (boolV (!eqV a b)).av := by
  have e := nev_av a b
  have c := qbw (!eqV a b)
  generalize (!eqV a b) = q at *
  generalize boolV q = R at *
  refine qn Tryz.func105 Tryz.ntmps105 rfl rfl (by decide) rfl (by intro n; simp) fun σ n0 hcl hft => ?_
  repeat' (first | ((first | ((with_reducible refine qo (fun hg => ?_) (fun hg => ?_)) <;> (try simp only [hg]) <;> (try simp only [gS] at hg) <;> (try (first | simp only [eq_false hg, gI] | simp only [eq_true hg, gI]))) | (with_reducible first | refine qh ?_ | refine qg ?_ | refine ql ?_ | refine qk ?_) | refine acall (c) ?_ | refine qr (c) ?_ | refine qp (c) ?_ | refine qd ?_ | refine qi ?_ | refine qj ?_ | refine qm ?_) <;> (try simp (disch := first | omega | simp) [qf, -qq, -qs, pairA, e, -Val.av_fold])) | ((with_reducible refine sideT ?_ ?_); first | omega | assumption | (simp; done)) | (refine qe fun K hK => ?_) | (refine qb ?_) | (refine qa true (by kernel_rfl) (by kernel_rfl) ?_) | (refine qa false (by kernel_rfl) (by kernel_rfl) ?_) | (refine hK _ ?_; clear hK K) | (clear hK K; refine hK _ ?_; clear hK K) | (clear hK K; clear hK K; refine hK _ ?_; clear hK K) | refine qc ?_)
  all_goals rfl
theorem pjoin_g (a b : Val) (hz : a.s.size + b.s.size ≤ 9223372036854775807) : Gives Tryz.prog 110 [pairA a b] (textV (joinS a.s b.s)).av := by
  by_cases h2 : (200 : Int) < (a.s.size : Int) + b.s.size
  · have e : joinS a.s b.s = (a.s ++ b.s).extract 0 200 := by unfold joinS; rw [show min (a.s.size + b.s.size) 200 = 200 by omega]
    rw [e]
    have h3 : 200 ≤ a.s.size + b.s.size := by omega
    refine qn Tryz.func110 Tryz.ntmps110 rfl rfl (by decide) rfl (by intro n; simp) fun σ n0 hcl hft => ?_
    repeat' (first | ((first | ((with_reducible refine qo (fun hg => ?_) (fun hg => ?_)) <;> (try simp only [hg]) <;> (try simp only [gS] at hg) <;> (try (first | simp only [eq_false hg, gI] | simp only [eq_true hg, gI]))) | (with_reducible first | refine qh ?_ | refine qg ?_ | refine ql ?_ | refine qk ?_) | refine qd ?_ | refine qi ?_ | refine qj ?_ | refine qm ?_) <;> (try simp (disch := first | omega | simp) [qf, -qq, -qs, pairA, hz, h2, h3])) | ((with_reducible refine sideT ?_ ?_); first | omega | assumption | (simp; done)) | (refine qe fun K hK => ?_) | (refine qb ?_) | (refine qa true (by kernel_rfl) (by kernel_rfl) ?_) | (refine qa false (by kernel_rfl) (by kernel_rfl) ?_) | (refine hK _ ?_; clear hK K) | (clear hK K; refine hK _ ?_; clear hK K) | (clear hK K; clear hK K; refine hK _ ?_; clear hK K) | refine qc ?_)
    all_goals rfl
  · have e : joinS a.s b.s = (a.s ++ b.s).extract 0 (a.s.size + b.s.size) := by unfold joinS; rw [show min (a.s.size + b.s.size) 200 = a.s.size + b.s.size by omega]
    rw [e]
    have h3 : (0 : Int) ≤ (a.s.size : Int) + b.s.size := by omega
    have h4 : ((a.s.size : Int) + b.s.size).toNat = a.s.size + b.s.size := by omega
    refine qn Tryz.func110 Tryz.ntmps110 rfl rfl (by decide) rfl (by intro n; simp) fun σ n0 hcl hft => ?_
    repeat' (first | ((first | ((with_reducible refine qo (fun hg => ?_) (fun hg => ?_)) <;> (try simp only [hg]) <;> (try simp only [gS] at hg) <;> (try (first | simp only [eq_false hg, gI] | simp only [eq_true hg, gI]))) | (with_reducible first | refine qh ?_ | refine qg ?_ | refine ql ?_ | refine qk ?_) | refine qd ?_ | refine qi ?_ | refine qj ?_ | refine qm ?_) <;> (try simp (disch := first | omega | simp) [qf, -qq, -qs, pairA, hz, h2, h3, h4])) | ((with_reducible refine sideT ?_ ?_); first | omega | assumption | (simp; done)) | (refine qe fun K hK => ?_) | (refine qb ?_) | (refine qa true (by kernel_rfl) (by kernel_rfl) ?_) | (refine qa false (by kernel_rfl) (by kernel_rfl) ?_) | (refine hK _ ?_; clear hK K) | (clear hK K; refine hK _ ?_; clear hK K) | (clear hK K; clear hK K; refine hK _ ?_; clear hK K) | refine qc ?_)
    all_goals rfl
end Go.Proofs.YtnkimlkoijfcpaaGreatDoor
