/- Walks: the operations on two values, of the program. -/
import Derived.Test.YtnkimlkoijfcpaaGreatDoorGi1
import Derived.Test.YtnkimlkoijfcpaaGreatDoorGi2
import Derived.Test.YtnkimlkoijfcpaaGreatDoorGi9
import Derived.Test.YtnkimlkoijfcpaaGreatDoorGi10
import Derived.Test.YtnkimlkoijfcpaaGreatDoorGi14
import Derived.Test.YtnkimlkoijfcpaaGreatDoorGi15
set_option linter.unusedSimpArgs false
set_option linter.unusedVariables false
namespace Go.Proofs.YtnkimlkoijfcpaaGreatDoor
open Go.RowKit Go.Lib
theorem qcz (n : Int) : Gives Tryz.prog 97 [.int n] (numV n).av := by
  refine qn Tryz.func97 Tryz.ntmps97 rfl rfl (by decide) rfl (by intro n; simp) fun σ n0 hcl hft => ?_
  repeat' (first | ((first | ((with_reducible refine qo (fun hg => ?_) (fun hg => ?_)) <;> (try simp only [hg]) <;> (try simp only [gS] at hg) <;> (try (first | simp only [eq_false hg, gI] | simp only [eq_true hg, gI]))) | (with_reducible first | refine qf ?_ | refine qe ?_ | refine qk ?_ | refine qj ?_) | refine qc ?_ | refine qh ?_ | refine qi ?_ | refine qm ?_) <;> (try simp (disch := first | omega | simp) [qg, -qq, -qr])) | ((with_reducible refine sideT ?_ ?_); first | omega | assumption | (simp; done)) | (refine qd fun K hK => ?_) | (refine qa ?_) | refine ql ?_ | ((first | refine hK _ ?_ | (clear hK K; refine hK _ ?_) | (clear hK K; clear hK K; refine hK _ ?_)); clear hK K) | refine qb ?_)
  all_goals simp [numV, Val.av, -Val.av_fold]
theorem qcl (b : Bool) : Gives Tryz.prog 98 [.bool b] (boolV b).av := by
  cases b
  · refine qn Tryz.func98 Tryz.ntmps98 rfl rfl (by decide) rfl (by intro n; simp) fun σ n0 hcl hft => ?_
    repeat' (first | ((first | ((with_reducible refine qo (fun hg => ?_) (fun hg => ?_)) <;> (try simp only [hg]) <;> (try simp only [gS] at hg) <;> (try (first | simp only [eq_false hg, gI] | simp only [eq_true hg, gI]))) | (with_reducible first | refine qf ?_ | refine qe ?_ | refine qk ?_ | refine qj ?_) | refine qc ?_ | refine qh ?_ | refine qi ?_ | refine qm ?_) <;> (try simp (disch := first | omega | simp) [qg, -qq, -qr])) | ((with_reducible refine sideT ?_ ?_); first | omega | assumption | (simp; done)) | (refine qd fun K hK => ?_) | (refine qa ?_) | refine ql ?_ | ((first | refine hK _ ?_ | (clear hK K; refine hK _ ?_) | (clear hK K; clear hK K; refine hK _ ?_)); clear hK K) | refine qb ?_)
    all_goals simp [boolV, Val.av, -Val.av_fold]
  · refine qn Tryz.func98 Tryz.ntmps98 rfl rfl (by decide) rfl (by intro n; simp) fun σ n0 hcl hft => ?_
    repeat' (first | ((first | ((with_reducible refine qo (fun hg => ?_) (fun hg => ?_)) <;> (try simp only [hg]) <;> (try simp only [gS] at hg) <;> (try (first | simp only [eq_false hg, gI] | simp only [eq_true hg, gI]))) | (with_reducible first | refine qf ?_ | refine qe ?_ | refine qk ?_ | refine qj ?_) | refine qc ?_ | refine qh ?_ | refine qi ?_ | refine qm ?_) <;> (try simp (disch := first | omega | simp) [qg, -qq, -qr])) | ((with_reducible refine sideT ?_ ?_); first | omega | assumption | (simp; done)) | (refine qd fun K hK => ?_) | (refine qa ?_) | refine ql ?_ | ((first | refine hK _ ?_ | (clear hK K; refine hK _ ?_) | (clear hK K; clear hK K; refine hK _ ?_)); clear hK K) | refine qb ?_)
    all_goals simp [boolV, Val.av, -Val.av_fold]
theorem pcmpI_g (x y : Int) : Gives Tryz.prog 179 [.int x, .int y] (.int (compareInt x y)) :=
  gives_v fun X vals ha => by
    obtain ⟨v0, _, rfl, h0, v1, _, rfl, h1, h2⟩ := ha
    cases h2
    cases arg_v h0
    cases arg_v h1
    exact (Tryz.cmp_Compare_int x y X.w).mono fun r w' ⟨h1, h2⟩ => ⟨h1, by subst h2; exact Ext.refl _⟩
theorem pcmpS_g (x y : ByteArray) : Gives Tryz.prog 180 [.str x, .str y] (.int (compareBytes x.data.toList y.data.toList)) :=
  gives_v fun X vals ha => by
    obtain ⟨v0, _, rfl, h0, v1, _, rfl, h1, h2⟩ := ha
    cases h2
    cases arg_v h0
    cases arg_v h1
    exact (Tryz.strings_Compare x y X.w).mono fun r w' ⟨h1, h2⟩ => ⟨h1, by subst h2; exact Ext.refl _⟩
theorem orI_zero : ∀ {l : List Int}, (∀ j (h : j < l.length), l[j] = 0) → orI l = 0
  | [], _ => rfl
  | x :: l, h => by
    have h0 : x = 0 := h 0 (by simp)
    rw [orI, if_neg (by simp [h0])]
    exact orI_zero fun j hj => h (j + 1) (by simpa using hj)
theorem orI_at : ∀ {l : List Int} {k : Nat} (h : k < l.length), (∀ j (h : j < l.length), j < k → l[j] = 0) → l[k] ≠ 0 → orI l = l[k]
  | x :: l, 0, _, _, hk => by rw [orI, if_pos (by simpa using hk)]; rfl
  | x :: l, k + 1, h, h0, hk => by
    have hx : x = 0 := h0 0 (by simp) (by omega)
    rw [orI, if_neg (by simp [hx])]
    have := orI_at (l := l) (k := k) (by simpa using h) (fun j hj hjk => h0 (j + 1) (by simpa using hj) (by omega)) hk
    exact this
theorem por_g (l : List Int) (hl : l.length ≤ 1000000) : Gives Tryz.prog 178 [.sl (l.map AV.int)] (.int (orI l)) := by
  obtain ⟨R, hR⟩ : ∃ R, R = orI l := ⟨_, rfl⟩
  rw [← hR]
  refine qn Tryz.func178 Tryz.ntmps178 rfl rfl (by decide) rfl (by intro n; simp) fun σ n0 hcl hft => ?_
  repeat' (first | ((first | ((with_reducible refine qo (fun hg => ?_) (fun hg => ?_)) <;> (try simp only [hg]) <;> (try simp only [gS] at hg) <;> (try (first | simp only [eq_false hg, gI] | simp only [eq_true hg, gI]))) | (with_reducible first | refine qf ?_ | refine qe ?_ | refine qk ?_ | refine qj ?_) | refine qc ?_ | refine qh ?_ | refine qi ?_ | refine qm ?_) <;> (try simp (disch := first | omega | simp) [qg, -qq, -qr])) | ((with_reducible refine sideT ?_ ?_); first | omega | assumption | (simp; done)) | (refine qd fun K hK => ?_) | (refine qa ?_) | refine ql ?_ | ((first | refine hK _ ?_ | (clear hK K; refine hK _ ?_) | (clear hK K; clear hK K; refine hK _ ?_)); clear hK K) | refine qb ?_)
  refine qs hcl (fun k : Nat => [(3, .int 0), (6, .sl (l.map AV.int)), (7, .int l.length), (8, .int k)]) (fun _ => [])
    (fun k => k ≤ l.length ∧ ∀ j (h : j < l.length), j < k → l[j] = 0) (fun k => l.length - k) 0 ⟨by omega, fun j h hj => by omega⟩ (by simp) fun k ⟨hk, he⟩ => ?_
  by_cases hlt : k < l.length
  · by_cases hx : l[k] = 0
    · repeat' (first | ((first | ((with_reducible refine qo (fun hg => ?_) (fun hg => ?_)) <;> (try simp only [hg]) <;> (try simp only [gS] at hg) <;> (try (first | simp only [eq_false hg, gI] | simp only [eq_true hg, gI]))) | (with_reducible first | refine qf ?_ | refine qe ?_ | refine qk ?_ | refine qj ?_) | refine qc ?_ | refine qh ?_ | refine qi ?_ | refine qm ?_) <;> (try simp (disch := first | omega | simp) [qg, -qq, -qr, hlt, hx])) | ((with_reducible refine sideT ?_ ?_); first | omega | assumption | (simp; done)) | (refine qd fun K hK => ?_) | (refine qa ?_) | refine ql ?_ | ((first | refine hK _ ?_ | (clear hK K; refine hK _ ?_) | (clear hK K; clear hK K; refine hK _ ?_)); clear hK K) | refine qb ?_)
      all_goals first
        | exact absurd hx (by assumption)
        | (refine ⟨k + 1, ⟨by omega, fun j h hj => ?_⟩, by omega, by simp⟩
           by_cases hjk : j < k
           · exact he j h hjk
           · obtain rfl : j = k := by omega
             exact hx)
    · have := orI_at hlt he hx
      repeat' (first | ((first | ((with_reducible refine qo (fun hg => ?_) (fun hg => ?_)) <;> (try simp only [hg]) <;> (try simp only [gS] at hg) <;> (try (first | simp only [eq_false hg, gI] | simp only [eq_true hg, gI]))) | (with_reducible first | refine qf ?_ | refine qe ?_ | refine qk ?_ | refine qj ?_) | refine qc ?_ | refine qh ?_ | refine qi ?_ | refine qm ?_) <;> (try simp (disch := first | omega | simp) [qg, -qq, -qr, hlt, hx])) | ((with_reducible refine sideT ?_ ?_); first | omega | assumption | (simp; done)) | (refine qd fun K hK => ?_) | (refine qa ?_) | refine ql ?_ | ((first | refine hK _ ?_ | (clear hK K; refine hK _ ?_) | (clear hK K; clear hK K; refine hK _ ?_)); clear hK K) | refine qb ?_)
      all_goals first
        | exact absurd (by assumption) hx
        | (rw [hR, this])
  · have := orI_zero fun j h => he j h (by omega)
    repeat' (first | ((first | ((with_reducible refine qo (fun hg => ?_) (fun hg => ?_)) <;> (try simp only [hg]) <;> (try simp only [gS] at hg) <;> (try (first | simp only [eq_false hg, gI] | simp only [eq_true hg, gI]))) | (with_reducible first | refine qf ?_ | refine qe ?_ | refine qk ?_ | refine qj ?_) | refine qc ?_ | refine qh ?_ | refine qi ?_ | refine qm ?_) <;> (try simp (disch := first | omega | simp) [qg, -qq, -qr, hlt])) | ((with_reducible refine sideT ?_ ?_); first | omega | assumption | (simp; done)) | (refine qd fun K hK => ?_) | (refine qa ?_) | refine ql ?_ | ((first | refine hK _ ?_ | (clear hK K; refine hK _ ?_) | (clear hK K; clear hK K; refine hK _ ?_)); clear hK K) | refine qb ?_)
    all_goals (rw [hR, this])
theorem pcompare_g (a b : Val) : Gives Tryz.prog 143 [a.av, b.av] (.int (cmpV a b)) := by
  have c1 := pcmpI_g a.k b.k
  have c2 := pcmpI_g a.n b.n
  have c3 := pcmpS_g a.s b.s
  have c4 := por_g [compareInt a.k b.k, compareInt a.n b.n, compareBytes a.s.data.toList b.s.data.toList] (by simp)
  have e : cmpV a b = orI [compareInt a.k b.k, compareInt a.n b.n, compareBytes a.s.data.toList b.s.data.toList] := rfl
  rw [← e] at c4
  generalize cmpV a b = C at *
  clear e
  obtain ⟨k, n, s⟩ := a
  obtain ⟨k2, n2, s2⟩ := b
  refine qn Tryz.func143 Tryz.ntmps143 rfl rfl (by decide) rfl (by intro n; simp) fun σ n0 hcl hft => ?_
  repeat' (first | ((first | ((with_reducible refine qo (fun hg => ?_) (fun hg => ?_)) <;> (try simp only [hg]) <;> (try simp only [gS] at hg) <;> (try (first | simp only [eq_false hg, gI] | simp only [eq_true hg, gI]))) | (with_reducible first | refine qf ?_ | refine qe ?_ | refine qk ?_ | refine qj ?_) | refine acall (c1) ?_ | refine qp (c1) ?_ | refine acall (c2) ?_ | refine qp (c2) ?_ | refine acall (c3) ?_ | refine qp (c3) ?_ | refine acall (c4) ?_ | refine qp (c4) ?_ | refine qc ?_ | refine qh ?_ | refine qi ?_ | refine qm ?_) <;> (try simp (disch := first | omega | simp) [qg, -qq, -qr])) | ((with_reducible refine sideT ?_ ?_); first | omega | assumption | (simp; done)) | (refine qd fun K hK => ?_) | (refine qa ?_) | refine ql ?_ | ((first | refine hK _ ?_ | (clear hK K; refine hK _ ?_) | (clear hK K; clear hK K; refine hK _ ?_)); clear hK K) | refine qb ?_)
def pairA (a b : Val) : AV := .agg [.int a.k, .int a.n, .str a.s, .int b.k, .int b.n, .str b.s]
theorem pnum_w (n : Int) : Gives Tryz.prog 97 [.int (IntKind.i64.wrap n)] (numV (wrap64 n)).av := by
  have e : IntKind.i64.wrap n = wrap64 n := by rw [IntKind.wrap_i64, wrap64]
  rw [e]; exact qcz _
theorem padd_g (a b : Val) : Gives Tryz.prog 99 [pairA a b] (numV (wrap64 (a.n + b.n))).av := by
  have c := pnum_w (a.n + b.n)
  generalize numV (wrap64 (a.n + b.n)) = R at *
  refine qn Tryz.func99 Tryz.ntmps99 rfl rfl (by decide) rfl (by intro n; simp) fun σ n0 hcl hft => ?_
  repeat' (first | ((first | ((with_reducible refine qo (fun hg => ?_) (fun hg => ?_)) <;> (try simp only [hg]) <;> (try simp only [gS] at hg) <;> (try (first | simp only [eq_false hg, gI] | simp only [eq_true hg, gI]))) | (with_reducible first | refine qf ?_ | refine qe ?_ | refine qk ?_ | refine qj ?_) | refine acall (c) ?_ | refine qp (c) ?_ | refine qc ?_ | refine qh ?_ | refine qi ?_ | refine qm ?_) <;> (try simp (disch := first | omega | simp) [qg, -qq, -qr, pairA])) | ((with_reducible refine sideT ?_ ?_); first | omega | assumption | (simp; done)) | (refine qd fun K hK => ?_) | (refine qa ?_) | refine ql ?_ | ((first | refine hK _ ?_ | (clear hK K; refine hK _ ?_) | (clear hK K; clear hK K; refine hK _ ?_)); clear hK K) | refine qb ?_)
theorem psub_g (a b : Val) : Gives Tryz.prog 100 [pairA a b] (numV (wrap64 (a.n - b.n))).av := by
  have c := pnum_w (a.n - b.n)
  generalize numV (wrap64 (a.n - b.n)) = R at *
  refine qn Tryz.func100 Tryz.ntmps100 rfl rfl (by decide) rfl (by intro n; simp) fun σ n0 hcl hft => ?_
  repeat' (first | ((first | ((with_reducible refine qo (fun hg => ?_) (fun hg => ?_)) <;> (try simp only [hg]) <;> (try simp only [gS] at hg) <;> (try (first | simp only [eq_false hg, gI] | simp only [eq_true hg, gI]))) | (with_reducible first | refine qf ?_ | refine qe ?_ | refine qk ?_ | refine qj ?_) | refine acall (c) ?_ | refine qp (c) ?_ | refine qc ?_ | refine qh ?_ | refine qi ?_ | refine qm ?_) <;> (try simp (disch := first | omega | simp) [qg, -qq, -qr, pairA])) | ((with_reducible refine sideT ?_ ?_); first | omega | assumption | (simp; done)) | (refine qd fun K hK => ?_) | (refine qa ?_) | refine ql ?_ | ((first | refine hK _ ?_ | (clear hK K; refine hK _ ?_) | (clear hK K; clear hK K; refine hK _ ?_)); clear hK K) | refine qb ?_)
theorem pmul_g (a b : Val) : Gives Tryz.prog 101 [pairA a b] (numV (wrap64 (a.n * b.n))).av := by
  have c := pnum_w (a.n * b.n)
  generalize numV (wrap64 (a.n * b.n)) = R at *
  refine qn Tryz.func101 Tryz.ntmps101 rfl rfl (by decide) rfl (by intro n; simp) fun σ n0 hcl hft => ?_
  repeat' (first | ((first | ((with_reducible refine qo (fun hg => ?_) (fun hg => ?_)) <;> (try simp only [hg]) <;> (try simp only [gS] at hg) <;> (try (first | simp only [eq_false hg, gI] | simp only [eq_true hg, gI]))) | (with_reducible first | refine qf ?_ | refine qe ?_ | refine qk ?_ | refine qj ?_) | refine acall (c) ?_ | refine qp (c) ?_ | refine qc ?_ | refine qh ?_ | refine qi ?_ | refine qm ?_) <;> (try simp (disch := first | omega | simp) [qg, -qq, -qr, pairA])) | ((with_reducible refine sideT ?_ ?_); first | omega | assumption | (simp; done)) | (refine qd fun K hK => ?_) | (refine qa ?_) | refine ql ?_ | ((first | refine hK _ ?_ | (clear hK K; refine hK _ ?_) | (clear hK K; clear hK K; refine hK _ ?_)); clear hK K) | refine qb ?_)
theorem pdiv_g (a b : Val) : Gives Tryz.prog 102 [pairA a b] (numV (divI a.n b.n)).av := by
  by_cases h0 : b.n = 0
  · have e : divI a.n b.n = 0 := by unfold divI; rw [if_pos h0]
    rw [e]
    have c := qcz 0
    generalize numV 0 = R at *
    refine qn Tryz.func102 Tryz.ntmps102 rfl rfl (by decide) rfl (by intro n; simp) fun σ n0 hcl hft => ?_
    repeat' (first | ((first | ((with_reducible refine qo (fun hg => ?_) (fun hg => ?_)) <;> (try simp only [hg]) <;> (try simp only [gS] at hg) <;> (try (first | simp only [eq_false hg, gI] | simp only [eq_true hg, gI]))) | (with_reducible first | refine qf ?_ | refine qe ?_ | refine qk ?_ | refine qj ?_) | refine acall (c) ?_ | refine qp (c) ?_ | refine qc ?_ | refine qh ?_ | refine qi ?_ | refine qm ?_) <;> (try simp (disch := first | omega | simp) [qg, -qq, -qr, pairA, h0])) | ((with_reducible refine sideT ?_ ?_); first | omega | assumption | (simp; done)) | (refine qd fun K hK => ?_) | (refine qa ?_) | refine ql ?_ | ((first | refine hK _ ?_ | (clear hK K; refine hK _ ?_) | (clear hK K; clear hK K; refine hK _ ?_)); clear hK K) | refine qb ?_)
    all_goals exact absurd h0 (by assumption)
  · have e : divI a.n b.n = wrap64 (a.n.tdiv b.n) := by unfold divI; rw [if_neg h0]
    rw [e]
    have c := pnum_w (a.n.tdiv b.n)
    generalize numV (wrap64 (a.n.tdiv b.n)) = R at *
    refine qn Tryz.func102 Tryz.ntmps102 rfl rfl (by decide) rfl (by intro n; simp) fun σ n0 hcl hft => ?_
    repeat' (first | ((first | ((with_reducible refine qo (fun hg => ?_) (fun hg => ?_)) <;> (try simp only [hg]) <;> (try simp only [gS] at hg) <;> (try (first | simp only [eq_false hg, gI] | simp only [eq_true hg, gI]))) | (with_reducible first | refine qf ?_ | refine qe ?_ | refine qk ?_ | refine qj ?_) | refine acall (c) ?_ | refine qp (c) ?_ | refine qc ?_ | refine qh ?_ | refine qi ?_ | refine qm ?_) <;> (try simp (disch := first | omega | simp) [qg, -qq, -qr, pairA, h0])) | ((with_reducible refine sideT ?_ ?_); first | omega | assumption | (simp; done)) | (refine qd fun K hK => ?_) | (refine qa ?_) | refine ql ?_ | ((first | refine hK _ ?_ | (clear hK K; refine hK _ ?_) | (clear hK K; clear hK K; refine hK _ ?_)); clear hK K) | refine qb ?_)
    all_goals exact absurd (by assumption) h0
theorem pmod_g (a b : Val) : Gives Tryz.prog 103 [pairA a b] (numV (modI a.n b.n)).av := by
  by_cases h0 : b.n = 0
  · have e : modI a.n b.n = 0 := by unfold modI; rw [if_pos h0]
    rw [e]
    have c := qcz 0
    generalize numV 0 = R at *
    refine qn Tryz.func103 Tryz.ntmps103 rfl rfl (by decide) rfl (by intro n; simp) fun σ n0 hcl hft => ?_
    repeat' (first | ((first | ((with_reducible refine qo (fun hg => ?_) (fun hg => ?_)) <;> (try simp only [hg]) <;> (try simp only [gS] at hg) <;> (try (first | simp only [eq_false hg, gI] | simp only [eq_true hg, gI]))) | (with_reducible first | refine qf ?_ | refine qe ?_ | refine qk ?_ | refine qj ?_) | refine acall (c) ?_ | refine qp (c) ?_ | refine qc ?_ | refine qh ?_ | refine qi ?_ | refine qm ?_) <;> (try simp (disch := first | omega | simp) [qg, -qq, -qr, pairA, h0])) | ((with_reducible refine sideT ?_ ?_); first | omega | assumption | (simp; done)) | (refine qd fun K hK => ?_) | (refine qa ?_) | refine ql ?_ | ((first | refine hK _ ?_ | (clear hK K; refine hK _ ?_) | (clear hK K; clear hK K; refine hK _ ?_)); clear hK K) | refine qb ?_)
    all_goals exact absurd h0 (by assumption)
  · have e : modI a.n b.n = a.n.tmod b.n := by unfold modI; rw [if_neg h0]
    rw [e]
    have c := qcz (a.n.tmod b.n)
    generalize numV (a.n.tmod b.n) = R at *
    refine qn Tryz.func103 Tryz.ntmps103 rfl rfl (by decide) rfl (by intro n; simp) fun σ n0 hcl hft => ?_
    repeat' (first | ((first | ((with_reducible refine qo (fun hg => ?_) (fun hg => ?_)) <;> (try simp only [hg]) <;> (try simp only [gS] at hg) <;> (try (first | simp only [eq_false hg, gI] | simp only [eq_true hg, gI]))) | (with_reducible first | refine qf ?_ | refine qe ?_ | refine qk ?_ | refine qj ?_) | refine acall (c) ?_ | refine qp (c) ?_ | refine qc ?_ | refine qh ?_ | refine qi ?_ | refine qm ?_) <;> (try simp (disch := first | omega | simp) [qg, -qq, -qr, pairA, h0])) | ((with_reducible refine sideT ?_ ?_); first | omega | assumption | (simp; done)) | (refine qd fun K hK => ?_) | (refine qa ?_) | refine ql ?_ | ((first | refine hK _ ?_ | (clear hK K; refine hK _ ?_) | (clear hK K; clear hK K; refine hK _ ?_)); clear hK K) | refine qb ?_)
    all_goals exact absurd (by assumption) h0
theorem plt_g (a b : Val) : Gives Tryz.prog 106 [pairA a b] (boolV (decide (cmpV a b < 0))).av := by
  have c1 := pcompare_g a b
  simp only [Val.av] at c1
  generalize cmpV a b = C at *
  have c2 := qcl (decide (C < 0))
  generalize boolV (decide (C < 0)) = R at *
  refine qn Tryz.func106 Tryz.ntmps106 rfl rfl (by decide) rfl (by intro n; simp) fun σ n0 hcl hft => ?_
  repeat' (first | ((first | ((with_reducible refine qo (fun hg => ?_) (fun hg => ?_)) <;> (try simp only [hg]) <;> (try simp only [gS] at hg) <;> (try (first | simp only [eq_false hg, gI] | simp only [eq_true hg, gI]))) | (with_reducible first | refine qf ?_ | refine qe ?_ | refine qk ?_ | refine qj ?_) | refine acall (c1) ?_ | refine qp (c1) ?_ | refine acall (c2) ?_ | refine qp (c2) ?_ | refine qc ?_ | refine qh ?_ | refine qi ?_ | refine qm ?_) <;> (try simp (disch := first | omega | simp) [qg, -qq, -qr, pairA])) | ((with_reducible refine sideT ?_ ?_); first | omega | assumption | (simp; done)) | (refine qd fun K hK => ?_) | (refine qa ?_) | refine ql ?_ | ((first | refine hK _ ?_ | (clear hK K; refine hK _ ?_) | (clear hK K; clear hK K; refine hK _ ?_)); clear hK K) | refine qb ?_)
theorem ple_g (a b : Val) : Gives Tryz.prog 107 [pairA a b] (boolV (decide (cmpV a b ≤ 0))).av := by
  have c1 := pcompare_g a b
  simp only [Val.av] at c1
  generalize cmpV a b = C at *
  have c2 := qcl (decide (C ≤ 0))
  generalize boolV (decide (C ≤ 0)) = R at *
  refine qn Tryz.func107 Tryz.ntmps107 rfl rfl (by decide) rfl (by intro n; simp) fun σ n0 hcl hft => ?_
  repeat' (first | ((first | ((with_reducible refine qo (fun hg => ?_) (fun hg => ?_)) <;> (try simp only [hg]) <;> (try simp only [gS] at hg) <;> (try (first | simp only [eq_false hg, gI] | simp only [eq_true hg, gI]))) | (with_reducible first | refine qf ?_ | refine qe ?_ | refine qk ?_ | refine qj ?_) | refine acall (c1) ?_ | refine qp (c1) ?_ | refine acall (c2) ?_ | refine qp (c2) ?_ | refine qc ?_ | refine qh ?_ | refine qi ?_ | refine qm ?_) <;> (try simp (disch := first | omega | simp) [qg, -qq, -qr, pairA])) | ((with_reducible refine sideT ?_ ?_); first | omega | assumption | (simp; done)) | (refine qd fun K hK => ?_) | (refine qa ?_) | refine ql ?_ | ((first | refine hK _ ?_ | (clear hK K; refine hK _ ?_) | (clear hK K; clear hK K; refine hK _ ?_)); clear hK K) | refine qb ?_)
theorem pboth_g (a b : Val) : Gives Tryz.prog 108 [pairA a b] (boolV (decide (a.n = 1) && decide (b.n = 1))).av := by
  by_cases h1 : a.n = 1
  · have e : (decide (a.n = 1) && decide (b.n = 1)) = decide (b.n = 1) := by simp [h1]
    rw [e]
    have c : Gives Tryz.prog 98 [.bool (b.n == 1)] (boolV (decide (b.n = 1))).av := qcl _
    generalize boolV (decide (b.n = 1)) = R at *
    refine qn Tryz.func108 Tryz.ntmps108 rfl rfl (by decide) rfl (by intro n; simp) fun σ n0 hcl hft => ?_
    repeat' (first | ((first | ((with_reducible refine qo (fun hg => ?_) (fun hg => ?_)) <;> (try simp only [hg]) <;> (try simp only [gS] at hg) <;> (try (first | simp only [eq_false hg, gI] | simp only [eq_true hg, gI]))) | (with_reducible first | refine qf ?_ | refine qe ?_ | refine qk ?_ | refine qj ?_) | refine acall (c) ?_ | refine qp (c) ?_ | refine qc ?_ | refine qh ?_ | refine qi ?_ | refine qm ?_) <;> (try simp (disch := first | omega | simp) [qg, -qq, -qr, pairA, h1])) | ((with_reducible refine sideT ?_ ?_); first | omega | assumption | (simp; done)) | (refine qd fun K hK => ?_) | (refine qa ?_) | refine ql ?_ | ((first | refine hK _ ?_ | (clear hK K; refine hK _ ?_) | (clear hK K; clear hK K; refine hK _ ?_)); clear hK K) | refine qb ?_)
    all_goals exact absurd h1 (by assumption)
  · have e : (decide (a.n = 1) && decide (b.n = 1)) = false := by simp [h1]
    rw [e]
    have c : Gives Tryz.prog 98 [.bool (false)] (boolV (false)).av := qcl _
    generalize boolV (false) = R at *
    refine qn Tryz.func108 Tryz.ntmps108 rfl rfl (by decide) rfl (by intro n; simp) fun σ n0 hcl hft => ?_
    repeat' (first | ((first | ((with_reducible refine qo (fun hg => ?_) (fun hg => ?_)) <;> (try simp only [hg]) <;> (try simp only [gS] at hg) <;> (try (first | simp only [eq_false hg, gI] | simp only [eq_true hg, gI]))) | (with_reducible first | refine qf ?_ | refine qe ?_ | refine qk ?_ | refine qj ?_) | refine acall (c) ?_ | refine qp (c) ?_ | refine qc ?_ | refine qh ?_ | refine qi ?_ | refine qm ?_) <;> (try simp (disch := first | omega | simp) [qg, -qq, -qr, pairA, h1])) | ((with_reducible refine sideT ?_ ?_); first | omega | assumption | (simp; done)) | (refine qd fun K hK => ?_) | (refine qa ?_) | refine ql ?_ | ((first | refine hK _ ?_ | (clear hK K; refine hK _ ?_) | (clear hK K; clear hK K; refine hK _ ?_)); clear hK K) | refine qb ?_)
    all_goals exact absurd (by assumption) h1
theorem pany_g (a b : Val) : Gives Tryz.prog 109 [pairA a b] (boolV (decide (a.n = 1) || decide (b.n = 1))).av := by
  by_cases h1 : a.n = 1
  · have e : (decide (a.n = 1) || decide (b.n = 1)) = true := by simp [h1]
    rw [e]
    have c : Gives Tryz.prog 98 [.bool (true)] (boolV (true)).av := qcl _
    generalize boolV (true) = R at *
    refine qn Tryz.func109 Tryz.ntmps109 rfl rfl (by decide) rfl (by intro n; simp) fun σ n0 hcl hft => ?_
    repeat' (first | ((first | ((with_reducible refine qo (fun hg => ?_) (fun hg => ?_)) <;> (try simp only [hg]) <;> (try simp only [gS] at hg) <;> (try (first | simp only [eq_false hg, gI] | simp only [eq_true hg, gI]))) | (with_reducible first | refine qf ?_ | refine qe ?_ | refine qk ?_ | refine qj ?_) | refine acall (c) ?_ | refine qp (c) ?_ | refine qc ?_ | refine qh ?_ | refine qi ?_ | refine qm ?_) <;> (try simp (disch := first | omega | simp) [qg, -qq, -qr, pairA, h1])) | ((with_reducible refine sideT ?_ ?_); first | omega | assumption | (simp; done)) | (refine qd fun K hK => ?_) | (refine qa ?_) | refine ql ?_ | ((first | refine hK _ ?_ | (clear hK K; refine hK _ ?_) | (clear hK K; clear hK K; refine hK _ ?_)); clear hK K) | refine qb ?_)
    all_goals exact absurd h1 (by assumption)
  · have e : (decide (a.n = 1) || decide (b.n = 1)) = decide (b.n = 1) := by simp [h1]
    rw [e]
    have c : Gives Tryz.prog 98 [.bool (b.n == 1)] (boolV (decide (b.n = 1))).av := qcl _
    generalize boolV (decide (b.n = 1)) = R at *
    refine qn Tryz.func109 Tryz.ntmps109 rfl rfl (by decide) rfl (by intro n; simp) fun σ n0 hcl hft => ?_
    repeat' (first | ((first | ((with_reducible refine qo (fun hg => ?_) (fun hg => ?_)) <;> (try simp only [hg]) <;> (try simp only [gS] at hg) <;> (try (first | simp only [eq_false hg, gI] | simp only [eq_true hg, gI]))) | (with_reducible first | refine qf ?_ | refine qe ?_ | refine qk ?_ | refine qj ?_) | refine acall (c) ?_ | refine qp (c) ?_ | refine qc ?_ | refine qh ?_ | refine qi ?_ | refine qm ?_) <;> (try simp (disch := first | omega | simp) [qg, -qq, -qr, pairA, h1])) | ((with_reducible refine sideT ?_ ?_); first | omega | assumption | (simp; done)) | (refine qd fun K hK => ?_) | (refine qa ?_) | refine ql ?_ | ((first | refine hK _ ?_ | (clear hK K; refine hK _ ?_) | (clear hK K; clear hK K; refine hK _ ?_)); clear hK K) | refine qb ?_)
    all_goals exact absurd (by assumption) h1
theorem eqv_av (a b : Val) : aeq Tryz.prog .eql 39 (.agg [.int a.k, .int a.n, .str a.s]) (.agg [.int b.k, .int b.n, .str b.s]) = some (eqV a b) := by
  simp only [aeq, aeqS, Val.q, feq, feq1, eqV]
  by_cases h1 : a.k = b.k <;> by_cases h2 : a.n = b.n <;> by_cases h3 : a.s.toList = b.s.toList <;> simp [h1, h2, h3]
theorem nev_av (a b : Val) : aeq Tryz.prog .neq 39 (.agg [.int a.k, .int a.n, .str a.s]) (.agg [.int b.k, .int b.n, .str b.s]) = some (!eqV a b) := by
  simp only [aeq, aeqS, Val.q, feq, feq1, eqV]
  by_cases h1 : a.k = b.k <;> by_cases h2 : a.n = b.n <;> by_cases h3 : a.s.toList = b.s.toList <;> simp [h1, h2, h3]
theorem peq_g (a b : Val) : Gives Tryz.prog 104 [pairA a b] (boolV (eqV a b)).av := by
  have e := eqv_av a b
  have c := qcl (eqV a b)
  generalize eqV a b = q at *
  generalize boolV q = R at *
  refine qn Tryz.func104 Tryz.ntmps104 rfl rfl (by decide) rfl (by intro n; simp) fun σ n0 hcl hft => ?_
  repeat' (first | ((first | ((with_reducible refine qo (fun hg => ?_) (fun hg => ?_)) <;> (try simp only [hg]) <;> (try simp only [gS] at hg) <;> (try (first | simp only [eq_false hg, gI] | simp only [eq_true hg, gI]))) | (with_reducible first | refine qf ?_ | refine qe ?_ | refine qk ?_ | refine qj ?_) | refine acall (c) ?_ | refine qp (c) ?_ | refine qc ?_ | refine qh ?_ | refine qi ?_ | refine qm ?_) <;> (try simp (disch := first | omega | simp) [qg, -qq, -qr, pairA, e, -Val.av_fold])) | ((with_reducible refine sideT ?_ ?_); first | omega | assumption | (simp; done)) | (refine qd fun K hK => ?_) | (refine qa ?_) | refine ql ?_ | ((first | refine hK _ ?_ | (clear hK K; refine hK _ ?_) | (clear hK K; clear hK K; refine hK _ ?_)); clear hK K) | refine qb ?_)
  all_goals rfl
theorem pne_g (a b : Val) : Gives Tryz.prog 105 [pairA a b] (boolV (!eqV a b)).av := by
  have e := nev_av a b
  have c := qcl (!eqV a b)
  generalize (!eqV a b) = q at *
  generalize boolV q = R at *
  refine qn Tryz.func105 Tryz.ntmps105 rfl rfl (by decide) rfl (by intro n; simp) fun σ n0 hcl hft => ?_
  repeat' (first | ((first | ((with_reducible refine qo (fun hg => ?_) (fun hg => ?_)) <;> (try simp only [hg]) <;> (try simp only [gS] at hg) <;> (try (first | simp only [eq_false hg, gI] | simp only [eq_true hg, gI]))) | (with_reducible first | refine qf ?_ | refine qe ?_ | refine qk ?_ | refine qj ?_) | refine acall (c) ?_ | refine qp (c) ?_ | refine qc ?_ | refine qh ?_ | refine qi ?_ | refine qm ?_) <;> (try simp (disch := first | omega | simp) [qg, -qq, -qr, pairA, e, -Val.av_fold])) | ((with_reducible refine sideT ?_ ?_); first | omega | assumption | (simp; done)) | (refine qd fun K hK => ?_) | (refine qa ?_) | refine ql ?_ | ((first | refine hK _ ?_ | (clear hK K; refine hK _ ?_) | (clear hK K; clear hK K; refine hK _ ?_)); clear hK K) | refine qb ?_)
  all_goals rfl
theorem pjoin_g (a b : Val) (hz : a.s.size + b.s.size ≤ 9223372036854775807) : Gives Tryz.prog 110 [pairA a b] (textV (joinS a.s b.s)).av := by
  by_cases h2 : (200 : Int) < (a.s.size : Int) + b.s.size
  · have e : joinS a.s b.s = (a.s ++ b.s).extract 0 200 := by unfold joinS; rw [show min (a.s.size + b.s.size) 200 = 200 by omega]
    rw [e]
    have h3 : 200 ≤ a.s.size + b.s.size := by omega
    refine qn Tryz.func110 Tryz.ntmps110 rfl rfl (by decide) rfl (by intro n; simp) fun σ n0 hcl hft => ?_
    repeat' (first | ((first | ((with_reducible refine qo (fun hg => ?_) (fun hg => ?_)) <;> (try simp only [hg]) <;> (try simp only [gS] at hg) <;> (try (first | simp only [eq_false hg, gI] | simp only [eq_true hg, gI]))) | (with_reducible first | refine qf ?_ | refine qe ?_ | refine qk ?_ | refine qj ?_) | refine qc ?_ | refine qh ?_ | refine qi ?_ | refine qm ?_) <;> (try simp (disch := first | omega | simp) [qg, -qq, -qr, pairA, hz, h2, h3])) | ((with_reducible refine sideT ?_ ?_); first | omega | assumption | (simp; done)) | (refine qd fun K hK => ?_) | (refine qa ?_) | refine ql ?_ | ((first | refine hK _ ?_ | (clear hK K; refine hK _ ?_) | (clear hK K; clear hK K; refine hK _ ?_)); clear hK K) | refine qb ?_)
    all_goals rfl
  · have e : joinS a.s b.s = (a.s ++ b.s).extract 0 (a.s.size + b.s.size) := by unfold joinS; rw [show min (a.s.size + b.s.size) 200 = a.s.size + b.s.size by omega]
    rw [e]
    have h3 : (0 : Int) ≤ (a.s.size : Int) + b.s.size := by omega
    have h4 : ((a.s.size : Int) + b.s.size).toNat = a.s.size + b.s.size := by omega
    refine qn Tryz.func110 Tryz.ntmps110 rfl rfl (by decide) rfl (by intro n; simp) fun σ n0 hcl hft => ?_
    repeat' (first | ((first | ((with_reducible refine qo (fun hg => ?_) (fun hg => ?_)) <;> (try simp only [hg]) <;> (try simp only [gS] at hg) <;> (try (first | simp only [eq_false hg, gI] | simp only [eq_true hg, gI]))) | (with_reducible first | refine qf ?_ | refine qe ?_ | refine qk ?_ | refine qj ?_) | refine qc ?_ | refine qh ?_ | refine qi ?_ | refine qm ?_) <;> (try simp (disch := first | omega | simp) [qg, -qq, -qr, pairA, hz, h2, h3, h4])) | ((with_reducible refine sideT ?_ ?_); first | omega | assumption | (simp; done)) | (refine qd fun K hK => ?_) | (refine qa ?_) | refine ql ?_ | ((first | refine hK _ ?_ | (clear hK K; refine hK _ ?_) | (clear hK K; clear hK K; refine hK _ ?_)); clear hK K) | refine qb ?_)
    all_goals rfl
end Go.Proofs.YtnkimlkoijfcpaaGreatDoor

/- Walk: (frame).eval and Eval of the program. -/
namespace Go.Proofs.YtnkimlkoijfcpaaGreatDoor
open Go.RowKit Go.Lib Go.ChangeMaps
def fnOf (o : Int) : Nat := if o = 8 then 99 else if o = 9 then 100 else if o = 10 then 101 else if o = 11 then 102 else if o = 12 then 103
  else if o = 13 then 104 else if o = 14 then 105 else if o = 15 then 106 else if o = 16 then 107 else if o = 17 then 108 else if o = 18 then 109 else 110
theorem bin_g (o : Int) (ho : 8 ≤ o ∧ o ≤ 19) (a b : Val) (hz : a.s.size + b.s.size ≤ 9223372036854775807) : Gives Tryz.prog (fnOf o) [pairA a b] (binV o a b).av := by
  have : o = 8 ∨ o = 9 ∨ o = 10 ∨ o = 11 ∨ o = 12 ∨ o = 13 ∨ o = 14 ∨ o = 15 ∨ o = 16 ∨ o = 17 ∨ o = 18 ∨ o = 19 := by omega
  rcases this with rfl | rfl | rfl | rfl | rfl | rfl | rfl | rfl | rfl | rfl | rfl | rfl
  · exact padd_g a b
  · exact psub_g a b
  · exact pmul_g a b
  · exact pdiv_g a b
  · exact pmod_g a b
  · exact peq_g a b
  · exact pne_g a b
  · exact plt_g a b
  · exact ple_g a b
  · exact pboth_g a b
  · exact pany_g a b
  · exact pjoin_g a b hz
theorem bin_enters (o : Int) : enters Tryz.prog (fnOf o) = true := by
  unfold fnOf
  (repeat' split) <;> simp
theorem fn_upd {es : Array MapEntry} {c : Nat} {k : Int} {q : Nat} (hf : Instr.findNow (.int .i64) (.int .i64 k) es.toList 0 = some none) :
    IsMap (fun o => o = .map es c) ∧ UpdOk Tryz.prog 142 (fun o => o = .map es c) (.int k) (.fn q []) (fun o => o = .map (es.push { key := .int .i64 k, val := .func (.func q) #[] #[], born := c }) (c + 1)) := by
  refine ⟨fun o h => ⟨_, _, h⟩, _, _, rfl, rfl, ?_⟩
  rintro w b es' clock hb he
  cases he
  have hc : (Instr.checkKey false 10000 3 (.int .i64 k)).run Tryz.prog w = .ok () w := MapKept.run_checkKey (k := .int .i64 k) Tryz.underlying3 (by simp [MapKept.IsKey]) false 9999
  refine ⟨_, ?_, rfl⟩
  simp [Instr.mapUpdate, run_underlying Tryz.underlying142, MapKept.run_getObj_map hb, hc, MapKept.run_findKey Tryz.underlying3 hf, MapKept.run_setObj_map _ hb, Result.andThen, setBlock]
def opEnts : List MapEntry := [⟨.int .i64 8, .func (.func 99) #[] #[], 0⟩, ⟨.int .i64 9, .func (.func 100) #[] #[], 1⟩, ⟨.int .i64 10, .func (.func 101) #[] #[], 2⟩, ⟨.int .i64 11, .func (.func 102) #[] #[], 3⟩, ⟨.int .i64 12, .func (.func 103) #[] #[], 4⟩, ⟨.int .i64 13, .func (.func 104) #[] #[], 5⟩, ⟨.int .i64 14, .func (.func 105) #[] #[], 6⟩, ⟨.int .i64 15, .func (.func 106) #[] #[], 7⟩, ⟨.int .i64 16, .func (.func 107) #[] #[], 8⟩, ⟨.int .i64 17, .func (.func 108) #[] #[], 9⟩, ⟨.int .i64 18, .func (.func 109) #[] #[], 10⟩, ⟨.int .i64 19, .func (.func 110) #[] #[], 11⟩]
theorem op_look {es : Array MapEntry} {c : Nat} (he : es.toList = opEnts) (o : Int) (ho : 8 ≤ o ∧ o ≤ 19) : LookOk Tryz.prog 142 (fun x => x = .map es c) false (.int o) (.fn (fnOf o) []) := by
  refine ⟨_, .func (.func (fnOf o)) #[] #[], rfl, fun X => ?_, ?_⟩
  · show RC X (.fn (fnOf o) []) [_]
    rw [RC]
    exact ⟨[], rfl, by rw [R1s]⟩
  rintro w b x hb rfl
  have hf : Instr.findNow (.int .i64) (.int .i64 o) es.toList 0 = some (some (o.toNat - 8, .func (.func (fnOf o)) #[] #[])) := by
    rw [he]
    have : o = 8 ∨ o = 9 ∨ o = 10 ∨ o = 11 ∨ o = 12 ∨ o = 13 ∨ o = 14 ∨ o = 15 ∨ o = 16 ∨ o = 17 ∨ o = 18 ∨ o = 19 := by omega
    rcases this with rfl | rfl | rfl | rfl | rfl | rfl | rfl | rfl | rfl | rfl | rfl | rfl <;> rfl
  have hc : (Instr.checkKey es.isEmpty 10000 3 (.int .i64 o)).run Tryz.prog w = .ok () w := MapKept.run_checkKey (k := .int .i64 o) Tryz.underlying3 (by simp [MapKept.IsKey]) _ 9999
  have hc2 := hc
  simp only [Array.isEmpty] at hc2
  simp [Instr.lookup, run_underlying Tryz.underlying142, MapKept.run_getObj_map hb, hc, hc2, MapKept.run_findKey Tryz.underlying3 hf, Result.andThen]
def frameA (F : List Fn) (time : Int) (R P : List Val) : AV := .agg [.sl (F.map Fn.av), .int time, .sl (R.map Val.av), .sl (P.map Val.av)]
def EvalG (F : List Fn) (time : Int) (m : Nat) (e : Ex) : Prop := ∀ (c p : List Int) (R P : List Val) (t : Int), ty (F.take m) c p e = some t → qce c R → P.map Val.k = p → (∀ v ∈ P, qz v) → parts e ≤ 1000000 →
  Gives Tryz.prog 52 [frameA F time R P, e.av] (ev (callN F time m) time R P e).av
theorem tysLen {F : List Fn} {c p : List Int} : ∀ {l : List Ex} {ts : List Int}, tys F c p l = some ts → ts.length = l.length
  | [], ts, h => by rw [tys] at h; cases h; rfl
  | e :: l, ts, h => by
    rw [tys] at h
    cases he : ty F c p e with
    | none => rw [he] at h; cases h
    | some t =>
      rw [he] at h
      cases hl : tys F c p l with
      | none => rw [hl] at h; cases h
      | some us => rw [hl] at h; cases h; rw [List.length_cons, List.length_cons, tysLen hl]
set_option maxHeartbeats 8000000 in
theorem eval_if_g (F : List Fn) (time : Int) (m : Nat) (n : Int) (s : ByteArray) (l : List Ex) (ih : ∀ x ∈ l, EvalG F time m x) : EvalG F time m (.mk 21 n s l) := by
  intro c p R P t ht hR hP hsP hp
  obtain ⟨ts, hts, htt⟩ : ∃ ts, tys (F.take m) c p l = some ts ∧ tailT (F.take m) c p 21 n s ts = some t := by
    rw [ty] at ht
    cases hl : tys (F.take m) c p l with
    | none => rw [hl] at ht; cases ht
    | some ts => rw [hl] at ht; exact ⟨ts, rfl, ht⟩
  have h3 : l.length = 3 := by
    rw [← tysLen hts]
    unfold tailT at htt
    split at htt
    · cases htt
    rw [if_neg (by decide)] at htt
    split at htt
    · simp [leafT] at htt
    · unfold operT at htt
      split at htt
      · cases htt
      simp only [show ¬ ((21 : Int) = 6) by decide, show ¬ ((21 : Int) = 7) by decide, show ¬ ((21 : Int) = 20) by decide, show ¬ (8 ≤ (21 : Int) ∧ (21 : Int) ≤ 12) by decide, show ¬ (13 ≤ (21 : Int) ∧ (21 : Int) ≤ 16) by decide, show ¬ (17 ≤ (21 : Int) ∧ (21 : Int) ≤ 18) by decide, show ¬ ((21 : Int) = 19) by decide, if_false, if_true] at htt
      split at htt
      · rfl
      · cases htt
  obtain ⟨x, y, z, rfl⟩ : ∃ x y z, l = [x, y, z] := by
    match l, h3 with
    | [x, y, z], _ => exact ⟨x, y, z, rfl⟩
  have hc : ∀ w ∈ [x, y, z], Gives Tryz.prog 52 [frameA F time R P, w.av] (ev (callN F time m) time R P w).av := fun w hw => by
    obtain ⟨t', ht'⟩ := qet _ hts w hw
    exact ih w hw c p R P t' ht' hR hP hsP (by rw [parts] at hp; have := qbb _ w hw; omega)
  have c1 := hc x (by simp)
  have c2 := hc y (by simp)
  have c3 := hc z (by simp)
  have hev : ev (callN F time m) time R P (.mk 21 n s [x, y, z]) = if (ev (callN F time m) time R P x).n = 1 then ev (callN F time m) time R P y else ev (callN F time m) time R P z := by
    rw [ev, if_pos rfl, qen]; rfl
  rw [hev]
  unfold frameA at *
  clear hc hev ih
  generalize ev (callN F time m) time R P x = X at *
  generalize ev (callN F time m) time R P y = Y at *
  generalize ev (callN F time m) time R P z = Z at *
  obtain ⟨k1, n1, s1⟩ := X
  by_cases h1 : n1 = 1
  · simp only [h1, if_true]
    simp only [Val.av, h1] at c1
    refine qn Tryz.func52 Tryz.ntmps52 rfl rfl (by decide) rfl (by intro n; simp) fun σ n0 hcl hft => ?_
    repeat' (first | ((first | ((with_reducible refine qo (fun hg => ?_) (fun hg => ?_)) <;> (try simp only [hg]) <;> (try simp only [gS] at hg) <;> (try (first | simp only [eq_false hg, gI] | simp only [eq_true hg, gI]))) | (with_reducible first | refine qf ?_ | refine qe ?_ | refine qk ?_ | refine qj ?_) | refine acall (c1) ?_ | refine qp (c1) ?_ | refine acall (c2) ?_ | refine qp (c2) ?_ | refine acall (c3) ?_ | refine qp (c3) ?_ | refine qc ?_ | refine qh ?_ | refine qi ?_ | refine qm ?_) <;> (try simp (disch := first | omega | simp) [qg, -qq, -qr])) | ((with_reducible refine sideT ?_ ?_); first | omega | assumption | (simp; done)) | (refine qd fun K hK => ?_) | (refine qa ?_) | refine ql ?_ | ((first | refine hK _ ?_ | (clear hK K; refine hK _ ?_) | (clear hK K; clear hK K; refine hK _ ?_)); clear hK K) | refine qb ?_)
  · simp only [h1, if_false]
    simp only [Val.av] at c1
    refine qn Tryz.func52 Tryz.ntmps52 rfl rfl (by decide) rfl (by intro n; simp) fun σ n0 hcl hft => ?_
    repeat' (first | ((first | ((with_reducible refine qo (fun hg => ?_) (fun hg => ?_)) <;> (try simp only [hg]) <;> (try simp only [gS] at hg) <;> (try (first | simp only [eq_false hg, gI] | simp only [eq_true hg, gI]))) | (with_reducible first | refine qf ?_ | refine qe ?_ | refine qk ?_ | refine qj ?_) | refine acall (c1) ?_ | refine qp (c1) ?_ | refine acall (c2) ?_ | refine qp (c2) ?_ | refine acall (c3) ?_ | refine qp (c3) ?_ | refine qc ?_ | refine qh ?_ | refine qi ?_ | refine qm ?_) <;> (try simp (disch := first | omega | simp) [qg, -qq, -qr, h1])) | ((with_reducible refine sideT ?_ ?_); first | omega | assumption | (simp; done)) | (refine qd fun K hK => ?_) | (refine qa ?_) | refine ql ?_ | ((first | refine hK _ ?_ | (clear hK K; refine hK _ ?_) | (clear hK K; clear hK K; refine hK _ ?_)); clear hK K) | refine qb ?_)
    all_goals exact absurd (by assumption) h1
theorem leaf_op {c p : List Int} {o n t : Int} {s : ByteArray} (h : leafT c p o n s = some t) : (o = 0 ∨ o = 1 ∨ o = 2 ∨ o = 3 ∨ o = 4 ∨ o = 5) ∧ (o = 3 → pickT c n = some t) ∧ (o = 4 → pickT p n = some t) := by
  unfold leafT at h
  by_cases h0 : o = 0
  · omega
  by_cases h2 : o = 2
  · omega
  by_cases h3 : o = 3
  · rw [if_neg h0, if_neg h2, if_pos h3] at h; exact ⟨by omega, fun _ => h, by omega⟩
  by_cases h4 : o = 4
  · rw [if_neg h0, if_neg h2, if_neg h3, if_pos h4] at h; exact ⟨by omega, by omega, fun _ => h⟩
  by_cases h1 : o = 1
  · omega
  by_cases h5 : o = 5
  · omega
  rw [if_neg h0, if_neg h2, if_neg h3, if_neg h4, if_neg h1, if_neg h5] at h
  cases h
theorem oper_op {o n t : Int} {ts : List Int} (h : operT o n ts = some t) (h21 : o ≠ 21) : ((o = 6 ∨ o = 7 ∨ o = 20) ∧ ts.length = 1) ∨ (8 ≤ o ∧ o ≤ 19 ∧ ts.length = 2) := by
  unfold operT at h
  split at h
  · cases h
  split at h
  · split at h
    · rename_i e _ e2; exact .inl ⟨by omega, by rw [e2]; rfl⟩
    · cases h
  split at h
  · split at h
    · rename_i e _ e2; exact .inl ⟨by omega, by rw [e2]; rfl⟩
    · cases h
  split at h
  · split at h
    · rename_i e _ e2; exact .inl ⟨by omega, by rw [e2]; rfl⟩
    · cases h
  split at h
  · split at h
    · rename_i e _ e2; exact .inr ⟨by omega, by omega, by rw [e2]; rfl⟩
    · cases h
  split at h
  · split at h
    · exact .inr ⟨by omega, by omega, rfl⟩
    · cases h
  split at h
  · split at h
    · rename_i e _ e2; exact .inr ⟨by omega, by omega, by rw [e2]; rfl⟩
    · cases h
  split at h
  · split at h
    · rename_i e _ e2; exact .inr ⟨by omega, by omega, by rw [e2]; rfl⟩
    · cases h
  cases h
theorem getD_toNat {l : List Val} {n : Int} (h : n.toNat < l.length) : l.getD n.toNat zeroV = l[n.toNat] := by rw [List.getD_eq_getElem?_getD, List.getElem?_eq_getElem h]; rfl
theorem tailT_call {F : List Fn} {c p : List Int} {o n t : Int} {s : ByteArray} {ts : List Int} (h : tailT F c p o n s ts = some t) (h22 : o = 22) : callT F n ts = some t := by
  subst h22
  unfold tailT at h
  by_cases h1 : s.size ≠ 0 ∧ (22 : Int) ≠ 1
  · rw [if_pos h1] at h; cases h
  · rw [if_neg h1, if_pos rfl] at h; exact h
set_option maxHeartbeats 16000000 in
theorem eval_walk (F : List Fn) (time : Int) (m : Nat) (c p : List Int) (R P : List Val) (o n t : Int) (s : ByteArray) (l : List Ex) (ts : List Int) (vs : List Val) (call : Int → List Val → Val) (ho : o ≠ 21) (hll : l.length ≤ 1000000)
    (hR : qce c R) (hP : P.map Val.k = p) (hsP : ∀ v ∈ P, qz v) (htt : tailT (F.take m) c p o n s ts = some t) (hlen : ts.length = l.length) (hvl : vs.length = l.length) (hsv : ∀ v ∈ vs, qz v)
    (hst : ∀ k (hk : k < l.length), Gives Tryz.prog 52 [frameA F time R P, l[k].av] (vs[k]'(by omega)).av)
    (hcall : o = 22 → ∀ (k : Nat) (hk : k < F.length), n = k → Gives Tryz.prog 52 [frameA F time [] vs, F[k].body.av] (call n vs).av) :
    Gives Tryz.prog 52 [frameA F time R P, (Ex.mk o n s l).av] (opV call time R P o n s vs).av := by
  unfold frameA at *
  obtain ⟨Z, hZ⟩ : ∃ Z, Z = opV call time R P o n s vs := ⟨_, rfl⟩
  rw [← hZ]
  have hcs : ∀ m k, AV.cls m (List.take k (vs.map Val.av)) := fun m k => by rw [← List.map_take]; exact Val.avs_cl _ _
  have hws : ∀ k, AV.wid (List.take k (vs.map Val.av)) 3 := fun k => by rw [← List.map_take]; exact Val.avs_wid _
  refine qn Tryz.func52 Tryz.ntmps52 rfl rfl (by decide) rfl (by intro n; simp) fun σ n0 hcl hft => ?_
  repeat' (first | ((first | ((with_reducible refine qo (fun hg => ?_) (fun hg => ?_)) <;> (try simp only [hg]) <;> (try simp only [gS] at hg) <;> (try (first | simp only [eq_false hg, gI] | simp only [eq_true hg, gI]))) | (with_reducible first | refine qf ?_ | refine qe ?_ | refine qk ?_ | refine qj ?_) | refine qc ?_ | refine qh ?_ | refine qi ?_ | refine qm ?_) <;> (try simp (disch := first | omega | simp) [qg, -qq, -qr, ho])) | ((with_reducible refine sideT ?_ ?_); first | omega | assumption | (simp; done)) | (refine qd fun K hK => ?_) | (refine qa ?_) | refine ql ?_ | ((first | refine hK _ ?_ | (clear hK K; refine hK _ ?_) | (clear hK K; clear hK K; refine hK _ ?_)); clear hK K) | refine qb ?_)
  all_goals try exact absurd (by assumption) ho
  refine qbk 5 39 3 (by simp) ?_
  simp only [List.length_append, List.length_cons, List.length_nil, Nat.zero_add, Nat.reduceAdd, List.cons_append, List.nil_append]
  refine qs hcl (fun k : Nat => [(2, .ptr n0 0), (3, .ptr (n0 + 1) 0), (4, .ptr (n0 + 2) 0), (5, .gs (n0 + 3) ((vs.take k).map Val.av)), (33, .sl (l.map Ex.av)), (34, .int l.length), (35, .int k)])
    (fun k => [.cells [.sl (F.map Fn.av), .int time, .sl (R.map Val.av), .sl (P.map Val.av)] 95, .cells [.int o, .int n, .str s, .sl (l.map Ex.av)] 25, .cells [.int 0, .int 0, .str ByteArray.empty] 39, .tail k 39 3])
    (fun k => k ≤ l.length) (fun k => l.length - k) 0 (by omega) (by simp) fun k hk => ?_
  by_cases hlt : k < l.length
  · have c1 := hst k hlt
    have hk2 : k < vs.length := by omega
    have hle : min k vs.length = k := by omega
    have htk : List.take (k + 1) (vs.map Val.av) = List.take k (vs.map Val.av) ++ [(vs[k]'hk2).av] := by rw [← List.map_take, List.take_succ_eq_append_getElem hk2, List.map_append, List.map_take]; rfl
    generalize vs[k] = v at *
    have hsz : (k + 1) * 32 ≤ 140737488355328 := by omega
    clear hst hcall hZ
    repeat' (first | ((first | ((with_reducible refine qo (fun hg => ?_) (fun hg => ?_)) <;> (try simp only [hg]) <;> (try simp only [gS] at hg) <;> (try (first | simp only [eq_false hg, gI] | simp only [eq_true hg, gI]))) | (with_reducible first | refine qf ?_ | refine qe ?_ | refine qk ?_ | refine qj ?_) | refine acall (c1) ?_ | refine qp (c1) ?_ | refine qc ?_ | refine qh ?_ | refine qi ?_ | refine qm ?_) <;> (try simp (disch := first | omega | simp) [qg, -qq, -qr, hlt, hle, hsz, hws])) | ((with_reducible refine sideT ?_ ?_); first | omega | assumption | (simp; done)) | (refine qd fun K hK => ?_) | (refine qa ?_) | refine ql ?_ | ((first | refine hK _ ?_ | (clear hK K; refine hK _ ?_) | (clear hK K; clear hK K; refine hK _ ?_)); clear hK K) | refine qb ?_)
    refine ⟨k + 1, by omega, by omega, ?_⟩
    simp [htk, hcs, hle]
  · obtain rfl : k = l.length := by omega
    rw [← hvl, List.take_length]
    clear hst
    have hlt' : ¬ vs.length < l.length := by omega
    by_cases h22 : o = 22
    · have hc := tailT_call htt h22
      obtain ⟨h0, hltm, f, hf, -⟩ := qdx hc
      have hnF := (List.getElem?_eq_some_iff.1 hf).1
      obtain ⟨k, rfl⟩ : ∃ k : Nat, n = k := ⟨n.toNat, by omega⟩
      have hk : k < F.length := by omega
      have c1 := hcall h22 k hk rfl
      have hv : Z = call k vs := by rw [hZ, h22]; rfl
      rw [← hv] at c1
      clear hv hZ hcall
      subst h22
      repeat' (first | ((first | ((with_reducible refine qo (fun hg => ?_) (fun hg => ?_)) <;> (try simp only [hg]) <;> (try simp only [gS] at hg) <;> (try (first | simp only [eq_false hg, gI] | simp only [eq_true hg, gI]))) | (with_reducible first | refine qf ?_ | refine qe ?_ | refine qk ?_ | refine qj ?_) | refine acall (c1) ?_ | refine qp (c1) ?_ | refine qc ?_ | refine qh ?_ | refine qi ?_ | refine qm ?_) <;> (try simp (disch := first | omega | simp) [qg, -qq, -qr, hlt', hk])) | ((with_reducible refine sideT ?_ ?_); first | omega | assumption | (simp; done)) | (refine qd fun K hK => ?_) | (refine qa ?_) | refine ql ?_ | ((first | refine hK _ ?_ | (clear hK K; refine hK _ ?_) | (clear hK K; clear hK K; refine hK _ ?_)); clear hK K) | refine qb ?_)
    clear hcall
    have htt2 : (if ts = [] then leafT c p o n s else operT o n ts) = some t := by
      unfold tailT at htt
      split at htt
      · cases htt
      · first | exact htt | (rw [if_neg h22] at htt; exact htt)
    by_cases hn : ts = []
    · obtain rfl : vs = [] := List.eq_nil_of_length_eq_zero (by rw [hvl, ← hlen, hn]; rfl)
      rw [if_pos hn] at htt2
      obtain ⟨hop, hop3, hop4⟩ := leaf_op htt2
      by_cases h3 : o = 3
      · obtain ⟨q1, q2, -, -⟩ := pick_fit hR (hop3 h3)
        have hz : Z = R[n.toNat] := by rw [hZ, h3, ← getD_toNat q2]; rfl
        have q3 : ¬ n < 0 := by omega
        have q4 : n < R.length := by omega
        subst h3
        repeat' (first | ((first | ((with_reducible refine qo (fun hg => ?_) (fun hg => ?_)) <;> (try simp only [hg]) <;> (try simp only [gS] at hg) <;> (try (first | simp only [eq_false hg, gI] | simp only [eq_true hg, gI]))) | (with_reducible first | refine qf ?_ | refine qe ?_ | refine qk ?_ | refine qj ?_) | refine qc ?_ | refine qh ?_ | refine qi ?_ | refine qm ?_) <;> (try simp (disch := first | omega | simp) [qg, -qq, -qr, q1, q2, q3, q4])) | ((with_reducible refine sideT ?_ ?_); first | omega | assumption | (simp; done)) | (refine qd fun K hK => ?_) | (refine qa ?_) | refine ql ?_ | ((first | refine hK _ ?_ | (clear hK K; refine hK _ ?_) | (clear hK K; clear hK K; refine hK _ ?_)); clear hK K) | refine qb ?_)
        all_goals (rw [hz])
      by_cases h4 : o = 4
      · obtain ⟨q1, q2, -, -⟩ := pick_sound hP hsP (hop4 h4)
        have hz : Z = P[n.toNat] := by rw [hZ, h4, ← getD_toNat q2]; rfl
        have q3 : ¬ n < 0 := by omega
        have q4 : n < P.length := by omega
        subst h4
        repeat' (first | ((first | ((with_reducible refine qo (fun hg => ?_) (fun hg => ?_)) <;> (try simp only [hg]) <;> (try simp only [gS] at hg) <;> (try (first | simp only [eq_false hg, gI] | simp only [eq_true hg, gI]))) | (with_reducible first | refine qf ?_ | refine qe ?_ | refine qk ?_ | refine qj ?_) | refine qc ?_ | refine qh ?_ | refine qi ?_ | refine qm ?_) <;> (try simp (disch := first | omega | simp) [qg, -qq, -qr, q1, q2, q3, q4])) | ((with_reducible refine sideT ?_ ?_); first | omega | assumption | (simp; done)) | (refine qd fun K hK => ?_) | (refine qa ?_) | refine ql ?_ | ((first | refine hK _ ?_ | (clear hK K; refine hK _ ?_) | (clear hK K; clear hK K; refine hK _ ?_)); clear hK K) | refine qb ?_)
        all_goals (rw [hz])
      repeat' (first | ((first | ((with_reducible refine qo (fun hg => ?_) (fun hg => ?_)) <;> (try simp only [hg]) <;> (try simp only [gS] at hg) <;> (try (first | simp only [eq_false hg, gI] | simp only [eq_true hg, gI]))) | (with_reducible first | refine qf ?_ | refine qe ?_ | refine qk ?_ | refine qj ?_) | refine acall (qcz _) ?_ | refine qp (qcz _) ?_ | refine acall (qcl _) ?_ | refine qp (qcl _) ?_ | refine qc ?_ | refine qh ?_ | refine qi ?_ | refine qm ?_) <;> (try simp (disch := first | omega | simp) [qg, -qq, -qr, h3, h4, h22])) | ((with_reducible refine sideT ?_ ?_); first | omega | assumption | (simp; done)) | (refine qd fun K hK => ?_) | (refine qa ?_) | refine ql ?_ | ((first | refine hK _ ?_ | (clear hK K; refine hK _ ?_) | (clear hK K; clear hK K; refine hK _ ?_)); clear hK K) | refine qb ?_)
      all_goals first
        | (exfalso; omega)
        | (rw [hZ, show o = 0 by assumption]; rfl)
        | (rw [hZ, show o = 1 by assumption]; rfl)
        | (rw [hZ, show o = 2 by assumption]; rfl)
        | (rw [hZ, show o = 5 by assumption]; rfl)
    · rw [if_neg hn] at htt2
      rcases oper_op htt2 ho with ⟨hop, hl1⟩ | ⟨hop, hop2, hl2⟩
      · obtain ⟨v, rfl⟩ : ∃ v, vs = [v] := by
          match vs, (by omega : vs.length = 1) with
          | [v], _ => exact ⟨v, rfl⟩
        have g1 : ¬ o = 0 := by omega
        have g2 : ¬ o = 1 := by omega
        have g3 : ¬ o = 2 := by omega
        have g4 : ¬ o = 3 := by omega
        have g5 : ¬ o = 4 := by omega
        have g6 : ¬ o = 5 := by omega
        repeat' (first | ((first | ((with_reducible refine qo (fun hg => ?_) (fun hg => ?_)) <;> (try simp only [hg]) <;> (try simp only [gS] at hg) <;> (try (first | simp only [eq_false hg, gI] | simp only [eq_true hg, gI]))) | (with_reducible first | refine qf ?_ | refine qe ?_ | refine qk ?_ | refine qj ?_) | refine acall (qcz _) ?_ | refine qp (qcz _) ?_ | refine acall (qcl _) ?_ | refine qp (qcl _) ?_ | refine qc ?_ | refine qh ?_ | refine qi ?_ | refine qm ?_) <;> (try simp (disch := first | omega | simp) [qg, -qq, -qr, g1, g2, g3, g4, g5, g6, h22])) | ((with_reducible refine sideT ?_ ?_); first | omega | assumption | (simp; done)) | (refine qd fun K hK => ?_) | (refine qa ?_) | refine ql ?_ | ((first | refine hK _ ?_ | (clear hK K; refine hK _ ?_) | (clear hK K; clear hK K; refine hK _ ?_)); clear hK K) | refine qb ?_)
        all_goals first
          | (exfalso; omega)
          | (rw [hZ, show o = 6 by assumption]; rfl)
          | (rw [hZ, show o = 7 by assumption, show IntKind.i64.wrap (-v.n) = wrap64 (-v.n) by rw [IntKind.wrap_i64, wrap64]]; rfl)
          | (rw [hZ, show o = 20 by assumption]; rfl)
      · obtain ⟨v, w, rfl⟩ : ∃ v w, vs = [v, w] := by
          match vs, (by omega : vs.length = 2) with
          | [v, w], _ => exact ⟨v, w, rfl⟩
        have g1 : ¬ o = 0 := by omega
        have g2 : ¬ o = 1 := by omega
        have g3 : ¬ o = 2 := by omega
        have g4 : ¬ o = 3 := by omega
        have g5 : ¬ o = 4 := by omega
        have g6 : ¬ o = 5 := by omega
        have g7 : ¬ o = 6 := by omega
        have g8 : ¬ o = 7 := by omega
        have g9 : ¬ o = 20 := by omega
        have hv1 := (hsv v (by simp)).2
        have hv2 := (hsv w (by simp)).2
        have c1 := bin_g o ⟨hop, hop2⟩ v w (by omega)
        have hz : Z = binV o v w := by
          rw [hZ]; unfold opV
          rw [if_neg g1, if_neg g2, if_neg g3, if_neg g4, if_neg g5, if_neg g6, if_neg g7, if_neg g8, if_neg g9, if_neg h22]; rfl
        rw [← hz] at c1
        have he := bin_enters o
        unfold pairA at c1
        repeat' (first | ((first | ((with_reducible refine qo (fun hg => ?_) (fun hg => ?_)) <;> (try simp only [hg]) <;> (try simp only [gS] at hg) <;> (try (first | simp only [eq_false hg, gI] | simp only [eq_true hg, gI]))) | (with_reducible first | refine qf ?_ | refine qe ?_ | refine qk ?_ | refine qj ?_) | refine acall (c1) ?_ | refine qp (c1) ?_ | refine alook (fn_upd (by rfl)) ?_ | refine aupd (fn_upd (by rfl)) ?_ | refine alook (op_look (by rfl) o ⟨hop, hop2⟩) ?_ | refine aupd (op_look (by rfl) o ⟨hop, hop2⟩) ?_ | refine qc ?_ | refine qh ?_ | refine qi ?_ | refine qm ?_) <;> (try simp (disch := first | omega | simp) [qg, -qq, -qr, g1, g2, g3, g4, g5, g6, g7, g8, g9, h22, he])) | ((with_reducible refine sideT ?_ ?_); first | omega | assumption | (simp; done)) | (refine qd fun K hK => ?_) | (refine qa ?_) | refine ql ?_ | ((first | refine hK _ ?_ | (clear hK K; refine hK _ ?_) | (clear hK K; clear hK K; refine hK _ ?_)); clear hK K) | refine qb ?_)
        all_goals try (exfalso; omega)
set_option maxHeartbeats 16000000 in
theorem eval_step_g (F : List Fn) (time : Int) (m : Nat) (hOk : ∀ i, i < F.length → okF F i = true) (hFp : ∀ f ∈ F, parts f.body ≤ 1000000)
    (hprev : ∀ m', m = m' + 1 → ∀ e, EvalG F time m' e) (e : Ex) : EvalG F time m e := by
  induction e using Ex.ind with | h o n s l ih => ?_
  by_cases ho : o = 21
  · subst ho; exact eval_if_g F time m n s l ih
  intro c p R P t ht hR hP hsP hp
  have hll : l.length ≤ 1000000 := by rw [parts] at hp; have := qbd l; omega
  obtain ⟨ts, hts, htt⟩ : ∃ ts, tys (F.take m) c p l = some ts ∧ tailT (F.take m) c p o n s ts = some t := by
    rw [ty] at ht
    cases hl : tys (F.take m) c p l with
    | none => rw [hl] at ht; cases ht
    | some ts => rw [hl] at ht; exact ⟨ts, rfl, ht⟩
  have hkinds := evs_kinds (call := callN F time m) (time := time) (row := R) (params := P) l hts (fun x hx t' h' => ev_fit time hOk m x h' hR hP hsP)
  have hlen := tysLen hts
  have hE : ev (callN F time m) time R P (.mk o n s l) = opV (callN F time m) time R P o n s (evs (callN F time m) time R P l) := by rw [ev, if_neg ho]
  have hvl : (evs (callN F time m) time R P l).length = l.length := by rw [qen, List.length_map]
  rw [hE]
  have hst : ∀ k (hk : k < l.length), Gives Tryz.prog 52 [frameA F time R P, l[k].av] ((evs (callN F time m) time R P l)[k]'(by omega)).av := fun k hk => by
    obtain ⟨t', ht'⟩ := qet _ hts l[k] (List.getElem_mem hk)
    have := ih l[k] (List.getElem_mem hk) c p R P t' ht' hR hP hsP (by rw [parts] at hp; have := qbb l l[k] (List.getElem_mem hk); omega)
    simp only [qen, List.getElem_map]
    exact this
  have hcall : o = 22 → ∀ (k : Nat) (hk : k < F.length), n = k → Gives Tryz.prog 52 [frameA F time [] (evs (callN F time m) time R P l), F[k].body.av] (callN F time m n (evs (callN F time m) time R P l)).av := fun h22 k hk hn => by
    obtain ⟨h0, hlt, f, hf, hpar, hres⟩ := qdx (tailT_call htt h22)
    obtain ⟨m', rfl⟩ : ∃ m', m = m' + 1 := ⟨m - 1, by omega⟩
    have hkn : n.toNat = k := by omega
    rw [hkn] at hf hlt
    have hfk : F[k] = f := (List.getElem?_eq_some_iff.1 hf).2
    have hb := ty_mono (m := m') (by omega) f.body (okF_body (hOk k hk) hf)
    have hv : callN F time (m' + 1) n (evs (callN F time (m' + 1)) time R P l) = ev (callN F time m') time [] (evs (callN F time (m' + 1)) time R P l) f.body := by
      simp only [callN, hkn, hf]
    rw [hv, ← hfk]
    rw [← hfk] at hb hpar
    exact hprev m' rfl F[k].body [] F[k].params [] _ _ hb (qce.nil []) (by rw [hkinds.1, hpar]) hkinds.2 (hFp _ (List.getElem_mem hk))
  exact eval_walk F time m c p R P o n t s l ts _ _ ho hll hR hP hsP htt hlen hvl hkinds.2 hst hcall
theorem eval_all_g (F : List Fn) (time : Int) (hOk : ∀ i, i < F.length → okF F i = true) (hFp : ∀ f ∈ F, parts f.body ≤ 1000000) : ∀ (m : Nat) (e : Ex), EvalG F time m e
  | 0, e => eval_step_g F time 0 hOk hFp (fun m' h => by omega) e
  | m + 1, e => eval_step_g F time (m + 1) hOk hFp (fun m' h => by
    obtain rfl : m' = m := by omega
    exact eval_all_g F time hOk hFp m') e
theorem eval_fit_g (F : List Fn) (time : Int) (R : List Val) (e : Ex) (t : Int) (hOk : ∀ i, i < F.length → okF F i = true) (hFp : ∀ f ∈ F, parts f.body ≤ 1000000) (hpb : parts e ≤ 1000000) {c : List Int} (ht : ty F c [] e = some t) (hR : qce c R) :
    Gives Tryz.prog 17 [.sl (F.map Fn.av), e.av, .int time, .sl (R.map Val.av)] (evalP F time R e).av := by
  have c := eval_all_g F time hOk hFp F.length e c [] R [] t (by rw [List.take_length]; exact ht) hR rfl (by simp) hpb
  unfold frameA at c
  have e1 : ev (callN F time F.length) time R [] e = evalP F time R e := rfl
  rw [e1] at c
  generalize evalP F time R e = Z at *
  refine qn Tryz.func17 Tryz.ntmps17 rfl rfl (by decide) rfl (by intro n; simp) fun σ n0 hcl hft => ?_
  repeat' (first | ((first | ((with_reducible refine qo (fun hg => ?_) (fun hg => ?_)) <;> (try simp only [hg]) <;> (try simp only [gS] at hg) <;> (try (first | simp only [eq_false hg, gI] | simp only [eq_true hg, gI]))) | (with_reducible first | refine qf ?_ | refine qe ?_ | refine qk ?_ | refine qj ?_) | refine acall (c) ?_ | refine qp (c) ?_ | refine qc ?_ | refine qh ?_ | refine qi ?_ | refine qm ?_) <;> (try simp (disch := first | omega | simp) [qg, -qq, -qr])) | ((with_reducible refine sideT ?_ ?_); first | omega | assumption | (simp; done)) | (refine qd fun K hK => ?_) | (refine qa ?_) | refine ql ?_ | ((first | refine hK _ ?_ | (clear hK K; refine hK _ ?_) | (clear hK K; clear hK K; refine hK _ ?_)); clear hK K) | refine qb ?_)
end Go.Proofs.YtnkimlkoijfcpaaGreatDoor

/- The contract of Eval, as an abstract one. -/
namespace Go.Proofs.YtnkimlkoijfcpaaGreatDoor
end Go.Proofs.YtnkimlkoijfcpaaGreatDoor
