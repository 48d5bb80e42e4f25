/- Walks of the laws of layer 26: the bounds. -/
import Derived.Test.YtnkakofcejkhiaaDoorGc6
import Derived.Test.YtnkakofcejkhiaaDoorGc15
import Derived.Test.YtnkakofcejkhiaaDoorGc18
import Derived.Test.YtnkakofcejkhiaaDoorGc19
import Derived.Test.YtnkakofcejkhiaaDoorGc21
import Derived.Test.YtnkakofcejkhiaaDoorGc22
import Derived.Test.YtnkakofcejkhiaaDoorGc24
import Derived.Test.YtnkakofcejkhiaaDoorGc27
set_option linter.unusedSimpArgs false
set_option linter.unusedVariables false
namespace Go.Proofs.YtnkakofcejkhiaaDoor
open Go.RowKit Go.Lib
def slimP (e : Ex) : Bool := decide (levels e ≤ 20) && decide (parts e ≤ 300)
def fnB (f : Fn) : Bool := slimP f.body && decide (f.params.length ≤ 20)
def light26 (F : List Fn) (cols : List Int) (e : Ex) : Bool := F.all fnB && (decide (F.length ≤ 25) && decide (cols.length ≤ 30) && slimP e)
theorem slim26_g (e : Ex) (hp : parts e ≤ 1000000) : Gives Tryd.prog 50 [e.av] (.bool (slimP e)) := by
  have h1 := qdp e
  have c1 := rlevels_g e (by omega)
  have c2 := rparts_g e hp
  obtain ⟨R, hR⟩ : ∃ R, R = slimP e := ⟨_, rfl⟩
  rw [← hR]
  unfold slimP at hR
  refine qn Tryd.func50 Tryd.ntmps50 rfl rfl (by decide) rfl (by intro n; simp) fun σ n0 hcl hft => ?_
  repeat' (first | ((first | ((with_reducible refine qo (fun hg => ?_) (fun hg => ?_)) <;> (try simp only [hg]) <;> (try simp only [gS] at hg) <;> (try (first | simp only [eq_false hg, gI] | simp only [eq_true hg, gI]))) | (with_reducible first | refine qh ?_ | refine qg ?_ | refine ql ?_ | refine qk ?_) | refine acall (c1) ?_ | refine qq (c1) ?_ | refine qp (c1) ?_ | refine acall (c2) ?_ | refine qq (c2) ?_ | refine qp (c2) ?_ | refine qd ?_ | refine qi ?_ | refine qj ?_ | refine qm ?_) <;> (try simp (disch := first | omega | simp) [qf, -qr, -qw])) | ((with_reducible refine sideT ?_ ?_); first | omega | assumption | (simp; done)) | (refine qe fun K hK => ?_) | (refine qa ?_) | (refine qb true (by kernel_rfl) (by kernel_rfl) ?_) | (refine qb false (by kernel_rfl) (by kernel_rfl) ?_) | (refine hK _ ?_; clear hK K) | (clear hK K; refine hK _ ?_; clear hK K) | (clear hK K; clear hK K; refine hK _ ?_; clear hK K) | refine qc ?_)
  all_goals (rw [hR]; simp_all; try omega)
theorem light26_g (F : List Fn) (cols : List Int) (e : Ex) (hlF : F.length ≤ 2000000) (hF : ∀ f ∈ F, parts f.body ≤ 1000000) (hp : parts e ≤ 1000000) : Gives Tryd.prog 24 [.sl (F.map Fn.av), .sl (cols.map AV.int), e.av] (.bool (light26 F cols e)) := by
  have c2 := slim26_g e hp
  obtain ⟨R, hR⟩ : ∃ R, R = light26 F cols e := ⟨_, rfl⟩
  rw [← hR]
  unfold light26 at hR
  refine qn Tryd.func24 Tryd.ntmps24 rfl rfl (by decide) rfl (by intro n; simp) fun σ n0 hcl hft => ?_
  repeat' (first | ((first | ((with_reducible refine qo (fun hg => ?_) (fun hg => ?_)) <;> (try simp only [hg]) <;> (try simp only [gS] at hg) <;> (try (first | simp only [eq_false hg, gI] | simp only [eq_true hg, gI]))) | (with_reducible first | refine qh ?_ | refine qg ?_ | refine ql ?_ | refine qk ?_) | refine qd ?_ | refine qi ?_ | refine qj ?_ | refine qm ?_) <;> (try simp (disch := first | omega | simp) [qf, -qr, -qw])) | ((with_reducible refine sideT ?_ ?_); first | omega | assumption | (simp; done)) | (refine qe fun K hK => ?_) | (refine qa ?_) | (refine qb true (by kernel_rfl) (by kernel_rfl) ?_) | (refine qb false (by kernel_rfl) (by kernel_rfl) ?_) | (refine hK _ ?_; clear hK K) | (clear hK K; refine hK _ ?_; clear hK K) | (clear hK K; clear hK K; refine hK _ ?_; clear hK K) | refine qc ?_)
  refine qx hcl (fun k : Nat => [(0, .sl (F.map Fn.av)), (1, .sl (cols.map AV.int)), (5, .ptr n0 0), (7, .int k)]) (fun _ => [.cells [.int e.op, .int e.n, .str e.s, .sl (e.args.map Ex.av)] 52])
    (fun k => k ≤ F.length ∧ ∀ j (h : j < F.length), j < k → fnB F[j] = true) (fun k => F.length - k) 0 (by simp) (by simp) fun k ⟨hk, he⟩ => ?_
  by_cases hlt : k < F.length
  · have c1 := slim26_g F[k].body (hF _ (List.getElem_mem hlt))
    cases hb : fnB F[k] with
    | true =>
      have hb2 := hb
      unfold fnB at hb2
      simp only [Bool.and_eq_true, decide_eq_true_eq] at hb2
      rw [hb2.1] at c1
      have hp20 : ¬ (20 : Int) < F[k].params.length := by omega
      repeat' (first | ((first | ((with_reducible refine qo (fun hg => ?_) (fun hg => ?_)) <;> (try simp only [hg]) <;> (try simp only [gS] at hg) <;> (try (first | simp only [eq_false hg, gI] | simp only [eq_true hg, gI]))) | (with_reducible first | refine qh ?_ | refine qg ?_ | refine ql ?_ | refine qk ?_) | refine acall (c1) ?_ | refine qq (c1) ?_ | refine qp (c1) ?_ | refine qd ?_ | refine qi ?_ | refine qj ?_ | refine qm ?_) <;> (try simp (disch := first | omega | simp) [qf, -qr, -qw, hlt, hp20])) | ((with_reducible refine sideT ?_ ?_); first | omega | assumption | (simp; done)) | (refine qe fun K hK => ?_) | (refine qa ?_) | (refine qb true (by kernel_rfl) (by kernel_rfl) ?_) | (refine qb false (by kernel_rfl) (by kernel_rfl) ?_) | (refine hK _ ?_; clear hK K) | (clear hK K; refine hK _ ?_; clear hK K) | (clear hK K; clear hK K; refine hK _ ?_; clear hK K) | refine qc ?_)
      all_goals first | (exfalso; omega) | exact ⟨k + 1, ⟨by omega, upto_succ (C := fun f : Fn => fnB f = true) he fun _ => hb⟩, by omega, by simp⟩
    | false =>
      have hR0 : R = false := by rw [hR, all_hit hlt hb, Bool.false_and]
      unfold fnB at hb
      cases hs : slimP F[k].body with
      | true =>
        rw [hs] at c1 hb
        have hp20 : (20 : Int) < F[k].params.length := by simp at hb; omega
        repeat' (first | ((first | ((with_reducible refine qo (fun hg => ?_) (fun hg => ?_)) <;> (try simp only [hg]) <;> (try simp only [gS] at hg) <;> (try (first | simp only [eq_false hg, gI] | simp only [eq_true hg, gI]))) | (with_reducible first | refine qh ?_ | refine qg ?_ | refine ql ?_ | refine qk ?_) | refine acall (c1) ?_ | refine qq (c1) ?_ | refine qp (c1) ?_ | refine qd ?_ | refine qi ?_ | refine qj ?_ | refine qm ?_) <;> (try simp (disch := first | omega | simp) [qf, -qr, -qw, hlt, hp20])) | ((with_reducible refine sideT ?_ ?_); first | omega | assumption | (simp; done)) | (refine qe fun K hK => ?_) | (refine qa ?_) | (refine qb true (by kernel_rfl) (by kernel_rfl) ?_) | (refine qb false (by kernel_rfl) (by kernel_rfl) ?_) | (refine hK _ ?_; clear hK K) | (clear hK K; refine hK _ ?_; clear hK K) | (clear hK K; clear hK K; refine hK _ ?_; clear hK K) | refine qc ?_)
        all_goals first | (exfalso; omega) | exact hR0.symm | (rw [hR0]; done)
      | false =>
        rw [hs] at c1
        repeat' (first | ((first | ((with_reducible refine qo (fun hg => ?_) (fun hg => ?_)) <;> (try simp only [hg]) <;> (try simp only [gS] at hg) <;> (try (first | simp only [eq_false hg, gI] | simp only [eq_true hg, gI]))) | (with_reducible first | refine qh ?_ | refine qg ?_ | refine ql ?_ | refine qk ?_) | refine acall (c1) ?_ | refine qq (c1) ?_ | refine qp (c1) ?_ | refine qd ?_ | refine qi ?_ | refine qj ?_ | refine qm ?_) <;> (try simp (disch := first | omega | simp) [qf, -qr, -qw, hlt])) | ((with_reducible refine sideT ?_ ?_); first | omega | assumption | (simp; done)) | (refine qe fun K hK => ?_) | (refine qa ?_) | (refine qb true (by kernel_rfl) (by kernel_rfl) ?_) | (refine qb false (by kernel_rfl) (by kernel_rfl) ?_) | (refine hK _ ?_; clear hK K) | (clear hK K; refine hK _ ?_; clear hK K) | (clear hK K; clear hK K; refine hK _ ?_; clear hK K) | refine qc ?_)
        all_goals first | exact hR0.symm | (rw [hR0]; done)
  · obtain rfl : k = F.length := by omega
    have hall : F.all fnB = true := all_end fun j h => he j h (by omega)
    rw [hall, Bool.true_and] at hR
    repeat' (first | ((first | ((with_reducible refine qo (fun hg => ?_) (fun hg => ?_)) <;> (try simp only [hg]) <;> (try simp only [gS] at hg) <;> (try (first | simp only [eq_false hg, gI] | simp only [eq_true hg, gI]))) | (with_reducible first | refine qh ?_ | refine qg ?_ | refine ql ?_ | refine qk ?_) | refine acall (c2) ?_ | refine qq (c2) ?_ | refine qp (c2) ?_ | refine qd ?_ | refine qi ?_ | refine qj ?_ | refine qm ?_) <;> (try simp (disch := first | omega | simp) [qf, -qr, -qw, hlt])) | ((with_reducible refine sideT ?_ ?_); first | omega | assumption | (simp; done)) | (refine qe fun K hK => ?_) | (refine qa ?_) | (refine qb true (by kernel_rfl) (by kernel_rfl) ?_) | (refine qb false (by kernel_rfl) (by kernel_rfl) ?_) | (refine hK _ ?_; clear hK K) | (clear hK K; refine hK _ ?_; clear hK K) | (clear hK K; clear hK K; refine hK _ ?_; clear hK K) | refine qc ?_)
    all_goals (rw [hR]; simp_all; try omega)
def fits26 (cols : List Int) (row : List Val) : Bool := row.all rightV && decide (row.map Val.k = cols)
theorem fits26_fit {cols : List Int} {r : List Val} (h : fits26 cols r = true) : qbn cols r ∧ r.map Val.k = cols ∧ ∀ v ∈ r, qbc v := by
  unfold fits26 at h
  simp only [Bool.and_eq_true, decide_eq_true_eq, List.all_eq_true] at h
  have hs := fun v hv => rightV_sound (h.1 v hv)
  refine ⟨?_, h.2, hs⟩
  rw [← h.2]; exact qbn.of hs
set_option maxHeartbeats 4000000 in
theorem fits26_g (row : List Val) (cols : List Int) (hr : row.length ≤ 1000000) : Gives Tryd.prog 26 [.sl (row.map Val.av), .sl (cols.map AV.int)] (.bool (fits26 cols row)) := by
  obtain ⟨R, hR⟩ : ∃ R, R = fits26 cols row := ⟨_, rfl⟩
  rw [← hR]
  unfold fits26 at hR
  by_cases hlen : row.length = cols.length
  · have hlenI : (row.length : Int) = cols.length := by omega
    have hlenB : ((row.length : Int) != cols.length) = false := by simp [hlenI]
    refine qn Tryd.func26 Tryd.ntmps26 rfl rfl (by decide) rfl (by intro n; simp) fun σ n0 hcl hft => ?_
    repeat' (first | ((first | ((with_reducible refine qo (fun hg => ?_) (fun hg => ?_)) <;> (try simp only [hg]) <;> (try simp only [gS] at hg) <;> (try (first | simp only [eq_false hg, gI] | simp only [eq_true hg, gI]))) | (with_reducible first | refine qh ?_ | refine qg ?_ | refine ql ?_ | refine qk ?_) | refine qd ?_ | refine qi ?_ | refine qj ?_ | refine qm ?_) <;> (try simp (disch := first | omega | simp) [qf, -qr, -qw, hlenI, hlenB])) | ((with_reducible refine sideT ?_ ?_); first | omega | assumption | (simp; done)) | (refine qe fun K hK => ?_) | (refine qa ?_) | (refine qb true (by kernel_rfl) (by kernel_rfl) ?_) | (refine qb false (by kernel_rfl) (by kernel_rfl) ?_) | (refine hK _ ?_; clear hK K) | (clear hK K; refine hK _ ?_; clear hK K) | (clear hK K; clear hK K; refine hK _ ?_; clear hK K) | refine qc ?_)
    refine qx hcl (fun k : Nat => [(0, .sl (row.map Val.av)), (1, .sl (cols.map AV.int)), (5, .int k)]) (fun _ => [])
      (fun k => k ≤ row.length ∧ ∀ j (h : j < row.length) (h2 : j < cols.length), j < k → rightV row[j] = true ∧ row[j].k = cols[j]) (fun k => row.length - k) 0 (by simp) (by simp) fun k ⟨hk, he⟩ => ?_
    by_cases hlt : k < row.length
    · have hlt2 : k < cols.length := by omega
      have c1 := vright_g row[k]
      by_cases hkk : row[k].k = cols[k]
      · have hkb : (row[k].k != cols[k]) = false := by simp [hkk]
        cases hb : rightV row[k] with
        | true =>
          rw [hb] at c1
          repeat' (first | ((first | ((with_reducible refine qo (fun hg => ?_) (fun hg => ?_)) <;> (try simp only [hg]) <;> (try simp only [gS] at hg) <;> (try (first | simp only [eq_false hg, gI] | simp only [eq_true hg, gI]))) | (with_reducible first | refine qh ?_ | refine qg ?_ | refine ql ?_ | refine qk ?_) | refine acall (c1) ?_ | refine qq (c1) ?_ | refine qp (c1) ?_ | refine qd ?_ | refine qi ?_ | refine qj ?_ | refine qm ?_) <;> (try simp (disch := first | omega | simp) [qf, -qr, -qw, hlt, hlt2, hkk, hkb])) | ((with_reducible refine sideT ?_ ?_); first | omega | assumption | (simp; done)) | (refine qe fun K hK => ?_) | (refine qa ?_) | (refine qb true (by kernel_rfl) (by kernel_rfl) ?_) | (refine qb false (by kernel_rfl) (by kernel_rfl) ?_) | (refine hK _ ?_; clear hK K) | (clear hK K; refine hK _ ?_; clear hK K) | (clear hK K; clear hK K; refine hK _ ?_; clear hK K) | refine qc ?_)
          exact ⟨k + 1, ⟨by omega, fun j h h2 hj => by
            by_cases hjk : j = k
            · subst hjk; exact ⟨hb, hkk⟩
            · exact he j h h2 (by omega)⟩, by omega, by omega⟩
        | false =>
          have hR0 : R = false := by rw [hR, all_hit hlt hb, Bool.false_and]
          rw [hb] at c1
          repeat' (first | ((first | ((with_reducible refine qo (fun hg => ?_) (fun hg => ?_)) <;> (try simp only [hg]) <;> (try simp only [gS] at hg) <;> (try (first | simp only [eq_false hg, gI] | simp only [eq_true hg, gI]))) | (with_reducible first | refine qh ?_ | refine qg ?_ | refine ql ?_ | refine qk ?_) | refine acall (c1) ?_ | refine qq (c1) ?_ | refine qp (c1) ?_ | refine qd ?_ | refine qi ?_ | refine qj ?_ | refine qm ?_) <;> (try simp (disch := first | omega | simp) [qf, -qr, -qw, hlt, hlt2, hkk, hkb])) | ((with_reducible refine sideT ?_ ?_); first | omega | assumption | (simp; done)) | (refine qe fun K hK => ?_) | (refine qa ?_) | (refine qb true (by kernel_rfl) (by kernel_rfl) ?_) | (refine qb false (by kernel_rfl) (by kernel_rfl) ?_) | (refine hK _ ?_; clear hK K) | (clear hK K; refine hK _ ?_; clear hK K) | (clear hK K; clear hK K; refine hK _ ?_; clear hK K) | refine qc ?_)
          all_goals exact hR0
      · have hkb : (row[k].k != cols[k]) = true := by simp [hkk]
        have hR0 : R = false := by
          rw [hR, Bool.and_eq_false_iff]; right
          refine decide_eq_false fun e => hkk ?_
          subst e; simp
        repeat' (first | ((first | ((with_reducible refine qo (fun hg => ?_) (fun hg => ?_)) <;> (try simp only [hg]) <;> (try simp only [gS] at hg) <;> (try (first | simp only [eq_false hg, gI] | simp only [eq_true hg, gI]))) | (with_reducible first | refine qh ?_ | refine qg ?_ | refine ql ?_ | refine qk ?_) | refine qd ?_ | refine qi ?_ | refine qj ?_ | refine qm ?_) <;> (try simp (disch := first | omega | simp) [qf, -qr, -qw, hlt, hlt2, hkb])) | ((with_reducible refine sideT ?_ ?_); first | omega | assumption | (simp; done)) | (refine qe fun K hK => ?_) | (refine qa ?_) | (refine qb true (by kernel_rfl) (by kernel_rfl) ?_) | (refine qb false (by kernel_rfl) (by kernel_rfl) ?_) | (refine hK _ ?_; clear hK K) | (clear hK K; refine hK _ ?_; clear hK K) | (clear hK K; clear hK K; refine hK _ ?_; clear hK K) | refine qc ?_)
        all_goals exact hR0
    · have hR1 : R = true := by
        rw [hR, all_end fun j h => (he j h (by omega) (by omega)).1, Bool.true_and]
        refine decide_eq_true (List.ext_getElem (by simpa using hlen) fun i h1 h2 => ?_)
        rw [List.getElem_map]; exact (he i (by simpa using h1) h2 (by simp at h1; omega)).2
      repeat' (first | ((first | ((with_reducible refine qo (fun hg => ?_) (fun hg => ?_)) <;> (try simp only [hg]) <;> (try simp only [gS] at hg) <;> (try (first | simp only [eq_false hg, gI] | simp only [eq_true hg, gI]))) | (with_reducible first | refine qh ?_ | refine qg ?_ | refine ql ?_ | refine qk ?_) | refine qd ?_ | refine qi ?_ | refine qj ?_ | refine qm ?_) <;> (try simp (disch := first | omega | simp) [qf, -qr, -qw, hlt])) | ((with_reducible refine sideT ?_ ?_); first | omega | assumption | (simp; done)) | (refine qe fun K hK => ?_) | (refine qa ?_) | (refine qb true (by kernel_rfl) (by kernel_rfl) ?_) | (refine qb false (by kernel_rfl) (by kernel_rfl) ?_) | (refine hK _ ?_; clear hK K) | (clear hK K; refine hK _ ?_; clear hK K) | (clear hK K; clear hK K; refine hK _ ?_; clear hK K) | refine qc ?_)
      all_goals (rw [hR1]; done)
  · have hlenI : ¬ (row.length : Int) = cols.length := by omega
    have hR0 : R = false := by
      rw [hR, Bool.and_eq_false_iff]; right
      refine decide_eq_false fun e => hlen ?_
      subst e; simp
    refine qn Tryd.func26 Tryd.ntmps26 rfl rfl (by decide) rfl (by intro n; simp) fun σ n0 hcl hft => ?_
    repeat' (first | ((first | ((with_reducible refine qo (fun hg => ?_) (fun hg => ?_)) <;> (try simp only [hg]) <;> (try simp only [gS] at hg) <;> (try (first | simp only [eq_false hg, gI] | simp only [eq_true hg, gI]))) | (with_reducible first | refine qh ?_ | refine qg ?_ | refine ql ?_ | refine qk ?_) | refine qd ?_ | refine qi ?_ | refine qj ?_ | refine qm ?_) <;> (try simp (disch := first | omega | simp) [qf, -qr, -qw, hlenI])) | ((with_reducible refine sideT ?_ ?_); first | omega | assumption | (simp; done)) | (refine qe fun K hK => ?_) | (refine qa ?_) | (refine qb true (by kernel_rfl) (by kernel_rfl) ?_) | (refine qb false (by kernel_rfl) (by kernel_rfl) ?_) | (refine hK _ ?_; clear hK K) | (clear hK K; refine hK _ ?_; clear hK K) | (clear hK K; clear hK K; refine hK _ ?_; clear hK K) | refine qc ?_)
    all_goals first | exact absurd (by assumption) hlenI | (rw [hR0]; done)
end Go.Proofs.YtnkakofcejkhiaaDoor

/- Layer 26 on plain data: Compact keeps the type of the result. -/
namespace Go.Proofs.YtnkakofcejkhiaaDoor
open Go.RowKit Go.Lib
theorem last_keep : ∀ (l : List Ins) (i0 : Nat) (last : List Nat) (r : Nat), (∀ j (h : j < l.length), l[j].to.toNat ≠ r) → (lastL l i0 last).getD r 0 = last.getD r 0
  | [], _, _, _, _ => rfl
  | y :: l, k, last, r, h => by
    rw [lastL, last_keep l _ _ _ fun j hj => h (j + 1) (by simpa using hj), qy, if_neg (fun e => h 0 (by simp) e.1)]
theorem last_to : ∀ (l : List Ins) (i0 : Nat) (last : List Nat) (r : Nat), r < last.length → (∃ i, ∃ h : i < l.length, l[i].to.toNat = r) → ∃ j, ∃ h : j < l.length, (lastL l i0 last).getD r 0 = i0 + j ∧ l[j].to.toNat = r
  | [], _, _, _, _, ⟨_, h, _⟩ => absurd h (by simp)
  | x :: l, i0, last, r, hr, ⟨i, hi, he⟩ => by
    by_cases hex : ∃ i, ∃ h : i < l.length, l[i].to.toNat = r
    · obtain ⟨j, hj, h1, h2⟩ := last_to l (i0 + 1) (last.set x.to.toNat i0) r (by simpa using hr) hex
      exact ⟨j + 1, by simpa using hj, by rw [lastL, h1]; omega, by simpa using h2⟩
    · have hx : x.to.toNat = r := by
        cases i with
        | zero => simpa using he
        | succ i => exact absurd ⟨i, by simpa using hi, by simpa using he⟩ hex
      refine ⟨0, by simp, ?_, by simpa using hx⟩
      rw [lastL, last_keep l _ _ _ fun j hj e => hex ⟨j, hj, e⟩, qy, if_pos ⟨hx, by rw [hx]; exact hr⟩]; rfl
theorem done_some26 : ∀ (l : List Ins) (done : List Bool) (r : Nat), (doneL l done).getD r false = true → done.getD r false = false → ∃ i, ∃ h : i < l.length, l[i].to.toNat = r
  | [], done, r, h1, h2 => by rw [doneL] at h1; rw [h1] at h2; cases h2
  | x :: l, done, r, h1, h2 => by
    by_cases hx : x.to.toNat = r
    · exact ⟨0, by simp, hx⟩
    · rw [doneL] at h1
      obtain ⟨i, hi, h⟩ := done_some26 l _ r h1 (by rw [qy, if_neg (fun e => hx e.1)]; exact h2)
      exact ⟨i + 1, by simpa using hi, h⟩
theorem nodes_x : ∀ (l : List Ins) (i : Nat) (last : List Nat) (k : Nat), ((nodes l i last)[k]?).map Nd.x = l[k]?
  | [], _, _, k => by rw [nodes]; simp
  | x :: l, i, last, 0 => by rw [nodes]; rfl
  | x :: l, i, last, k + 1 => by rw [nodes, List.getElem?_cons_succ, List.getElem?_cons_succ, nodes_x l]
theorem root_to {c : Cod} {cols : List Int} (h : CodOk c cols) : ∃ d, (qba c)[rootC c]? = some d ∧ d.x.to.toNat = c.out.toNat := by
  have o0 := h.out0
  have o1 := h.out1
  obtain ⟨j, hj, h1, h2⟩ := last_to c.ins 0 (List.replicate c.types.length 0) c.out.toNat (by simp; omega) (done_some26 c.ins _ _ h.out2 (by rw [List.getD_eq_getElem?_getD, List.getElem?_replicate]; split <;> rfl))
  have hr : rootC c = j := by unfold rootC; rw [h1]; omega
  have hx := nodes_x c.ins 0 (List.replicate c.types.length 0) j
  rw [List.getElem?_eq_getElem hj] at hx
  rw [hr]
  cases hd : (qba c)[j]? with
  | none => unfold qba at hd; rw [hd] at hx; cases hx
  | some d =>
    unfold qba at hd
    rw [hd] at hx
    have hx2 : d.x = c.ins[j] := Option.some.inj hx
    exact ⟨d, rfl, by rw [hx2]; exact h2⟩
theorem comp_type {c : Cod} {cols : List Int} (h : CodOk c cols) : (compP c).types.getD (compP c).out.toNat 0 = c.types.getD c.out.toNat 0 := by
  obtain ⟨h1, -, -, h4, h5, -⟩ := comp_all_ok h 0 []
  obtain ⟨ht, -, -⟩ := trim_ok h 0 []
  obtain ⟨a, ha, ha2⟩ := root_to h1
  obtain ⟨b, hb, hb2⟩ := root_to ht
  have hk : ((qba (compP c)).map (keyN (compP c).types))[rootC (compP c)]? = ((qba (trimP c)).map (keyN (trimP c).types))[rootC (trimP c)]? := by rw [h5, h4]
  rw [List.getElem?_map, List.getElem?_map, ha, hb] at hk
  have hk2 := Option.some.inj hk
  unfold keyN at hk2
  simp only [Prod.mk.injEq] at hk2
  rw [ha2, hb2] at hk2
  exact hk2.2.2.2.2
theorem comp_typ {cols : List Int} {f : Ex} (h : TypE cols f) (hp : parts f ≤ 1000) : CodOk (compP (rawP cols f)) cols ∧ (∀ time row, valC (compP (rawP cols f)) time row = ev (fun _ _ => zeroV) time row [] f) ∧ (compP (rawP cols f)).types.getD (compP (rawP cols f)).out.toNat 0 = typE cols f := by
  obtain ⟨h1, h2, h3⟩ := raw_ok h hp
  refine ⟨(comp_ok h1 0 []).1, fun time row => ?_, by rw [comp_type h1]; exact h3⟩
  rw [(comp_ok h1 time row).2.1, h2]
end Go.Proofs.YtnkakofcejkhiaaDoor

/- Walk of layer 25: whether an instruction is formed. -/
namespace Go.Proofs.YtnkakofcejkhiaaDoor
open Go.RowKit Go.Lib
theorem bare_same (x : Ins) : Ins.eqB (bareI x) x = true ↔ (3 ≤ arO x.op ∨ x.c = 0) ∧ (2 ≤ arO x.op ∨ x.b = 0) ∧ (1 ≤ arO x.op ∨ x.a = 0) ∧ ((x.op = 0 ∨ x.op = 2 ∨ x.op = 3) ∨ x.n = 0) ∧ (x.op = 1 ∨ x.s.size = 0) := by
  rw [Ins.eqB_iff]
  obtain ⟨o, to, a, b, c, n, s⟩ := x
  unfold bareI
  simp only [Ins.mk.injEq, true_and]
  have hs : (if o = 1 then s else ByteArray.empty) = s ↔ (o = 1 ∨ s.size = 0) := by
    split
    · rename_i h; exact ⟨fun _ => .inl h, fun _ => rfl⟩
    · rename_i h
      exact ⟨fun e => .inr (by rw [← e]; rfl), fun e => by rcases e with e | e; exact absurd e h; exact (size_empty e).symm⟩
  rw [hs]
  have hi : ∀ (p : Prop) [Decidable p] (v : Int), (if p then v else 0) = v ↔ (p ∨ v = 0) := fun p _ v => by
    split
    · rename_i h; exact ⟨fun _ => .inl h, fun _ => rfl⟩
    · rename_i h; exact ⟨fun e => .inr e.symm, fun e => e.elim (fun e => absurd e h) fun e => e.symm⟩
  rw [hi, hi, hi, hi]
  constructor
  · rintro ⟨h1, h2, h3, h4, h5⟩; exact ⟨h3, h2, h1, h4, h5⟩
  · rintro ⟨h1, h2, h3, h4, h5⟩; exact ⟨h3, h2, h1, h4, h5⟩
theorem formed_is (x : Ins) : qcf x = (opOk x.op && (Ins.eqB (bareI x) x && (decide ((x.s.size : Int) ≤ 200) && decide (x.op = 2 → x.n = 0 ∨ x.n = 1)))) := by
  have h := bare_same x
  have hle := arO_le x.op
  unfold qcf
  cases ho : opOk x.op
  · rfl
  rw [Bool.true_and, Bool.true_and, Bool.eq_iff_iff]
  simp only [Bool.and_eq_true, h, decide_eq_true_eq]
  by_cases h0 : x.op = 0 ∨ x.op = 3
  · rw [if_pos h0]
    simp only [decide_eq_true_eq]
    omega
  · rw [if_neg h0]
    by_cases h2 : x.op = 2
    · rw [if_pos h2]
      simp only [Bool.and_eq_true, decide_eq_true_eq]
      omega
    · rw [if_neg h2]
      by_cases h1 : x.op = 1
      · rw [if_pos h1]
        simp only [Bool.and_eq_true, decide_eq_true_eq]
        omega
      · rw [if_neg h1]
        simp only [Bool.and_eq_true, decide_eq_true_eq]
        omega
set_option maxHeartbeats 1000000 in
theorem formed_g (x : Ins) : Gives Tryd.prog 63 [x.av] (.bool (qcf x)) := by
  have c1 := isOp_g x.op
  have c2 := bare_g x
  obtain ⟨R, hR⟩ : ∃ R, R = qcf x := ⟨_, rfl⟩
  rw [← hR]
  rw [formed_is] at hR
  generalize opOk x.op = b at *
  cases b
  · refine qn Tryd.func63 Tryd.ntmps63 rfl rfl (by decide) rfl (by intro n; simp) fun σ n0 hcl hft => ?_
    repeat' (first | ((first | ((with_reducible refine qo (fun hg => ?_) (fun hg => ?_)) <;> (try simp only [hg]) <;> (try simp only [gS] at hg) <;> (try (first | simp only [eq_false hg, gI] | simp only [eq_true hg, gI]))) | (with_reducible first | refine qh ?_ | refine qg ?_ | refine ql ?_ | refine qk ?_) | refine acall (c1) ?_ | refine qq (c1) ?_ | refine qd ?_ | refine qi ?_ | refine qj ?_ | refine qm ?_) <;> (try simp (disch := first | omega | simp) [qf, -qr, -qw])) | ((with_reducible refine sideT ?_ ?_); first | omega | assumption | (simp; done)) | (refine qe fun K hK => ?_) | (refine qa ?_) | (refine qb true (by kernel_rfl) (by kernel_rfl) ?_) | (refine hK _ ?_; clear hK K) | (clear hK K; refine hK _ ?_; clear hK K) | (clear hK K; clear hK K; refine hK _ ?_; clear hK K) | refine qc ?_)
    all_goals (subst hR; simp_all)
  generalize bareI x = y at *
  cases hy : Ins.eqB y x
  · rw [hy] at hR
    refine qn Tryd.func63 Tryd.ntmps63 rfl rfl (by decide) rfl (by intro n; simp) fun σ n0 hcl hft => ?_
    repeat' (first | ((first | ((with_reducible refine qo (fun hg => ?_) (fun hg => ?_)) <;> (try simp only [hg]) <;> (try simp only [gS] at hg) <;> (try (first | simp only [eq_false hg, gI] | simp only [eq_true hg, gI]))) | (with_reducible first | refine qh ?_ | refine qg ?_ | refine ql ?_ | refine qk ?_) | refine acall (c1) ?_ | refine qq (c1) ?_ | refine acall (c2) ?_ | refine qq (c2) ?_ | refine qd ?_ | refine qi ?_ | refine qj ?_ | refine qm ?_) <;> (try simp (disch := first | omega | simp) [qf, -qr, -qw, hy])) | ((with_reducible refine sideT ?_ ?_); first | omega | assumption | (simp; done)) | (refine qe fun K hK => ?_) | (refine qa ?_) | (refine qb true (by kernel_rfl) (by kernel_rfl) ?_) | (refine hK _ ?_; clear hK K) | (clear hK K; refine hK _ ?_; clear hK K) | (clear hK K; clear hK K; refine hK _ ?_; clear hK K) | refine qc ?_)
    all_goals (subst hR; simp_all)
  rw [hy] at hR
  by_cases hs : (x.s.size : Int) ≤ 200
  · have hsh : ((x.n).fdiv 2 = 0) ↔ (x.n = 0 ∨ x.n = 1) := by
      rw [Int.fdiv_eq_ediv_of_nonneg _ (by omega)]
      omega
    refine qn Tryd.func63 Tryd.ntmps63 rfl rfl (by decide) rfl (by intro n; simp) fun σ n0 hcl hft => ?_
    repeat' (first | ((first | ((with_reducible refine qo (fun hg => ?_) (fun hg => ?_)) <;> (try simp only [hg]) <;> (try simp only [gS] at hg) <;> (try (first | simp only [eq_false hg, gI] | simp only [eq_true hg, gI]))) | (with_reducible first | refine qh ?_ | refine qg ?_ | refine ql ?_ | refine qk ?_) | refine acall (c1) ?_ | refine qq (c1) ?_ | refine acall (c2) ?_ | refine qq (c2) ?_ | refine qd ?_ | refine qi ?_ | refine qj ?_ | refine qm ?_) <;> (try simp (disch := first | omega | simp) [qf, -qr, -qw, hy, hs])) | ((with_reducible refine sideT ?_ ?_); first | omega | assumption | (simp; done)) | (refine qe fun K hK => ?_) | (refine qa ?_) | (refine qb true (by kernel_rfl) (by kernel_rfl) ?_) | (refine hK _ ?_; clear hK K) | (clear hK K; refine hK _ ?_; clear hK K) | (clear hK K; clear hK K; refine hK _ ?_; clear hK K) | refine qc ?_)
    · rw [hR]; simp [hs, hg]
    · rw [show (2 : Int) ^ min 1 IntKind.i64.bits = 2 from rfl, hR, Bool.eq_iff_iff]
      simp only [beq_iff_eq, hsh]
      simp [hs, hg]
  · refine qn Tryd.func63 Tryd.ntmps63 rfl rfl (by decide) rfl (by intro n; simp) fun σ n0 hcl hft => ?_
    repeat' (first | ((first | ((with_reducible refine qo (fun hg => ?_) (fun hg => ?_)) <;> (try simp only [hg]) <;> (try simp only [gS] at hg) <;> (try (first | simp only [eq_false hg, gI] | simp only [eq_true hg, gI]))) | (with_reducible first | refine qh ?_ | refine qg ?_ | refine ql ?_ | refine qk ?_) | refine acall (c1) ?_ | refine qq (c1) ?_ | refine acall (c2) ?_ | refine qq (c2) ?_ | refine qd ?_ | refine qi ?_ | refine qj ?_ | refine qm ?_) <;> (try simp (disch := first | omega | simp) [qf, -qr, -qw, hy, hs])) | ((with_reducible refine sideT ?_ ?_); first | omega | assumption | (simp; done)) | (refine qe fun K hK => ?_) | (refine qa ?_) | (refine qb true (by kernel_rfl) (by kernel_rfl) ?_) | (refine hK _ ?_; clear hK K) | (clear hK K; refine hK _ ?_; clear hK K) | (clear hK K; clear hK K; refine hK _ ?_; clear hK K) | refine qc ?_)
    all_goals (subst hR; simp_all)
    all_goals omega
end Go.Proofs.YtnkakofcejkhiaaDoor

/- Walk of layer 25: the error of an instruction. -/
namespace Go.Proofs.YtnkakofcejkhiaaDoor
open Go.RowKit Go.Lib
theorem bad_g (done : List Bool) (r : Int) (h0 : 0 ≤ r) (h1 : r < done.length) (σ : Nat → AB) (b d : Nat) (hb : σ b = .cells [.own d done.length] 73) (hd : σ d = .vec (done.map AV.bool) 4 1) :
    qdz Tryd.prog 64 [.int r, .ptr b 0] σ (.bool (!done.getD r.toNat false)) := by
  have hg : done[r.toNat]? = some (done.getD r.toNat false) := by
    rw [List.getD_eq_getElem?_getD, List.getElem?_eq_getElem (by omega)]; rfl
  refine qcm Tryd.func64 Tryd.ntmps64 rfl rfl (by decide) rfl (by intro n; simp) fun n0 hfin hcl hft => ?_
  have hloc := loc_at hfin hb (by simp)
  have hloc2 := loc_at hfin hd (by simp)
  repeat' (first | ((first | ((with_reducible refine qo (fun hg => ?_) (fun hg => ?_)) <;> (try simp only [hg]) <;> (try simp only [gS] at hg) <;> (try (first | simp only [eq_false hg, gI] | simp only [eq_true hg, gI]))) | (with_reducible first | refine qh ?_ | refine qg ?_ | refine ql ?_ | refine qk ?_) | refine qd ?_ | refine qi ?_ | refine qj ?_ | refine qm ?_) <;> (try simp (disch := first | omega | simp) [qf, -qr, -qw, hloc, hloc2, h0, h1])) | ((with_reducible refine sideT ?_ ?_); first | omega | assumption | (simp; done)) | (refine qe fun K hK => ?_) | (refine qa ?_) | (refine qb true (by kernel_rfl) (by kernel_rfl) ?_) | (refine qb false (by kernel_rfl) (by kernel_rfl) ?_) | (refine hK _ ?_; clear hK K) | (clear hK K; refine hK _ ?_; clear hK K) | (clear hK K; clear hK K; refine hK _ ?_; clear hK K) | refine qc ?_)
theorem idxI_p (L : List Int) (p : Int → Bool) (q : Nat) (hq : enters Tryd.prog q = true) (b : Nat) (σ : Nat → AB) {cs : List AV} {t : TypeId} (hb : σ b = .cells cs t) (h : ∀ x ∈ L, qdz Tryd.prog q [.int x, .ptr b 0] σ (.bool (p x))) (hL : L.length ≤ 1000000) :
    qdz Tryd.prog 62 [.sl (L.map AV.int), .fn q [.ptr b 0]] σ (.int (idxP p L)) := by
  refine qcm Tryd.func62 Tryd.ntmps62 rfl rfl (by decide) rfl (by intro n; simp) fun n0 hfin hcl hft => ?_
  have hrn := fin_lt hfin hb (by simp)
  rw [← loc_nil hfin] at h
  repeat' (first | ((first | ((with_reducible refine qo (fun hg => ?_) (fun hg => ?_)) <;> (try simp only [hg]) <;> (try simp only [gS] at hg) <;> (try (first | simp only [eq_false hg, gI] | simp only [eq_true hg, gI]))) | (with_reducible first | refine qh ?_ | refine qg ?_ | refine ql ?_ | refine qk ?_) | refine qd ?_ | refine qi ?_ | refine qj ?_ | refine qm ?_) <;> (try simp (disch := first | omega | simp) [qf, -qr, -qw])) | ((with_reducible refine sideT ?_ ?_); first | omega | assumption | (simp; done)) | (refine qe fun K hK => ?_) | (refine qa ?_) | (refine qb true (by kernel_rfl) (by kernel_rfl) ?_) | (refine qb false (by kernel_rfl) (by kernel_rfl) ?_) | (refine hK _ ?_; clear hK K) | (clear hK K; refine hK _ ?_; clear hK K) | (clear hK K; clear hK K; refine hK _ ?_; clear hK K) | refine qc ?_)
  refine qx hcl (fun k : Nat => [(0, .sl (L.map AV.int)), (1, .fn q [.ptr b 0]), (7, .int L.length), (8, .int k)]) (fun _ => [])
    (fun k => k ≤ L.length ∧ ∀ j (h : j < L.length), j < k → p L[j] = false) (fun k => L.length - k) 0 (by simp) (by simp [hrn]) fun k ⟨hk, he⟩ => ?_
  by_cases hlt : k < L.length
  · have c1 := h L[k] (List.getElem_mem _)
    cases hp : p L[k]
    · rw [hp] at c1
      repeat' (first | ((first | ((with_reducible refine qo (fun hg => ?_) (fun hg => ?_)) <;> (try simp only [hg]) <;> (try simp only [gS] at hg) <;> (try (first | simp only [eq_false hg, gI] | simp only [eq_true hg, gI]))) | (with_reducible first | refine qh ?_ | refine qg ?_ | refine ql ?_ | refine qk ?_) | refine acall (c1) ?_ | refine qq (c1) ?_ | refine qp (c1) ?_ | refine qd ?_ | refine qi ?_ | refine qj ?_ | refine qm ?_) <;> (try simp (disch := first | omega | simp) [qf, -qr, -qw, hlt, hrn, hq])) | ((with_reducible refine sideT ?_ ?_); first | omega | assumption | (simp; done)) | (refine qe fun K hK => ?_) | (refine qa ?_) | (refine qb true (by kernel_rfl) (by kernel_rfl) ?_) | (refine qb false (by kernel_rfl) (by kernel_rfl) ?_) | (refine hK _ ?_; clear hK K) | (clear hK K; refine hK _ ?_; clear hK K) | (clear hK K; clear hK K; refine hK _ ?_; clear hK K) | refine qc ?_)
      exact ⟨k + 1, ⟨by omega, upto_succ (C := fun x : Int => p x = false) he fun _ => hp⟩, by omega, by simp [hrn]⟩
    · rw [hp] at c1
      repeat' (first | ((first | ((with_reducible refine qo (fun hg => ?_) (fun hg => ?_)) <;> (try simp only [hg]) <;> (try simp only [gS] at hg) <;> (try (first | simp only [eq_false hg, gI] | simp only [eq_true hg, gI]))) | (with_reducible first | refine qh ?_ | refine qg ?_ | refine ql ?_ | refine qk ?_) | refine acall (c1) ?_ | refine qq (c1) ?_ | refine qp (c1) ?_ | refine qd ?_ | refine qi ?_ | refine qj ?_ | refine qm ?_) <;> (try simp (disch := first | omega | simp) [qf, -qr, -qw, hlt, hrn, hq])) | ((with_reducible refine sideT ?_ ?_); first | omega | assumption | (simp; done)) | (refine qe fun K hK => ?_) | (refine qa ?_) | (refine qb true (by kernel_rfl) (by kernel_rfl) ?_) | (refine qb false (by kernel_rfl) (by kernel_rfl) ?_) | (refine hK _ ?_; clear hK K) | (clear hK K; refine hK _ ?_; clear hK K) | (clear hK K; clear hK K; refine hK _ ?_; clear hK K) | refine qc ?_)
      exact (idxP_hit hlt hp he).symm
  · repeat' (first | ((first | ((with_reducible refine qo (fun hg => ?_) (fun hg => ?_)) <;> (try simp only [hg]) <;> (try simp only [gS] at hg) <;> (try (first | simp only [eq_false hg, gI] | simp only [eq_true hg, gI]))) | (with_reducible first | refine qh ?_ | refine qg ?_ | refine ql ?_ | refine qk ?_) | refine qd ?_ | refine qi ?_ | refine qj ?_ | refine qm ?_) <;> (try simp (disch := first | omega | simp) [qf, -qr, -qw, hlt])) | ((with_reducible refine sideT ?_ ?_); first | omega | assumption | (simp; done)) | (refine qe fun K hK => ?_) | (refine qa ?_) | (refine qb true (by kernel_rfl) (by kernel_rfl) ?_) | (refine qb false (by kernel_rfl) (by kernel_rfl) ?_) | (refine hK _ ?_; clear hK K) | (clear hK K; refine hK _ ?_; clear hK K) | (clear hK K; clear hK K; refine hK _ ?_; clear hK K) | refine qc ?_)
    exact (idxP_miss (upto_all (C := fun x : Int => p x = false) he hlt)).symm
theorem idxI_n (L : List Int) (p : Int → Bool) (q : Nat) (hq : enters Tryd.prog q = true) (h : ∀ x ∈ L, Gives Tryd.prog q [.int x] (.bool (p x))) (hL : L.length ≤ 1000000) :
    Gives Tryd.prog 62 [.sl (L.map AV.int), .fn q []] (.int (idxP p L)) := by
  refine qn Tryd.func62 Tryd.ntmps62 rfl rfl (by decide) rfl (by intro n; simp) fun σ n0 hcl hft => ?_
  repeat' (first | ((first | ((with_reducible refine qo (fun hg => ?_) (fun hg => ?_)) <;> (try simp only [hg]) <;> (try simp only [gS] at hg) <;> (try (first | simp only [eq_false hg, gI] | simp only [eq_true hg, gI]))) | (with_reducible first | refine qh ?_ | refine qg ?_ | refine ql ?_ | refine qk ?_) | refine qd ?_ | refine qi ?_ | refine qj ?_ | refine qm ?_) <;> (try simp (disch := first | omega | simp) [qf, -qr, -qw])) | ((with_reducible refine sideT ?_ ?_); first | omega | assumption | (simp; done)) | (refine qe fun K hK => ?_) | (refine qa ?_) | (refine qb true (by kernel_rfl) (by kernel_rfl) ?_) | (refine qb false (by kernel_rfl) (by kernel_rfl) ?_) | (refine hK _ ?_; clear hK K) | (clear hK K; refine hK _ ?_; clear hK K) | (clear hK K; clear hK K; refine hK _ ?_; clear hK K) | refine qc ?_)
  refine qx hcl (fun k : Nat => [(0, .sl (L.map AV.int)), (1, .fn q []), (7, .int L.length), (8, .int k)]) (fun _ => [])
    (fun k => k ≤ L.length ∧ ∀ j (h : j < L.length), j < k → p L[j] = false) (fun k => L.length - k) 0 (by simp) (by simp) fun k ⟨hk, he⟩ => ?_
  by_cases hlt : k < L.length
  · have c1 := h L[k] (List.getElem_mem _)
    cases hp : p L[k]
    · rw [hp] at c1
      repeat' (first | ((first | ((with_reducible refine qo (fun hg => ?_) (fun hg => ?_)) <;> (try simp only [hg]) <;> (try simp only [gS] at hg) <;> (try (first | simp only [eq_false hg, gI] | simp only [eq_true hg, gI]))) | (with_reducible first | refine qh ?_ | refine qg ?_ | refine ql ?_ | refine qk ?_) | refine acall (c1) ?_ | refine qq (c1) ?_ | refine qp (c1) ?_ | refine qd ?_ | refine qi ?_ | refine qj ?_ | refine qm ?_) <;> (try simp (disch := first | omega | simp) [qf, -qr, -qw, hlt, hq])) | ((with_reducible refine sideT ?_ ?_); first | omega | assumption | (simp; done)) | (refine qe fun K hK => ?_) | (refine qa ?_) | (refine qb true (by kernel_rfl) (by kernel_rfl) ?_) | (refine qb false (by kernel_rfl) (by kernel_rfl) ?_) | (refine hK _ ?_; clear hK K) | (clear hK K; refine hK _ ?_; clear hK K) | (clear hK K; clear hK K; refine hK _ ?_; clear hK K) | refine qc ?_)
      exact ⟨k + 1, ⟨by omega, upto_succ (C := fun x : Int => p x = false) he fun _ => hp⟩, by omega, by simp⟩
    · rw [hp] at c1
      repeat' (first | ((first | ((with_reducible refine qo (fun hg => ?_) (fun hg => ?_)) <;> (try simp only [hg]) <;> (try simp only [gS] at hg) <;> (try (first | simp only [eq_false hg, gI] | simp only [eq_true hg, gI]))) | (with_reducible first | refine qh ?_ | refine qg ?_ | refine ql ?_ | refine qk ?_) | refine acall (c1) ?_ | refine qq (c1) ?_ | refine qp (c1) ?_ | refine qd ?_ | refine qi ?_ | refine qj ?_ | refine qm ?_) <;> (try simp (disch := first | omega | simp) [qf, -qr, -qw, hlt, hq])) | ((with_reducible refine sideT ?_ ?_); first | omega | assumption | (simp; done)) | (refine qe fun K hK => ?_) | (refine qa ?_) | (refine qb true (by kernel_rfl) (by kernel_rfl) ?_) | (refine qb false (by kernel_rfl) (by kernel_rfl) ?_) | (refine hK _ ?_; clear hK K) | (clear hK K; refine hK _ ?_; clear hK K) | (clear hK K; clear hK K; refine hK _ ?_; clear hK K) | refine qc ?_)
      exact (idxP_hit hlt hp he).symm
  · repeat' (first | ((first | ((with_reducible refine qo (fun hg => ?_) (fun hg => ?_)) <;> (try simp only [hg]) <;> (try simp only [gS] at hg) <;> (try (first | simp only [eq_false hg, gI] | simp only [eq_true hg, gI]))) | (with_reducible first | refine qh ?_ | refine qg ?_ | refine ql ?_ | refine qk ?_) | refine qd ?_ | refine qi ?_ | refine qj ?_ | refine qm ?_) <;> (try simp (disch := first | omega | simp) [qf, -qr, -qw, hlt])) | ((with_reducible refine sideT ?_ ?_); first | omega | assumption | (simp; done)) | (refine qe fun K hK => ?_) | (refine qa ?_) | (refine qb true (by kernel_rfl) (by kernel_rfl) ?_) | (refine qb false (by kernel_rfl) (by kernel_rfl) ?_) | (refine hK _ ?_; clear hK K) | (clear hK K; refine hK _ ?_; clear hK K) | (clear hK K; clear hK K; refine hK _ ?_; clear hK K) | refine qc ?_)
    exact (idxP_miss (upto_all (C := fun x : Int => p x = false) he hlt)).symm
theorem contI_p (L : List Int) (p : Int → Bool) (q : Nat) (hq : enters Tryd.prog q = true) (b : Nat) (σ : Nat → AB) {cs : List AV} {t : TypeId} (hb : σ b = .cells cs t) (h : ∀ x ∈ L, qdz Tryd.prog q [.int x, .ptr b 0] σ (.bool (p x))) (hL : L.length ≤ 1000000) :
    qdz Tryd.prog 35 [.sl (L.map AV.int), .fn q [.ptr b 0]] σ (.bool (L.any p)) := by
  rw [← idxP_any]
  refine qcm Tryd.func35 Tryd.ntmps35 rfl rfl (by decide) rfl (by intro n; simp) fun n0 hfin hcl hft => ?_
  have hrn := fin_lt hfin hb (by simp)
  have c1 := idxI_p L p q hq b σ hb h hL
  rw [← loc_nil hfin] at c1
  repeat' (first | ((first | ((with_reducible refine qo (fun hg => ?_) (fun hg => ?_)) <;> (try simp only [hg]) <;> (try simp only [gS] at hg) <;> (try (first | simp only [eq_false hg, gI] | simp only [eq_true hg, gI]))) | (with_reducible first | refine qh ?_ | refine qg ?_ | refine ql ?_ | refine qk ?_) | refine acall (c1) ?_ | refine qq (c1) ?_ | refine qp (c1) ?_ | refine qd ?_ | refine qi ?_ | refine qj ?_ | refine qm ?_) <;> (try simp (disch := first | omega | simp) [qf, -qr, -qw])) | ((with_reducible refine sideT ?_ ?_); first | omega | assumption | (simp; done)) | (refine qe fun K hK => ?_) | (refine qa ?_) | (refine qb true (by kernel_rfl) (by kernel_rfl) ?_) | (refine qb false (by kernel_rfl) (by kernel_rfl) ?_) | (refine hK _ ?_; clear hK K) | (clear hK K; refine hK _ ?_; clear hK K) | (clear hK K; clear hK K; refine hK _ ?_; clear hK K) | refine qc ?_)
theorem contI_n (L : List Int) (p : Int → Bool) (q : Nat) (hq : enters Tryd.prog q = true) (h : ∀ x ∈ L, Gives Tryd.prog q [.int x] (.bool (p x))) (hL : L.length ≤ 1000000) :
    Gives Tryd.prog 35 [.sl (L.map AV.int), .fn q []] (.bool (L.any p)) := by
  rw [← idxP_any]
  refine qn Tryd.func35 Tryd.ntmps35 rfl rfl (by decide) rfl (by intro n; simp) fun σ n0 hcl hft => ?_
  repeat' (first | ((first | ((with_reducible refine qo (fun hg => ?_) (fun hg => ?_)) <;> (try simp only [hg]) <;> (try simp only [gS] at hg) <;> (try (first | simp only [eq_false hg, gI] | simp only [eq_true hg, gI]))) | (with_reducible first | refine qh ?_ | refine qg ?_ | refine ql ?_ | refine qk ?_) | refine acall (idxI_n L p q hq h hL) ?_ | refine qq (idxI_n L p q hq h hL) ?_ | refine qp (idxI_n L p q hq h hL) ?_ | refine qd ?_ | refine qi ?_ | refine qj ?_ | refine qm ?_) <;> (try simp (disch := first | omega | simp) [qf, -qr, -qw])) | ((with_reducible refine sideT ?_ ?_); first | omega | assumption | (simp; done)) | (refine qe fun K hK => ?_) | (refine qa ?_) | (refine qb true (by kernel_rfl) (by kernel_rfl) ?_) | (refine qb false (by kernel_rfl) (by kernel_rfl) ?_) | (refine hK _ ?_; clear hK K) | (clear hK K; refine hK _ ?_; clear hK K) | (clear hK K; clear hK K; refine hK _ ?_; clear hK K) | refine qc ?_)
def offR (types : List Int) (r : Int) : Bool := decide (r < 0) || decide ((types.length : Int) ≤ r)
end Go.Proofs.YtnkakofcejkhiaaDoor

/- Slice literals that grow. -/
namespace Go.Proofs.YtnkakofcejkhiaaDoor
open Go.RowKit Go.Lib
theorem EOp.frz {P : Program} {s : AS} {o : Op} {K : AV → AS → Prop} {r n : Nat} {l : List AV} {et : TypeId} {sz : Nat} (h : EOp P s o fun x s1 => x = .own r n ∧ n = l.length ∧ s1.st r = .vec l et sz ∧ K (.gs s1.nx l) ((s1.set r .dead).ext (some (.tail l.length et sz)))) : EOp P s o K := by
  intro X0 a w X oper ho hc Q
  refine Oper.wp_mono ?_ (h X0 a w X oper ho hc Q)
  rintro a' w' ⟨v, x, s1, X', e1, ⟨rfl, hn, hσ, hK⟩, hc', hr⟩
  obtain ⟨X2, hw, hc2, hF, hR⟩ := con_freeze hc' hσ
  exact ⟨v, _, _, X2, e1, hK, hc2, hR v n hn hr⟩
theorem ext_dead (s : AS) (ab cd : AB) : ((s.ext (some ab)).set s.nx .dead).ext (some cd) = (s.ext (some .dead)).ext (some cd) := by
  have h : (s.ext (some ab)).set s.nx .dead = s.ext (some .dead) := by
    unfold AS.set AS.ext AS.nx
    dsimp only
    rw [if_neg (by omega), Nat.add_sub_cancel_left]
    simp
  rw [h]
def aevZ (P : Program) (s : AS) (o : Op) (K : AV → AS → Prop) : Prop :=
  match o with
  | .buildSlice t n ⟨p :: ps⟩ => match vinfo P t with
    | some (e, sz, _) => n = (p :: ps).length ∧ n * sz ≤ 16777216 ∧ bldS sz 0 ((p :: ps).map fun p => (p.1, s.eval p.2)) ∧ AV.wid ((p :: ps).map fun p => (s.eval p.2).pub) sz ∧
        K (.gs (s.n0 + (s.L.length + 1)) ((p :: ps).map fun p => (s.eval p.2).pub)) ((s.ext (some .dead)).ext (some (.tail n e sz)))
    | none => False
  | o => aev P s o K
theorem aevZ_sound {P : Program} {s : AS} {o : Op} {K : AV → AS → Prop} (h : aevZ P s o K) : EOp P s o K := by
  unfold aevZ at h
  split at h
  · rename_i t n p ps
    split at h
    · rename_i e sz _ hv
      obtain ⟨h1, h2, h3, h4, h5⟩ := h
      have hlen : ((p :: ps).map fun p => (s.eval p.2).pub).length = n := by rw [List.length_map, h1]
      refine EOp.frz (r := s.nx) (n := n) (l := (p :: ps).map fun p => (s.eval p.2).pub) (et := e) (sz := sz) (eop_fun (nb := some _) (fop_litVec hv h1 h2 h3 h4) ⟨rfl, hlen.symm, ?_, ?_⟩)
      · show loc s.σ s.n0 (s.L ++ [_]) (s.n0 + s.L.length) = _
        rw [loc_add]; simp
      · rw [ext_dead, hlen]
        have : (s.ext (some (AB.vec ((p :: ps).map fun p => (s.eval p.2).pub) e sz))).nx = s.n0 + (s.L.length + 1) := by
          show s.n0 + (s.L ++ [_]).length = _
          simp
        rw [this]
        exact h5
    · exact h.elim
  · exact qcs h
def aseqZ (P : Program) (ops : Array Oper) (K : AS → Prop) : List Oper → AS → Prop
  | [], s => K s
  | o :: l, s => match awant ops o s.t with
    | some b => qbp b (aevZ P s o.op (fun x s1 => dstOk o.dst s1.n ∧ aseqZ P ops K l (s1.put o.dst x))) (dstOk o.dst s.n ∧ aseqZ P ops K l (s.put o.dst (.v undef)))
    | none => False
theorem aseqZ_sound {P : Program} {ops : Array Oper} {K : AS → Prop} : ∀ {l : List Oper} {s : AS}, aseqZ P ops K l s → aseq P ops K l s
  | [], _, h => h
  | o :: l, s, h => by
    rw [aseqZ] at h
    rw [aseq]
    split at h
    · rename_i b hb
      cases b with
      | true => exact ⟨true, hb, (aevZ_sound (h.1 rfl)).mono fun x s1 ⟨h1, h2⟩ => ⟨h1, aseqZ_sound h2⟩⟩
      | false => exact ⟨false, hb, (h.2 rfl).1, aseqZ_sound (h.2 rfl).2⟩
    · exact h.elim
theorem awp_regionZ {P : Program} {s : AS} {id : Nat} {l : List Oper} {Q : Exit → AS → Prop} (h : aseqZ P l.toArray (Q .normal) l s) : awp P (.region id l.toArray false) Q s := qeb (aseqZ_sound h)
theorem aseqZ_step {P : Program} {ops : Array Oper} {K : AS → Prop} {o : Oper} {l : List Oper} {s : AS} (h : match awant ops o s.t with
    | some b => qbp b (aevZ P s o.op (fun x s1 => dstOk o.dst s1.n ∧ aseqZ P ops K l (s1.put o.dst x))) (dstOk o.dst s.n ∧ aseqZ P ops K l (s.put o.dst (.v undef)))
    | none => False) : aseqZ P ops K (o :: l) s := h
theorem aseqZ_end {P : Program} {ops : Array Oper} {K : AS → Prop} {s : AS} (h : K s) : aseqZ P ops K [] s := h
attribute [simp] aevZ
end Go.Proofs.YtnkakofcejkhiaaDoor

/- Walk of layer 25: the error of an instruction. -/
namespace Go.Proofs.YtnkakofcejkhiaaDoor
open Go.RowKit Go.Lib
set_option maxHeartbeats 4000000 in
theorem ver_g (x : Ins) (cols types : List Int) (done : List Bool) (hdl : done.length = types.length) (ht : types.length ≤ 1000) (hc : cols.length ≤ 1000000) (σ : Nat → AB) (d : Nat) (hd : σ d = .vec (done.map AV.bool) 4 1) :
    qdz Tryd.prog 37 [x.av, .sl (cols.map AV.int), .sl (types.map AV.int), .own d done.length] σ (.int (verI cols types done x)) := by
  have c0 := formed_g x
  have c1 := ops_g x
  obtain ⟨R, hR⟩ : ∃ R, R = verI cols types done x := ⟨_, rfl⟩
  rw [← hR]
  unfold verI at hR
  cases hf : qcf x
  · rw [hf] at c0 hR
    refine qcm Tryd.func37 Tryd.ntmps37 rfl rfl (by decide) rfl (by intro n; simp) fun n0 hfin hcl hft => ?_
    have hrn := fin_lt hfin hd (by simp)
    repeat' (first | ((first | ((with_reducible refine qo (fun hg => ?_) (fun hg => ?_)) <;> (try simp only [hg]) <;> (try simp only [gS] at hg) <;> (try (first | simp only [eq_false hg, gI] | simp only [eq_true hg, gI]))) | (with_reducible first | refine qh ?_ | refine qg ?_ | refine ql ?_ | refine qk ?_) | refine acall (c0) ?_ | refine qq (c0) ?_ | refine qp (c0) ?_ | refine qd ?_ | refine qi ?_ | refine qj ?_ | refine qm ?_) <;> (try simp (disch := first | omega | simp) [qf, -qr, -qw, hrn])) | ((with_reducible refine sideT ?_ ?_); first | omega | assumption | (simp; done)) | (refine qe fun K hK => ?_) | (refine qa ?_) | (refine qb true (by kernel_rfl) (by kernel_rfl) ?_) | (refine qb false (by kernel_rfl) (by kernel_rfl) ?_) | (refine hK _ ?_; clear hK K) | (clear hK K; refine hK _ ?_; clear hK K) | (clear hK K; clear hK K; refine hK _ ?_; clear hK K) | refine qc ?_)
    rw [hR]; rfl
  rw [hf] at c0 hR
  rw [if_neg (by simp)] at hR
  have hol : (opsP x).length ≤ 3 := by
    have h1 := qev x
    have h2 := arO_le x.op
    split at h1 <;> omega
  refine qcm Tryd.func37 Tryd.ntmps37 rfl rfl (by decide) rfl (by intro n; simp) fun n0 hfin hcl hft => ?_
  have hrn := fin_lt hfin hd (by simp)
  have hloc := loc_at hfin hd (by simp)
  have hsz : (1 + (opsP x).length) * 8 ≤ 140737488355328 := by omega
  have c2 : ∀ τ : Nat → AB, (∀ r ∈ opsP x, 0 ≤ r ∧ r < types.length) → τ (n0 + 1) = .cells [.own d done.length] 73 → τ d = .vec (done.map AV.bool) 4 1 →
      qdz Tryd.prog 35 [.sl ((opsP x).map AV.int), .fn 64 [.ptr (n0 + 1) 0]] τ (.bool ((opsP x).any fun r => !done.getD r.toNat false)) := fun τ hr h1 h2 =>
    contI_p (opsP x) _ _ (by kernel_rfl) (n0 + 1) τ h1 (fun r hm => bad_g done r (hr r hm).1 (by rw [hdl]; exact (hr r hm).2) τ (n0 + 1) d h1 h2) (by omega)
  have hpx : parts (exI x) ≤ 1000000 := by
    have h1 : ∀ l : List Int, qu (l.map qcn) = l.length := fun l => by
      induction l with
      | nil => rfl
      | cons r l ih => rw [List.map_cons, qu, ih]; unfold qcn; rw [parts, qu, List.length_cons]; omega
    unfold exI; rw [parts, h1]; omega
  have c3 : Gives Tryd.prog 30 [.sl [], .sl (cols.map AV.int), .sl (types.map AV.int), .agg [.int x.op, .int x.n, .str x.s, .sl ((opsP x).map fun r => (qcn r).av)]] (.tup [.int ((tyI cols types x).getD 0), .bool (tyI cols types x).isSome]) := by
    have h1 := type_g [] cols types (exI x) hpx (by simp)
    unfold exI at h1
    rw [Ex.av_mk, List.map_map] at h1
    exact h1
  repeat' (first | ((first | ((with_reducible refine qo (fun hg => ?_) (fun hg => ?_)) <;> (try simp only [hg]) <;> (try simp only [gS] at hg) <;> (try (first | simp only [eq_false hg, gI] | simp only [eq_true hg, gI]))) | (with_reducible first | refine qh ?_ | refine qg ?_ | refine ql ?_ | refine qk ?_ | refine aseqZ_step ?_ | refine aseqZ_end ?_) | refine acall (c0) ?_ | refine qq (c0) ?_ | refine qp (c0) ?_ | refine acall (c1) ?_ | refine qq (c1) ?_ | refine qp (c1) ?_ | refine qd ?_ | refine qi ?_ | refine qj ?_ | refine qm ?_) <;> (try simp (disch := first | omega | simp) [qf, -qr, -qw, hrn, hloc, hsz])) | (with_reducible refine awp_regionZ (id := 4) ?_) | ((with_reducible refine sideT ?_ ?_); first | omega | assumption | (simp; done)) | (refine qe fun K hK => ?_) | (refine qa ?_) | (refine qb true (by kernel_rfl) (by kernel_rfl) ?_) | (refine qb false (by kernel_rfl) (by kernel_rfl) ?_) | (refine hK _ ?_; clear hK K) | (clear hK K; refine hK _ ?_; clear hK K) | (clear hK K; clear hK K; refine hK _ ?_; clear hK K) | refine qc ?_)
  obtain ⟨L, hL⟩ : ∃ L, L = x.to :: opsP x := ⟨_, rfl⟩
  have hLa : AV.int x.to :: (opsP x).map AV.int = L.map AV.int := by rw [hL]; rfl
  have hLl : (opsP x).length + 1 = L.length := by rw [hL]; rfl
  refine qx hcl (fun k : Nat => [(1, .sl (cols.map AV.int)), (2, .sl (types.map AV.int)), (4, .ptr n0 0), (7, .ptr (n0 + 1) 0), (9, .sl ((opsP x).map AV.int)), (26, .gs (n0 + 3) (L.map AV.int)), (27, .int L.length), (28, .int k)])
    (fun _ => [.cells [.int x.op, .int x.to, .int x.a, .int x.b, .int x.c, .int x.n, .str x.s] 68, .cells [.own d done.length] 73, .dead, .tail (1 + (opsP x).length) 3 1])
    (fun k => k ≤ L.length ∧ ∀ j (h : j < L.length), j < k → offR types L[j] = false) (fun k => L.length - k) 0 (by simp) (by simp; exact ⟨by omega, hLa, by omega⟩) fun k ⟨hk, he⟩ => ?_
  by_cases hlt : k < L.length
  · have hbad : offR types L[k] = true → 3 = R := fun ho => by
      rw [hR, if_pos]
      rw [← hL]
      exact List.any_eq_true.2 ⟨L[k], List.getElem_mem _, ho⟩
    repeat' (first | ((first | ((with_reducible refine qo (fun hg => ?_) (fun hg => ?_)) <;> (try simp only [hg]) <;> (try simp only [gS] at hg) <;> (try (first | simp only [eq_false hg, gI] | simp only [eq_true hg, gI]))) | (with_reducible first | refine qh ?_ | refine qg ?_ | refine ql ?_ | refine qk ?_) | refine qd ?_ | refine qi ?_ | refine qj ?_ | refine qm ?_) <;> (try simp (disch := first | omega | simp) [qf, -qr, -qw, hrn, hlt])) | ((with_reducible refine sideT ?_ ?_); first | omega | assumption | (simp; done)) | (refine qe fun K hK => ?_) | (refine qa ?_) | (refine qb true (by kernel_rfl) (by kernel_rfl) ?_) | (refine qb false (by kernel_rfl) (by kernel_rfl) ?_) | (refine hK _ ?_; clear hK K) | (clear hK K; refine hK _ ?_; clear hK K) | (clear hK K; clear hK K; refine hK _ ?_; clear hK K) | refine qc ?_)
    all_goals
      first
      | exact hbad (by unfold offR; simp; omega)
      | exact ⟨k + 1, ⟨by omega, upto_succ (C := fun r => offR types r = false) he fun _ => by unfold offR; simp; omega⟩, by omega, by simp; omega⟩
  have hall : ∀ r ∈ L, offR types r = false := fun r hr => by
    obtain ⟨j, hj, rfl⟩ := List.mem_iff_getElem.1 hr
    exact he j hj (by omega)
  have hin : ∀ r ∈ L, 0 ≤ r ∧ r < types.length := fun r hr => by
    have := hall r hr
    unfold offR at this
    simp at this; omega
  rw [if_neg (by rw [Bool.not_eq_true, ← hL, List.any_eq_false]; intro r hr; have := hall r hr; unfold offR at this; rw [this]; simp)] at hR
  have hx0 := hin x.to (by rw [hL]; simp)
  have hxs : ∀ r ∈ opsP x, 0 ≤ r ∧ r < types.length := fun r hr => hin r (by rw [hL]; simp [hr])
  have hdn : d < n0 + 4 := by omega
  have hex : ∀ r : Int, (AV.agg [.int 4, .int r, .str ByteArray.empty, .sl []]) = (qcn r).av := fun r => by unfold qcn; rw [Ex.av_mk]; rfl
  cases hany : (opsP x).any fun r => !done.getD r.toNat false
  · rw [hany] at c2 hR
    repeat' (first | ((first | ((with_reducible refine qo (fun hg => ?_) (fun hg => ?_)) <;> (try simp only [hg]) <;> (try simp only [gS] at hg) <;> (try (first | simp only [eq_false hg, gI] | simp only [eq_true hg, gI]))) | (with_reducible first | refine qh ?_ | refine qg ?_ | refine ql ?_ | refine qk ?_) | refine acall (c2 _ hxs (by simp) (hloc _)) ?_ | refine qq (c2 _ hxs (by simp) (hloc _)) ?_ | refine qp (c2 _ hxs (by simp) (hloc _)) ?_ | refine qd ?_ | refine qi ?_ | refine qj ?_ | refine qm ?_) <;> (try simp (disch := first | omega | simp) [qf, -qr, -qw, hrn, hlt, hdn])) | ((with_reducible refine sideT ?_ ?_); first | omega | assumption | (simp; done)) | (refine qe fun K hK => ?_) | (refine qa ?_) | (refine qb true (by kernel_rfl) (by kernel_rfl) ?_) | (refine qb false (by kernel_rfl) (by kernel_rfl) ?_) | (refine hK _ ?_; clear hK K) | (clear hK K; refine hK _ ?_; clear hK K) | (clear hK K; clear hK K; refine hK _ ?_; clear hK K) | refine qc ?_)
    any_goals (rw [hR, if_pos (by omega)]; done)
    all_goals
      have hncol : ¬ (x.op = 3 ∧ (x.n < 0 ∨ (cols.length : Int) ≤ x.n)) := by omega
      rw [if_neg hncol, if_neg (by simp)] at hR
      refine qca 4 3 52 4 (by rfl) (by rfl) ?_
      refine qx hcl (fun k : Nat => [(1, .sl (cols.map AV.int)), (2, .sl (types.map AV.int)), (4, .ptr n0 0), (12, .ptr (n0 + 4) 0), (66, .sl ((opsP x).map AV.int)), (67, .int (opsP x).length), (68, .int k)])
        (fun k => [.cells [.int x.op, .int x.to, .int x.a, .int x.b, .int x.c, .int x.n, .str x.s] 68, .cells [.own d done.length] 73, .dead, .tail (1 + (opsP x).length) 3 1,
          .cells [.int x.op, .int x.n, .str x.s, .gs (n0 + 5) (((opsP x).take k).map fun r => (qcn r).av)] 52, .tail k 52 4])
        (fun k => k ≤ (opsP x).length) (fun k => (opsP x).length - k) 0 (by simp) (by simp; omega) fun k hk2 => ?_
      by_cases hlt2 : k < (opsP x).length
      · have htk : ((opsP x).map fun r => (qcn r).av).take (k + 1) = ((opsP x).map fun r => (qcn r).av).take k ++ [(qcn (opsP x)[k]).av] := by
          rw [List.take_succ_eq_append_getElem (by simpa using hlt2), List.getElem_map]
        have hsz2 : (k + 1) * 56 ≤ 140737488355328 := by omega
        repeat' (first | ((first | ((with_reducible refine qo (fun hg => ?_) (fun hg => ?_)) <;> (try simp only [hg]) <;> (try simp only [gS] at hg) <;> (try (first | simp only [eq_false hg, gI] | simp only [eq_true hg, gI]))) | (with_reducible first | refine qh ?_ | refine qg ?_ | refine ql ?_ | refine qk ?_) | refine qd ?_ | refine qi ?_ | refine qj ?_ | refine qm ?_) <;> (try simp (disch := first | omega | simp) [qf, -qr, -qw, hlt2, hex, hsz2, hdn])) | ((with_reducible refine sideT ?_ ?_); first | omega | assumption | (simp; done)) | (refine qe fun K hK => ?_) | (refine qa ?_) | (refine qb true (by kernel_rfl) (by kernel_rfl) ?_) | (refine qb false (by kernel_rfl) (by kernel_rfl) ?_) | (refine hK _ ?_; clear hK K) | (clear hK K; refine hK _ ?_; clear hK K) | (clear hK K; clear hK K; refine hK _ ?_; clear hK K) | refine qc ?_)
        exact ⟨k + 1, by omega, by omega, ⟨htk.symm, rfl⟩, by omega, by omega⟩
      · obtain rfl : k = (opsP x).length := by omega
        cases hT : tyI cols types x
        · rw [hT] at c3 hR
          repeat' (first | ((first | ((with_reducible refine qo (fun hg => ?_) (fun hg => ?_)) <;> (try simp only [hg]) <;> (try simp only [gS] at hg) <;> (try (first | simp only [eq_false hg, gI] | simp only [eq_true hg, gI]))) | (with_reducible first | refine qh ?_ | refine qg ?_ | refine ql ?_ | refine qk ?_) | refine acall (c3) ?_ | refine qq (c3) ?_ | refine qp (c3) ?_ | refine qd ?_ | refine qi ?_ | refine qj ?_ | refine qm ?_) <;> (try simp (disch := first | omega | simp) [qf, -qr, -qw, hlt2, hdn])) | ((with_reducible refine sideT ?_ ?_); first | omega | assumption | (simp; done)) | (refine qe fun K hK => ?_) | (refine qa ?_) | (refine qb true (by kernel_rfl) (by kernel_rfl) ?_) | (refine qb false (by kernel_rfl) (by kernel_rfl) ?_) | (refine hK _ ?_; clear hK K) | (clear hK K; refine hK _ ?_; clear hK K) | (clear hK K; clear hK K; refine hK _ ?_; clear hK K) | refine qc ?_)
          rw [hR]; simp
        · rename_i t
          have hgt : types.getD x.to.toNat 0 = types[x.to.toNat]'(by omega) := by rw [List.getD_eq_getElem?_getD, List.getElem?_eq_getElem (by omega)]; rfl
          rw [hT, hgt] at hR
          rw [hT] at c3
          repeat' (first | ((first | ((with_reducible refine qo (fun hg => ?_) (fun hg => ?_)) <;> (try simp only [hg]) <;> (try simp only [gS] at hg) <;> (try (first | simp only [eq_false hg, gI] | simp only [eq_true hg, gI]))) | (with_reducible first | refine qh ?_ | refine qg ?_ | refine ql ?_ | refine qk ?_) | refine acall (c3) ?_ | refine qq (c3) ?_ | refine qp (c3) ?_ | refine qd ?_ | refine qi ?_ | refine qj ?_ | refine qm ?_) <;> (try simp (disch := first | omega | simp) [qf, -qr, -qw, hlt2, hdn])) | ((with_reducible refine sideT ?_ ?_); first | omega | assumption | (simp; done)) | (refine qe fun K hK => ?_) | (refine qa ?_) | (refine qb true (by kernel_rfl) (by kernel_rfl) ?_) | (refine qb false (by kernel_rfl) (by kernel_rfl) ?_) | (refine hK _ ?_; clear hK K) | (clear hK K; refine hK _ ?_; clear hK K) | (clear hK K; clear hK K; refine hK _ ?_; clear hK K) | refine qc ?_)
          all_goals (rw [hR]; simp_all)
  · rw [hany] at c2 hR
    repeat' (first | ((first | ((with_reducible refine qo (fun hg => ?_) (fun hg => ?_)) <;> (try simp only [hg]) <;> (try simp only [gS] at hg) <;> (try (first | simp only [eq_false hg, gI] | simp only [eq_true hg, gI]))) | (with_reducible first | refine qh ?_ | refine qg ?_ | refine ql ?_ | refine qk ?_) | refine acall (c2 _ hxs (by simp) (hloc _)) ?_ | refine qq (c2 _ hxs (by simp) (hloc _)) ?_ | refine qp (c2 _ hxs (by simp) (hloc _)) ?_ | refine qd ?_ | refine qi ?_ | refine qj ?_ | refine qm ?_) <;> (try simp (disch := first | omega | simp) [qf, -qr, -qw, hrn, hlt, hdn])) | ((with_reducible refine sideT ?_ ?_); first | omega | assumption | (simp; done)) | (refine qe fun K hK => ?_) | (refine qa ?_) | (refine qb true (by kernel_rfl) (by kernel_rfl) ?_) | (refine qb false (by kernel_rfl) (by kernel_rfl) ?_) | (refine hK _ ?_; clear hK K) | (clear hK K; refine hK _ ?_; clear hK K) | (clear hK K; clear hK K; refine hK _ ?_; clear hK K) | refine qc ?_)
    all_goals first | (rw [hR, if_pos (by omega)]; done) | (rw [hR, if_neg (by omega), if_pos rfl]; done)
end Go.Proofs.YtnkakofcejkhiaaDoor
