/- Walks of the laws of layer 26: the bounds. -/
import Derived.Test.YtnkimlkoijfcpaaGreatDoorShelf
import Derived.Lib.OwnBridge
import Derived.Sort.OwnSortedInts
import Derived.Test.YtnkimlkoijfcpaaGreatDoorGh3
import Derived.Test.YtnkimlkoijfcpaaGreatDoorGh4
import Derived.Test.YtnkimlkoijfcpaaGreatDoorGh5
import Derived.Test.YtnkimlkoijfcpaaGreatDoorGh9
import Derived.Test.YtnkimlkoijfcpaaGreatDoorGh12
import Derived.Test.YtnkimlkoijfcpaaGreatDoorGh14
import Derived.Test.YtnkimlkoijfcpaaGreatDoorGh15
import Derived.Test.YtnkimlkoijfcpaaGreatDoorGh16
import Derived.Test.YtnkimlkoijfcpaaGreatDoorGh18
import Derived.Test.YtnkimlkoijfcpaaGreatDoorGh22
import Derived.Test.YtnkimlkoijfcpaaGreatDoorGh23
import Derived.Test.YtnkimlkoijfcpaaGreatDoorGh24
set_option linter.unusedSimpArgs false
set_option linter.unusedVariables false
namespace Go.Proofs.YtnkimlkoijfcpaaGreatDoor
open Go.RowKit Go.Lib
def slimP (e : Ex) : Bool := decide (levels e ≤ 20) && decide (parts e ≤ 300)
def fnB (f : Fn) : Bool := slimP f.body && decide (f.params.length ≤ 20)
def light26 (F : List Fn) (cols : List Int) (e : Ex) : Bool := F.all fnB && (decide (F.length ≤ 25) && decide (cols.length ≤ 30) && slimP e)
theorem slim26_g (e : Ex) (hp : parts e ≤ 1000000) : Gives Tryz.prog 37 [e.av] (.bool (slimP e)) := by
  have h1 := qeb e
  have c1 := rlevels_g e (by omega)
  have c2 := rparts_g e hp
  obtain ⟨R, hR⟩ : ∃ R, R = slimP e := ⟨_, rfl⟩
  rw [← hR]
  unfold slimP at hR
  refine qn Tryz.func37 Tryz.ntmps37 rfl rfl (by decide) rfl (by intro n; simp) fun σ n0 hcl hft => ?_
  repeat' (first | ((first | ((with_reducible refine qo (fun hg => ?_) (fun hg => ?_)) <;> (try simp only [hg]) <;> (try simp only [gS] at hg) <;> (try (first | simp only [eq_false hg, gI] | simp only [eq_true hg, gI]))) | (with_reducible first | refine qh ?_ | refine qg ?_ | refine ql ?_ | refine qk ?_) | refine acall (c1) ?_ | refine qr (c1) ?_ | refine qp (c1) ?_ | refine acall (c2) ?_ | refine qr (c2) ?_ | refine qp (c2) ?_ | refine qd ?_ | refine qi ?_ | refine qj ?_ | refine qm ?_) <;> (try simp (disch := first | omega | simp) [qf, -qq, -qs])) | ((with_reducible refine sideT ?_ ?_); first | omega | assumption | (simp; done)) | (refine qe fun K hK => ?_) | (refine qb ?_) | (refine qa true (by kernel_rfl) (by kernel_rfl) ?_) | (refine qa false (by kernel_rfl) (by kernel_rfl) ?_) | (refine hK _ ?_; clear hK K) | (clear hK K; refine hK _ ?_; clear hK K) | (clear hK K; clear hK K; refine hK _ ?_; clear hK K) | refine qc ?_)
  all_goals (rw [hR]; simp_all; try omega)
theorem light26_g (F : List Fn) (cols : List Int) (e : Ex) (hlF : F.length ≤ 2000000) (hF : ∀ f ∈ F, parts f.body ≤ 1000000) (hp : parts e ≤ 1000000) : Gives Tryz.prog 8 [.sl (F.map Fn.av), .sl (cols.map AV.int), e.av] (.bool (light26 F cols e)) := by
  have c2 := slim26_g e hp
  obtain ⟨R, hR⟩ : ∃ R, R = light26 F cols e := ⟨_, rfl⟩
  rw [← hR]
  unfold light26 at hR
  refine qn Tryz.func8 Tryz.ntmps8 rfl rfl (by decide) rfl (by intro n; simp) fun σ n0 hcl hft => ?_
  repeat' (first | ((first | ((with_reducible refine qo (fun hg => ?_) (fun hg => ?_)) <;> (try simp only [hg]) <;> (try simp only [gS] at hg) <;> (try (first | simp only [eq_false hg, gI] | simp only [eq_true hg, gI]))) | (with_reducible first | refine qh ?_ | refine qg ?_ | refine ql ?_ | refine qk ?_) | refine qd ?_ | refine qi ?_ | refine qj ?_ | refine qm ?_) <;> (try simp (disch := first | omega | simp) [qf, -qq, -qs])) | ((with_reducible refine sideT ?_ ?_); first | omega | assumption | (simp; done)) | (refine qe fun K hK => ?_) | (refine qb ?_) | (refine qa true (by kernel_rfl) (by kernel_rfl) ?_) | (refine qa false (by kernel_rfl) (by kernel_rfl) ?_) | (refine hK _ ?_; clear hK K) | (clear hK K; refine hK _ ?_; clear hK K) | (clear hK K; clear hK K; refine hK _ ?_; clear hK K) | refine qc ?_)
  refine qu hcl (fun k : Nat => [(0, .sl (F.map Fn.av)), (1, .sl (cols.map AV.int)), (5, .ptr n0 0), (7, .int k)]) (fun _ => [.cells [.int e.op, .int e.n, .str e.s, .sl (e.args.map Ex.av)] 25])
    (fun k => k ≤ F.length ∧ ∀ j (h : j < F.length), j < k → fnB F[j] = true) (fun k => F.length - k) 0 (by simp) (by simp) fun k ⟨hk, he⟩ => ?_
  by_cases hlt : k < F.length
  · have c1 := slim26_g F[k].body (hF _ (List.getElem_mem hlt))
    cases hb : fnB F[k] with
    | true =>
      have hb2 := hb
      unfold fnB at hb2
      simp only [Bool.and_eq_true, decide_eq_true_eq] at hb2
      rw [hb2.1] at c1
      have hp20 : ¬ (20 : Int) < F[k].params.length := by omega
      repeat' (first | ((first | ((with_reducible refine qo (fun hg => ?_) (fun hg => ?_)) <;> (try simp only [hg]) <;> (try simp only [gS] at hg) <;> (try (first | simp only [eq_false hg, gI] | simp only [eq_true hg, gI]))) | (with_reducible first | refine qh ?_ | refine qg ?_ | refine ql ?_ | refine qk ?_) | refine acall (c1) ?_ | refine qr (c1) ?_ | refine qp (c1) ?_ | refine qd ?_ | refine qi ?_ | refine qj ?_ | refine qm ?_) <;> (try simp (disch := first | omega | simp) [qf, -qq, -qs, hlt, hp20])) | ((with_reducible refine sideT ?_ ?_); first | omega | assumption | (simp; done)) | (refine qe fun K hK => ?_) | (refine qb ?_) | (refine qa true (by kernel_rfl) (by kernel_rfl) ?_) | (refine qa false (by kernel_rfl) (by kernel_rfl) ?_) | (refine hK _ ?_; clear hK K) | (clear hK K; refine hK _ ?_; clear hK K) | (clear hK K; clear hK K; refine hK _ ?_; clear hK K) | refine qc ?_)
      all_goals first | (exfalso; omega) | exact ⟨k + 1, ⟨by omega, upto_succ (C := fun f : Fn => fnB f = true) he fun _ => hb⟩, by omega, by simp⟩
    | false =>
      have hR0 : R = false := by rw [hR, all_hit hlt hb, Bool.false_and]
      unfold fnB at hb
      cases hs : slimP F[k].body with
      | true =>
        rw [hs] at c1 hb
        have hp20 : (20 : Int) < F[k].params.length := by simp at hb; omega
        repeat' (first | ((first | ((with_reducible refine qo (fun hg => ?_) (fun hg => ?_)) <;> (try simp only [hg]) <;> (try simp only [gS] at hg) <;> (try (first | simp only [eq_false hg, gI] | simp only [eq_true hg, gI]))) | (with_reducible first | refine qh ?_ | refine qg ?_ | refine ql ?_ | refine qk ?_) | refine acall (c1) ?_ | refine qr (c1) ?_ | refine qp (c1) ?_ | refine qd ?_ | refine qi ?_ | refine qj ?_ | refine qm ?_) <;> (try simp (disch := first | omega | simp) [qf, -qq, -qs, hlt, hp20])) | ((with_reducible refine sideT ?_ ?_); first | omega | assumption | (simp; done)) | (refine qe fun K hK => ?_) | (refine qb ?_) | (refine qa true (by kernel_rfl) (by kernel_rfl) ?_) | (refine qa false (by kernel_rfl) (by kernel_rfl) ?_) | (refine hK _ ?_; clear hK K) | (clear hK K; refine hK _ ?_; clear hK K) | (clear hK K; clear hK K; refine hK _ ?_; clear hK K) | refine qc ?_)
        all_goals first | (exfalso; omega) | exact hR0.symm | (rw [hR0]; done)
      | false =>
        rw [hs] at c1
        repeat' (first | ((first | ((with_reducible refine qo (fun hg => ?_) (fun hg => ?_)) <;> (try simp only [hg]) <;> (try simp only [gS] at hg) <;> (try (first | simp only [eq_false hg, gI] | simp only [eq_true hg, gI]))) | (with_reducible first | refine qh ?_ | refine qg ?_ | refine ql ?_ | refine qk ?_) | refine acall (c1) ?_ | refine qr (c1) ?_ | refine qp (c1) ?_ | refine qd ?_ | refine qi ?_ | refine qj ?_ | refine qm ?_) <;> (try simp (disch := first | omega | simp) [qf, -qq, -qs, hlt])) | ((with_reducible refine sideT ?_ ?_); first | omega | assumption | (simp; done)) | (refine qe fun K hK => ?_) | (refine qb ?_) | (refine qa true (by kernel_rfl) (by kernel_rfl) ?_) | (refine qa false (by kernel_rfl) (by kernel_rfl) ?_) | (refine hK _ ?_; clear hK K) | (clear hK K; refine hK _ ?_; clear hK K) | (clear hK K; clear hK K; refine hK _ ?_; clear hK K) | refine qc ?_)
        all_goals first | exact hR0.symm | (rw [hR0]; done)
  · obtain rfl : k = F.length := by omega
    have hall : F.all fnB = true := all_end fun j h => he j h (by omega)
    rw [hall, Bool.true_and] at hR
    repeat' (first | ((first | ((with_reducible refine qo (fun hg => ?_) (fun hg => ?_)) <;> (try simp only [hg]) <;> (try simp only [gS] at hg) <;> (try (first | simp only [eq_false hg, gI] | simp only [eq_true hg, gI]))) | (with_reducible first | refine qh ?_ | refine qg ?_ | refine ql ?_ | refine qk ?_) | refine acall (c2) ?_ | refine qr (c2) ?_ | refine qp (c2) ?_ | refine qd ?_ | refine qi ?_ | refine qj ?_ | refine qm ?_) <;> (try simp (disch := first | omega | simp) [qf, -qq, -qs, hlt])) | ((with_reducible refine sideT ?_ ?_); first | omega | assumption | (simp; done)) | (refine qe fun K hK => ?_) | (refine qb ?_) | (refine qa true (by kernel_rfl) (by kernel_rfl) ?_) | (refine qa false (by kernel_rfl) (by kernel_rfl) ?_) | (refine hK _ ?_; clear hK K) | (clear hK K; refine hK _ ?_; clear hK K) | (clear hK K; clear hK K; refine hK _ ?_; clear hK K) | refine qc ?_)
    all_goals (rw [hR]; simp_all; try omega)
end Go.Proofs.YtnkimlkoijfcpaaGreatDoor

/- Layer 26 on plain data: Compact keeps the type of the result. -/
namespace Go.Proofs.YtnkimlkoijfcpaaGreatDoor
open Go.RowKit Go.Lib
end Go.Proofs.YtnkimlkoijfcpaaGreatDoor

/- Walk of layer 25: whether an instruction is formed. -/
namespace Go.Proofs.YtnkimlkoijfcpaaGreatDoor
open Go.RowKit Go.Lib
end Go.Proofs.YtnkimlkoijfcpaaGreatDoor

/- Walk of layer 25: the error of an instruction. -/
namespace Go.Proofs.YtnkimlkoijfcpaaGreatDoor
open Go.RowKit Go.Lib
end Go.Proofs.YtnkimlkoijfcpaaGreatDoor

/- Slice literals that grow. -/
namespace Go.Proofs.YtnkimlkoijfcpaaGreatDoor
open Go.RowKit Go.Lib
def aevZ (P : Program) (s : AS) (o : Op) (K : AV → AS → Prop) : Prop :=
  match o with
  | .buildSlice t n ⟨p :: ps⟩ => match vinfo P t with
    | some (e, sz, _) => n = (p :: ps).length ∧ n * sz ≤ 16777216 ∧ bldS sz 0 ((p :: ps).map fun p => (p.1, s.eval p.2)) ∧ AV.wid ((p :: ps).map fun p => (s.eval p.2).pub) sz ∧
        K (.gs (s.n0 + (s.L.length + 1)) ((p :: ps).map fun p => (s.eval p.2).pub)) ((s.ext (some .dead)).ext (some (.tail n e sz)))
    | none => False
  | o => aev P s o K
attribute [simp] aevZ
end Go.Proofs.YtnkimlkoijfcpaaGreatDoor

/- Walk of layer 25: the error of an instruction. -/
namespace Go.Proofs.YtnkimlkoijfcpaaGreatDoor
open Go.RowKit Go.Lib
end Go.Proofs.YtnkimlkoijfcpaaGreatDoor

/- Walk of layer 25: Verify. -/
namespace Go.Proofs.YtnkimlkoijfcpaaGreatDoor
open Go.RowKit Go.Lib
end Go.Proofs.YtnkimlkoijfcpaaGreatDoor

/- Layer 26: the value of a program that was compiled. -/
namespace Go.Proofs.YtnkimlkoijfcpaaGreatDoor
open Go.RowKit Go.Lib
end Go.Proofs.YtnkimlkoijfcpaaGreatDoor

/- Layer 26 on plain data: what Compile returns for an ExIf, without functions. -/
namespace Go.Proofs.YtnkimlkoijfcpaaGreatDoor
open Go.RowKit Go.Lib
theorem inl_nil (e : Ex) : parts e ≤ 1000 → inlE [] e = some e := by
  induction e using Ex.ind with
  | h o n s l ih =>
    intro hp
    have hL : ∀ l : List Ex, (∀ x ∈ l, inlE [] x = some x) → inlL [] l = some l := fun l => by
      induction l with
      | nil => intro _; rw [inlL]
      | cons x l ih2 => intro h; rw [inlL, h x (by simp)]; dsimp only; rw [ih2 fun z hz => h z (by simp [hz])]
    have hl := hL l fun x hx => ih x hx (by rw [parts] at hp; have := qbe l x hx; omega)
    rw [inlE, hl]
    dsimp only
    rw [if_neg (by rintro ⟨-, h1, h2⟩; simp at h2; omega)]
    unfold fitX
    rw [if_neg (by omega)]
theorem compile_nil {cols : List Int} {e : Ex} (hp : parts e ≤ 1000) : qck [] cols e = match typeP [] cols [] e with | none => (zeroCd, 13) | some _ => (compP (rawP cols (foldE e)), 0) := by
  unfold qck
  cases h : typeP [] cols [] e with
  | none => rfl
  | some t =>
    obtain ⟨-, -, -, h4⟩ := typeP_all h
    have hy : qcb [] e = some e := by
      unfold qcb inlB
      rw [inl_nil e hp]
      dsimp only
      rw [if_neg (by omega)]
    rw [hy]
theorem typeP_nil {cols : List Int} {e : Ex} : typeP [] cols [] e = if levels e > 12 then none else ty [] cols [] e := by
  unfold typeP
  rw [if_pos (by decide)]
  rfl
end Go.Proofs.YtnkimlkoijfcpaaGreatDoor

/- Layer 26: programs of expressions without functions. -/
namespace Go.Proofs.YtnkimlkoijfcpaaGreatDoor
open Go.RowKit Go.Lib
end Go.Proofs.YtnkimlkoijfcpaaGreatDoor

/- Walk of the reference of layer 25: Same, of a program and itself. -/
namespace Go.Proofs.YtnkimlkoijfcpaaGreatDoor
open Go.RowKit Go.Lib
set_option maxHeartbeats 4000000 in
theorem same25_g (c : Cod) (h1 : c.ins.length ≤ 1000000) (h2 : c.types.length ≤ 1000000) : Gives Tryz.prog 21 [c.av, c.av] (.bool true) := by
  obtain ⟨ins, types, out⟩ := c
  simp only at *
  have e0 : (out != out) = false := by simp
  have e1 : ((ins.length : Int) != ins.length) = false := by simp
  have e2 : ((types.length : Int) != types.length) = false := by simp
  refine qn Tryz.func21 Tryz.ntmps21 rfl rfl (by decide) rfl (by intro n; simp) fun σ n0 hcl hft => ?_
  repeat' (first | ((first | ((with_reducible refine qo (fun hg => ?_) (fun hg => ?_)) <;> (try simp only [hg]) <;> (try simp only [gS] at hg) <;> (try (first | simp only [eq_false hg, gI] | simp only [eq_true hg, gI]))) | (with_reducible first | refine qh ?_ | refine qg ?_ | refine ql ?_ | refine qk ?_) | refine qd ?_ | refine qi ?_ | refine qj ?_ | refine qm ?_) <;> (try simp (disch := first | omega | simp) [qf, -qq, -qs, e0, e1, e2])) | ((with_reducible refine sideT ?_ ?_); first | omega | assumption | (simp; done)) | (refine qe fun K hK => ?_) | (refine qb ?_) | (refine qa true (by kernel_rfl) (by kernel_rfl) ?_) | (refine qa false (by kernel_rfl) (by kernel_rfl) ?_) | (refine hK _ ?_; clear hK K) | (clear hK K; refine hK _ ?_; clear hK K) | (clear hK K; clear hK K; refine hK _ ?_; clear hK K) | refine qc ?_)
  refine qu hcl (fun k : Nat => [(2, .ptr n0 0), (3, .ptr (n0 + 1) 0), (5, .int k)]) (fun _ => [.cells [.sl (ins.map Ins.av), .sl (types.map AV.int), .int out] 45, .cells [.sl (ins.map Ins.av), .sl (types.map AV.int), .int out] 45])
    (fun k => k ≤ ins.length) (fun k => ins.length - k) 0 (by omega) (by simp) fun k hk => ?_
  by_cases hlt : k < ins.length
  · have hq : Ins.eqB ins[k] ins[k] = true := by simp [Ins.eqB]
    repeat' (first | ((first | ((with_reducible refine qo (fun hg => ?_) (fun hg => ?_)) <;> (try simp only [hg]) <;> (try simp only [gS] at hg) <;> (try (first | simp only [eq_false hg, gI] | simp only [eq_true hg, gI]))) | (with_reducible first | refine qh ?_ | refine qg ?_ | refine ql ?_ | refine qk ?_) | refine qd ?_ | refine qi ?_ | refine qj ?_ | refine qm ?_) <;> (try simp (disch := first | omega | simp) [qf, -qq, -qs, hlt, hq])) | ((with_reducible refine sideT ?_ ?_); first | omega | assumption | (simp; done)) | (refine qe fun K hK => ?_) | (refine qb ?_) | (refine qa true (by kernel_rfl) (by kernel_rfl) ?_) | (refine qa false (by kernel_rfl) (by kernel_rfl) ?_) | (refine hK _ ?_; clear hK K) | (clear hK K; refine hK _ ?_; clear hK K) | (clear hK K; clear hK K; refine hK _ ?_; clear hK K) | refine qc ?_)
    exact ⟨k + 1, by omega, by omega, by simp⟩
  · repeat' (first | ((first | ((with_reducible refine qo (fun hg => ?_) (fun hg => ?_)) <;> (try simp only [hg]) <;> (try simp only [gS] at hg) <;> (try (first | simp only [eq_false hg, gI] | simp only [eq_true hg, gI]))) | (with_reducible first | refine qh ?_ | refine qg ?_ | refine ql ?_ | refine qk ?_) | refine qd ?_ | refine qi ?_ | refine qj ?_ | refine qm ?_) <;> (try simp (disch := first | omega | simp) [qf, -qq, -qs, hlt])) | ((with_reducible refine sideT ?_ ?_); first | omega | assumption | (simp; done)) | (refine qe fun K hK => ?_) | (refine qb ?_) | (refine qa true (by kernel_rfl) (by kernel_rfl) ?_) | (refine qa false (by kernel_rfl) (by kernel_rfl) ?_) | (refine hK _ ?_; clear hK K) | (clear hK K; refine hK _ ?_; clear hK K) | (clear hK K; clear hK K; refine hK _ ?_; clear hK K) | refine qc ?_)
    refine qu hcl (fun k : Nat => [(2, .ptr n0 0), (3, .ptr (n0 + 1) 0), (6, .int k)]) (fun _ => [.cells [.sl (ins.map Ins.av), .sl (types.map AV.int), .int out] 45, .cells [.sl (ins.map Ins.av), .sl (types.map AV.int), .int out] 45])
      (fun k => k ≤ types.length) (fun k => types.length - k) 0 (by omega) (by simp) fun k hk => ?_
    by_cases hlt : k < types.length
    · have hq : (types[k] != types[k]) = false := by simp
      repeat' (first | ((first | ((with_reducible refine qo (fun hg => ?_) (fun hg => ?_)) <;> (try simp only [hg]) <;> (try simp only [gS] at hg) <;> (try (first | simp only [eq_false hg, gI] | simp only [eq_true hg, gI]))) | (with_reducible first | refine qh ?_ | refine qg ?_ | refine ql ?_ | refine qk ?_) | refine qd ?_ | refine qi ?_ | refine qj ?_ | refine qm ?_) <;> (try simp (disch := first | omega | simp) [qf, -qq, -qs, hlt, hq])) | ((with_reducible refine sideT ?_ ?_); first | omega | assumption | (simp; done)) | (refine qe fun K hK => ?_) | (refine qb ?_) | (refine qa true (by kernel_rfl) (by kernel_rfl) ?_) | (refine qa false (by kernel_rfl) (by kernel_rfl) ?_) | (refine hK _ ?_; clear hK K) | (clear hK K; refine hK _ ?_; clear hK K) | (clear hK K; clear hK K; refine hK _ ?_; clear hK K) | refine qc ?_)
      exact ⟨k + 1, by omega, by omega, by simp⟩
    · repeat' (first | ((first | ((with_reducible refine qo (fun hg => ?_) (fun hg => ?_)) <;> (try simp only [hg]) <;> (try simp only [gS] at hg) <;> (try (first | simp only [eq_false hg, gI] | simp only [eq_true hg, gI]))) | (with_reducible first | refine qh ?_ | refine qg ?_ | refine ql ?_ | refine qk ?_) | refine qd ?_ | refine qi ?_ | refine qj ?_ | refine qm ?_) <;> (try simp (disch := first | omega | simp) [qf, -qq, -qs, hlt])) | ((with_reducible refine sideT ?_ ?_); first | omega | assumption | (simp; done)) | (refine qe fun K hK => ?_) | (refine qb ?_) | (refine qa true (by kernel_rfl) (by kernel_rfl) ?_) | (refine qa false (by kernel_rfl) (by kernel_rfl) ?_) | (refine hK _ ?_; clear hK K) | (clear hK K; refine hK _ ?_; clear hK K) | (clear hK K; clear hK K; refine hK _ ?_; clear hK K) | refine qc ?_)
end Go.Proofs.YtnkimlkoijfcpaaGreatDoor

/- An append to a slice of the call's own that is written too, in a region in text order. -/
namespace Go.Proofs.YtnkimlkoijfcpaaGreatDoor
open Go.RowKit Go.Lib
section
variable {P : Program} {s : AS}
def ownApp2 (P : Program) (ops : Array Oper) (s : AS) (o : Oper) (K : AS → Prop) : Prop :=
  match o.op with
  | .call { callee := .builtin .append, args := ⟨[x, y]⟩, argTypes := ⟨[t, t']⟩ } => t' = t ∧ awant ops o s.t = some true ∧ (match vinfo P t with
    | some (e, sz, by_) => match s.eval x, (s.eval y).list with
      | .own r n, some ys => (match s.st r with
        | .vec l e' sz' => e' = e ∧ sz' = sz ∧ n = l.length ∧ AV.wid ys sz ∧ AV.elms ys ∧ (l.length + ys.length) * by_ ≤ 140737488355328 ∧ dstOk o.dst (s.set r (.vec (l ++ ys) e sz)).n ∧ K ((s.set r (.vec (l ++ ys) e sz)).put o.dst (.own r (l.length + ys.length)))
        | _ => False)
      | _, _ => False
    | none => False)
  | _ => False
theorem ownApp2_sound {ops : Array Oper} {K K' : AS → Prop} {o : Oper} {l : List Oper} (hk : ∀ s, K' s → aseq P ops K l s) (h : ownApp2 P ops s o K') : aseq P ops K (o :: l) s := by
  unfold ownApp2 at h
  rw [aseq]
  split at h
  · rename_i x y t t' hop
    obtain ⟨rfl, hwt, h⟩ := h
    refine ⟨true, hwt, ?_⟩
    show EOp P s o.op _
    rw [hop]
    split at h
    · split at h
      · split at h
        · obtain ⟨rfl, rfl, h1, h2, h3, h4, h6, h7⟩ := h
          exact eop_appendO0 ‹_› ‹_› ‹_› h1 ‹_› h2 h3 h4 ⟨h6, hk _ h7⟩
        · exact h.elim
      · exact h.elim
    · exact h.elim
  · exact h.elim
theorem awp_regionW {id : Nat} {l : List Oper} {Q : Exit → AS → Prop} (k : Nat) {o : Oper} (ho : l[k]? = some o) (h : qq P l.toArray (fun s => ownApp2 P l.toArray s o fun s => qq P l.toArray (Q .normal) (l.drop (k + 1)) s) (l.take k) s) : awp P (.region id l.toArray false) Q s := by
  refine qde ?_
  have h1 : l = l.take k ++ o :: l.drop (k + 1) := by
    have hk := (List.getElem?_eq_some_iff.1 ho)
    obtain ⟨hk, he⟩ := hk
    rw [← he, ← List.drop_eq_getElem_cons hk, List.take_append_drop]
  have h2 : aseq P l.toArray (Q .normal) (l.take k ++ o :: l.drop (k + 1)) s := aseqC_cut (fun s' hs => ownApp2_sound (fun s'' h => qdi h) hs) h
  rw [← h1] at h2; exact h2
attribute [simp] ownApp2
end
end Go.Proofs.YtnkimlkoijfcpaaGreatDoor

/- Calls that hand on growing slices, and give one back: a slice that the caller had begun is made longer. -/
namespace Go.Proofs.YtnkimlkoijfcpaaGreatDoor
open Go.RowKit Go.Lib
section
variable {P : Program} {s : AS}
def aresR (s : AS) (rs : List ResultVar) (x : AV) : Prop := ∃ d, rs = [.tmp d] ∧ s.t d = x ∧ ∀ l, x ≠ .tup l
theorem results_runR {X0 X : St} {a : Act} {w : World} (hc : Con X0 s a w X) {fn : Func} {rs : List ResultVar} (hr : fn.results = rs.toArray) {x : AV} (h : aresR s rs x) : ∃ v, (results fn a.tmps).run P X.w = .ok v X.w ∧ RR X x v := by
  obtain ⟨d, rfl, rfl, -⟩ := h
  exact ⟨a.tmps.getD d undef, by simp [qdf, hr, resV], hc.regs d⟩
theorem ac_of_awpR {f : FuncId} {fn : Func} {c : Code} {rs : List ResultVar} {args : List AV} {σ : Nat → AB} {Q : AV → (Nat → AB) → Prop} (hf : P.funcs[f]? = some fn) (hb : fn.body = some c) (hr : fn.results = rs.toArray) (hlen : rs.length ≤ 4) (ha : args.length ≤ fn.ntmps)
    (h : ∀ n0, Fin σ n0 → (∀ r, (σ r).cl n0) → AV.fitss args → awp P c (fun e s' => (e = .normal ∨ e = .ret) ∧ s'.n0 = n0 ∧ ∃ x, aresR s' rs x ∧ x.cl n0 ∧ (∀ r, r < n0 → (s'.σ r).cl n0) ∧ Q x (cut n0 s'.σ)) { n := fn.ntmps, t := qdj args 0, σ := σ, n0 := n0, L := [] }) : AC P f args σ Q := by
  intro X vals n0 hS hσ hfin hargs
  subst hσ
  have hl : vals.length = args.length := by
    have : ∀ (l : List AV) (vs : List Value), RRl X l vs → vs.length = l.length := fun l => by
      induction l with
      | nil => intro vs h; have : vs = [] := h; subst this; rfl
      | cons x l ih => intro vs h; obtain ⟨v, vs', rfl, -, h2⟩ := h; simp [ih _ h2]
    exact this _ _ hargs
  refine calls_of_wp hf hb (wp_mono (h n0 hfin (fun r => (hS.block r).cl hfin) hargs.fits X { tmps := vals.toArray ++ Array.replicate (fn.ntmps - vals.toArray.size) undef, defers := [] } X.w ⟨X, rfl, ?_, hS, Fr.refl X, ?_, fun d => ?_, rfl, hfin⟩) ?_)
  · funext r
    show X.σ r = loc X.σ n0 [] r
    unfold loc
    split
    · rfl
    · rw [hfin r (by omega)]; rfl
  · show (vals.toArray ++ Array.replicate _ undef).size = fn.ntmps
    rw [Array.size_append, Array.size_replicate, List.size_toArray]; omega
  · have := entry_regs args vals [] (fn.ntmps - vals.toArray.size) hargs d (by simp)
    simpa using this
  · rintro e a' w' ⟨s', ⟨he, hn0, x, hx, hcl, hcσ, hQ⟩, X', hc⟩
    have hw := hc.w
    subst hw
    obtain ⟨v, hv, hR⟩ := results_runR hc hr hx
    have hst : ∀ r, r < n0 → X'.σ r = s'.σ r := fun r hr => by
      rw [hc.σ]
      show loc s'.σ s'.n0 s'.L r = _
      unfold loc
      rw [hn0, if_pos hr]
    have hres : ∃ Y v' x', Ending.returned v = .returned v' ∧ Y.w = X'.w ∧ Q x' Y.σ ∧ SR Y ∧ Fr X Y ∧ RR Y x' v' := by
      refine ⟨X'.cut n0, v, x, rfl, rfl, ?_, hc.sr.cut fun r hr => by rw [hst r hr]; exact hcσ r hr, hc.fr.cut (fun r hr => hfin r hr), hR.cut hcl⟩
      have : (X'.cut n0).σ = Proofs.YtnkimlkoijfcpaaGreatDoor.cut n0 s'.σ := by
        funext r
        show Proofs.YtnkimlkoijfcpaaGreatDoor.cut n0 X'.σ r = _
        unfold Proofs.YtnkimlkoijfcpaaGreatDoor.cut
        split
        · exact hst r ‹_›
        · rfl
      rw [this]; exact hQ
    rcases he with rfl | rfl
    · exact ⟨hc.defers, v, hv, hres⟩
    · exact ⟨hc.defers, v, hv, hres⟩
theorem acR_of_awp {f : FuncId} {fn : Func} {c : Code} {rs : List ResultVar} {args : List AV} {x : AV} {N : Nat} {σ σ' : Nat → AB} (hf : P.funcs[f]? = some fn) (hN : fn.ntmps = N) (hb : fn.body = some c) (hr : fn.results = rs.toArray) (hlen : rs.length ≤ 4) (ha : Nat.ble args.length N = true)
    (h : ∀ n0, Fin σ n0 → (∀ r, (σ r).cl n0) → AV.fitss args → x.cl n0 ∧ Fin σ' n0 ∧ (∀ r, (σ' r).cl n0) ∧ awp P c (fun e s' => (e = .normal ∨ e = .ret) ∧ s'.n0 = n0 ∧ s'.σ = σ' ∧ aresR s' rs x) { n := N, t := qdj args 0, σ := σ, n0 := n0, L := [] }) : AC P f args σ fun y τ => y = x ∧ τ = σ' := by
  subst hN
  refine ac_of_awpR hf hb hr hlen (Nat.le_of_ble_eq_true ha) fun n0 hfin hcl hft => ?_
  obtain ⟨hx, g1, g2, g3⟩ := h n0 hfin hcl hft
  refine qek g3 fun e s' ⟨h1, h2, h3, h4⟩ => ⟨h1, h2, x, h4, hx, fun k _ => by rw [h3]; exact g2 k, rfl, ?_⟩
  funext k
  unfold Proofs.YtnkimlkoijfcpaaGreatDoor.cut
  rw [h3]
  split
  · rfl
  · exact (g1 k (by omega)).symm
theorem eop_callR {f : FuncId} {args : List Operand} {tys : Array TypeId} {x : AV} {s1 : AS} {K : AV → AS → Prop} (hf : enters P f = true) (hn : ∀ y ∈ args, ∀ l, s.eval y ≠ .tup l)
    (h : AC P f (args.map s.eval) s.st fun y τ => y = x ∧ τ = s1.st) (hs : s1.t = s.t ∧ s1.n = s.n ∧ s1.n0 = s.n0) (hK : K x s1) : EOp P s (.call { callee := .value (.func f), args := args.toArray, argTypes := tys }) K := by
  intro X0 a w X oper ho hc Q
  have hw := hc.w
  subst hw
  have hrun : (execOp a.eval oper).run P X.w = .ok (.enter f (args.map a.eval).toArray) X.w := by
    have he : a.eval (.func f) = .func (.func f) #[] #[] := rfl
    simp [execOp, ho, resolve, he, Deferred.ofValue, invoke, qbu hf]
  unfold Oper.wp
  rw [hrun]
  refine (h X (args.map a.eval) s.nx hc.sr hc.σ s.fin (rrl_args hc args hn)).mono ?_
  rintro e w' ⟨Y, v, y, rfl, rfl, ⟨rfl, hσ⟩, hS, hF, hR⟩
  exact ⟨v, y, s1, Y, rfl, hK, ⟨rfl, hσ, hS, hc.fr.trans hF, by rw [hs.2.1]; exact hc.size, fun d => by rw [hs.1]; exact (hc.regs d).fr hF, hc.defers, by rw [hs.2.2]; exact hc.fin⟩, hR⟩
def rawCall (P : Program) (ops : Array Oper) (s : AS) (o : Oper) (K : AS → Prop) : Prop :=
  match o.op with
  | .call { callee := .value (.func f), args := ⟨args⟩, .. } => awant ops o s.t = some true ∧ nts (args.map s.eval) = true ∧ enters P f = true ∧ ACall P f (args.map s.eval) s fun x s1 => dstOk o.dst s1.n ∧ K (s1.put o.dst x)
  | _ => False
theorem rawCall_sound {ops : Array Oper} {K K' : AS → Prop} {o : Oper} {l : List Oper} (hk : ∀ s, K' s → aseq P ops K l s) (h : rawCall P ops s o K') : aseq P ops K (o :: l) s := by
  unfold rawCall at h
  rw [aseq]
  split at h
  · rename_i f args tys hop
    obtain ⟨hwt, hn, hf, x, s1, h1, h2, h3, h4⟩ := h
    refine ⟨true, hwt, ?_⟩
    show EOp P s o.op _
    rw [hop]
    exact eop_callR hf (qco hn) h1 h2 ⟨h3, hk _ h4⟩
  · exact h.elim
theorem awp_regionR {id : Nat} {l : List Oper} {Q : Exit → AS → Prop} (k : Nat) {o : Oper} (ho : l[k]? = some o) (h : qq P l.toArray (fun s => rawCall P l.toArray s o fun s => qq P l.toArray (Q .normal) (l.drop (k + 1)) s) (l.take k) s) : awp P (.region id l.toArray false) Q s := by
  refine qde ?_
  have h1 : l = l.take k ++ o :: l.drop (k + 1) := by
    have hk := (List.getElem?_eq_some_iff.1 ho)
    obtain ⟨hk, he⟩ := hk
    rw [← he, ← List.drop_eq_getElem_cons hk, List.take_append_drop]
  have h2 : aseq P l.toArray (Q .normal) (l.take k ++ o :: l.drop (k + 1)) s := aseqC_cut (fun s' hs => rawCall_sound (fun s'' h => qdi h) hs) h
  rw [← h1] at h2; exact h2
attribute [simp] rawCall
end
end Go.Proofs.YtnkimlkoijfcpaaGreatDoor

/- The contract of the reference's Same, as an abstract one. -/
namespace Go.Proofs.YtnkimlkoijfcpaaGreatDoor
open Go.RowKit Go.Lib
theorem rsame_g (a e : Ex) (he : parts a ≤ 1000000) : Gives Tryz.prog 11 [a.av, e.av] (.bool (sameB a e)) :=
  gives_v fun X vals ha => by
    obtain ⟨v0, _, rfl, h0, v1, _, rfl, h1, h3⟩ := ha
    cases h3
    obtain ⟨cs, rfl, hr⟩ := arg_ex h0
    obtain ⟨cs1, rfl, hr1⟩ := arg_ex h1
    exact rsame_any a e Any Any cs cs1 X.w hr hr1 he
end Go.Proofs.YtnkimlkoijfcpaaGreatDoor

/- Walk: the columns that an expression reads, of the program (expr.Reads). -/
namespace Go.Proofs.YtnkimlkoijfcpaaGreatDoor
open Go.RowKit Go.Lib Go.Maps Go.Sort Go.Shelf
mutual
theorem qcp (x : Int) : ∀ e : Ex, x ∈ qbg e ↔ ∃ y ∈ pre e, y.op = 3 ∧ y.n = x
  | .mk o n s l => by
    rw [qbg, readsL_mem, qeg x l, pre]
    constructor
    · rintro (h | ⟨y, hy, h⟩)
      · split at h
        · rename_i ho
          rw [List.mem_singleton] at h
          exact ⟨.mk o n s l, List.mem_cons_self .., ho, h.symm⟩
        · cases h
      · exact ⟨y, List.mem_cons_of_mem _ hy, h⟩
    · rintro ⟨y, hy, h1, h2⟩
      rcases List.mem_cons.1 hy with rfl | hy
      · change o = 3 at h1
        rw [if_pos h1]
        exact .inl (by rw [← h2]; exact List.mem_cons_self ..)
      · exact .inr ⟨y, hy, h1, h2⟩
theorem qeg (x : Int) : ∀ l : List Ex, (∃ e ∈ l, x ∈ qbg e) ↔ ∃ y ∈ preL l, y.op = 3 ∧ y.n = x
  | [] => by rw [preL]; simp
  | e :: l => by
    rw [preL]
    constructor
    · rintro ⟨z, hz, h⟩
      rcases List.mem_cons.1 hz with hz | hz
      · rw [hz] at h
        obtain ⟨y, hy, h⟩ := (qcp x e).1 h
        exact ⟨y, List.mem_append.2 (.inl hy), h⟩
      · obtain ⟨y, hy, h⟩ := (qeg x l).1 ⟨z, hz, h⟩
        exact ⟨y, List.mem_append.2 (.inr hy), h⟩
    · rintro ⟨y, hy, h⟩
      rcases List.mem_append.1 hy with hy | hy
      · exact ⟨e, by simp, (qcp x e).2 ⟨y, hy, h⟩⟩
      · obtain ⟨z, hz, h⟩ := (qeg x l).2 ⟨y, hy, h⟩
        exact ⟨z, by simp [hz], h⟩
end
theorem up_pair : ∀ l : List Int, Up l → l.Pairwise (· < ·)
  | [], _ => .nil
  | a :: l, h => by rw [Up] at h; exact .cons h.1 (up_pair l h.2)
theorem sorted_keys {e : Ex} {D : DataW Unit} {m n : Nat} {w : World} {R : Value → Option (DataW Unit × List MemPlace)} (hown : w.ownsMap Tryz.prog 3 R m n D) (hD : ∀ x : Int, has D (.int .i64 x) = true ↔ ∃ y ∈ pre e, y.op = 3 ∧ y.n = x) {ss : List Int} (hp : ss.Perm (intKeys D)) :
    ss.mergeSort (fun x y => decide (x ≤ y)) = qbg e ∧ ss.length = (qbg e).length := by
  obtain ⟨es, h1, hpw, _⟩ := hown.entries keyed_int
  obtain ⟨es', h2, hko⟩ := hown.keysOf
  obtain rfl : es = es' := by rw [h1] at h2; simpa using h2
  subst h1
  have hpair := up_pair _ (readsP_up e)
  have h3 : (qbg e).Perm (intKeys (.map es)) := perm_intKeys hpw (fun p hp => by obtain ⟨v, hv⟩ := hko p hp; obtain ⟨x, _, hx, _⟩ := Maps.keyOf_i64 Tryz.underlying3 hv; exact ⟨x, hx⟩) (hpair.imp fun h => by omega) (fun x => by rw [qcp, hD])
  have h4 := hp.trans h3.symm
  refine ⟨(mergeSort_of_perm_i h4).trans ?_, h4.length_eq⟩
  exact List.mergeSort_of_pairwise (hpair.imp fun h => by simp only [leI, decide_eq_true_eq]; omega)
theorem sortsA (m : Nat) : AnyZI.SortsIn Tryz.prog Tryz.sortedA_ren Fence.wide m :=
  ⟨fun blk off cap ss W hH hblk hsz => callsIn_wide.2 (AnyM.slices_Sort_int Tryz.sortA blk off cap ss W hH hblk hsz),
   fun p cap W => callsIn_wide.2 (AnyM.slices_Sort_int_none Tryz.sortA p cap W)⟩
theorem keys_any (mb : Option Nat) (W : World) : Calls Tryz.prog 48 #[.map mb] W fun e w' => e = .returned (.func (.func 93) #[] #[.pointer (some ⟨W.heap.size, 0, none⟩)]) ∧ w' = W.alloc (.cells #[.map mb] 86) :=
  (callsIn_wide (n := 5)).1 (AnyZI.keys_in Tryz.keysA Fence.wide 5 trivial rfl mb W)
theorem sorted_any {H : Type} (b nn : Nat) (D0 : DataW H) (R : Value → Option (DataW H × List MemPlace)) (w : World) (hown : w.ownsMap Tryz.prog 3 R b nn D0) (hmax : Maps.size D0 ≤ maxLen) (hbytes : Maps.size D0 * 8 ≤ 140737488355328) :
    Calls Tryz.prog 47 #[.func (.func 93) #[] #[.pointer (some ⟨w.heap.size, 0, none⟩)]] (w.alloc (.cells #[.map (some b)] 86)) fun e w' => ∃ (v : Value) (ss : List Int), e = .returned v ∧ ss.Perm (intKeys D0) ∧
      w'.ownsRow (w.heap.size + 1) 3 1 v ss.length ((ss.mergeSort (fun x y => decide (x ≤ y))).map encZ) ∧ Ext (w.alloc (.cells #[.map (some b)] 86)) w' := by
  have hbl := hown.lt
  have hseq : SeqGives Fence.wide 2 Tryz.prog 93 #[.pointer (some ⟨w.heap.size, 0, none⟩)] encZ (fun ss => ss.Perm (intKeys D0)) (Maps.size D0) (w.alloc (.cells #[.map (some b)] 86)) :=
    AnyZI.keys_gives (ρ := Tryz.keysA_ren) { Tryz.keysA with } Fence.wide _ trivial rfl (by omega) w.heap.size b nn D0 _ (by simp) (by simp) (by
      obtain ⟨es, clock, hb, Ft, hs, hD⟩ := hown
      exact ⟨es, clock, (Below.heap_alloc _ _ b hbl).trans hb, Ft, hs, hD⟩)
  have cS := AnyZI.sorted_in Tryz.sortedA Fence.wide 5 trivial trivial trivial trivial rfl (by omega) (sortsA _) (enters_of Tryz.func59 (by kernel_rfl) rfl) 93 #[.pointer (some ⟨w.heap.size, 0, none⟩)] trivial (enters_of Tryz.func93 (by kernel_rfl) rfl) _ _ hmax hbytes _ hseq
  change CallsIn _ _ Tryz.prog 47 _ _ _ at cS
  refine callsIn_wide.1 (cS.mono ?_)
  rintro e w' ⟨v, ss, rfl, hS, hrow, hnil, hb⟩
  have hrow2 : w'.ownsRow (w.alloc (.cells #[.map (some b)] 86)).heap.size 3 1 v ss.length ((ss.mergeSort (fun x y => decide (x ≤ y))).map encZ) := hrow
  exact ⟨v, ss, rfl, hS, by simpa using hrow2, hb⟩
set_option maxRecDepth 100000 in
set_option maxHeartbeats 2000000 in
theorem reads_any (e : Ex) (hok : colsOk e) (hbd : parts e ≤ 1000000) (S : Nat → Prop) (cs : List Value) (w : World) (hr0 : Rd w S e.d cs) :
    Calls Tryz.prog 13 #[.agg cs.toArray] w fun r w' => ∃ v, r = .returned v ∧ w'.ownsRow w.heap.size 3 1 v (qbg e).length ((qbg e).map encZ) ∧ Ext w w' := by
  have hr := ex_bound e _ hr0
  obtain ⟨A, cap, b, off, rfl, hl1, hl2, hl3, hm⟩ := Ex.open hr
  have hmm := @run_makeMap Tryz.prog
  have hr' := Lib.hid hr; have hok' := Lib.hid hok
  clear hr hm hl3 hok hr0
  go_enter Tryz.func13, Tryz.ntmps13
  go_wp2_with fail
  generalize hWe : World.alloc (World.alloc (World.alloc w _) _) _ = W
  have hWs : W.heap.size = w.heap.size + 3 := by rw [← hWe]; clear hWe; go_simp
  have hwW : Ext w W := by rw [← hWe]; exact (by repeat' first | exact Ext.refl _ | assumption | apply Ext.alloc | apply Ext.drew | apply Ext.drewN | (refine Ext.trans ?_ (by assumption)))
  have hI : RInv (w.heap.size + 1) (w.heap.size + 1 + 1) [] W := by
    rw [← hWe]
    clear hWe
    refine ⟨⟨.map [], ?_, fun x => by simp [has]⟩, by go_simp⟩
    have := World.ownsMap_made (w.alloc (.cells #[.int .i64 e.op, .int .i64 e.n, .string e.s, .slice A e.args.length cap] 25)) Tryz.prog 3 (plainElem (H := Unit) Tryz.prog 4)
    have h2 := this.alloc (.cells #[.map (some (w.heap.size + 1))] 86)
    simpa using h2
  clear hWe
  refine (walk_readsB 1000000 #[.pointer (some ⟨w.heap.size + 1 + 1, 0, none⟩)] (w.heap.size + 1) (fun b => b < w.heap.size) (fun b hb => by omega) (RInv (w.heap.size + 1) (w.heap.size + 1 + 1)) colsOk colsOk_args (read_part _ _ _ (by omega)) (fun L w o h => h.alloc o) e [] _ W (by simpa using hbd) hok'.out hI (hr'.out.ext hwW) (by omega)).mono ?_
  rintro r w1 ⟨⟨v, rfl⟩, hI2, hg⟩
  obtain ⟨⟨D, hown, hD⟩, hp⟩ := hI2
  rw [List.nil_append] at hown hD
  have hp' := Lib.hid hp; have hown' := Lib.hid hown; have hD' := Lib.hid hD
  have he1 : Ext w w1 := ⟨hg.os.trans hwW.os, hg.tape.trans hwW.tape, hg.output.trans hwW.output, Nat.le_trans hwW.size hg.size, fun k hk => (hg.block k (Nat.lt_of_lt_of_le hk hwW.size) (fun h => by have := Option.some.inj h; omega)).trans (hwW.block k hk)⟩
  clear hI hwW hown hD hg
  go_wp2_with fail
  refine (keys_any _ _).mono ?_
  rintro r w2 ⟨rfl, rfl⟩
  go_wp2_with fail
  have hsz := hown'.out.size_le
  have hpl := pre_len e
  refine (sorted_any (w.heap.size + 1) _ D _ w1 hown'.out (by unfold maxLen; omega) (by omega)).mono ?_
  rintro r w3 ⟨u, ss, rfl, hperm, hrow, he3⟩
  obtain ⟨k1, k2⟩ := sorted_keys hown'.out hD'.out hperm
  rw [k1, k2] at hrow
  have he4 : Ext w w3 := (he1.alloc _).trans he3
  have hrow' : w3.ownsRow w.heap.size 3 1 u (qbg e).length ((qbg e).map encZ) := ownsRow_base_a hrow (by have := he1.size; omega)
  clear hp k1 k2 hrow he3 hsz
  go_wp2_with fail
  go_ret
  exact ⟨u, rfl, hrow', he4⟩
theorem reads_g (e : Ex) (hok : colsOk e) (hbd : parts e ≤ 1000000) : Gives Tryz.prog 13 [e.av] (.sl ((qbg e).map AV.int)) :=
  gives_of fun X vals ha => by
    obtain ⟨v0, _, rfl, h0, h3⟩ := ha
    cases h3
    obtain ⟨cs, rfl, hr⟩ := arg_ex h0
    refine (reads_any e hok hbd Any cs X.w hr).mono ?_
    rintro r w' ⟨v, rfl, hrow, he⟩
    refine ⟨he, v, rfl, ?_⟩
    have hR : Rd w' (fun b => X.w.heap.size ≤ b ∧ b < w'.heap.size) (.sl ((qbg e).map D.int)) [v] :=
      own_ints (S := fun b => X.w.heap.size ≤ b ∧ b < w'.heap.size) hrow (fun b hb => hrow.lt b hb)
    have := later_rc (X := X) hR
    rw [ints_av] at this
    exact this
end Go.Proofs.YtnkimlkoijfcpaaGreatDoor

/- Slices of ints of the call's own that the library turns in place: slices.Sort, slices.Compact. -/
namespace Go.Proofs.YtnkimlkoijfcpaaGreatDoor
open Go.RowKit Go.Lib Go.Sort
theorem rcs_ints {X : St} : ∀ {l : List Int} {xs : List Value}, RCs X (l.map AV.int) xs → xs = l.map (Value.int .i64)
  | [], xs, h => by rw [List.map_nil, RCs] at h; rw [h]; rfl
  | a :: l, xs, h => by
    rw [List.map_cons, RCs] at h
    obtain ⟨c1, c2, rfl, h1, h2⟩ := h
    rw [RC] at h1
    rw [h1, rcs_ints h2]; rfl
theorem ints_rcs {X : St} : ∀ (l : List Int), RCs X (l.map AV.int) (l.map (Value.int .i64))
  | [] => by rw [List.map_nil, List.map_nil, RCs]
  | a :: l => by
    rw [List.map_cons, List.map_cons, RCs]
    exact ⟨[_], _, rfl, by rw [RC], ints_rcs l⟩
theorem upd_self {α : Type} {f : Nat → α} {k : Nat} {x : α} (h : f k = x) : upd f k x = f := by
  funext j; unfold upd; split
  · rename_i e; rw [e, h]
  · rfl
theorem own_of {X : St} {r : Nat} {zs : List Int} {e : TypeId} {v : Value} (hS : SR X) (hσ : X.σ r = .vec (zs.map AV.int) e 1) (hv : RC X (.own r zs.length) [v]) : v = X.μ r ∧ X.w.ownsRow 0 e 1 (X.μ r) zs.length (zs.map (Value.int .i64)) ∧ ∀ b o, X.blk r = some b → ¬ X.S b o := by
  rw [RC] at hv
  obtain ⟨-, v0, hv0, -, hall⟩ := hv
  obtain rfl : v = v0 := by simpa using hv0
  have hB := hS.block r
  rw [hσ] at hB
  obtain ⟨-, xs, hown, hrs⟩ := hB
  rw [rcs_ints hrs, List.length_map] at hown
  refine ⟨(hall _ _ _ hσ).2 (by simp), hown, fun b o h5 h6 => ?_⟩
  obtain ⟨n2, e2, s2, h7, -⟩ := hS.apart r b o h5 h6
  rw [hσ] at h7; cases h7
abbrev sortI (zs : List Int) : List Int := zs.mergeSort fun x y => decide (x ≤ y)
theorem sort_ac (r : Nat) (zs : List Int) (σ : Nat → AB) (hσ : σ r = .vec (zs.map AV.int) 3 1) (hz : zs.length ≤ 1000000) :
    AC Tryz.prog 59 [.own r zs.length] σ fun y τ => y = .tup [] ∧ τ = upd σ r (.vec ((sortI zs).map AV.int) 3 1) := by
  intro X vals nx hS hX hfin hargs
  subst hX
  obtain ⟨v, _, rfl, hv, h0⟩ := hargs
  cases h0
  obtain ⟨rfl, hown, hno⟩ := own_of hS hσ hv
  by_cases hnil : X.μ r = .slice none 0 0
  · have hz0 : zs = [] := by
      rcases hown.2 with ⟨-, h⟩ | ⟨g, cap, cur, h, -⟩
      · exact List.eq_nil_of_length_eq_zero h
      · rw [hnil] at h; cases h
    subst hz0
    rw [hnil]
    refine (Tryz.slices_Sort_int_none none 0 X.w).mono ?_
    rintro e w' ⟨rfl, rfl⟩
    exact ⟨X, _, .tup [], rfl, rfl, ⟨rfl, by rw [show sortI [] = [] from List.mergeSort_nil]; exact (upd_self hσ).symm⟩, hS, Fr.refl X, [], rfl, rfl⟩
  · obtain ⟨g, cap, hve, -, hgl, hncap, hcm, -, hH⟩ := Lib.holds_of_ownsRow hown hnil
    have hblk : X.blk r = some g := by unfold St.blk; rw [hσ, hve]; rfl
    rw [hve]
    refine (Tryz.slices_Sort_int g 0 cap zs X.w hH hgl (by omega)).mono ?_
    rintro e w' ⟨rfl, n, os, rfl⟩
    have hl : (sortI zs).length = zs.length := List.length_mergeSort zs
    have hrow : (grow (putRow (Value.int .i64) (Sort.ahead X.w n) g 0 (sortI zs).toArray) os).ownsRow 0 3 1 (X.μ r) zs.length ((sortI zs).map (Value.int .i64)) := by
      rw [hve] at hown ⊢
      rcases hown.2 with ⟨h, -⟩ | ⟨g', cap', cur, hv', -, hb, h1, h2, h3, -⟩
      · cases h
      cases hv'
      exact ownsRow_sortedI hl (Nat.zero_le _) hb h1 h2 h3
    have hT : Turns X (grow (putRow (Value.int .i64) (Sort.ahead X.w n) g 0 (sortI zs).toArray) os) X.S r (.vec ((sortI zs).map AV.int) 3 1) (X.μ r) :=
      { grown := by rw [hblk]; exact grownBy_sortedI _
        blk := fun b h => .inl (by unfold St.blk; rw [hσ]; exact h)
        ver := by
          unfold Ver
          rw [hσ]
          exact .inr ⟨_, by simp [St.turn, upd]; rfl, .inr ⟨by simp [hl], by simp [St.turn, upd]⟩⟩
        keepS := fun b o h5 h6 => absurd h6 (hno b o h5)
        more := fun _ _ h => h
        less := fun _ _ h => .inl h
        apart := fun b o h5 h6 => absurd h6 (hno b o (by unfold St.blk; rw [hσ]; exact h5))
        old := fun b h => by
          rw [hve] at h
          obtain rfl : g = b := Option.some.inj h
          simpa using Nat.lt_of_lt_of_le hgl (Nat.le_add_right _ _) }
    refine ⟨_, .tuple #[], .tup [], rfl, rfl, ⟨rfl, rfl⟩, turn_sr hS hT ⟨fun x hx => ?_, _, ?_, ints_rcs _⟩, turn_fr hS hT, [], rfl, rfl⟩
    · obtain ⟨a, -, rfl⟩ := List.mem_map.1 hx; rfl
    · rw [List.length_map, hl]; exact hrow
theorem ints_rm {X : St} {g : Nat} : ∀ (l : List Int) (off : Nat), (∀ j (h : j < l.length), X.w.cell? ⟨g, off + j, none⟩ = some (.int .i64 l[j]) ∧ X.S g (off + j)) → RM X (l.map AV.int) g off
  | [], _, _ => by rw [List.map_nil, RM]; trivial
  | a :: l, off, h => by
    rw [List.map_cons, RM]
    obtain ⟨h1, h2⟩ := h 0 (by simp)
    refine ⟨⟨[_], ⟨h1, h2, trivial⟩, by rw [RC]; rfl⟩, ints_rm l _ fun j hj => ?_⟩
    have := h (j + 1) (by simpa using hj)
    rw [show (AV.int a).width = 1 from rfl, Nat.add_assoc, Nat.add_comm 1 j]
    exact this
theorem compact_ac (r : Nat) (zs : List Int) (σ : Nat → AB) (hσ : σ r = .vec (zs.map AV.int) 3 1) (hz : zs.length ≤ 1000000) :
    AC Tryz.prog 60 [.own r zs.length] σ fun y τ => y = .sl ((Lib.compact zs).map AV.int) ∧ τ = upd σ r .dead := by
  intro X vals nx hS hX hfin hargs
  subst hX
  obtain ⟨v, _, rfl, hv, h0⟩ := hargs
  cases h0
  obtain ⟨rfl, hown, hno⟩ := own_of hS hσ hv
  have hdead : ∀ (Y : St), Y.μ = X.μ → Y.σ = upd X.σ r .dead → ∀ k b, Y.blk k = some b → k ≠ r ∧ X.blk k = some b := fun Y h1 h2 k b h => by
    unfold St.blk at h ⊢
    rw [h1, h2] at h
    unfold upd at h
    by_cases hk : k = r
    · rw [if_pos hk] at h; cases h
    · rw [if_neg hk] at h; exact ⟨hk, h⟩
  have hver : ∀ (Y : St), Y.μ = X.μ → Y.σ = upd X.σ r .dead → ∀ k, Ver X Y k := fun Y h1 h2 k => by
    by_cases hk : k = r
    · subst hk; unfold Ver; rw [hσ]; exact .inl (by rw [h2]; simp [upd])
    · have := (Fr.refl X).ver k
      unfold Ver at this ⊢
      rw [h1, show Y.σ k = X.σ k by rw [h2]; simp [upd, hk]]; exact this
  by_cases hnil : X.μ r = .slice none 0 0
  · have hz0 : zs = [] := by
      rcases hown.2 with ⟨-, h⟩ | ⟨g, cap, cur, h, -⟩
      · exact List.eq_nil_of_length_eq_zero h
      · rw [hnil] at h; cases h
    subst hz0
    rw [hnil]
    refine (Tryz.slices_Compact_int_empty none 0 X.w).mono ?_
    rintro e w' ⟨rfl, rfl⟩
    have hc0 : Lib.compact ([] : List Int) = [] := List.eq_nil_of_length_eq_zero (by have := Lib.compact_length_le ([] : List Int); simpa using this)
    rw [hc0]
    let Y : St := { X with σ := upd X.σ r .dead }
    have hF : Fr X Y := ⟨rfl, rfl, rfl, Nat.le_refl _, fun _ _ _ => rfl, fun _ _ _ => rfl, fun _ _ h => h, fun _ _ h => .inl h, hver Y rfl rfl, fun k b h => .inr ⟨k, (hdead Y rfl rfl k b h).2⟩⟩
    refine ⟨Y, _, _, rfl, rfl, ⟨rfl, rfl⟩, ⟨fun k => ?_, fun k k' b h1 h2 => hS.alone _ _ b (hdead Y rfl rfl k b h1).2 (hdead Y rfl rfl k' b h2).2, fun k b o h1 h2 => ?_, hS.old, hS.glob.mono fun _ _ _ h => h.fr hF⟩, hF, ?_⟩
    · by_cases hk : k = r
      · have : Y.σ k = .dead := by simp [Y, upd, hk]
        rw [this]; trivial
      · exact BR.fr hS hF (by simp [Y, upd, hk]) rfl fun _ _ => rfl
    · obtain ⟨hk, h3⟩ := hdead Y rfl rfl k b h1
      obtain ⟨n, e, s, h4, h5⟩ := hS.apart k b o h3 h2
      exact ⟨n, e, s, by simp [Y, upd, hk, h4], h5⟩
    · show RC Y (.sl _) [_]
      rw [RC]
      exact ⟨none, 0, 0, 0, rfl, by simp, by decide, by simp, by simp [RM]⟩
  · obtain ⟨g, cap, hve, -, hgl, hncap, hcm, -, hH⟩ := Lib.holds_of_ownsRow hown hnil
    have hblk : X.blk r = some g := by unfold St.blk; rw [hσ, hve]; rfl
    rw [hve]
    have hle := Lib.compact_length_le zs
    obtain ⟨C, hC⟩ : ∃ C, C = Lib.compact zs := ⟨_, rfl⟩
    refine (Tryz.slices_Compact_int g 0 cap zs X.w hH (by omega) hncap).mono ?_
    rintro e w' ⟨rfl, q, rfl⟩
    rw [← hC] at hle ⊢
    obtain ⟨w', hw'⟩ : ∃ w', w' = putRow (Value.int .i64) (Sort.ahead X.w q) g 0 (C ++ List.replicate (zs.length - C.length) 0).toArray := ⟨_, rfl⟩
    have hg2 : X.w.grownBy w' (some g) := by
      rw [hw']
      refine ⟨rfl, rfl, rfl, by simp [putRow, Go.Sort.mapBlock, Sort.ahead], fun k hk hne => ?_⟩
      have : g ≠ k := fun e => hne (by rw [e])
      simp [putRow, Go.Sort.mapBlock, Sort.ahead, Array.getElem?_modify, this]
    have hrow : w'.ownsRow 0 3 1 (.slice (some ⟨g, 0, none⟩) C.length cap) C.length (C.map (Value.int .i64)) := by
      rw [hve] at hown
      have := Lib.ownsRow_putRow (q := q) (k := C.length) (ys := C ++ List.replicate (zs.length - C.length) 0) hown (by simp; omega) (by omega)
      rw [List.take_left] at this
      rw [hw']; exact this
    rw [← hw']
    clear hw'
    let Y : St := { w := w', μ := X.μ, σ := upd X.σ r .dead, S := fun b o => X.S b o ∨ (b = g ∧ o < C.length) }
    have hSg : ∀ b o, X.S b o → b ≠ g := fun b o h e => hno b o (by rw [hblk, e]) h
    have hF : Fr X Y := ⟨hg2.os, hg2.tape, hg2.output, hg2.size, fun b hb hn => hg2.block b hb fun e => hn r (by rw [hblk, e]), fun b o h => World.cell?_of_block (a := ⟨b, o, none⟩) (hg2.block b (hS.old b o h) fun e => hSg b o h (Option.some.inj e)), fun _ _ h => .inl h,
      fun b o h => by
        rcases h with h | ⟨rfl, -⟩
        · exact .inl h
        · exact .inr (.inr ⟨r, hblk⟩), hver Y rfl rfl, fun k b h => .inr ⟨k, (hdead Y rfl rfl k b h).2⟩⟩
    refine ⟨Y, _, _, rfl, rfl, ⟨rfl, rfl⟩, ⟨fun k => ?_, fun k k' b h1 h2 => hS.alone _ _ b (hdead Y rfl rfl k b h1).2 (hdead Y rfl rfl k' b h2).2, fun k b o h1 h2 => ?_, fun b o h => ?_, hS.glob.mono fun _ _ _ h => h.fr hF⟩, hF, ?_⟩
    · by_cases hk : k = r
      · have : Y.σ k = .dead := by simp [Y, upd, hk]
        rw [this]; trivial
      · refine BR.fr hS hF (by simp [Y, upd, hk]) rfl fun b hb => ?_
        have : b ≠ g := fun e => hk (hS.alone k r g (by rw [← e]; exact hb) hblk)
        exact hg2.block b (hS.lt hb) fun e => this (Option.some.inj e)
    · obtain ⟨hk, h3⟩ := hdead Y rfl rfl k b h1
      rcases h2 with h2 | ⟨rfl, -⟩
      · obtain ⟨n, e, s, h4, h5⟩ := hS.apart k b o h3 h2
        exact ⟨n, e, s, by simp [Y, upd, hk, h4], h5⟩
      · exact absurd (hS.alone k r b h3 hblk) hk
    · rcases h with h | ⟨rfl, -⟩
      · exact Nat.lt_of_lt_of_le (hS.old b o h) hg2.size
      · exact Nat.lt_of_lt_of_le hgl hg2.size
    · show RC Y (.sl _) [_]
      rw [RC]
      refine ⟨some ⟨g, 0, none⟩, cap, g, 0, by simp, by simp; omega, by unfold maxLen at hcm; omega, fun _ => rfl, ints_rm C 0 fun j hj => ⟨?_, .inr ⟨rfl, by omega⟩⟩⟩
      have := hrow.cellAt j (by omega)
      rw [Nat.zero_add]
      simpa [List.getElem?_eq_getElem hj] using this
end Go.Proofs.YtnkimlkoijfcpaaGreatDoor

/- Walk of layer 25: code.Reads. -/
namespace Go.Proofs.YtnkimlkoijfcpaaGreatDoor
open Go.RowKit Go.Lib
def colsI (l : List Ins) : List Int := (l.filter fun x => decide (x.op = 3)).map Ins.n
def qen (c : Cod) : List Int := Lib.compact (sortI (colsI c.ins))
theorem colsI_len (l : List Ins) : (colsI l).length ≤ l.length := by unfold colsI; rw [List.length_map]; exact List.length_filter_le _ _
set_option maxHeartbeats 8000000 in
theorem creads_g (c : Cod) (hc : c.ins.length ≤ 1000000) : Gives Tryz.prog 24 [c.av] (.sl ((qen c).map AV.int)) := by
  obtain ⟨R, hR⟩ : ∃ R, R = qen c := ⟨_, rfl⟩
  rw [← hR]
  obtain ⟨ins, types, out⟩ := c
  simp only at hc
  unfold qen at hR
  simp only at hR
  refine qn Tryz.func24 Tryz.ntmps24 rfl rfl (by decide) rfl (by intro n; simp) fun σ n0 hcl hft => ?_
  repeat' (first | ((first | ((with_reducible refine qo (fun hg => ?_) (fun hg => ?_)) <;> (try simp only [hg]) <;> (try simp only [gS] at hg) <;> (try (first | simp only [eq_false hg, gI] | simp only [eq_true hg, gI]))) | (with_reducible first | refine qh ?_ | refine qg ?_ | refine ql ?_ | refine qk ?_) | refine qd ?_ | refine qi ?_ | refine qj ?_ | refine qm ?_) <;> (try simp (disch := first | omega | simp) [qf, -qq, -qs])) | ((with_reducible refine sideT ?_ ?_); first | omega | assumption | (simp; done)) | (refine qe fun K hK => ?_) | (refine qb ?_) | (refine qa true (by kernel_rfl) (by kernel_rfl) ?_) | (refine qa false (by kernel_rfl) (by kernel_rfl) ?_) | (refine hK _ ?_; clear hK K) | (clear hK K; refine hK _ ?_; clear hK K) | (clear hK K; clear hK K; refine hK _ ?_; clear hK K) | refine qc ?_)
  refine qcg 3 3 1 (by simp) ?_
  refine awp_thawR 3 1 (et := 3) (sz := 1) (by simp) (by rfl) ?_
  refine qu hcl (fun k : Nat => [(3, .own (n0 + 2) (colsI (ins.take k)).length), (7, .sl (ins.map Ins.av)), (8, .int ins.length), (9, .int k)])
    (fun k => [.cells [.sl (ins.map Ins.av), .sl (types.map AV.int), .int out] 45, .dead, .vec ((colsI (ins.take k)).map AV.int) 3 1])
    (fun k => k ≤ ins.length) (fun k => ins.length - k) 0 (by omega) (by simp [colsI]) fun k hk => ?_
  have hlk := colsI_len (ins.take k)
  rw [List.length_take] at hlk
  by_cases hlt : k < ins.length
  · have htk : colsI (ins.take (k + 1)) = colsI (ins.take k) ++ (if ins[k].op = 3 then [ins[k].n] else []) := by
      unfold colsI
      rw [List.take_succ_eq_append_getElem hlt, List.filter_append, List.map_append]
      by_cases h : ins[k].op = 3 <;> simp [h]
    generalize hx : ins[k] = x at *
    generalize hL : colsI (ins.take k) = L at *
    have hsz : (L.length + 1) * 8 ≤ 140737488355328 := by omega
    by_cases h3 : x.op = 3
    · rw [if_pos h3] at htk
      repeat' (first | ((first | ((with_reducible refine qo (fun hg => ?_) (fun hg => ?_)) <;> (try simp only [hg]) <;> (try simp only [gS] at hg) <;> (try (first | simp only [eq_false hg, gI] | simp only [eq_true hg, gI]))) | (with_reducible first | refine qh ?_ | refine qg ?_ | refine ql ?_ | refine qk ?_) | refine awp_regionW (id := 6) 4 (by rfl) ?_ | refine qd ?_ | refine qi ?_ | refine qj ?_ | refine qm ?_) <;> (try simp (disch := first | omega | simp) [qf, -qq, -qs, hlt, hx, h3, hsz, List.take_succ_cons, List.drop_succ_cons])) | ((with_reducible refine sideT ?_ ?_); first | omega | assumption | (simp; done)) | (refine qe fun K hK => ?_) | (refine qb ?_) | (refine qa true (by kernel_rfl) (by kernel_rfl) ?_) | (refine qa false (by kernel_rfl) (by kernel_rfl) ?_) | (refine hK _ ?_; clear hK K) | (clear hK K; refine hK _ ?_; clear hK K) | (clear hK K; clear hK K; refine hK _ ?_; clear hK K) | refine qc ?_)
      exact ⟨k + 1, by omega, by omega, by rw [htk]; simp, by rw [htk]; simp, by omega⟩
    · rw [if_neg h3, List.append_nil] at htk
      repeat' (first | ((first | ((with_reducible refine qo (fun hg => ?_) (fun hg => ?_)) <;> (try simp only [hg]) <;> (try simp only [gS] at hg) <;> (try (first | simp only [eq_false hg, gI] | simp only [eq_true hg, gI]))) | (with_reducible first | refine qh ?_ | refine qg ?_ | refine ql ?_ | refine qk ?_) | refine qd ?_ | refine qi ?_ | refine qj ?_ | refine qm ?_) <;> (try simp (disch := first | omega | simp) [qf, -qq, -qs, hlt, hx, h3])) | ((with_reducible refine sideT ?_ ?_); first | omega | assumption | (simp; done)) | (refine qe fun K hK => ?_) | (refine qb ?_) | (refine qa true (by kernel_rfl) (by kernel_rfl) ?_) | (refine qa false (by kernel_rfl) (by kernel_rfl) ?_) | (refine hK _ ?_; clear hK K) | (clear hK K; refine hK _ ?_; clear hK K) | (clear hK K; clear hK K; refine hK _ ?_; clear hK K) | refine qc ?_)
      all_goals first | exact absurd (by assumption) h3 | exact ⟨k + 1, by omega, by omega, by rw [htk], by rw [htk], by omega⟩
  · obtain rfl : k = ins.length := by omega
    rw [List.take_length]
    have hl := colsI_len ins
    generalize colsI ins = L at *
    have c1 := fun σ h => sort_ac (n0 + 2) L σ h (by omega)
    have c2 := fun σ h => compact_ac (n0 + 2) (sortI L) σ h (by rw [List.length_mergeSort]; omega)
    have hsl : (sortI L).length = L.length := List.length_mergeSort L
    rw [hsl] at c2
    repeat' (first | ((first | ((with_reducible refine qo (fun hg => ?_) (fun hg => ?_)) <;> (try simp only [hg]) <;> (try simp only [gS] at hg) <;> (try (first | simp only [eq_false hg, gI] | simp only [eq_true hg, gI]))) | (with_reducible first | refine qh ?_ | refine qg ?_ | refine ql ?_ | refine qk ?_) | refine acallS (n0 + 2) _ (c1 _ (by simp)) (by simp) ?_ | refine acallS (n0 + 2) _ (c2 _ (by simp)) (by simp) ?_ | refine qd ?_ | refine qi ?_ | refine qj ?_ | refine qm ?_) <;> (try simp (disch := first | omega | simp) [qf, -qq, -qs, hlt])) | ((with_reducible refine sideT ?_ ?_); first | omega | assumption | (simp; done)) | (refine qe fun K hK => ?_) | (refine qb ?_) | (refine qa true (by kernel_rfl) (by kernel_rfl) ?_) | (refine qa false (by kernel_rfl) (by kernel_rfl) ?_) | (refine hK _ ?_; clear hK K) | (clear hK K; refine hK _ ?_; clear hK K) | (clear hK K; clear hK K; refine hK _ ?_; clear hK K) | refine qc ?_)
    rw [hR]
end Go.Proofs.YtnkimlkoijfcpaaGreatDoor
