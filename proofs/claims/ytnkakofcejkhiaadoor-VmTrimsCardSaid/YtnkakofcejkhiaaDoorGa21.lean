/- Walk of layer 25: whether an instruction is formed. -/
import Derived.Test.YtnkakofcejkhiaaDoorGa4
import Derived.Test.YtnkakofcejkhiaaDoorGa17
import Derived.Test.YtnkakofcejkhiaaDoorGa19
import Derived.Test.YtnkakofcejkhiaaDoorGa20
set_option linter.unusedSimpArgs false
set_option linter.unusedVariables false
namespace Go.Proofs.YtnkakofcejkhiaaDoor
open Go.RowKit Go.Lib

theorem bare_same (x : Ins) : Ins.eqB (bareI x) x = true ↔ (3 ≤ arO x.op ∨ x.c = 0) ∧ (2 ≤ arO x.op ∨ x.b = 0) ∧ (1 ≤ arO x.op ∨ x.a = 0) ∧ ((x.op = 0 ∨ x.op = 2 ∨ x.op = 3) ∨ x.n = 0) ∧ (x.op = 1 ∨ x.s.size = 0) := by
  rw [Ins.eqB_iff]
  obtain ⟨o, to, a, b, c, n, s⟩ := x
  unfold bareI
  simp only [Ins.mk.injEq, true_and]
  have hs : (if o = 1 then s else ByteArray.empty) = s ↔ (o = 1 ∨ s.size = 0) := by
    split
    · rename_i h; exact ⟨fun _ => .inl h, fun _ => rfl⟩
    · rename_i h
      exact ⟨fun e => .inr (by rw [← e]; rfl), fun e => by rcases e with e | e; exact absurd e h; exact (size_empty e).symm⟩
  rw [hs]
  have hi : ∀ (p : Prop) [Decidable p] (v : Int), (if p then v else 0) = v ↔ (p ∨ v = 0) := fun p _ v => by
    split
    · rename_i h; exact ⟨fun _ => .inl h, fun _ => rfl⟩
    · rename_i h; exact ⟨fun e => .inr e.symm, fun e => e.elim (fun e => absurd e h) fun e => e.symm⟩
  rw [hi, hi, hi, hi]
  constructor
  · rintro ⟨h1, h2, h3, h4, h5⟩; exact ⟨h3, h2, h1, h4, h5⟩
  · rintro ⟨h1, h2, h3, h4, h5⟩; exact ⟨h3, h2, h1, h4, h5⟩
theorem formed_is (x : Ins) : formedB x = (opOk x.op && (Ins.eqB (bareI x) x && (decide ((x.s.size : Int) ≤ 200) && decide (x.op = 2 → x.n = 0 ∨ x.n = 1)))) := by
  have h := bare_same x
  have hle := arO_le x.op
  unfold formedB
  cases ho : opOk x.op
  · rfl
  rw [Bool.true_and, Bool.true_and, Bool.eq_iff_iff]
  simp only [Bool.and_eq_true, h, decide_eq_true_eq]
  by_cases h0 : x.op = 0 ∨ x.op = 3
  · rw [if_pos h0]
    simp only [decide_eq_true_eq]
    omega
  · rw [if_neg h0]
    by_cases h2 : x.op = 2
    · rw [if_pos h2]
      simp only [Bool.and_eq_true, decide_eq_true_eq]
      omega
    · rw [if_neg h2]
      by_cases h1 : x.op = 1
      · rw [if_pos h1]
        simp only [Bool.and_eq_true, decide_eq_true_eq]
        omega
      · rw [if_neg h1]
        simp only [Bool.and_eq_true, decide_eq_true_eq]
        omega
set_option maxHeartbeats 1000000 in
theorem formed_g (x : Ins) : Gives Tryd.prog 63 [x.av] (.bool (formedB x)) := by
  have c1 := isOp_g x.op
  have c2 := bare_g x
  obtain ⟨R, hR⟩ : ∃ R, R = formedB x := ⟨_, rfl⟩
  rw [← hR]
  rw [formed_is] at hR
  generalize opOk x.op = b at *
  cases b
  · refine gives_of_awp Tryd.func63 Tryd.ntmps63 rfl rfl (by decide) rfl (by intro n; simp) fun σ n0 hcl hft => ?_
    repeat' (first | ((first | ((with_reducible refine aguard (fun hg => ?_) (fun hg => ?_)) <;> (try simp only [hg]) <;> (try simp only [beq_iff_eq, beq_eq_false_iff_ne, ne_eq, decide_eq_true_eq, decide_eq_false_iff_not, bne_iff_ne, bne_eq_false_iff_eq] at hg) <;> (try (first | simp only [eq_false hg, if_true, if_false] | simp only [eq_true hg, if_true, if_false]))) | with_reducible refine aseq_step ?_ | with_reducible refine any_step' ?_ | with_reducible refine aseq_end ?_ | with_reducible refine any_end' ?_ | refine acall (c1) ?_ | refine agives (c1) ?_ | refine awp_condC ?_ | refine awp_exit ?_ | refine awp_skip ?_ | refine awp_ret ?_) <;> (try simp (disch := first | omega | simp) [wrap_i64, -aseqC, -anyC])) | ((first | with_reducible refine sideG ?_ ?_ | with_reducible refine sideG2 ?_ ?_ | with_reducible refine sideS ?_ ?_ | with_reducible refine sideS2 ?_ ?_ | with_reducible refine sideS3 ?_ ?_ | with_reducible refine sideA ?_ ?_ | with_reducible refine sideA2 ?_ ?_ | with_reducible refine sideA3 ?_ ?_); (first | omega | assumption | (simp; done))) | (refine awp_seq_k fun K hK => ?_) | (refine awp_regionC ?_) | (refine awp_anyA true (by kernel_rfl) (by kernel_rfl) ?_) | (refine hK _ ?_; clear hK; clear K) | (clear hK; clear K; refine hK _ ?_; clear hK; clear K) | (clear hK; clear K; clear hK; clear K; refine hK _ ?_; clear hK; clear K) | refine awp_block ?_)
    all_goals (subst hR; simp_all)
  generalize bareI x = y at *
  cases hy : Ins.eqB y x
  · rw [hy] at hR
    refine gives_of_awp Tryd.func63 Tryd.ntmps63 rfl rfl (by decide) rfl (by intro n; simp) fun σ n0 hcl hft => ?_
    repeat' (first | ((first | ((with_reducible refine aguard (fun hg => ?_) (fun hg => ?_)) <;> (try simp only [hg]) <;> (try simp only [beq_iff_eq, beq_eq_false_iff_ne, ne_eq, decide_eq_true_eq, decide_eq_false_iff_not, bne_iff_ne, bne_eq_false_iff_eq] at hg) <;> (try (first | simp only [eq_false hg, if_true, if_false] | simp only [eq_true hg, if_true, if_false]))) | with_reducible refine aseq_step ?_ | with_reducible refine any_step' ?_ | with_reducible refine aseq_end ?_ | with_reducible refine any_end' ?_ | refine acall (c1) ?_ | refine agives (c1) ?_ | refine acall (c2) ?_ | refine agives (c2) ?_ | refine awp_condC ?_ | refine awp_exit ?_ | refine awp_skip ?_ | refine awp_ret ?_) <;> (try simp (disch := first | omega | simp) [wrap_i64, -aseqC, -anyC, hy])) | ((first | with_reducible refine sideG ?_ ?_ | with_reducible refine sideG2 ?_ ?_ | with_reducible refine sideS ?_ ?_ | with_reducible refine sideS2 ?_ ?_ | with_reducible refine sideS3 ?_ ?_ | with_reducible refine sideA ?_ ?_ | with_reducible refine sideA2 ?_ ?_ | with_reducible refine sideA3 ?_ ?_); (first | omega | assumption | (simp; done))) | (refine awp_seq_k fun K hK => ?_) | (refine awp_regionC ?_) | (refine awp_anyA true (by kernel_rfl) (by kernel_rfl) ?_) | (refine hK _ ?_; clear hK; clear K) | (clear hK; clear K; refine hK _ ?_; clear hK; clear K) | (clear hK; clear K; clear hK; clear K; refine hK _ ?_; clear hK; clear K) | refine awp_block ?_)
    all_goals (subst hR; simp_all)
  rw [hy] at hR
  by_cases hs : (x.s.size : Int) ≤ 200
  · have hsh : ((x.n).fdiv 2 = 0) ↔ (x.n = 0 ∨ x.n = 1) := by
      rw [Int.fdiv_eq_ediv_of_nonneg _ (by omega)]
      omega
    refine gives_of_awp Tryd.func63 Tryd.ntmps63 rfl rfl (by decide) rfl (by intro n; simp) fun σ n0 hcl hft => ?_
    repeat' (first | ((first | ((with_reducible refine aguard (fun hg => ?_) (fun hg => ?_)) <;> (try simp only [hg]) <;> (try simp only [beq_iff_eq, beq_eq_false_iff_ne, ne_eq, decide_eq_true_eq, decide_eq_false_iff_not, bne_iff_ne, bne_eq_false_iff_eq] at hg) <;> (try (first | simp only [eq_false hg, if_true, if_false] | simp only [eq_true hg, if_true, if_false]))) | with_reducible refine aseq_step ?_ | with_reducible refine any_step' ?_ | with_reducible refine aseq_end ?_ | with_reducible refine any_end' ?_ | refine acall (c1) ?_ | refine agives (c1) ?_ | refine acall (c2) ?_ | refine agives (c2) ?_ | refine awp_condC ?_ | refine awp_exit ?_ | refine awp_skip ?_ | refine awp_ret ?_) <;> (try simp (disch := first | omega | simp) [wrap_i64, -aseqC, -anyC, hy, hs])) | ((first | with_reducible refine sideG ?_ ?_ | with_reducible refine sideG2 ?_ ?_ | with_reducible refine sideS ?_ ?_ | with_reducible refine sideS2 ?_ ?_ | with_reducible refine sideS3 ?_ ?_ | with_reducible refine sideA ?_ ?_ | with_reducible refine sideA2 ?_ ?_ | with_reducible refine sideA3 ?_ ?_); (first | omega | assumption | (simp; done))) | (refine awp_seq_k fun K hK => ?_) | (refine awp_regionC ?_) | (refine awp_anyA true (by kernel_rfl) (by kernel_rfl) ?_) | (refine hK _ ?_; clear hK; clear K) | (clear hK; clear K; refine hK _ ?_; clear hK; clear K) | (clear hK; clear K; clear hK; clear K; refine hK _ ?_; clear hK; clear K) | refine awp_block ?_)
    · rw [hR]; simp [hs, hg]
    · rw [show (2 : Int) ^ min 1 IntKind.i64.bits = 2 from rfl, hR, Bool.eq_iff_iff]
      simp only [beq_iff_eq, hsh]
      simp [hs, hg]
  · refine gives_of_awp Tryd.func63 Tryd.ntmps63 rfl rfl (by decide) rfl (by intro n; simp) fun σ n0 hcl hft => ?_
    repeat' (first | ((first | ((with_reducible refine aguard (fun hg => ?_) (fun hg => ?_)) <;> (try simp only [hg]) <;> (try simp only [beq_iff_eq, beq_eq_false_iff_ne, ne_eq, decide_eq_true_eq, decide_eq_false_iff_not, bne_iff_ne, bne_eq_false_iff_eq] at hg) <;> (try (first | simp only [eq_false hg, if_true, if_false] | simp only [eq_true hg, if_true, if_false]))) | with_reducible refine aseq_step ?_ | with_reducible refine any_step' ?_ | with_reducible refine aseq_end ?_ | with_reducible refine any_end' ?_ | refine acall (c1) ?_ | refine agives (c1) ?_ | refine acall (c2) ?_ | refine agives (c2) ?_ | refine awp_condC ?_ | refine awp_exit ?_ | refine awp_skip ?_ | refine awp_ret ?_) <;> (try simp (disch := first | omega | simp) [wrap_i64, -aseqC, -anyC, hy, hs])) | ((first | with_reducible refine sideG ?_ ?_ | with_reducible refine sideG2 ?_ ?_ | with_reducible refine sideS ?_ ?_ | with_reducible refine sideS2 ?_ ?_ | with_reducible refine sideS3 ?_ ?_ | with_reducible refine sideA ?_ ?_ | with_reducible refine sideA2 ?_ ?_ | with_reducible refine sideA3 ?_ ?_); (first | omega | assumption | (simp; done))) | (refine awp_seq_k fun K hK => ?_) | (refine awp_regionC ?_) | (refine awp_anyA true (by kernel_rfl) (by kernel_rfl) ?_) | (refine hK _ ?_; clear hK; clear K) | (clear hK; clear K; refine hK _ ?_; clear hK; clear K) | (clear hK; clear K; clear hK; clear K; refine hK _ ?_; clear hK; clear K) | refine awp_block ?_)
    all_goals (subst hR; simp_all)
    all_goals omega
end Go.Proofs.YtnkakofcejkhiaaDoor

/- Arguments of contracts of layer 16. -/
namespace Go.Proofs.YtnkakofcejkhiaaDoor
open Go.RowKit Go.Lib

theorem ints_av (L : List Int) : (D.sl (L.map D.int)).av = .sl (L.map AV.int) := by
  rw [D.av, D.avs_map, List.map_map]; rfl
theorem vals_av (L : List Val) : (D.sl (L.map Val.d)).av = .sl (L.map Val.av) := by
  rw [D.av, D.avs_map, List.map_map, List.map_congr_left (f := D.av ∘ Val.d) (g := Val.av) fun x _ => x.d_av]
theorem fns_av (L : List Fn) : (D.sl (L.map Fn.d)).av = .sl (L.map Fn.av) := by
  rw [D.av, D.avs_map, List.map_map, List.map_congr_left (f := D.av ∘ Fn.d) (g := Fn.av) fun x _ => x.d_av]
theorem arg_vals {X : St} {L : List Val} {v : Value} (h : RR1 X (.sl (L.map Val.av)) v) : Rd X.w Any (.sl (L.map Val.d)) [v] :=
  rd_of_rc _ _ (by rw [vals_av]; exact h)
theorem arg_fns {X : St} {L : List Fn} {v : Value} (h : RR1 X (.sl (L.map Fn.av)) v) : Rd X.w Any (.sl (L.map Fn.d)) [v] :=
  rd_of_rc _ _ (by rw [fns_av]; exact h)

theorem flat_r1s {X : St} : ∀ (l : List Value), (∀ x ∈ l, (AV.v x).one = true) → R1s X (l.map .v) l
  | [], _ => by rw [List.map_nil, R1s]
  | x :: l, h => by
    rw [List.map_cons, R1s]
    exact ⟨x, l, rfl, h x (by simp), by rw [RC], flat_r1s l fun y hy => h y (by simp [hy])⟩

end Go.Proofs.YtnkakofcejkhiaaDoor

/- The contract of the program's Type, as an abstract one. -/
namespace Go.Proofs.YtnkakofcejkhiaaDoor
open Go.RowKit Go.Lib

theorem arg_ints {X : St} {L : List Int} {v : Value} (h : RR1 X (.sl (L.map AV.int)) v) : Rd X.w Any (.sl (L.map D.int)) [v] :=
  rd_of_rc _ _ (by rw [ints_av]; exact h)
theorem typ_rr (X : St) (n : Int) (b : Bool) : RR X (.tup [.int n, .bool b]) (.tuple #[.int .i64 n, .bool b]) := by
  refine ⟨[_, _], rfl, _, _, rfl, ?_, _, _, rfl, ?_, rfl⟩
  · show RC X (.v _) [_]
    rw [RC]
  · show RC X (.v _) [_]
    rw [RC]
theorem type_g (F : List Fn) (c p : List Int) (e : Ex) (hbd : parts e ≤ 1000000) (hpF : ∀ f ∈ F, parts f.body ≤ 1000000) :
    Gives Tryd.prog 30 [.sl (F.map Fn.av), .sl (c.map AV.int), .sl (p.map AV.int), e.av] (.tup [.int ((typeP F c p e).getD 0), .bool (typeP F c p e).isSome]) :=
  gives_of fun X vals ha => by
    obtain ⟨v0, _, rfl, h0, v1, _, rfl, h1, v2, _, rfl, h2, v3, _, rfl, h3, h4⟩ := ha
    cases h4
    obtain ⟨cs, rfl, hr⟩ := arg_ex h3
    refine (type_any F c p e Any Any Any Any v0 v1 v2 cs X.w (arg_fns h0) (arg_ints h1) (arg_ints h2) hr hbd hpF).mono ?_
    rintro r w' ⟨rfl, he⟩
    exact ⟨he, _, rfl, typ_rr (X.later w') _ _⟩
end Go.Proofs.YtnkakofcejkhiaaDoor

/- Walk of layer 25: the error of an instruction. -/
namespace Go.Proofs.YtnkakofcejkhiaaDoor
open Go.RowKit Go.Lib

theorem bad_g (done : List Bool) (r : Int) (h0 : 0 ≤ r) (h1 : r < done.length) (σ : Nat → AB) (b d : Nat) (hb : σ b = .cells [.own d done.length] 73) (hd : σ d = .vec (done.map AV.bool) 4 1) :
    GivesAt Tryd.prog 64 [.int r, .ptr b 0] σ (.bool (!done.getD r.toNat false)) := by
  have hg : done[r.toNat]? = some (done.getD r.toNat false) := by
    rw [List.getD_eq_getElem?_getD, List.getElem?_eq_getElem (by omega)]; rfl
  refine givesAt_of_awp Tryd.func64 Tryd.ntmps64 rfl rfl (by decide) rfl (by intro n; simp) fun n0 hfin hcl hft => ?_
  have hloc := loc_at hfin hb (by simp)
  have hloc2 := loc_at hfin hd (by simp)
  repeat' (first | ((with_reducible refine aguard (fun hg => ?_) (fun hg => ?_)) <;> (try simp only [hg]) <;> (try simp only [beq_iff_eq, beq_eq_false_iff_ne, ne_eq, decide_eq_true_eq, decide_eq_false_iff_not, bne_iff_ne, bne_eq_false_iff_eq] at hg) <;> (try (first | simp only [eq_false hg, if_true, if_false] | simp only [eq_true hg, if_true, if_false])) <;> (try simp (disch := first | omega | simp) [wrap_i64, -aseqC, -anyC, hloc, hloc2, h0, h1])) | (with_reducible refine aseq_step ?_; try simp (disch := first | omega | simp) [wrap_i64, -aseqC, -anyC, hloc, hloc2, h0, h1]) | (with_reducible refine any_step' ?_; try simp (disch := first | omega | simp) [wrap_i64, -aseqC, -anyC, hloc, hloc2, h0, h1]) | (with_reducible refine aseq_end ?_; try simp (disch := first | omega | simp) [wrap_i64, -aseqC, -anyC, hloc, hloc2, h0, h1]) | (with_reducible refine any_end' ?_; try simp (disch := first | omega | simp) [wrap_i64, -aseqC, -anyC, hloc, hloc2, h0, h1]) | ((first | with_reducible refine sideG ?_ ?_ | with_reducible refine sideG2 ?_ ?_ | with_reducible refine sideS ?_ ?_ | with_reducible refine sideS2 ?_ ?_ | with_reducible refine sideS3 ?_ ?_ | with_reducible refine sideA ?_ ?_ | with_reducible refine sideA2 ?_ ?_ | with_reducible refine sideA3 ?_ ?_); (first | omega | assumption | (simp; done))) | (refine awp_seq_k fun K hK => ?_) | (refine awp_regionC ?_) | (refine awp_anyA true (by kernel_rfl) (by kernel_rfl) ?_) | (refine awp_anyA false (by kernel_rfl) (by kernel_rfl) ?_) | (refine hK _ ?_; clear hK; clear K) | (clear hK; clear K; refine hK _ ?_; clear hK; clear K) | (clear hK; clear K; clear hK; clear K; refine hK _ ?_; clear hK; clear K) | refine awp_block ?_ | (refine awp_condC ?_; simp (disch := first | omega | simp) [wrap_i64, -aseqC, -anyC, hloc, hloc2, h0, h1]) | (refine awp_exit ?_; try simp (disch := first | omega | simp) [wrap_i64, -aseqC, -anyC, hloc, hloc2, h0, h1]) | (refine awp_skip ?_; try simp (disch := first | omega | simp) [wrap_i64, -aseqC, -anyC, hloc, hloc2, h0, h1]) | (refine awp_ret ?_; try simp (disch := first | omega | simp) [wrap_i64, -aseqC, -anyC, hloc, hloc2, h0, h1]))
theorem idxI_p (L : List Int) (p : Int → Bool) (q : Nat) (hq : enters Tryd.prog q = true) (b : Nat) (σ : Nat → AB) {cs : List AV} {t : TypeId} (hb : σ b = .cells cs t) (h : ∀ x ∈ L, GivesAt Tryd.prog q [.int x, .ptr b 0] σ (.bool (p x))) (hL : L.length ≤ 1000000) :
    GivesAt Tryd.prog 62 [.sl (L.map AV.int), .fn q [.ptr b 0]] σ (.int (idxP p L)) := by
  refine givesAt_of_awp Tryd.func62 Tryd.ntmps62 rfl rfl (by decide) rfl (by intro n; simp) fun n0 hfin hcl hft => ?_
  have hrn := fin_lt hfin hb (by simp)
  rw [← loc_nil hfin] at h
  repeat' (first | ((with_reducible refine aguard (fun hg => ?_) (fun hg => ?_)) <;> (try simp only [hg]) <;> (try simp only [beq_iff_eq, beq_eq_false_iff_ne, ne_eq, decide_eq_true_eq, decide_eq_false_iff_not, bne_iff_ne, bne_eq_false_iff_eq] at hg) <;> (try (first | simp only [eq_false hg, if_true, if_false] | simp only [eq_true hg, if_true, if_false])) <;> (try simp (disch := first | omega | simp) [wrap_i64, -aseqC, -anyC])) | (with_reducible refine aseq_step ?_; try simp (disch := first | omega | simp) [wrap_i64, -aseqC, -anyC]) | (with_reducible refine any_step' ?_; try simp (disch := first | omega | simp) [wrap_i64, -aseqC, -anyC]) | (with_reducible refine aseq_end ?_; try simp (disch := first | omega | simp) [wrap_i64, -aseqC, -anyC]) | (with_reducible refine any_end' ?_; try simp (disch := first | omega | simp) [wrap_i64, -aseqC, -anyC]) | ((first | with_reducible refine sideG ?_ ?_ | with_reducible refine sideG2 ?_ ?_ | with_reducible refine sideS ?_ ?_ | with_reducible refine sideS2 ?_ ?_ | with_reducible refine sideS3 ?_ ?_ | with_reducible refine sideA ?_ ?_ | with_reducible refine sideA2 ?_ ?_ | with_reducible refine sideA3 ?_ ?_); (first | omega | assumption | (simp; done))) | (refine awp_seq_k fun K hK => ?_) | (refine awp_regionC ?_) | (refine awp_anyA true (by kernel_rfl) (by kernel_rfl) ?_) | (refine awp_anyA false (by kernel_rfl) (by kernel_rfl) ?_) | (refine hK _ ?_; clear hK; clear K) | (clear hK; clear K; refine hK _ ?_; clear hK; clear K) | (clear hK; clear K; clear hK; clear K; refine hK _ ?_; clear hK; clear K) | refine awp_block ?_ | (refine awp_condC ?_; simp (disch := first | omega | simp) [wrap_i64, -aseqC, -anyC]) | (refine awp_exit ?_; try simp (disch := first | omega | simp) [wrap_i64, -aseqC, -anyC]) | (refine awp_skip ?_; try simp (disch := first | omega | simp) [wrap_i64, -aseqC, -anyC]) | (refine awp_ret ?_; try simp (disch := first | omega | simp) [wrap_i64, -aseqC, -anyC]))
  refine awp_loopC hcl (fun k : Nat => [(0, .sl (L.map AV.int)), (1, .fn q [.ptr b 0]), (7, .int L.length), (8, .int k)]) (fun _ => [])
    (fun k => k ≤ L.length ∧ ∀ j (h : j < L.length), j < k → p L[j] = false) (fun k => L.length - k) 0 (by simp) (by simp [hrn]) fun k ⟨hk, he⟩ => ?_
  by_cases hlt : k < L.length
  · have c1 := h L[k] (List.getElem_mem _)
    cases hp : p L[k]
    · rw [hp] at c1
      repeat' (first | ((with_reducible refine aguard (fun hg => ?_) (fun hg => ?_)) <;> (try simp only [hg]) <;> (try simp only [beq_iff_eq, beq_eq_false_iff_ne, ne_eq, decide_eq_true_eq, decide_eq_false_iff_not, bne_iff_ne, bne_eq_false_iff_eq] at hg) <;> (try (first | simp only [eq_false hg, if_true, if_false] | simp only [eq_true hg, if_true, if_false])) <;> (try simp (disch := first | omega | simp) [wrap_i64, -aseqC, -anyC, hlt, hrn, hq])) | (with_reducible refine aseq_step ?_; try simp (disch := first | omega | simp) [wrap_i64, -aseqC, -anyC, hlt, hrn, hq]) | (with_reducible refine any_step' ?_; try simp (disch := first | omega | simp) [wrap_i64, -aseqC, -anyC, hlt, hrn, hq]) | (with_reducible refine aseq_end ?_; try simp (disch := first | omega | simp) [wrap_i64, -aseqC, -anyC, hlt, hrn, hq]) | (with_reducible refine any_end' ?_; try simp (disch := first | omega | simp) [wrap_i64, -aseqC, -anyC, hlt, hrn, hq]) | ((first | with_reducible refine sideG ?_ ?_ | with_reducible refine sideG2 ?_ ?_ | with_reducible refine sideS ?_ ?_ | with_reducible refine sideS2 ?_ ?_ | with_reducible refine sideS3 ?_ ?_ | with_reducible refine sideA ?_ ?_ | with_reducible refine sideA2 ?_ ?_ | with_reducible refine sideA3 ?_ ?_); (first | omega | assumption | (simp; done))) | (refine acall (c1) ?_; try simp (disch := first | omega | simp) [wrap_i64, -aseqC, -anyC, hlt, hrn, hq]) | (refine agives (c1) ?_; try simp (disch := first | omega | simp) [wrap_i64, -aseqC, -anyC, hlt, hrn, hq]) | (refine acallAt (c1) ?_; try simp (disch := first | omega | simp) [wrap_i64, -aseqC, -anyC, hlt, hrn, hq]) | (refine awp_seq_k fun K hK => ?_) | (refine awp_regionC ?_) | (refine awp_anyA true (by kernel_rfl) (by kernel_rfl) ?_) | (refine awp_anyA false (by kernel_rfl) (by kernel_rfl) ?_) | (refine hK _ ?_; clear hK; clear K) | (clear hK; clear K; refine hK _ ?_; clear hK; clear K) | (clear hK; clear K; clear hK; clear K; refine hK _ ?_; clear hK; clear K) | refine awp_block ?_ | (refine awp_condC ?_; simp (disch := first | omega | simp) [wrap_i64, -aseqC, -anyC, hlt, hrn, hq]) | (refine awp_exit ?_; try simp (disch := first | omega | simp) [wrap_i64, -aseqC, -anyC, hlt, hrn, hq]) | (refine awp_skip ?_; try simp (disch := first | omega | simp) [wrap_i64, -aseqC, -anyC, hlt, hrn, hq]) | (refine awp_ret ?_; try simp (disch := first | omega | simp) [wrap_i64, -aseqC, -anyC, hlt, hrn, hq]))
      exact ⟨k + 1, ⟨by omega, upto_succ (C := fun x : Int => p x = false) he fun _ => hp⟩, by omega, by simp [hrn]⟩
    · rw [hp] at c1
      repeat' (first | ((with_reducible refine aguard (fun hg => ?_) (fun hg => ?_)) <;> (try simp only [hg]) <;> (try simp only [beq_iff_eq, beq_eq_false_iff_ne, ne_eq, decide_eq_true_eq, decide_eq_false_iff_not, bne_iff_ne, bne_eq_false_iff_eq] at hg) <;> (try (first | simp only [eq_false hg, if_true, if_false] | simp only [eq_true hg, if_true, if_false])) <;> (try simp (disch := first | omega | simp) [wrap_i64, -aseqC, -anyC, hlt, hrn, hq])) | (with_reducible refine aseq_step ?_; try simp (disch := first | omega | simp) [wrap_i64, -aseqC, -anyC, hlt, hrn, hq]) | (with_reducible refine any_step' ?_; try simp (disch := first | omega | simp) [wrap_i64, -aseqC, -anyC, hlt, hrn, hq]) | (with_reducible refine aseq_end ?_; try simp (disch := first | omega | simp) [wrap_i64, -aseqC, -anyC, hlt, hrn, hq]) | (with_reducible refine any_end' ?_; try simp (disch := first | omega | simp) [wrap_i64, -aseqC, -anyC, hlt, hrn, hq]) | ((first | with_reducible refine sideG ?_ ?_ | with_reducible refine sideG2 ?_ ?_ | with_reducible refine sideS ?_ ?_ | with_reducible refine sideS2 ?_ ?_ | with_reducible refine sideS3 ?_ ?_ | with_reducible refine sideA ?_ ?_ | with_reducible refine sideA2 ?_ ?_ | with_reducible refine sideA3 ?_ ?_); (first | omega | assumption | (simp; done))) | (refine acall (c1) ?_; try simp (disch := first | omega | simp) [wrap_i64, -aseqC, -anyC, hlt, hrn, hq]) | (refine agives (c1) ?_; try simp (disch := first | omega | simp) [wrap_i64, -aseqC, -anyC, hlt, hrn, hq]) | (refine acallAt (c1) ?_; try simp (disch := first | omega | simp) [wrap_i64, -aseqC, -anyC, hlt, hrn, hq]) | (refine awp_seq_k fun K hK => ?_) | (refine awp_regionC ?_) | (refine awp_anyA true (by kernel_rfl) (by kernel_rfl) ?_) | (refine awp_anyA false (by kernel_rfl) (by kernel_rfl) ?_) | (refine hK _ ?_; clear hK; clear K) | (clear hK; clear K; refine hK _ ?_; clear hK; clear K) | (clear hK; clear K; clear hK; clear K; refine hK _ ?_; clear hK; clear K) | refine awp_block ?_ | (refine awp_condC ?_; simp (disch := first | omega | simp) [wrap_i64, -aseqC, -anyC, hlt, hrn, hq]) | (refine awp_exit ?_; try simp (disch := first | omega | simp) [wrap_i64, -aseqC, -anyC, hlt, hrn, hq]) | (refine awp_skip ?_; try simp (disch := first | omega | simp) [wrap_i64, -aseqC, -anyC, hlt, hrn, hq]) | (refine awp_ret ?_; try simp (disch := first | omega | simp) [wrap_i64, -aseqC, -anyC, hlt, hrn, hq]))
      exact (idxP_hit hlt hp he).symm
  · repeat' (first | ((with_reducible refine aguard (fun hg => ?_) (fun hg => ?_)) <;> (try simp only [hg]) <;> (try simp only [beq_iff_eq, beq_eq_false_iff_ne, ne_eq, decide_eq_true_eq, decide_eq_false_iff_not, bne_iff_ne, bne_eq_false_iff_eq] at hg) <;> (try (first | simp only [eq_false hg, if_true, if_false] | simp only [eq_true hg, if_true, if_false])) <;> (try simp (disch := first | omega | simp) [wrap_i64, -aseqC, -anyC, hlt])) | (with_reducible refine aseq_step ?_; try simp (disch := first | omega | simp) [wrap_i64, -aseqC, -anyC, hlt]) | (with_reducible refine any_step' ?_; try simp (disch := first | omega | simp) [wrap_i64, -aseqC, -anyC, hlt]) | (with_reducible refine aseq_end ?_; try simp (disch := first | omega | simp) [wrap_i64, -aseqC, -anyC, hlt]) | (with_reducible refine any_end' ?_; try simp (disch := first | omega | simp) [wrap_i64, -aseqC, -anyC, hlt]) | ((first | with_reducible refine sideG ?_ ?_ | with_reducible refine sideG2 ?_ ?_ | with_reducible refine sideS ?_ ?_ | with_reducible refine sideS2 ?_ ?_ | with_reducible refine sideS3 ?_ ?_ | with_reducible refine sideA ?_ ?_ | with_reducible refine sideA2 ?_ ?_ | with_reducible refine sideA3 ?_ ?_); (first | omega | assumption | (simp; done))) | (refine awp_seq_k fun K hK => ?_) | (refine awp_regionC ?_) | (refine awp_anyA true (by kernel_rfl) (by kernel_rfl) ?_) | (refine awp_anyA false (by kernel_rfl) (by kernel_rfl) ?_) | (refine hK _ ?_; clear hK; clear K) | (clear hK; clear K; refine hK _ ?_; clear hK; clear K) | (clear hK; clear K; clear hK; clear K; refine hK _ ?_; clear hK; clear K) | refine awp_block ?_ | (refine awp_condC ?_; simp (disch := first | omega | simp) [wrap_i64, -aseqC, -anyC, hlt]) | (refine awp_exit ?_; try simp (disch := first | omega | simp) [wrap_i64, -aseqC, -anyC, hlt]) | (refine awp_skip ?_; try simp (disch := first | omega | simp) [wrap_i64, -aseqC, -anyC, hlt]) | (refine awp_ret ?_; try simp (disch := first | omega | simp) [wrap_i64, -aseqC, -anyC, hlt]))
    exact (idxP_miss (upto_all (C := fun x : Int => p x = false) he hlt)).symm
theorem idxI_n (L : List Int) (p : Int → Bool) (q : Nat) (hq : enters Tryd.prog q = true) (h : ∀ x ∈ L, Gives Tryd.prog q [.int x] (.bool (p x))) (hL : L.length ≤ 1000000) :
    Gives Tryd.prog 62 [.sl (L.map AV.int), .fn q []] (.int (idxP p L)) := by
  refine gives_of_awp Tryd.func62 Tryd.ntmps62 rfl rfl (by decide) rfl (by intro n; simp) fun σ n0 hcl hft => ?_
  repeat' (first | ((with_reducible refine aguard (fun hg => ?_) (fun hg => ?_)) <;> (try simp only [hg]) <;> (try simp only [beq_iff_eq, beq_eq_false_iff_ne, ne_eq, decide_eq_true_eq, decide_eq_false_iff_not, bne_iff_ne, bne_eq_false_iff_eq] at hg) <;> (try (first | simp only [eq_false hg, if_true, if_false] | simp only [eq_true hg, if_true, if_false])) <;> (try simp (disch := first | omega | simp) [wrap_i64, -aseqC, -anyC])) | (with_reducible refine aseq_step ?_; try simp (disch := first | omega | simp) [wrap_i64, -aseqC, -anyC]) | (with_reducible refine any_step' ?_; try simp (disch := first | omega | simp) [wrap_i64, -aseqC, -anyC]) | (with_reducible refine aseq_end ?_; try simp (disch := first | omega | simp) [wrap_i64, -aseqC, -anyC]) | (with_reducible refine any_end' ?_; try simp (disch := first | omega | simp) [wrap_i64, -aseqC, -anyC]) | ((first | with_reducible refine sideG ?_ ?_ | with_reducible refine sideG2 ?_ ?_ | with_reducible refine sideS ?_ ?_ | with_reducible refine sideS2 ?_ ?_ | with_reducible refine sideS3 ?_ ?_ | with_reducible refine sideA ?_ ?_ | with_reducible refine sideA2 ?_ ?_ | with_reducible refine sideA3 ?_ ?_); (first | omega | assumption | (simp; done))) | (refine awp_seq_k fun K hK => ?_) | (refine awp_regionC ?_) | (refine awp_anyA true (by kernel_rfl) (by kernel_rfl) ?_) | (refine awp_anyA false (by kernel_rfl) (by kernel_rfl) ?_) | (refine hK _ ?_; clear hK; clear K) | (clear hK; clear K; refine hK _ ?_; clear hK; clear K) | (clear hK; clear K; clear hK; clear K; refine hK _ ?_; clear hK; clear K) | refine awp_block ?_ | (refine awp_condC ?_; simp (disch := first | omega | simp) [wrap_i64, -aseqC, -anyC]) | (refine awp_exit ?_; try simp (disch := first | omega | simp) [wrap_i64, -aseqC, -anyC]) | (refine awp_skip ?_; try simp (disch := first | omega | simp) [wrap_i64, -aseqC, -anyC]) | (refine awp_ret ?_; try simp (disch := first | omega | simp) [wrap_i64, -aseqC, -anyC]))
  refine awp_loopC hcl (fun k : Nat => [(0, .sl (L.map AV.int)), (1, .fn q []), (7, .int L.length), (8, .int k)]) (fun _ => [])
    (fun k => k ≤ L.length ∧ ∀ j (h : j < L.length), j < k → p L[j] = false) (fun k => L.length - k) 0 (by simp) (by simp) fun k ⟨hk, he⟩ => ?_
  by_cases hlt : k < L.length
  · have c1 := h L[k] (List.getElem_mem _)
    cases hp : p L[k]
    · rw [hp] at c1
      repeat' (first | ((with_reducible refine aguard (fun hg => ?_) (fun hg => ?_)) <;> (try simp only [hg]) <;> (try simp only [beq_iff_eq, beq_eq_false_iff_ne, ne_eq, decide_eq_true_eq, decide_eq_false_iff_not, bne_iff_ne, bne_eq_false_iff_eq] at hg) <;> (try (first | simp only [eq_false hg, if_true, if_false] | simp only [eq_true hg, if_true, if_false])) <;> (try simp (disch := first | omega | simp) [wrap_i64, -aseqC, -anyC, hlt, hq])) | (with_reducible refine aseq_step ?_; try simp (disch := first | omega | simp) [wrap_i64, -aseqC, -anyC, hlt, hq]) | (with_reducible refine any_step' ?_; try simp (disch := first | omega | simp) [wrap_i64, -aseqC, -anyC, hlt, hq]) | (with_reducible refine aseq_end ?_; try simp (disch := first | omega | simp) [wrap_i64, -aseqC, -anyC, hlt, hq]) | (with_reducible refine any_end' ?_; try simp (disch := first | omega | simp) [wrap_i64, -aseqC, -anyC, hlt, hq]) | ((first | with_reducible refine sideG ?_ ?_ | with_reducible refine sideG2 ?_ ?_ | with_reducible refine sideS ?_ ?_ | with_reducible refine sideS2 ?_ ?_ | with_reducible refine sideS3 ?_ ?_ | with_reducible refine sideA ?_ ?_ | with_reducible refine sideA2 ?_ ?_ | with_reducible refine sideA3 ?_ ?_); (first | omega | assumption | (simp; done))) | (refine acall (c1) ?_; try simp (disch := first | omega | simp) [wrap_i64, -aseqC, -anyC, hlt, hq]) | (refine agives (c1) ?_; try simp (disch := first | omega | simp) [wrap_i64, -aseqC, -anyC, hlt, hq]) | (refine acallAt (c1) ?_; try simp (disch := first | omega | simp) [wrap_i64, -aseqC, -anyC, hlt, hq]) | (refine awp_seq_k fun K hK => ?_) | (refine awp_regionC ?_) | (refine awp_anyA true (by kernel_rfl) (by kernel_rfl) ?_) | (refine awp_anyA false (by kernel_rfl) (by kernel_rfl) ?_) | (refine hK _ ?_; clear hK; clear K) | (clear hK; clear K; refine hK _ ?_; clear hK; clear K) | (clear hK; clear K; clear hK; clear K; refine hK _ ?_; clear hK; clear K) | refine awp_block ?_ | (refine awp_condC ?_; simp (disch := first | omega | simp) [wrap_i64, -aseqC, -anyC, hlt, hq]) | (refine awp_exit ?_; try simp (disch := first | omega | simp) [wrap_i64, -aseqC, -anyC, hlt, hq]) | (refine awp_skip ?_; try simp (disch := first | omega | simp) [wrap_i64, -aseqC, -anyC, hlt, hq]) | (refine awp_ret ?_; try simp (disch := first | omega | simp) [wrap_i64, -aseqC, -anyC, hlt, hq]))
      exact ⟨k + 1, ⟨by omega, upto_succ (C := fun x : Int => p x = false) he fun _ => hp⟩, by omega, by simp⟩
    · rw [hp] at c1
      repeat' (first | ((with_reducible refine aguard (fun hg => ?_) (fun hg => ?_)) <;> (try simp only [hg]) <;> (try simp only [beq_iff_eq, beq_eq_false_iff_ne, ne_eq, decide_eq_true_eq, decide_eq_false_iff_not, bne_iff_ne, bne_eq_false_iff_eq] at hg) <;> (try (first | simp only [eq_false hg, if_true, if_false] | simp only [eq_true hg, if_true, if_false])) <;> (try simp (disch := first | omega | simp) [wrap_i64, -aseqC, -anyC, hlt, hq])) | (with_reducible refine aseq_step ?_; try simp (disch := first | omega | simp) [wrap_i64, -aseqC, -anyC, hlt, hq]) | (with_reducible refine any_step' ?_; try simp (disch := first | omega | simp) [wrap_i64, -aseqC, -anyC, hlt, hq]) | (with_reducible refine aseq_end ?_; try simp (disch := first | omega | simp) [wrap_i64, -aseqC, -anyC, hlt, hq]) | (with_reducible refine any_end' ?_; try simp (disch := first | omega | simp) [wrap_i64, -aseqC, -anyC, hlt, hq]) | ((first | with_reducible refine sideG ?_ ?_ | with_reducible refine sideG2 ?_ ?_ | with_reducible refine sideS ?_ ?_ | with_reducible refine sideS2 ?_ ?_ | with_reducible refine sideS3 ?_ ?_ | with_reducible refine sideA ?_ ?_ | with_reducible refine sideA2 ?_ ?_ | with_reducible refine sideA3 ?_ ?_); (first | omega | assumption | (simp; done))) | (refine acall (c1) ?_; try simp (disch := first | omega | simp) [wrap_i64, -aseqC, -anyC, hlt, hq]) | (refine agives (c1) ?_; try simp (disch := first | omega | simp) [wrap_i64, -aseqC, -anyC, hlt, hq]) | (refine acallAt (c1) ?_; try simp (disch := first | omega | simp) [wrap_i64, -aseqC, -anyC, hlt, hq]) | (refine awp_seq_k fun K hK => ?_) | (refine awp_regionC ?_) | (refine awp_anyA true (by kernel_rfl) (by kernel_rfl) ?_) | (refine awp_anyA false (by kernel_rfl) (by kernel_rfl) ?_) | (refine hK _ ?_; clear hK; clear K) | (clear hK; clear K; refine hK _ ?_; clear hK; clear K) | (clear hK; clear K; clear hK; clear K; refine hK _ ?_; clear hK; clear K) | refine awp_block ?_ | (refine awp_condC ?_; simp (disch := first | omega | simp) [wrap_i64, -aseqC, -anyC, hlt, hq]) | (refine awp_exit ?_; try simp (disch := first | omega | simp) [wrap_i64, -aseqC, -anyC, hlt, hq]) | (refine awp_skip ?_; try simp (disch := first | omega | simp) [wrap_i64, -aseqC, -anyC, hlt, hq]) | (refine awp_ret ?_; try simp (disch := first | omega | simp) [wrap_i64, -aseqC, -anyC, hlt, hq]))
      exact (idxP_hit hlt hp he).symm
  · repeat' (first | ((with_reducible refine aguard (fun hg => ?_) (fun hg => ?_)) <;> (try simp only [hg]) <;> (try simp only [beq_iff_eq, beq_eq_false_iff_ne, ne_eq, decide_eq_true_eq, decide_eq_false_iff_not, bne_iff_ne, bne_eq_false_iff_eq] at hg) <;> (try (first | simp only [eq_false hg, if_true, if_false] | simp only [eq_true hg, if_true, if_false])) <;> (try simp (disch := first | omega | simp) [wrap_i64, -aseqC, -anyC, hlt])) | (with_reducible refine aseq_step ?_; try simp (disch := first | omega | simp) [wrap_i64, -aseqC, -anyC, hlt]) | (with_reducible refine any_step' ?_; try simp (disch := first | omega | simp) [wrap_i64, -aseqC, -anyC, hlt]) | (with_reducible refine aseq_end ?_; try simp (disch := first | omega | simp) [wrap_i64, -aseqC, -anyC, hlt]) | (with_reducible refine any_end' ?_; try simp (disch := first | omega | simp) [wrap_i64, -aseqC, -anyC, hlt]) | ((first | with_reducible refine sideG ?_ ?_ | with_reducible refine sideG2 ?_ ?_ | with_reducible refine sideS ?_ ?_ | with_reducible refine sideS2 ?_ ?_ | with_reducible refine sideS3 ?_ ?_ | with_reducible refine sideA ?_ ?_ | with_reducible refine sideA2 ?_ ?_ | with_reducible refine sideA3 ?_ ?_); (first | omega | assumption | (simp; done))) | (refine awp_seq_k fun K hK => ?_) | (refine awp_regionC ?_) | (refine awp_anyA true (by kernel_rfl) (by kernel_rfl) ?_) | (refine awp_anyA false (by kernel_rfl) (by kernel_rfl) ?_) | (refine hK _ ?_; clear hK; clear K) | (clear hK; clear K; refine hK _ ?_; clear hK; clear K) | (clear hK; clear K; clear hK; clear K; refine hK _ ?_; clear hK; clear K) | refine awp_block ?_ | (refine awp_condC ?_; simp (disch := first | omega | simp) [wrap_i64, -aseqC, -anyC, hlt]) | (refine awp_exit ?_; try simp (disch := first | omega | simp) [wrap_i64, -aseqC, -anyC, hlt]) | (refine awp_skip ?_; try simp (disch := first | omega | simp) [wrap_i64, -aseqC, -anyC, hlt]) | (refine awp_ret ?_; try simp (disch := first | omega | simp) [wrap_i64, -aseqC, -anyC, hlt]))
    exact (idxP_miss (upto_all (C := fun x : Int => p x = false) he hlt)).symm
theorem contI_p (L : List Int) (p : Int → Bool) (q : Nat) (hq : enters Tryd.prog q = true) (b : Nat) (σ : Nat → AB) {cs : List AV} {t : TypeId} (hb : σ b = .cells cs t) (h : ∀ x ∈ L, GivesAt Tryd.prog q [.int x, .ptr b 0] σ (.bool (p x))) (hL : L.length ≤ 1000000) :
    GivesAt Tryd.prog 35 [.sl (L.map AV.int), .fn q [.ptr b 0]] σ (.bool (L.any p)) := by
  rw [← idxP_any]
  refine givesAt_of_awp Tryd.func35 Tryd.ntmps35 rfl rfl (by decide) rfl (by intro n; simp) fun n0 hfin hcl hft => ?_
  have hrn := fin_lt hfin hb (by simp)
  have c1 := idxI_p L p q hq b σ hb h hL
  rw [← loc_nil hfin] at c1
  repeat' (first | ((with_reducible refine aguard (fun hg => ?_) (fun hg => ?_)) <;> (try simp only [hg]) <;> (try simp only [beq_iff_eq, beq_eq_false_iff_ne, ne_eq, decide_eq_true_eq, decide_eq_false_iff_not, bne_iff_ne, bne_eq_false_iff_eq] at hg) <;> (try (first | simp only [eq_false hg, if_true, if_false] | simp only [eq_true hg, if_true, if_false])) <;> (try simp (disch := first | omega | simp) [wrap_i64, -aseqC, -anyC])) | (with_reducible refine aseq_step ?_; try simp (disch := first | omega | simp) [wrap_i64, -aseqC, -anyC]) | (with_reducible refine any_step' ?_; try simp (disch := first | omega | simp) [wrap_i64, -aseqC, -anyC]) | (with_reducible refine aseq_end ?_; try simp (disch := first | omega | simp) [wrap_i64, -aseqC, -anyC]) | (with_reducible refine any_end' ?_; try simp (disch := first | omega | simp) [wrap_i64, -aseqC, -anyC]) | ((first | with_reducible refine sideG ?_ ?_ | with_reducible refine sideG2 ?_ ?_ | with_reducible refine sideS ?_ ?_ | with_reducible refine sideS2 ?_ ?_ | with_reducible refine sideS3 ?_ ?_ | with_reducible refine sideA ?_ ?_ | with_reducible refine sideA2 ?_ ?_ | with_reducible refine sideA3 ?_ ?_); (first | omega | assumption | (simp; done))) | (refine acall (c1) ?_; try simp (disch := first | omega | simp) [wrap_i64, -aseqC, -anyC]) | (refine agives (c1) ?_; try simp (disch := first | omega | simp) [wrap_i64, -aseqC, -anyC]) | (refine acallAt (c1) ?_; try simp (disch := first | omega | simp) [wrap_i64, -aseqC, -anyC]) | (refine awp_seq_k fun K hK => ?_) | (refine awp_regionC ?_) | (refine awp_anyA true (by kernel_rfl) (by kernel_rfl) ?_) | (refine awp_anyA false (by kernel_rfl) (by kernel_rfl) ?_) | (refine hK _ ?_; clear hK; clear K) | (clear hK; clear K; refine hK _ ?_; clear hK; clear K) | (clear hK; clear K; clear hK; clear K; refine hK _ ?_; clear hK; clear K) | refine awp_block ?_ | (refine awp_condC ?_; simp (disch := first | omega | simp) [wrap_i64, -aseqC, -anyC]) | (refine awp_exit ?_; try simp (disch := first | omega | simp) [wrap_i64, -aseqC, -anyC]) | (refine awp_skip ?_; try simp (disch := first | omega | simp) [wrap_i64, -aseqC, -anyC]) | (refine awp_ret ?_; try simp (disch := first | omega | simp) [wrap_i64, -aseqC, -anyC]))
theorem contI_n (L : List Int) (p : Int → Bool) (q : Nat) (hq : enters Tryd.prog q = true) (h : ∀ x ∈ L, Gives Tryd.prog q [.int x] (.bool (p x))) (hL : L.length ≤ 1000000) :
    Gives Tryd.prog 35 [.sl (L.map AV.int), .fn q []] (.bool (L.any p)) := by
  rw [← idxP_any]
  refine gives_of_awp Tryd.func35 Tryd.ntmps35 rfl rfl (by decide) rfl (by intro n; simp) fun σ n0 hcl hft => ?_
  repeat' (first | ((with_reducible refine aguard (fun hg => ?_) (fun hg => ?_)) <;> (try simp only [hg]) <;> (try simp only [beq_iff_eq, beq_eq_false_iff_ne, ne_eq, decide_eq_true_eq, decide_eq_false_iff_not, bne_iff_ne, bne_eq_false_iff_eq] at hg) <;> (try (first | simp only [eq_false hg, if_true, if_false] | simp only [eq_true hg, if_true, if_false])) <;> (try simp (disch := first | omega | simp) [wrap_i64, -aseqC, -anyC])) | (with_reducible refine aseq_step ?_; try simp (disch := first | omega | simp) [wrap_i64, -aseqC, -anyC]) | (with_reducible refine any_step' ?_; try simp (disch := first | omega | simp) [wrap_i64, -aseqC, -anyC]) | (with_reducible refine aseq_end ?_; try simp (disch := first | omega | simp) [wrap_i64, -aseqC, -anyC]) | (with_reducible refine any_end' ?_; try simp (disch := first | omega | simp) [wrap_i64, -aseqC, -anyC]) | ((first | with_reducible refine sideG ?_ ?_ | with_reducible refine sideG2 ?_ ?_ | with_reducible refine sideS ?_ ?_ | with_reducible refine sideS2 ?_ ?_ | with_reducible refine sideS3 ?_ ?_ | with_reducible refine sideA ?_ ?_ | with_reducible refine sideA2 ?_ ?_ | with_reducible refine sideA3 ?_ ?_); (first | omega | assumption | (simp; done))) | (refine acall (idxI_n L p q hq h hL) ?_; try simp (disch := first | omega | simp) [wrap_i64, -aseqC, -anyC]) | (refine agives (idxI_n L p q hq h hL) ?_; try simp (disch := first | omega | simp) [wrap_i64, -aseqC, -anyC]) | (refine acallAt (idxI_n L p q hq h hL) ?_; try simp (disch := first | omega | simp) [wrap_i64, -aseqC, -anyC]) | (refine awp_seq_k fun K hK => ?_) | (refine awp_regionC ?_) | (refine awp_anyA true (by kernel_rfl) (by kernel_rfl) ?_) | (refine awp_anyA false (by kernel_rfl) (by kernel_rfl) ?_) | (refine hK _ ?_; clear hK; clear K) | (clear hK; clear K; refine hK _ ?_; clear hK; clear K) | (clear hK; clear K; clear hK; clear K; refine hK _ ?_; clear hK; clear K) | refine awp_block ?_ | (refine awp_condC ?_; simp (disch := first | omega | simp) [wrap_i64, -aseqC, -anyC]) | (refine awp_exit ?_; try simp (disch := first | omega | simp) [wrap_i64, -aseqC, -anyC]) | (refine awp_skip ?_; try simp (disch := first | omega | simp) [wrap_i64, -aseqC, -anyC]) | (refine awp_ret ?_; try simp (disch := first | omega | simp) [wrap_i64, -aseqC, -anyC]))
theorem exs_one (l : List Int) : ∀ x ∈ l.map paramE, parts x = 1 := fun x hx => by
  obtain ⟨r, -, rfl⟩ := List.mem_map.1 hx
  unfold paramE; rw [parts, partsL]
/-- a number that is no register -/
def offR (types : List Int) (r : Int) : Bool := decide (r < 0) || decide ((types.length : Int) ≤ r)
end Go.Proofs.YtnkakofcejkhiaaDoor

/- Slice literals that grow. -/
namespace Go.Proofs.YtnkakofcejkhiaaDoor
open Go.RowKit Go.Lib

theorem EOp.frz {P : Program} {s : AS} {o : Op} {K : AV → AS → Prop} {r n : Nat} {l : List AV} {et : TypeId} {sz : Nat} (h : EOp P s o fun x s1 => x = .own r n ∧ n = l.length ∧ s1.st r = .vec l et sz ∧ K (.gs s1.nx l) ((s1.set r .dead).ext (some (.tail l.length et sz)))) : EOp P s o K := by
  intro X0 a w X oper ho hc Q
  refine Oper.wp_mono ?_ (h X0 a w X oper ho hc Q)
  rintro a' w' ⟨v, x, s1, X', e1, ⟨rfl, hn, hσ, hK⟩, hc', hr⟩
  obtain ⟨X2, hw, hc2, hF, hR⟩ := con_freeze hc' hσ
  exact ⟨v, _, _, X2, e1, hK, hc2, hR v n hn hr⟩
theorem ext_dead (s : AS) (ab cd : AB) : ((s.ext (some ab)).set s.nx .dead).ext (some cd) = (s.ext (some .dead)).ext (some cd) := by
  have h : (s.ext (some ab)).set s.nx .dead = s.ext (some .dead) := by
    unfold AS.set AS.ext AS.nx
    dsimp only
    rw [if_neg (by omega), Nat.add_sub_cancel_left]
    simp
  rw [h]
def aevZ (P : Program) (s : AS) (o : Op) (K : AV → AS → Prop) : Prop :=
  match o with
  | .buildSlice t n ⟨p :: ps⟩ => match vinfo P t with
    | some (e, sz, _) => n = (p :: ps).length ∧ n * sz ≤ 16777216 ∧ bldS sz 0 ((p :: ps).map fun p => (p.1, s.eval p.2)) ∧ AV.wid ((p :: ps).map fun p => (s.eval p.2).pub) sz ∧
        K (.gs (s.n0 + (s.L.length + 1)) ((p :: ps).map fun p => (s.eval p.2).pub)) ((s.ext (some .dead)).ext (some (.tail n e sz)))
    | none => False
  | o => aev P s o K
theorem aevZ_sound {P : Program} {s : AS} {o : Op} {K : AV → AS → Prop} (h : aevZ P s o K) : EOp P s o K := by
  unfold aevZ at h
  split at h
  · rename_i t n p ps
    split at h
    · rename_i e sz _ hv
      obtain ⟨h1, h2, h3, h4, h5⟩ := h
      have hlen : ((p :: ps).map fun p => (s.eval p.2).pub).length = n := by rw [List.length_map, h1]
      refine EOp.frz (r := s.nx) (n := n) (l := (p :: ps).map fun p => (s.eval p.2).pub) (et := e) (sz := sz) (eop_fun (nb := some _) (fop_litVec hv h1 h2 h3 h4) ⟨rfl, hlen.symm, ?_, ?_⟩)
      · show loc s.σ s.n0 (s.L ++ [_]) (s.n0 + s.L.length) = _
        rw [loc_add]; simp
      · rw [ext_dead, hlen]
        have : (s.ext (some (AB.vec ((p :: ps).map fun p => (s.eval p.2).pub) e sz))).nx = s.n0 + (s.L.length + 1) := by
          show s.n0 + (s.L ++ [_]).length = _
          simp
        rw [this]
        exact h5
    · exact h.elim
  · exact aev_sound h
def aseqZ (P : Program) (ops : Array Oper) (K : AS → Prop) : List Oper → AS → Prop
  | [], s => K s
  | o :: l, s => match awant ops o s.t with
    | some b => AGuard b (aevZ P s o.op (fun x s1 => dstOk o.dst s1.n ∧ aseqZ P ops K l (s1.put o.dst x))) (dstOk o.dst s.n ∧ aseqZ P ops K l (s.put o.dst (.v undef)))
    | none => False
theorem aseqZ_sound {P : Program} {ops : Array Oper} {K : AS → Prop} : ∀ {l : List Oper} {s : AS}, aseqZ P ops K l s → aseq P ops K l s
  | [], _, h => h
  | o :: l, s, h => by
    rw [aseqZ] at h
    rw [aseq]
    split at h
    · rename_i b hb
      cases b with
      | true => exact ⟨true, hb, (aevZ_sound (h.1 rfl)).mono fun x s1 ⟨h1, h2⟩ => ⟨h1, aseqZ_sound h2⟩⟩
      | false => exact ⟨false, hb, (h.2 rfl).1, aseqZ_sound (h.2 rfl).2⟩
    · exact h.elim
/-- a region whose slice literal grows -/
theorem awp_regionZ {P : Program} {s : AS} {id : Nat} {l : List Oper} {Q : Exit → AS → Prop} (h : aseqZ P l.toArray (Q .normal) l s) : awp P (.region id l.toArray false) Q s := awp_region (aseqZ_sound h)
theorem aseqZ_step {P : Program} {ops : Array Oper} {K : AS → Prop} {o : Oper} {l : List Oper} {s : AS} (h : match awant ops o s.t with
    | some b => AGuard b (aevZ P s o.op (fun x s1 => dstOk o.dst s1.n ∧ aseqZ P ops K l (s1.put o.dst x))) (dstOk o.dst s.n ∧ aseqZ P ops K l (s.put o.dst (.v undef)))
    | none => False) : aseqZ P ops K (o :: l) s := h
theorem aseqZ_end {P : Program} {ops : Array Oper} {K : AS → Prop} {s : AS} (h : K s) : aseqZ P ops K [] s := h
attribute [simp] aevZ
end Go.Proofs.YtnkakofcejkhiaaDoor
