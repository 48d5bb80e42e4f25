/- Walks of layer 27: what the instructions compute for one row. -/
import Derived.Test.YtnkakofcejkhiaaDoorGa5
import Derived.Test.YtnkakofcejkhiaaDoorGa7
import Derived.Test.YtnkakofcejkhiaaDoorGa17
import Derived.Test.YtnkakofcejkhiaaDoorGa18
import Derived.Test.YtnkakofcejkhiaaDoorGa19
set_option linter.unusedSimpArgs false
set_option linter.unusedVariables false
namespace Go.Proofs.YtnkakofcejkhiaaDoor
open Go.RowKit Go.Lib

theorem vnum_g (n : Int) : Gives Tryd.prog 85 [.int n] (numV n).av := vint_g n
theorem vtxt_g (s : ByteArray) : Gives Tryd.prog 86 [.str s] (textV s).av := vtext_g s
theorem vbool_g (b : Bool) : Gives Tryd.prog 87 [.bool b] (boolV b).av := by
  cases b
  · exact vfalse_g
  · exact vtrue_g
theorem cmp_g (a b : Val) : Gives Tryd.prog 115 [a.av, b.av] (.int (cmpV a b)) :=
  gives_v fun X vals ha => by
    obtain ⟨v0, _, rfl, h0, v1, _, rfl, h1, h3⟩ := ha
    cases h3
    have e : ∀ (x : Val) {v : Value}, RR1 X x.av v → v = x.v := fun x v h => by
      obtain ⟨cs, rfl, h2⟩ := h
      simp only [R1s] at h2
      obtain ⟨_, _, rfl, -, h3, _, _, rfl, -, h4, _, _, rfl, -, h5, rfl⟩ := h2
      rw [arg_v (X := X) h3, arg_v (X := X) h4, arg_v (X := X) h5]
      rfl
    rw [e a h0, e b h1]
    exact compare_any a b X.w
theorem hw64 (n : Int) : IntKind.i64.wrap n = wrap64 n := by rw [IntKind.wrap_i64]; unfold wrap64; rfl
theorem eqB_eqV (a b : Val) : Val.eqB a b = eqV a b := by
  rw [Bool.eq_iff_iff]
  simp [Val.eqB, eqV]
/-- worlds in which the blocks of σ are as they are -/
def Upto (σ τ : Nat → AB) : Prop := ∀ r, σ r ≠ .unborn → τ r = σ r
theorem Upto.at {σ τ : Nat → AB} (h : Upto σ τ) {r : Nat} {ab : AB} (hr : σ r = ab) (hn : ab ≠ .unborn) : τ r = ab := by rw [h r (by rw [hr]; exact hn), hr]
theorem upto_loc {σ : Nat → AB} {n0 : Nat} (h : Fin σ n0) (L : List AB) : Upto σ (loc σ n0 L) := fun r hr => loc_lt σ n0 r L (Nat.lt_of_not_le fun hn => hr (h r hn))
section
variable {x : Ins} {L : List Delta} {σ : Nat → AB} {a b c d m v n : Nat}
set_option maxHeartbeats 4000000 in
theorem source1_g (hb : σ b = .cells [.int x.op, .int x.to, .int x.a, .int x.b, .int x.c, .int x.n, .str x.s] 68) (ha : σ a = .cells [.ptr m 0] 112) (hm : σ m = .cells [.sl (L.map Delta.av), .own v n] 115) {i : Nat} (hi : i < L.length)
    (hop : x.op = 0 ∨ x.op = 1 ∨ x.op = 2 ∨ x.op = 3 ∨ x.op = 5) (hc : x.op = 3 → 0 ≤ x.n ∧ x.n < L[i].row.length) : GivesAt Tryd.prog 112 [.int i, .ptr b 0, .ptr a 0] σ (opI L[i].time L[i].row x []).av := by
  obtain ⟨R, hR⟩ : ∃ R, R = opI L[i].time L[i].row x [] := ⟨_, rfl⟩
  rw [← hR]
  unfold opI at hR
  rw [if_neg (by omega)] at hR
  unfold opV at hR
  refine givesAt_of_awp Tryd.func112 Tryd.ntmps112 rfl rfl (by decide) rfl (by intro n; simp) fun n0 hfin hcl hft => ?_
  have hl1 := loc_at hfin hb (by simp)
  have hl2 := loc_at hfin ha (by simp)
  have hl3 := loc_at hfin hm (by simp)
  repeat' (first | ((with_reducible refine aguard (fun hg => ?_) (fun hg => ?_)) <;> (try simp only [hg]) <;> (try simp only [beq_iff_eq, beq_eq_false_iff_ne, ne_eq, decide_eq_true_eq, decide_eq_false_iff_not, bne_iff_ne, bne_eq_false_iff_eq] at hg) <;> (try (first | simp only [eq_false hg, if_true, if_false] | simp only [eq_true hg, if_true, if_false])) <;> (try simp (disch := first | omega | simp) [wrap_i64, -aseqC, -anyC, hl1, hl2, hl3, hi])) | (with_reducible refine aseq_step ?_; try simp (disch := first | omega | simp) [wrap_i64, -aseqC, -anyC, hl1, hl2, hl3, hi]) | (with_reducible refine any_step' ?_; try simp (disch := first | omega | simp) [wrap_i64, -aseqC, -anyC, hl1, hl2, hl3, hi]) | (with_reducible refine aseq_end ?_; try simp (disch := first | omega | simp) [wrap_i64, -aseqC, -anyC, hl1, hl2, hl3, hi]) | (with_reducible refine any_end' ?_; try simp (disch := first | omega | simp) [wrap_i64, -aseqC, -anyC, hl1, hl2, hl3, hi]) | ((first | with_reducible refine sideG ?_ ?_ | with_reducible refine sideG2 ?_ ?_ | with_reducible refine sideS ?_ ?_ | with_reducible refine sideS2 ?_ ?_ | with_reducible refine sideS3 ?_ ?_ | with_reducible refine sideA ?_ ?_ | with_reducible refine sideA2 ?_ ?_ | with_reducible refine sideA3 ?_ ?_); (first | omega | assumption | (simp; done))) | (refine acall (vnum_g _) ?_; try simp (disch := first | omega | simp) [wrap_i64, -aseqC, -anyC, hl1, hl2, hl3, hi]) | (refine agives (vnum_g _) ?_; try simp (disch := first | omega | simp) [wrap_i64, -aseqC, -anyC, hl1, hl2, hl3, hi]) | (refine acallAt (vnum_g _) ?_; try simp (disch := first | omega | simp) [wrap_i64, -aseqC, -anyC, hl1, hl2, hl3, hi]) | (refine acall (vbool_g _) ?_; try simp (disch := first | omega | simp) [wrap_i64, -aseqC, -anyC, hl1, hl2, hl3, hi]) | (refine agives (vbool_g _) ?_; try simp (disch := first | omega | simp) [wrap_i64, -aseqC, -anyC, hl1, hl2, hl3, hi]) | (refine acallAt (vbool_g _) ?_; try simp (disch := first | omega | simp) [wrap_i64, -aseqC, -anyC, hl1, hl2, hl3, hi]) | (refine acall (vtxt_g _) ?_; try simp (disch := first | omega | simp) [wrap_i64, -aseqC, -anyC, hl1, hl2, hl3, hi]) | (refine agives (vtxt_g _) ?_; try simp (disch := first | omega | simp) [wrap_i64, -aseqC, -anyC, hl1, hl2, hl3, hi]) | (refine acallAt (vtxt_g _) ?_; try simp (disch := first | omega | simp) [wrap_i64, -aseqC, -anyC, hl1, hl2, hl3, hi]) | (refine awp_seq_k fun K hK => ?_) | (refine awp_regionC ?_) | (refine awp_anyA true (by kernel_rfl) (by kernel_rfl) ?_) | (refine awp_anyA false (by kernel_rfl) (by kernel_rfl) ?_) | (refine hK _ ?_; clear hK; clear K) | (clear hK; clear K; refine hK _ ?_; clear hK; clear K) | (clear hK; clear K; clear hK; clear K; refine hK _ ?_; clear hK; clear K) | refine awp_block ?_ | (refine awp_condC ?_; simp (disch := first | omega | simp) [wrap_i64, -aseqC, -anyC, hl1, hl2, hl3, hi]) | (refine awp_exit ?_; try simp (disch := first | omega | simp) [wrap_i64, -aseqC, -anyC, hl1, hl2, hl3, hi]) | (refine awp_skip ?_; try simp (disch := first | omega | simp) [wrap_i64, -aseqC, -anyC, hl1, hl2, hl3, hi]) | (refine awp_ret ?_; try simp (disch := first | omega | simp) [wrap_i64, -aseqC, -anyC, hl1, hl2, hl3, hi]) | (clear hK; clear K; clear hK; clear K; clear hK; clear K; refine hK _ ?_; clear hK; clear K) | (clear hK; clear K; clear hK; clear K; clear hK; clear K; clear hK; clear K; refine hK _ ?_; clear hK; clear K) | (clear hK; clear K; clear hK; clear K; clear hK; clear K; clear hK; clear K; clear hK; clear K; refine hK _ ?_; clear hK; clear K) | (clear hK; clear K; clear hK; clear K; clear hK; clear K; clear hK; clear K; clear hK; clear K; clear hK; clear K; refine hK _ ?_; clear hK; clear K))
  all_goals
    by_cases h3 : x.op = 3
    · obtain ⟨q0, q1⟩ := hc h3
      first
      | (exfalso; omega)
      | (rw [hR, if_neg (by omega), if_neg (by omega), if_neg (by omega), if_pos h3, List.getD_eq_getElem?_getD, List.getElem?_eq_getElem (by omega)]; rfl)
    · first
      | (exfalso; omega)
      | (rw [hR]; simp_all [Val.av, numV, boolV, textV, hw64, -Val.av_fold]; done)
set_option maxHeartbeats 4000000 in
theorem one1_g {A : List Val} (hb : σ b = .cells [.int x.op, .int x.to, .int x.a, .int x.b, .int x.c, .int x.n, .str x.s] 68) (ha : σ a = .cells [.sl (A.map Val.av)] 33) {i : Nat} (hi : i < A.length)
    (hop : x.op = 6 ∨ x.op = 7 ∨ x.op = 20) (time : Int) (row : List Val) : GivesAt Tryd.prog 113 [.int i, .ptr b 0, .ptr a 0] σ (opI time row x [A[i]]).av := by
  obtain ⟨R, hR⟩ : ∃ R, R = opI time row x [A[i]] := ⟨_, rfl⟩
  rw [← hR]
  unfold opI at hR
  rw [if_neg (by omega)] at hR
  unfold opV at hR
  rw [if_neg (by omega), if_neg (by omega), if_neg (by omega), if_neg (by omega), if_neg (by omega), if_neg (by omega)] at hR
  refine givesAt_of_awp Tryd.func113 Tryd.ntmps113 rfl rfl (by decide) rfl (by intro n; simp) fun n0 hfin hcl hft => ?_
  have hl1 := loc_at hfin hb (by simp)
  have hl2 := loc_at hfin ha (by simp)
  repeat' (first | ((with_reducible refine aguard (fun hg => ?_) (fun hg => ?_)) <;> (try simp only [hg]) <;> (try simp only [beq_iff_eq, beq_eq_false_iff_ne, ne_eq, decide_eq_true_eq, decide_eq_false_iff_not, bne_iff_ne, bne_eq_false_iff_eq] at hg) <;> (try (first | simp only [eq_false hg, if_true, if_false] | simp only [eq_true hg, if_true, if_false])) <;> (try simp (disch := first | omega | simp) [wrap_i64, -aseqC, -anyC, hl1, hl2, hi])) | (with_reducible refine aseq_step ?_; try simp (disch := first | omega | simp) [wrap_i64, -aseqC, -anyC, hl1, hl2, hi]) | (with_reducible refine any_step' ?_; try simp (disch := first | omega | simp) [wrap_i64, -aseqC, -anyC, hl1, hl2, hi]) | (with_reducible refine aseq_end ?_; try simp (disch := first | omega | simp) [wrap_i64, -aseqC, -anyC, hl1, hl2, hi]) | (with_reducible refine any_end' ?_; try simp (disch := first | omega | simp) [wrap_i64, -aseqC, -anyC, hl1, hl2, hi]) | ((first | with_reducible refine sideG ?_ ?_ | with_reducible refine sideG2 ?_ ?_ | with_reducible refine sideS ?_ ?_ | with_reducible refine sideS2 ?_ ?_ | with_reducible refine sideS3 ?_ ?_ | with_reducible refine sideA ?_ ?_ | with_reducible refine sideA2 ?_ ?_ | with_reducible refine sideA3 ?_ ?_); (first | omega | assumption | (simp; done))) | (refine acall (vnum_g _) ?_; try simp (disch := first | omega | simp) [wrap_i64, -aseqC, -anyC, hl1, hl2, hi]) | (refine agives (vnum_g _) ?_; try simp (disch := first | omega | simp) [wrap_i64, -aseqC, -anyC, hl1, hl2, hi]) | (refine acallAt (vnum_g _) ?_; try simp (disch := first | omega | simp) [wrap_i64, -aseqC, -anyC, hl1, hl2, hi]) | (refine acall (vbool_g _) ?_; try simp (disch := first | omega | simp) [wrap_i64, -aseqC, -anyC, hl1, hl2, hi]) | (refine agives (vbool_g _) ?_; try simp (disch := first | omega | simp) [wrap_i64, -aseqC, -anyC, hl1, hl2, hi]) | (refine acallAt (vbool_g _) ?_; try simp (disch := first | omega | simp) [wrap_i64, -aseqC, -anyC, hl1, hl2, hi]) | (refine awp_seq_k fun K hK => ?_) | (refine awp_regionC ?_) | (refine awp_anyA true (by kernel_rfl) (by kernel_rfl) ?_) | (refine awp_anyA false (by kernel_rfl) (by kernel_rfl) ?_) | (refine hK _ ?_; clear hK; clear K) | (clear hK; clear K; refine hK _ ?_; clear hK; clear K) | (clear hK; clear K; clear hK; clear K; refine hK _ ?_; clear hK; clear K) | refine awp_block ?_ | (refine awp_condC ?_; simp (disch := first | omega | simp) [wrap_i64, -aseqC, -anyC, hl1, hl2, hi]) | (refine awp_exit ?_; try simp (disch := first | omega | simp) [wrap_i64, -aseqC, -anyC, hl1, hl2, hi]) | (refine awp_skip ?_; try simp (disch := first | omega | simp) [wrap_i64, -aseqC, -anyC, hl1, hl2, hi]) | (refine awp_ret ?_; try simp (disch := first | omega | simp) [wrap_i64, -aseqC, -anyC, hl1, hl2, hi]) | (clear hK; clear K; clear hK; clear K; clear hK; clear K; refine hK _ ?_; clear hK; clear K) | (clear hK; clear K; clear hK; clear K; clear hK; clear K; clear hK; clear K; refine hK _ ?_; clear hK; clear K) | (clear hK; clear K; clear hK; clear K; clear hK; clear K; clear hK; clear K; clear hK; clear K; refine hK _ ?_; clear hK; clear K) | (clear hK; clear K; clear hK; clear K; clear hK; clear K; clear hK; clear K; clear hK; clear K; clear hK; clear K; refine hK _ ?_; clear hK; clear K))
  all_goals (rw [hR]; simp_all [Val.av, numV, boolV, textV, hw64, -Val.av_fold])
theorem div_g (p q : Int) : Gives Tryd.prog 136 [.int p, .int q] (.tup [.int (divI p q), .int (modI p q)]) := by
  by_cases h : q = 0
  · subst h
    refine gives_of_awp Tryd.func136 Tryd.ntmps136 rfl rfl (by decide) rfl (by intro n; simp) fun σ n0 hcl hft => ?_
    repeat' (first | ((first | ((with_reducible refine aguard (fun hg => ?_) (fun hg => ?_)) <;> (try simp only [hg]) <;> (try simp only [beq_iff_eq, beq_eq_false_iff_ne, ne_eq, decide_eq_true_eq, decide_eq_false_iff_not, bne_iff_ne, bne_eq_false_iff_eq] at hg) <;> (try (first | simp only [eq_false hg, if_true, if_false] | simp only [eq_true hg, if_true, if_false]))) | with_reducible refine aseq_step ?_ | with_reducible refine any_step' ?_ | with_reducible refine aseq_end ?_ | with_reducible refine any_end' ?_ | refine awp_condC ?_ | refine awp_exit ?_ | refine awp_skip ?_ | refine awp_ret ?_) <;> (try simp (disch := first | omega | simp) [wrap_i64, -aseqC, -anyC])) | ((first | with_reducible refine sideG ?_ ?_ | with_reducible refine sideG2 ?_ ?_ | with_reducible refine sideS ?_ ?_ | with_reducible refine sideS2 ?_ ?_ | with_reducible refine sideS3 ?_ ?_ | with_reducible refine sideA ?_ ?_ | with_reducible refine sideA2 ?_ ?_ | with_reducible refine sideA3 ?_ ?_); (first | omega | assumption | (simp; done))) | (refine awp_seq_k fun K hK => ?_) | (refine awp_regionC ?_) | (refine awp_anyA true (by kernel_rfl) (by kernel_rfl) ?_) | (refine hK _ ?_; clear hK; clear K) | (clear hK; clear K; refine hK _ ?_; clear hK; clear K) | (clear hK; clear K; clear hK; clear K; refine hK _ ?_; clear hK; clear K) | refine awp_block ?_)
    all_goals simp [divI, modI]
  · have e1 : divI p q = wrap64 (p.tdiv q) := if_neg h
    have e2 : modI p q = p.tmod q := if_neg h
    rw [e1, e2]
    refine gives_of_awp Tryd.func136 Tryd.ntmps136 rfl rfl (by decide) rfl (by intro n; simp) fun σ n0 hcl hft => ?_
    repeat' (first | ((first | ((with_reducible refine aguard (fun hg => ?_) (fun hg => ?_)) <;> (try simp only [hg]) <;> (try simp only [beq_iff_eq, beq_eq_false_iff_ne, ne_eq, decide_eq_true_eq, decide_eq_false_iff_not, bne_iff_ne, bne_eq_false_iff_eq] at hg) <;> (try (first | simp only [eq_false hg, if_true, if_false] | simp only [eq_true hg, if_true, if_false]))) | with_reducible refine aseq_step ?_ | with_reducible refine any_step' ?_ | with_reducible refine aseq_end ?_ | with_reducible refine any_end' ?_ | refine awp_condC ?_ | refine awp_exit ?_ | refine awp_skip ?_ | refine awp_ret ?_) <;> (try simp (disch := first | omega | simp) [wrap_i64, -aseqC, -anyC, h])) | ((first | with_reducible refine sideG ?_ ?_ | with_reducible refine sideG2 ?_ ?_ | with_reducible refine sideS ?_ ?_ | with_reducible refine sideS2 ?_ ?_ | with_reducible refine sideS3 ?_ ?_ | with_reducible refine sideA ?_ ?_ | with_reducible refine sideA2 ?_ ?_ | with_reducible refine sideA3 ?_ ?_); (first | omega | assumption | (simp; done))) | (refine awp_seq_k fun K hK => ?_) | (refine awp_regionC ?_) | (refine awp_anyA true (by kernel_rfl) (by kernel_rfl) ?_) | (refine hK _ ?_; clear hK; clear K) | (clear hK; clear K; refine hK _ ?_; clear hK; clear K) | (clear hK; clear K; clear hK; clear K; refine hK _ ?_; clear hK; clear K) | refine awp_block ?_)
    all_goals first | exact absurd (by assumption) h | exact (hw64 _).symm
set_option maxHeartbeats 4000000 in
theorem num_g (op : Int) (p q : Val) (hop : 8 ≤ op ∧ op ≤ 12) : Gives Tryd.prog 116 [.int op, .int p.n, .int q.n] (binV op p q).av := by
  obtain ⟨R, hR⟩ : ∃ R, R = binV op p q := ⟨_, rfl⟩
  rw [← hR]
  unfold binV at hR
  refine gives_of_awp Tryd.func116 Tryd.ntmps116 rfl rfl (by decide) rfl (by intro n; simp) fun σ n0 hcl hft => ?_
  repeat' (first | ((with_reducible refine aguard (fun hg => ?_) (fun hg => ?_)) <;> (try simp only [hg]) <;> (try simp only [beq_iff_eq, beq_eq_false_iff_ne, ne_eq, decide_eq_true_eq, decide_eq_false_iff_not, bne_iff_ne, bne_eq_false_iff_eq] at hg) <;> (try (first | simp only [eq_false hg, if_true, if_false] | simp only [eq_true hg, if_true, if_false])) <;> (try simp (disch := first | omega | simp) [wrap_i64, -aseqC, -anyC])) | (with_reducible refine aseq_step ?_; try simp (disch := first | omega | simp) [wrap_i64, -aseqC, -anyC]) | (with_reducible refine any_step' ?_; try simp (disch := first | omega | simp) [wrap_i64, -aseqC, -anyC]) | (with_reducible refine aseq_end ?_; try simp (disch := first | omega | simp) [wrap_i64, -aseqC, -anyC]) | (with_reducible refine any_end' ?_; try simp (disch := first | omega | simp) [wrap_i64, -aseqC, -anyC]) | ((first | with_reducible refine sideG ?_ ?_ | with_reducible refine sideG2 ?_ ?_ | with_reducible refine sideS ?_ ?_ | with_reducible refine sideS2 ?_ ?_ | with_reducible refine sideS3 ?_ ?_ | with_reducible refine sideA ?_ ?_ | with_reducible refine sideA2 ?_ ?_ | with_reducible refine sideA3 ?_ ?_); (first | omega | assumption | (simp; done))) | (refine acall (div_g _ _) ?_; try simp (disch := first | omega | simp) [wrap_i64, -aseqC, -anyC]) | (refine agives (div_g _ _) ?_; try simp (disch := first | omega | simp) [wrap_i64, -aseqC, -anyC]) | (refine acallAt (div_g _ _) ?_; try simp (disch := first | omega | simp) [wrap_i64, -aseqC, -anyC]) | (refine acall (vnum_g _) ?_; try simp (disch := first | omega | simp) [wrap_i64, -aseqC, -anyC]) | (refine agives (vnum_g _) ?_; try simp (disch := first | omega | simp) [wrap_i64, -aseqC, -anyC]) | (refine acallAt (vnum_g _) ?_; try simp (disch := first | omega | simp) [wrap_i64, -aseqC, -anyC]) | (refine awp_seq_k fun K hK => ?_) | (refine awp_regionC ?_) | (refine awp_anyA true (by kernel_rfl) (by kernel_rfl) ?_) | (refine awp_anyA false (by kernel_rfl) (by kernel_rfl) ?_) | (refine hK _ ?_; clear hK; clear K) | (clear hK; clear K; refine hK _ ?_; clear hK; clear K) | (clear hK; clear K; clear hK; clear K; refine hK _ ?_; clear hK; clear K) | refine awp_block ?_ | (refine awp_condC ?_; simp (disch := first | omega | simp) [wrap_i64, -aseqC, -anyC]) | (refine awp_exit ?_; try simp (disch := first | omega | simp) [wrap_i64, -aseqC, -anyC]) | (refine awp_skip ?_; try simp (disch := first | omega | simp) [wrap_i64, -aseqC, -anyC]) | (refine awp_ret ?_; try simp (disch := first | omega | simp) [wrap_i64, -aseqC, -anyC]) | (clear hK; clear K; clear hK; clear K; clear hK; clear K; refine hK _ ?_; clear hK; clear K) | (clear hK; clear K; clear hK; clear K; clear hK; clear K; clear hK; clear K; refine hK _ ?_; clear hK; clear K) | (clear hK; clear K; clear hK; clear K; clear hK; clear K; clear hK; clear K; clear hK; clear K; refine hK _ ?_; clear hK; clear K) | (clear hK; clear K; clear hK; clear K; clear hK; clear K; clear hK; clear K; clear hK; clear K; clear hK; clear K; refine hK _ ?_; clear hK; clear K))
  all_goals (rw [hR]; simp_all [Val.av, numV, boolV, textV, hw64, -Val.av_fold])
  all_goals (rw [if_pos (by omega)]; exact ⟨rfl, rfl, rfl⟩)
set_option maxHeartbeats 8000000 in
theorem two1_g {A B : List Val} (hb : σ b = .cells [.int x.op, .int x.to, .int x.a, .int x.b, .int x.c, .int x.n, .str x.s] 68) (ha : σ a = .cells [.sl (A.map Val.av)] 33) (hc : σ c = .cells [.sl (B.map Val.av)] 33)
    {i : Nat} (hi : i < A.length) (hi2 : i < B.length) (hop : 8 ≤ x.op ∧ x.op ≤ 19) (hs : A[i].s.size + B[i].s.size ≤ 1000) (time : Int) (row : List Val) : GivesAt Tryd.prog 114 [.int i, .ptr b 0, .ptr a 0, .ptr c 0] σ (opI time row x [A[i], B[i]]).av := by
  obtain ⟨R, hR⟩ : ∃ R, R = opI time row x [A[i], B[i]] := ⟨_, rfl⟩
  rw [← hR]
  unfold opI at hR
  rw [if_neg (by omega)] at hR
  unfold opV at hR
  rw [if_neg (by omega), if_neg (by omega), if_neg (by omega), if_neg (by omega), if_neg (by omega), if_neg (by omega), if_neg (by omega), if_neg (by omega), if_neg (by omega), if_neg (by omega)] at hR
  rw [show [A[i], B[i]].getD 0 zeroV = A[i] from rfl, show [A[i], B[i]].getD 1 zeroV = B[i] from rfl] at hR
  unfold binV at hR
  have hnum : x.op ≤ 12 → Gives Tryd.prog 116 [.int x.op, .int A[i].n, .int B[i].n] R.av := fun h => by
    have := num_g x.op A[i] B[i] ⟨by omega, h⟩
    unfold binV at this
    rwa [← hR] at this
  have hsz : A[i].s.size + B[i].s.size ≤ 9223372036854775807 := by omega
  have hM : (if (200 : Int) < (A[i].s.size : Int) + (B[i].s.size : Int) then 200 else (A[i].s.size : Int) + (B[i].s.size : Int)) = ((min (A[i].s.size + B[i].s.size) 200 : Nat) : Int) := by split <;> omega
  have hM2 : min (A[i].s.size + B[i].s.size) 200 ≤ A[i].s.size + B[i].s.size := by omega
  have hJ : joinS A[i].s B[i].s = (A[i].s ++ B[i].s).extract 0 (min (A[i].s.size + B[i].s.size) 200) := rfl
  generalize hMM : min (A[i].s.size + B[i].s.size) 200 = M at *
  refine givesAt_of_awp Tryd.func114 Tryd.ntmps114 rfl rfl (by decide) rfl (by intro n; simp) fun n0 hfin hcl hft => ?_
  have hl1 := loc_at hfin hb (by simp)
  have hl2 := loc_at hfin ha (by simp)
  have hl3 := loc_at hfin hc (by simp)
  repeat' (first | ((with_reducible refine aguard (fun hg => ?_) (fun hg => ?_)) <;> (try simp only [hg]) <;> (try simp only [beq_iff_eq, beq_eq_false_iff_ne, ne_eq, decide_eq_true_eq, decide_eq_false_iff_not, bne_iff_ne, bne_eq_false_iff_eq] at hg) <;> (try (first | simp only [eq_false hg, if_true, if_false] | simp only [eq_true hg, if_true, if_false])) <;> (try simp (disch := first | omega | simp) [wrap_i64, -aseqC, -anyC, hl1, hl2, hl3, hi, hi2, hsz, hM, hM2])) | (with_reducible refine aseq_step ?_; try simp (disch := first | omega | simp) [wrap_i64, -aseqC, -anyC, hl1, hl2, hl3, hi, hi2, hsz, hM, hM2]) | (with_reducible refine any_step' ?_; try simp (disch := first | omega | simp) [wrap_i64, -aseqC, -anyC, hl1, hl2, hl3, hi, hi2, hsz, hM, hM2]) | (with_reducible refine aseq_end ?_; try simp (disch := first | omega | simp) [wrap_i64, -aseqC, -anyC, hl1, hl2, hl3, hi, hi2, hsz, hM, hM2]) | (with_reducible refine any_end' ?_; try simp (disch := first | omega | simp) [wrap_i64, -aseqC, -anyC, hl1, hl2, hl3, hi, hi2, hsz, hM, hM2]) | ((first | with_reducible refine sideG ?_ ?_ | with_reducible refine sideG2 ?_ ?_ | with_reducible refine sideS ?_ ?_ | with_reducible refine sideS2 ?_ ?_ | with_reducible refine sideS3 ?_ ?_ | with_reducible refine sideA ?_ ?_ | with_reducible refine sideA2 ?_ ?_ | with_reducible refine sideA3 ?_ ?_); (first | omega | assumption | (simp; done))) | (refine acall (cmp_g _ _) ?_; try simp (disch := first | omega | simp) [wrap_i64, -aseqC, -anyC, hl1, hl2, hl3, hi, hi2, hsz, hM, hM2]) | (refine agives (cmp_g _ _) ?_; try simp (disch := first | omega | simp) [wrap_i64, -aseqC, -anyC, hl1, hl2, hl3, hi, hi2, hsz, hM, hM2]) | (refine acallAt (cmp_g _ _) ?_; try simp (disch := first | omega | simp) [wrap_i64, -aseqC, -anyC, hl1, hl2, hl3, hi, hi2, hsz, hM, hM2]) | (refine acall (vbool_g _) ?_; try simp (disch := first | omega | simp) [wrap_i64, -aseqC, -anyC, hl1, hl2, hl3, hi, hi2, hsz, hM, hM2]) | (refine agives (vbool_g _) ?_; try simp (disch := first | omega | simp) [wrap_i64, -aseqC, -anyC, hl1, hl2, hl3, hi, hi2, hsz, hM, hM2]) | (refine acallAt (vbool_g _) ?_; try simp (disch := first | omega | simp) [wrap_i64, -aseqC, -anyC, hl1, hl2, hl3, hi, hi2, hsz, hM, hM2]) | (refine acall (vtxt_g _) ?_; try simp (disch := first | omega | simp) [wrap_i64, -aseqC, -anyC, hl1, hl2, hl3, hi, hi2, hsz, hM, hM2]) | (refine agives (vtxt_g _) ?_; try simp (disch := first | omega | simp) [wrap_i64, -aseqC, -anyC, hl1, hl2, hl3, hi, hi2, hsz, hM, hM2]) | (refine acallAt (vtxt_g _) ?_; try simp (disch := first | omega | simp) [wrap_i64, -aseqC, -anyC, hl1, hl2, hl3, hi, hi2, hsz, hM, hM2]) | (refine acall (hnum (by omega)) ?_; try simp (disch := first | omega | simp) [wrap_i64, -aseqC, -anyC, hl1, hl2, hl3, hi, hi2, hsz, hM, hM2]) | (refine agives (hnum (by omega)) ?_; try simp (disch := first | omega | simp) [wrap_i64, -aseqC, -anyC, hl1, hl2, hl3, hi, hi2, hsz, hM, hM2]) | (refine acallAt (hnum (by omega)) ?_; try simp (disch := first | omega | simp) [wrap_i64, -aseqC, -anyC, hl1, hl2, hl3, hi, hi2, hsz, hM, hM2]) | (refine awp_seq_k fun K hK => ?_) | (refine awp_regionC ?_) | (refine awp_anyA true (by kernel_rfl) (by kernel_rfl) ?_) | (refine awp_anyA false (by kernel_rfl) (by kernel_rfl) ?_) | (refine hK _ ?_; clear hK; clear K) | (clear hK; clear K; refine hK _ ?_; clear hK; clear K) | (clear hK; clear K; clear hK; clear K; refine hK _ ?_; clear hK; clear K) | refine awp_block ?_ | (refine awp_condC ?_; simp (disch := first | omega | simp) [wrap_i64, -aseqC, -anyC, hl1, hl2, hl3, hi, hi2, hsz, hM, hM2]) | (refine awp_exit ?_; try simp (disch := first | omega | simp) [wrap_i64, -aseqC, -anyC, hl1, hl2, hl3, hi, hi2, hsz, hM, hM2]) | (refine awp_skip ?_; try simp (disch := first | omega | simp) [wrap_i64, -aseqC, -anyC, hl1, hl2, hl3, hi, hi2, hsz, hM, hM2]) | (refine awp_ret ?_; try simp (disch := first | omega | simp) [wrap_i64, -aseqC, -anyC, hl1, hl2, hl3, hi, hi2, hsz, hM, hM2]) | (clear hK; clear K; clear hK; clear K; clear hK; clear K; refine hK _ ?_; clear hK; clear K) | (clear hK; clear K; clear hK; clear K; clear hK; clear K; clear hK; clear K; refine hK _ ?_; clear hK; clear K) | (clear hK; clear K; clear hK; clear K; clear hK; clear K; clear hK; clear K; clear hK; clear K; refine hK _ ?_; clear hK; clear K) | (clear hK; clear K; clear hK; clear K; clear hK; clear K; clear hK; clear K; clear hK; clear K; clear hK; clear K; refine hK _ ?_; clear hK; clear K))
  all_goals (rw [hR]; simp_all [Val.av, numV, boolV, textV, hw64, eqB_eqV, -Val.av_fold])
set_option maxHeartbeats 4000000 in
theorem three1_g {A B C : List Val} (ha : σ a = .cells [.sl (A.map Val.av)] 33) (hb : σ b = .cells [.sl (B.map Val.av)] 33) (hc : σ c = .cells [.sl (C.map Val.av)] 33)
    {i : Nat} (hi : i < A.length) (hi2 : i < B.length) (hi3 : i < C.length) : GivesAt Tryd.prog 117 [.int i, .ptr a 0, .ptr b 0, .ptr c 0] σ (ifV [A[i], B[i], C[i]]).av := by
  obtain ⟨R, hR⟩ : ∃ R, R = ifV [A[i], B[i], C[i]] := ⟨_, rfl⟩
  rw [← hR]
  unfold ifV at hR
  rw [show [A[i], B[i], C[i]].getD 0 zeroV = A[i] from rfl, show [A[i], B[i], C[i]].getD 1 zeroV = B[i] from rfl, show [A[i], B[i], C[i]].getD 2 zeroV = C[i] from rfl] at hR
  refine givesAt_of_awp Tryd.func117 Tryd.ntmps117 rfl rfl (by decide) rfl (by intro n; simp) fun n0 hfin hcl hft => ?_
  have hl1 := loc_at hfin ha (by simp)
  have hl2 := loc_at hfin hb (by simp)
  have hl3 := loc_at hfin hc (by simp)
  repeat' (first | ((first | ((with_reducible refine aguard (fun hg => ?_) (fun hg => ?_)) <;> (try simp only [hg]) <;> (try simp only [beq_iff_eq, beq_eq_false_iff_ne, ne_eq, decide_eq_true_eq, decide_eq_false_iff_not, bne_iff_ne, bne_eq_false_iff_eq] at hg) <;> (try (first | simp only [eq_false hg, if_true, if_false] | simp only [eq_true hg, if_true, if_false]))) | with_reducible refine aseq_step ?_ | with_reducible refine any_step' ?_ | with_reducible refine aseq_end ?_ | with_reducible refine any_end' ?_ | refine awp_condC ?_ | refine awp_exit ?_ | refine awp_skip ?_ | refine awp_ret ?_) <;> (try simp (disch := first | omega | simp) [wrap_i64, -aseqC, -anyC, hl1, hl2, hl3, hi, hi2, hi3])) | ((first | with_reducible refine sideG ?_ ?_ | with_reducible refine sideG2 ?_ ?_ | with_reducible refine sideS ?_ ?_ | with_reducible refine sideS2 ?_ ?_ | with_reducible refine sideS3 ?_ ?_ | with_reducible refine sideA ?_ ?_ | with_reducible refine sideA2 ?_ ?_ | with_reducible refine sideA3 ?_ ?_); (first | omega | assumption | (simp; done))) | (refine awp_seq_k fun K hK => ?_) | (refine awp_regionC ?_) | (refine awp_anyA true (by kernel_rfl) (by kernel_rfl) ?_) | (refine hK _ ?_; clear hK; clear K) | (clear hK; clear K; refine hK _ ?_; clear hK; clear K) | (clear hK; clear K; clear hK; clear K; refine hK _ ?_; clear hK; clear K) | refine awp_block ?_)
  all_goals (rw [hR]; simp_all)
end
end Go.Proofs.YtnkakofcejkhiaaDoor

/- Tables of the program: the address of an element of a global array, and what stands there. -/
namespace Go.Proofs.YtnkakofcejkhiaaDoor
open Go.RowKit Go.Lib

section
variable {P : Program} {ev : Operand → AV} {σ : Nat → AB}
theorem fop_indexG {t e : TypeId} {n g : Nat} {p i : Operand} {ik : IntKind} {k : Int} {ag : Bool} {sz : Nat} (ht : P.underlying t = some (.array n e)) (hs : tinfo P e = some (ag, sz)) (hp : ev p = .v (.pointer (some ⟨g, 0, none⟩))) (hi : ev i = .v (.int ik k)) (h0 : 0 ≤ k) (h1 : k < n) :
    FOp P ev σ (.indexAddr t p i) (.v (.pointer (some ⟨g, k.toNat * sz, none⟩))) none := FOp.of fun X a oper ho hS hsub hev => by
  have h := hev p (by simp [Op.operands])
  have h2 := hev i (by simp [Op.operands])
  rw [hp, RR.v] at h; rw [hi, RR.v] at h2
  refine ⟨.pointer (some ⟨g, k.toNat * sz, none⟩), ?_, RR.v.2 rfl⟩
  have := (tinfo_run hs X.w).2
  simp [execOp, ho, h, h2, Instr.indexAt, Instr.sureAddr, asIntOf, underlying, ht, h0, h1, this, addr_add]
theorem fop_loadG {t : TypeId} {p : Operand} {g o n : Nat} {cs : List Value} {v : Value} (ht : tinfo P t = some (false, n)) (hp : ev p = .v (.pointer (some ⟨g, o, none⟩))) (hg : gtab g = some cs) (hv : cs[o]? = some v) :
    FOp P ev σ (.load t p) (.v v) none := FOp.of fun X a oper ho hS hsub hev => by
  have h := hev p (by simp [Op.operands])
  rw [hp, RR.v] at h
  have hG := gtab_ok hS.glob hg
  have hc := hG.1.at.get o v hv
  rw [Nat.zero_add] at hc
  refine ⟨v, ?_, RR.v.2 rfl⟩
  have h1 : (loadVar t ⟨g, o, none⟩).run P X.w = .ok v X.w := by simp [loadVar, (tinfo_run ht X.w).1, hc]
  simp [execOp, ho, h, Instr.loadAt, Instr.sureAddr, h1]
end
def aevG (P : Program) (s : AS) (o : Op) (K : AV → AS → Prop) : Prop :=
  match o with
  | .indexAddr t p i => match P.underlying t with
    | some (.array n e) => match tinfo P e, s.eval p, s.eval i with
      | some (_, sz), .v (.pointer (some ⟨g, 0, none⟩)), .v (.int _ k) => 0 ≤ k ∧ k < n ∧ K (.v (.pointer (some ⟨g, k.toNat * sz, none⟩))) s
      | _, _, _ => False
    | _ => aev P s (.indexAddr t p i) K
  | .load t p => match s.eval p with
    | .v (.pointer (some ⟨g, o, none⟩)) => match tinfo P t, gtab g with
      | some (false, _), some cs => match cs[o]? with
        | some v => K (.v v) s
        | none => False
      | _, _ => False
    | _ => aev P s (.load t p) K
  | o => aev P s o K
theorem aevG_sound {P : Program} {s : AS} {o : Op} {K : AV → AS → Prop} (h : aevG P s o K) : EOp P s o K := by
  unfold aevG at h
  split at h
  · split at h
    · split at h
      · exact eop_fun (nb := none) (fop_indexG ‹_› ‹_› ‹_› ‹_› h.1 h.2.1) h.2.2
      · exact h.elim
    · exact aev_sound h
  · split at h
    · split at h
      · split at h
        · exact eop_fun (nb := none) (fop_loadG ‹_› ‹_› ‹_› ‹_›) h
        · exact h.elim
      · exact h.elim
    · exact aev_sound h
  · exact aev_sound h
def aseqG (P : Program) (ops : Array Oper) (K : AS → Prop) : List Oper → AS → Prop
  | [], s => K s
  | o :: l, s => match awant ops o s.t with
    | some b => AGuard b (aevG P s o.op (fun x s1 => dstOk o.dst s1.n ∧ aseqG P ops K l (s1.put o.dst x))) (dstOk o.dst s.n ∧ aseqG P ops K l (s.put o.dst (.v undef)))
    | none => False
theorem aseqG_sound {P : Program} {ops : Array Oper} {K : AS → Prop} : ∀ {l : List Oper} {s : AS}, aseqG P ops K l s → aseq P ops K l s
  | [], _, h => h
  | o :: l, s, h => by
    rw [aseqG] at h
    rw [aseq]
    split at h
    · rename_i b hb
      cases b with
      | true => exact ⟨true, hb, (aevG_sound (h.1 rfl)).mono fun x s1 ⟨h1, h2⟩ => ⟨h1, aseqG_sound h2⟩⟩
      | false => exact ⟨false, hb, (h.2 rfl).1, aseqG_sound (h.2 rfl).2⟩
    · exact h.elim
/-- a region that looks into tables of the program -/
theorem awp_regionG {P : Program} {s : AS} {id : Nat} {l : List Oper} {Q : Exit → AS → Prop} (h : aseqG P l.toArray (Q .normal) l s) : awp P (.region id l.toArray false) Q s := awp_region (aseqG_sound h)
theorem aseqG_step {P : Program} {ops : Array Oper} {K : AS → Prop} {o : Oper} {l : List Oper} {s : AS} (h : match awant ops o s.t with
    | some b => AGuard b (aevG P s o.op (fun x s1 => dstOk o.dst s1.n ∧ aseqG P ops K l (s1.put o.dst x))) (dstOk o.dst s.n ∧ aseqG P ops K l (s.put o.dst (.v undef)))
    | none => False) : aseqG P ops K (o :: l) s := h
theorem aseqG_end {P : Program} {ops : Array Oper} {K : AS → Prop} {s : AS} (h : K s) : aseqG P ops K [] s := h
attribute [simp] aevG
end Go.Proofs.YtnkakofcejkhiaaDoor

/- Walks of layer 25: operations, operands, and whether an instruction is formed. -/
namespace Go.Proofs.YtnkakofcejkhiaaDoor
open Go.RowKit Go.Lib

theorem isOp_g (o : Int) : Gives Tryd.prog 102 [.int o] (.bool (opOk o)) := by
  by_cases h : 0 ≤ o ∧ o < 23
  · have h2 : o = 0 ∨ o = 1 ∨ o = 2 ∨ o = 3 ∨ o = 4 ∨ o = 5 ∨ o = 6 ∨ o = 7 ∨ o = 8 ∨ o = 9 ∨ o = 10 ∨ o = 11 ∨ o = 12 ∨ o = 13 ∨ o = 14 ∨ o = 15 ∨ o = 16 ∨ o = 17 ∨ o = 18 ∨ o = 19 ∨ o = 20 ∨ o = 21 ∨ o = 22 := by omega
    clear h
    rcases h2 with rfl | rfl | rfl | rfl | rfl | rfl | rfl | rfl | rfl | rfl | rfl | rfl | rfl | rfl | rfl | rfl | rfl | rfl | rfl | rfl | rfl | rfl | rfl
    all_goals
      refine gives_of_awp Tryd.func102 Tryd.ntmps102 rfl rfl (by decide) rfl (by intro n; simp) fun σ n0 hcl hft => ?_
      repeat' (first | (with_reducible refine awp_regionG (id := 1) ?_) | ((with_reducible refine aguard (fun hg => ?_) (fun hg => ?_)) <;> (try simp only [hg]) <;> (try simp only [beq_iff_eq, beq_eq_false_iff_ne, ne_eq, decide_eq_true_eq, decide_eq_false_iff_not, bne_iff_ne, bne_eq_false_iff_eq] at hg) <;> (try (first | simp only [eq_false hg, if_true, if_false] | simp only [eq_true hg, if_true, if_false])) <;> (try simp (disch := first | omega | simp) [wrap_i64, -aseqC, -anyC])) | (with_reducible refine aseq_step ?_; try simp (disch := first | omega | simp) [wrap_i64, -aseqC, -anyC]) | (with_reducible refine any_step' ?_; try simp (disch := first | omega | simp) [wrap_i64, -aseqC, -anyC]) | (with_reducible refine aseq_end ?_; try simp (disch := first | omega | simp) [wrap_i64, -aseqC, -anyC]) | (with_reducible refine any_end' ?_; try simp (disch := first | omega | simp) [wrap_i64, -aseqC, -anyC]) | ((first | with_reducible refine sideG ?_ ?_ | with_reducible refine sideG2 ?_ ?_ | with_reducible refine sideS ?_ ?_ | with_reducible refine sideS2 ?_ ?_ | with_reducible refine sideS3 ?_ ?_ | with_reducible refine sideA ?_ ?_ | with_reducible refine sideA2 ?_ ?_ | with_reducible refine sideA3 ?_ ?_); (first | omega | assumption | (simp; done))) | (with_reducible refine aseqG_step ?_; try simp (disch := first | omega | simp) [wrap_i64, -aseqC, -anyC]) | (with_reducible refine aseqG_end ?_; try simp (disch := first | omega | simp) [wrap_i64, -aseqC, -anyC]) | (refine awp_seq_k fun K hK => ?_) | (refine awp_regionC ?_) | (refine awp_anyA true (by kernel_rfl) (by kernel_rfl) ?_) | (refine awp_anyA false (by kernel_rfl) (by kernel_rfl) ?_) | (refine hK _ ?_; clear hK; clear K) | (clear hK; clear K; refine hK _ ?_; clear hK; clear K) | (clear hK; clear K; clear hK; clear K; refine hK _ ?_; clear hK; clear K) | refine awp_block ?_ | (refine awp_condC ?_; simp (disch := first | omega | simp) [wrap_i64, -aseqC, -anyC]) | (refine awp_exit ?_; try simp (disch := first | omega | simp) [wrap_i64, -aseqC, -anyC]) | (refine awp_skip ?_; try simp (disch := first | omega | simp) [wrap_i64, -aseqC, -anyC]) | (refine awp_ret ?_; try simp (disch := first | omega | simp) [wrap_i64, -aseqC, -anyC]))
      try rfl
  · have hf : opOk o = false := by unfold opOk; simp; omega
    rw [hf]
    by_cases h0 : 0 ≤ o
    · have h1 : ¬ o < 23 := by omega
      refine gives_of_awp Tryd.func102 Tryd.ntmps102 rfl rfl (by decide) rfl (by intro n; simp) fun σ n0 hcl hft => ?_
      repeat' (first | (with_reducible refine awp_regionG (id := 1) ?_) | ((with_reducible refine aguard (fun hg => ?_) (fun hg => ?_)) <;> (try simp only [hg]) <;> (try simp only [beq_iff_eq, beq_eq_false_iff_ne, ne_eq, decide_eq_true_eq, decide_eq_false_iff_not, bne_iff_ne, bne_eq_false_iff_eq] at hg) <;> (try (first | simp only [eq_false hg, if_true, if_false] | simp only [eq_true hg, if_true, if_false])) <;> (try simp (disch := first | omega | simp) [wrap_i64, -aseqC, -anyC, h0, h1])) | (with_reducible refine aseq_step ?_; try simp (disch := first | omega | simp) [wrap_i64, -aseqC, -anyC, h0, h1]) | (with_reducible refine any_step' ?_; try simp (disch := first | omega | simp) [wrap_i64, -aseqC, -anyC, h0, h1]) | (with_reducible refine aseq_end ?_; try simp (disch := first | omega | simp) [wrap_i64, -aseqC, -anyC, h0, h1]) | (with_reducible refine any_end' ?_; try simp (disch := first | omega | simp) [wrap_i64, -aseqC, -anyC, h0, h1]) | ((first | with_reducible refine sideG ?_ ?_ | with_reducible refine sideG2 ?_ ?_ | with_reducible refine sideS ?_ ?_ | with_reducible refine sideS2 ?_ ?_ | with_reducible refine sideS3 ?_ ?_ | with_reducible refine sideA ?_ ?_ | with_reducible refine sideA2 ?_ ?_ | with_reducible refine sideA3 ?_ ?_); (first | omega | assumption | (simp; done))) | (with_reducible refine aseqG_step ?_; try simp (disch := first | omega | simp) [wrap_i64, -aseqC, -anyC, h0, h1]) | (with_reducible refine aseqG_end ?_; try simp (disch := first | omega | simp) [wrap_i64, -aseqC, -anyC, h0, h1]) | (refine awp_seq_k fun K hK => ?_) | (refine awp_regionC ?_) | (refine awp_anyA true (by kernel_rfl) (by kernel_rfl) ?_) | (refine awp_anyA false (by kernel_rfl) (by kernel_rfl) ?_) | (refine hK _ ?_; clear hK; clear K) | (clear hK; clear K; refine hK _ ?_; clear hK; clear K) | (clear hK; clear K; clear hK; clear K; refine hK _ ?_; clear hK; clear K) | refine awp_block ?_ | (refine awp_condC ?_; simp (disch := first | omega | simp) [wrap_i64, -aseqC, -anyC, h0, h1]) | (refine awp_exit ?_; try simp (disch := first | omega | simp) [wrap_i64, -aseqC, -anyC, h0, h1]) | (refine awp_skip ?_; try simp (disch := first | omega | simp) [wrap_i64, -aseqC, -anyC, h0, h1]) | (refine awp_ret ?_; try simp (disch := first | omega | simp) [wrap_i64, -aseqC, -anyC, h0, h1]))
    · refine gives_of_awp Tryd.func102 Tryd.ntmps102 rfl rfl (by decide) rfl (by intro n; simp) fun σ n0 hcl hft => ?_
      repeat' (first | (with_reducible refine awp_regionG (id := 1) ?_) | ((with_reducible refine aguard (fun hg => ?_) (fun hg => ?_)) <;> (try simp only [hg]) <;> (try simp only [beq_iff_eq, beq_eq_false_iff_ne, ne_eq, decide_eq_true_eq, decide_eq_false_iff_not, bne_iff_ne, bne_eq_false_iff_eq] at hg) <;> (try (first | simp only [eq_false hg, if_true, if_false] | simp only [eq_true hg, if_true, if_false])) <;> (try simp (disch := first | omega | simp) [wrap_i64, -aseqC, -anyC, h0])) | (with_reducible refine aseq_step ?_; try simp (disch := first | omega | simp) [wrap_i64, -aseqC, -anyC, h0]) | (with_reducible refine any_step' ?_; try simp (disch := first | omega | simp) [wrap_i64, -aseqC, -anyC, h0]) | (with_reducible refine aseq_end ?_; try simp (disch := first | omega | simp) [wrap_i64, -aseqC, -anyC, h0]) | (with_reducible refine any_end' ?_; try simp (disch := first | omega | simp) [wrap_i64, -aseqC, -anyC, h0]) | ((first | with_reducible refine sideG ?_ ?_ | with_reducible refine sideG2 ?_ ?_ | with_reducible refine sideS ?_ ?_ | with_reducible refine sideS2 ?_ ?_ | with_reducible refine sideS3 ?_ ?_ | with_reducible refine sideA ?_ ?_ | with_reducible refine sideA2 ?_ ?_ | with_reducible refine sideA3 ?_ ?_); (first | omega | assumption | (simp; done))) | (with_reducible refine aseqG_step ?_; try simp (disch := first | omega | simp) [wrap_i64, -aseqC, -anyC, h0]) | (with_reducible refine aseqG_end ?_; try simp (disch := first | omega | simp) [wrap_i64, -aseqC, -anyC, h0]) | (refine awp_seq_k fun K hK => ?_) | (refine awp_regionC ?_) | (refine awp_anyA true (by kernel_rfl) (by kernel_rfl) ?_) | (refine awp_anyA false (by kernel_rfl) (by kernel_rfl) ?_) | (refine hK _ ?_; clear hK; clear K) | (clear hK; clear K; refine hK _ ?_; clear hK; clear K) | (clear hK; clear K; clear hK; clear K; refine hK _ ?_; clear hK; clear K) | refine awp_block ?_ | (refine awp_condC ?_; simp (disch := first | omega | simp) [wrap_i64, -aseqC, -anyC, h0]) | (refine awp_exit ?_; try simp (disch := first | omega | simp) [wrap_i64, -aseqC, -anyC, h0]) | (refine awp_skip ?_; try simp (disch := first | omega | simp) [wrap_i64, -aseqC, -anyC, h0]) | (refine awp_ret ?_; try simp (disch := first | omega | simp) [wrap_i64, -aseqC, -anyC, h0]))
theorem arity_g (o : Int) : Gives Tryd.prog 103 [.int o] (.int (arO o)) := by
  obtain ⟨R, hR⟩ : ∃ R, R = arO o := ⟨_, rfl⟩
  rw [← hR]
  unfold arO at hR
  refine gives_of_awp Tryd.func103 Tryd.ntmps103 rfl rfl (by decide) rfl (by intro n; simp) fun σ n0 hcl hft => ?_
  repeat' (first | ((with_reducible refine aguard (fun hg => ?_) (fun hg => ?_)) <;> (try simp only [hg]) <;> (try simp only [beq_iff_eq, beq_eq_false_iff_ne, ne_eq, decide_eq_true_eq, decide_eq_false_iff_not, bne_iff_ne, bne_eq_false_iff_eq] at hg) <;> (try (first | simp only [eq_false hg, if_true, if_false] | simp only [eq_true hg, if_true, if_false])) <;> (try simp (disch := first | omega | simp) [wrap_i64, -aseqC, -anyC])) | (with_reducible refine aseq_step ?_; try simp (disch := first | omega | simp) [wrap_i64, -aseqC, -anyC]) | (with_reducible refine any_step' ?_; try simp (disch := first | omega | simp) [wrap_i64, -aseqC, -anyC]) | (with_reducible refine aseq_end ?_; try simp (disch := first | omega | simp) [wrap_i64, -aseqC, -anyC]) | (with_reducible refine any_end' ?_; try simp (disch := first | omega | simp) [wrap_i64, -aseqC, -anyC]) | ((first | with_reducible refine sideG ?_ ?_ | with_reducible refine sideG2 ?_ ?_ | with_reducible refine sideS ?_ ?_ | with_reducible refine sideS2 ?_ ?_ | with_reducible refine sideS3 ?_ ?_ | with_reducible refine sideA ?_ ?_ | with_reducible refine sideA2 ?_ ?_ | with_reducible refine sideA3 ?_ ?_); (first | omega | assumption | (simp; done))) | (refine awp_seq_k fun K hK => ?_) | (refine awp_regionC ?_) | (refine awp_anyA true (by kernel_rfl) (by kernel_rfl) ?_) | (refine awp_anyA false (by kernel_rfl) (by kernel_rfl) ?_) | (refine hK _ ?_; clear hK; clear K) | (clear hK; clear K; refine hK _ ?_; clear hK; clear K) | (clear hK; clear K; clear hK; clear K; refine hK _ ?_; clear hK; clear K) | refine awp_block ?_ | (refine awp_condC ?_; simp (disch := first | omega | simp) [wrap_i64, -aseqC, -anyC]) | (refine awp_exit ?_; try simp (disch := first | omega | simp) [wrap_i64, -aseqC, -anyC]) | (refine awp_skip ?_; try simp (disch := first | omega | simp) [wrap_i64, -aseqC, -anyC]) | (refine awp_ret ?_; try simp (disch := first | omega | simp) [wrap_i64, -aseqC, -anyC]))
  all_goals (subst hR; simp_all)
theorem ops_g (x : Ins) : Gives Tryd.prog 56 [x.av] (.sl ((opsP x).map AV.int)) := by
  have c1 := isOp_g x.op
  have c2 := arity_g x.op
  have hle := arO_le x.op
  unfold opsP
  generalize opOk x.op = b at *
  generalize arO x.op = n at *
  have hcl : ∀ m, AV.cls m ([AV.int x.a, .int x.b, .int x.c].take n) := fun m => AV.cls_take (by simp) n
  cases b
  · refine gives_of_awp Tryd.func56 Tryd.ntmps56 rfl rfl (by decide) rfl (by intro n; simp) fun σ n0 hcl hft => ?_
    repeat' (first | ((with_reducible refine aguard (fun hg => ?_) (fun hg => ?_)) <;> (try simp only [hg]) <;> (try simp only [beq_iff_eq, beq_eq_false_iff_ne, ne_eq, decide_eq_true_eq, decide_eq_false_iff_not, bne_iff_ne, bne_eq_false_iff_eq] at hg) <;> (try (first | simp only [eq_false hg, if_true, if_false] | simp only [eq_true hg, if_true, if_false])) <;> (try simp (disch := first | omega | simp) [wrap_i64, -aseqC, -anyC])) | (with_reducible refine aseq_step ?_; try simp (disch := first | omega | simp) [wrap_i64, -aseqC, -anyC]) | (with_reducible refine any_step' ?_; try simp (disch := first | omega | simp) [wrap_i64, -aseqC, -anyC]) | (with_reducible refine aseq_end ?_; try simp (disch := first | omega | simp) [wrap_i64, -aseqC, -anyC]) | (with_reducible refine any_end' ?_; try simp (disch := first | omega | simp) [wrap_i64, -aseqC, -anyC]) | ((first | with_reducible refine sideG ?_ ?_ | with_reducible refine sideG2 ?_ ?_ | with_reducible refine sideS ?_ ?_ | with_reducible refine sideS2 ?_ ?_ | with_reducible refine sideS3 ?_ ?_ | with_reducible refine sideA ?_ ?_ | with_reducible refine sideA2 ?_ ?_ | with_reducible refine sideA3 ?_ ?_); (first | omega | assumption | (simp; done))) | (refine acall (c1) ?_; try simp (disch := first | omega | simp) [wrap_i64, -aseqC, -anyC]) | (refine agives (c1) ?_; try simp (disch := first | omega | simp) [wrap_i64, -aseqC, -anyC]) | (refine acallAt (c1) ?_; try simp (disch := first | omega | simp) [wrap_i64, -aseqC, -anyC]) | (refine awp_seq_k fun K hK => ?_) | (refine awp_regionC ?_) | (refine awp_anyA true (by kernel_rfl) (by kernel_rfl) ?_) | (refine awp_anyA false (by kernel_rfl) (by kernel_rfl) ?_) | (refine hK _ ?_; clear hK; clear K) | (clear hK; clear K; refine hK _ ?_; clear hK; clear K) | (clear hK; clear K; clear hK; clear K; refine hK _ ?_; clear hK; clear K) | refine awp_block ?_ | (refine awp_condC ?_; simp (disch := first | omega | simp) [wrap_i64, -aseqC, -anyC]) | (refine awp_exit ?_; try simp (disch := first | omega | simp) [wrap_i64, -aseqC, -anyC]) | (refine awp_skip ?_; try simp (disch := first | omega | simp) [wrap_i64, -aseqC, -anyC]) | (refine awp_ret ?_; try simp (disch := first | omega | simp) [wrap_i64, -aseqC, -anyC]))
  · refine gives_of_awp Tryd.func56 Tryd.ntmps56 rfl rfl (by decide) rfl (by intro n; simp) fun σ n0 hcl hft => ?_
    repeat' (first | ((with_reducible refine aguard (fun hg => ?_) (fun hg => ?_)) <;> (try simp only [hg]) <;> (try simp only [beq_iff_eq, beq_eq_false_iff_ne, ne_eq, decide_eq_true_eq, decide_eq_false_iff_not, bne_iff_ne, bne_eq_false_iff_eq] at hg) <;> (try (first | simp only [eq_false hg, if_true, if_false] | simp only [eq_true hg, if_true, if_false])) <;> (try simp (disch := first | omega | simp) [wrap_i64, -aseqC, -anyC])) | (with_reducible refine aseq_step ?_; try simp (disch := first | omega | simp) [wrap_i64, -aseqC, -anyC]) | (with_reducible refine any_step' ?_; try simp (disch := first | omega | simp) [wrap_i64, -aseqC, -anyC]) | (with_reducible refine aseq_end ?_; try simp (disch := first | omega | simp) [wrap_i64, -aseqC, -anyC]) | (with_reducible refine any_end' ?_; try simp (disch := first | omega | simp) [wrap_i64, -aseqC, -anyC]) | ((first | with_reducible refine sideG ?_ ?_ | with_reducible refine sideG2 ?_ ?_ | with_reducible refine sideS ?_ ?_ | with_reducible refine sideS2 ?_ ?_ | with_reducible refine sideS3 ?_ ?_ | with_reducible refine sideA ?_ ?_ | with_reducible refine sideA2 ?_ ?_ | with_reducible refine sideA3 ?_ ?_); (first | omega | assumption | (simp; done))) | (refine acall (c1) ?_; try simp (disch := first | omega | simp) [wrap_i64, -aseqC, -anyC]) | (refine agives (c1) ?_; try simp (disch := first | omega | simp) [wrap_i64, -aseqC, -anyC]) | (refine acallAt (c1) ?_; try simp (disch := first | omega | simp) [wrap_i64, -aseqC, -anyC]) | (refine acall (c2) ?_; try simp (disch := first | omega | simp) [wrap_i64, -aseqC, -anyC]) | (refine agives (c2) ?_; try simp (disch := first | omega | simp) [wrap_i64, -aseqC, -anyC]) | (refine acallAt (c2) ?_; try simp (disch := first | omega | simp) [wrap_i64, -aseqC, -anyC]) | (refine awp_seq_k fun K hK => ?_) | (refine awp_regionC ?_) | (refine awp_anyA true (by kernel_rfl) (by kernel_rfl) ?_) | (refine awp_anyA false (by kernel_rfl) (by kernel_rfl) ?_) | (refine hK _ ?_; clear hK; clear K) | (clear hK; clear K; refine hK _ ?_; clear hK; clear K) | (clear hK; clear K; clear hK; clear K; refine hK _ ?_; clear hK; clear K) | refine awp_block ?_ | (refine awp_condC ?_; simp (disch := first | omega | simp) [wrap_i64, -aseqC, -anyC]) | (refine awp_exit ?_; try simp (disch := first | omega | simp) [wrap_i64, -aseqC, -anyC]) | (refine awp_skip ?_; try simp (disch := first | omega | simp) [wrap_i64, -aseqC, -anyC]) | (refine awp_ret ?_; try simp (disch := first | omega | simp) [wrap_i64, -aseqC, -anyC]))
    all_goals first | exact hcl _ | simp_all
def bareI (x : Ins) : Ins := ⟨x.op, x.to, if 1 ≤ arO x.op then x.a else 0, if 2 ≤ arO x.op then x.b else 0, if 3 ≤ arO x.op then x.c else 0, if x.op = 0 ∨ x.op = 2 ∨ x.op = 3 then x.n else 0, if x.op = 1 then x.s else ByteArray.empty⟩
set_option maxHeartbeats 4000000 in
theorem bare_g (x : Ins) : Gives Tryd.prog 109 [x.av] (bareI x).av := by
  have c2 := arity_g x.op
  have hle := arO_le x.op
  obtain ⟨R, hR⟩ : ∃ R, R = bareI x := ⟨_, rfl⟩
  rw [← hR]
  unfold bareI at hR
  generalize arO x.op = n at *
  have hn : n = 0 ∨ n = 1 ∨ n = 2 ∨ n = 3 := by omega
  rcases hn with rfl | rfl | rfl | rfl
  all_goals
    refine gives_of_awp Tryd.func109 Tryd.ntmps109 rfl rfl (by decide) rfl (by intro n; simp) fun σ n0 hcl hft => ?_
    repeat' (first | ((with_reducible refine aguard (fun hg => ?_) (fun hg => ?_)) <;> (try simp only [hg]) <;> (try simp only [beq_iff_eq, beq_eq_false_iff_ne, ne_eq, decide_eq_true_eq, decide_eq_false_iff_not, bne_iff_ne, bne_eq_false_iff_eq] at hg) <;> (try (first | simp only [eq_false hg, if_true, if_false] | simp only [eq_true hg, if_true, if_false])) <;> (try simp (disch := first | omega | simp) [wrap_i64, -aseqC, -anyC])) | (with_reducible refine aseq_step ?_; try simp (disch := first | omega | simp) [wrap_i64, -aseqC, -anyC]) | (with_reducible refine any_step' ?_; try simp (disch := first | omega | simp) [wrap_i64, -aseqC, -anyC]) | (with_reducible refine aseq_end ?_; try simp (disch := first | omega | simp) [wrap_i64, -aseqC, -anyC]) | (with_reducible refine any_end' ?_; try simp (disch := first | omega | simp) [wrap_i64, -aseqC, -anyC]) | ((first | with_reducible refine sideG ?_ ?_ | with_reducible refine sideG2 ?_ ?_ | with_reducible refine sideS ?_ ?_ | with_reducible refine sideS2 ?_ ?_ | with_reducible refine sideS3 ?_ ?_ | with_reducible refine sideA ?_ ?_ | with_reducible refine sideA2 ?_ ?_ | with_reducible refine sideA3 ?_ ?_); (first | omega | assumption | (simp; done))) | (refine acall (c2) ?_; try simp (disch := first | omega | simp) [wrap_i64, -aseqC, -anyC]) | (refine agives (c2) ?_; try simp (disch := first | omega | simp) [wrap_i64, -aseqC, -anyC]) | (refine acallAt (c2) ?_; try simp (disch := first | omega | simp) [wrap_i64, -aseqC, -anyC]) | (refine awp_seq_k fun K hK => ?_) | (refine awp_regionC ?_) | (refine awp_anyA true (by kernel_rfl) (by kernel_rfl) ?_) | (refine awp_anyA false (by kernel_rfl) (by kernel_rfl) ?_) | (refine hK _ ?_; clear hK; clear K) | (clear hK; clear K; refine hK _ ?_; clear hK; clear K) | (clear hK; clear K; clear hK; clear K; refine hK _ ?_; clear hK; clear K) | refine awp_block ?_ | (refine awp_condC ?_; simp (disch := first | omega | simp) [wrap_i64, -aseqC, -anyC]) | (refine awp_exit ?_; try simp (disch := first | omega | simp) [wrap_i64, -aseqC, -anyC]) | (refine awp_skip ?_; try simp (disch := first | omega | simp) [wrap_i64, -aseqC, -anyC]) | (refine awp_ret ?_; try simp (disch := first | omega | simp) [wrap_i64, -aseqC, -anyC]) | (clear hK; clear K; clear hK; clear K; clear hK; clear K; refine hK _ ?_; clear hK; clear K) | (clear hK; clear K; clear hK; clear K; clear hK; clear K; clear hK; clear K; refine hK _ ?_; clear hK; clear K) | (clear hK; clear K; clear hK; clear K; clear hK; clear K; clear hK; clear K; clear hK; clear K; refine hK _ ?_; clear hK; clear K) | (clear hK; clear K; clear hK; clear K; clear hK; clear K; clear hK; clear K; clear hK; clear K; clear hK; clear K; refine hK _ ?_; clear hK; clear K))
    all_goals
      subst hR
      simp_all [Ins.av, -Ins.av_fold]
end Go.Proofs.YtnkakofcejkhiaaDoor
