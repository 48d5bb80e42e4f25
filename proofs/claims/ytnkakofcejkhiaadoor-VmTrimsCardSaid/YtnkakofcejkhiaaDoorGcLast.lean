/- The check of a drawn region with each ancestor listed once: regions with many guards. -/
import Derived.Test.YtnkakofcejkhiaaDoorGa17
import Derived.Test.YtnkakofcejkhiaaDoorGa25
import Derived.Test.YtnkakofcejkhiaaDoorGa26
import Derived.Test.YtnkakofcejkhiaaDoorGc1
import Derived.Test.YtnkakofcejkhiaaDoorGc4
set_option linter.unusedSimpArgs false
set_option linter.unusedVariables false
namespace Go.Proofs.YtnkakofcejkhiaaDoor
open Go.RowKit Go.Lib

def nub : List Nat → List Nat
  | [] => []
  | x :: l => if (nub l).contains x then nub l else x :: nub l
theorem mem_nub {x : Nat} : ∀ {l : List Nat}, x ∈ nub l ↔ x ∈ l
  | [] => by simp [nub]
  | y :: l => by
    rw [nub]
    split
    · rename_i h
      rw [mem_nub, List.mem_cons]
      have hy : y ∈ l := mem_nub.1 (by simpa using h)
      exact ⟨.inr, fun h => h.elim (fun e => e ▸ hy) id⟩
    · rw [List.mem_cons, List.mem_cons, mem_nub]
def ancs2 (ops : List Oper) : List (List Nat) := ops.foldl (fun acc o => acc ++ [nub ((o.after.toList.filter (Region.binds .any)).flatMap fun e => e.on :: acc.getD e.on [])]) []
theorem ancs2_step (l : List Oper) (o : Oper) : ancs2 (l ++ [o]) = ancs2 l ++ [nub ((o.after.toList.filter (Region.binds .any)).flatMap fun e => e.on :: (ancs2 l).getD e.on [])] := by
  unfold ancs2; rw [List.foldl_append]; rfl
theorem snoc_ind {α : Type} {P : List α → Prop} (h0 : P []) (h1 : ∀ l a, P l → P (l ++ [a])) (l : List α) : P l := by
  have : ∀ m : List α, P m.reverse := fun m => by
    induction m with
    | nil => exact h0
    | cons a m ih => rw [List.reverse_cons]; exact h1 _ _ ih
  have h := this l.reverse
  rwa [List.reverse_reverse] at h
theorem ancs2_length (l : List Oper) : (ancs2 l).length = l.length := by
  induction l using snoc_ind with
  | h0 => rfl
  | h1 l o ih => rw [ancs2_step, List.length_append, ih]; simp
theorem ancs2_mem (l : List Oper) : ∀ i j, i ∈ (ancs2 l).getD j [] ↔ i ∈ (ancs l).getD j [] := by
  induction l using snoc_ind with
  | h0 => intro i j; rfl
  | h1 l o ih =>
    intro i j
    rw [ancs_step, ancs2_step]
    by_cases hj : j < l.length
    · rw [List.getD_eq_getElem?_getD, List.getElem?_append_left (by rw [ancs2_length]; exact hj), ← List.getD_eq_getElem?_getD, List.getD_eq_getElem?_getD (l := _ ++ _), List.getElem?_append_left (by rw [ancs_length]; exact hj), ← List.getD_eq_getElem?_getD]
      exact ih i j
    · rw [List.getD_eq_getElem?_getD, List.getElem?_append_right (by rw [ancs2_length]; omega), ancs2_length, List.getD_eq_getElem?_getD, List.getElem?_append_right (by rw [ancs_length]; omega), ancs_length]
      by_cases hj2 : j - l.length = 0
      · rw [hj2]
        simp only [List.getElem?_cons_zero, Option.getD_some, mem_nub, List.mem_flatMap, List.mem_cons]
        constructor
        · rintro ⟨e, h1, h2⟩
          exact ⟨e, h1, h2.elim .inl fun h => .inr ((ih i e.on).1 h)⟩
        · rintro ⟨e, h1, h2⟩
          exact ⟨e, h1, h2.elim .inl fun h => .inr ((ih i e.on).2 h)⟩
      · obtain ⟨k, hk⟩ : ∃ k, j - l.length = k + 1 := ⟨j - l.length - 1, by omega⟩
        rw [hk]
        simp
def anyB2 (ops : List Oper) (ks : List RK) : Bool :=
  let an := ancs2 ops
  let n := ops.length
  ks.length == n &&
  ((List.range n).all fun j => match ops[j]? with
    | none => false
    | some o => o.after.all (fun e => !Region.binds .any e || e.on < j) &&
      (match o.op with | .select _ _ => false | _ => true) &&
      ((List.range n).all fun i => i == j || match ops[i]? with
        | none => false
        | some p => (match o.dst, p.dst with | some d, some d' => d != d' | _, _ => true) &&
          (match p.dst with
            | some d => !(looks ops o).contains d || (i < j && (an.getD j []).contains i) || (j < i && (an.getD i []).contains j)
            | none => true) &&
          (match (ks.getD i .R).base, (ks.getD j .R).base with
            | .M, .W => i < j && (an.getD j []).contains i
            | .W, .W => (i < j && (an.getD j []).contains i) || (j < i && (an.getD i []).contains j)
            | _, _ => true) &&
          (match ks.getD i .R, ks.getD j .R with
            | .N, .W => i < j && (an.getD j []).contains i
            | .A, .W => decide (i < j)
            | _, _ => true)) &&
      (match o.dst with | some d => !(looks ops o).contains d | none => true))
theorem anyB2_eq (ops : List Oper) (ks : List RK) : anyB2 ops ks = anyB ops ks := by
  have h : ∀ i j, ((ancs2 ops).getD j []).contains i = ((ancs ops).getD j []).contains i := fun i j => by
    rw [Bool.eq_iff_iff, List.contains_iff_mem, List.contains_iff_mem, ancs2_mem]
  unfold anyB2 anyB
  simp only [h]
  rfl
theorem awp_anyC2 {P : Program} {s : AS} {id : Nat} {l : List Oper} {Q : Exit → AS → Prop} (ks : List RK) (hm : P.follows .mixedOrders = true) (hB : anyB2 l ks = true) (h : anyC P l.toArray [] 0 (Q .normal) l ks s) : awp P (.region id l.toArray true) Q s :=
  awp_anyC ks hm ((anyB2_eq l ks).symm.trans hB) h
theorem awp_anyA2 {P : Program} (f : Bool) {s : AS} {id : Nat} {l : List Oper} {Q : Exit → AS → Prop} (hm : P.follows .mixedOrders = true) (hB : anyB2 l (autoK f false l) = true) (h : anyC P l.toArray [] 0 (Q .normal) l (autoK f false l) s) : awp P (.region id l.toArray true) Q s :=
  awp_anyC2 _ hm hB h
end Go.Proofs.YtnkakofcejkhiaaDoor

/- Walk: the law VmTrims. -/
namespace Go.Proofs.YtnkakofcejkhiaaDoor
open Go.RowKit Go.Lib

theorem workP_eq {c d : Cod} (h : d.ins.length = c.ins.length) (rows : Int) : workP d rows = workP c rows := by unfold workP; rw [h]
theorem runD_val {c d : Cod} (h : ∀ time row, valC d time row = valC c time row) (l : List Delta) : runD d l = runD c l := by
  unfold runD
  exact List.map_congr_left fun x _ => h _ _
theorem runP_fit2 {c : Cod} {cols : List Int} (h : (verP c cols).2 = 0) {L : List Delta} (hf : fitsD cols L = true) : runP c cols L = (runD c L, 0) := by
  unfold runP; rw [if_neg (by omega), if_neg (by rw [hf]; simp)]
set_option maxRecDepth 100000 in
set_option maxHeartbeats 8000000 in
theorem vmTrims_g (c : Cod) (cols : List Int) (l : List Delta) : Gives Tryd.prog 5 [c.av, .sl (cols.map AV.int), .sl (l.map Delta.av)] (.bool true) := by
  have hsm := small27_g
  have l1 := light27_g c cols l
  cases hl1 : lightC c cols l
  · rw [hl1] at l1
    obtain ⟨ins, types, out⟩ := c
    refine gives_of_awp Tryd.func5 Tryd.ntmps5 rfl rfl (by decide) rfl (by intro n; simp) fun σ n0 hcl hft => ?_
    repeat' (first | ((with_reducible refine aguard (fun hg => ?_) (fun hg => ?_)) <;> (try simp only [hg]) <;> (try simp only [beq_iff_eq, beq_eq_false_iff_ne, ne_eq, decide_eq_true_eq, decide_eq_false_iff_not, bne_iff_ne, bne_eq_false_iff_eq] at hg) <;> (try (first | simp only [eq_false hg, if_true, if_false] | simp only [eq_true hg, if_true, if_false])) <;> (try simp (disch := first | omega | simp) [wrap_i64, -aseqC, -anyC])) | (with_reducible refine aseq_step ?_; try simp (disch := first | omega | simp) [wrap_i64, -aseqC, -anyC]) | (with_reducible refine any_step' ?_; try simp (disch := first | omega | simp) [wrap_i64, -aseqC, -anyC]) | (with_reducible refine aseq_end ?_; try simp (disch := first | omega | simp) [wrap_i64, -aseqC, -anyC]) | (with_reducible refine any_end' ?_; try simp (disch := first | omega | simp) [wrap_i64, -aseqC, -anyC]) | ((first | with_reducible refine sideG ?_ ?_ | with_reducible refine sideG2 ?_ ?_ | with_reducible refine sideS ?_ ?_ | with_reducible refine sideS2 ?_ ?_ | with_reducible refine sideS3 ?_ ?_ | with_reducible refine sideA ?_ ?_ | with_reducible refine sideA2 ?_ ?_ | with_reducible refine sideA3 ?_ ?_); (first | omega | assumption | (simp; done))) | (refine acall (hsm) ?_; try simp (disch := first | omega | simp) [wrap_i64, -aseqC, -anyC]) | (refine agives (hsm) ?_; try simp (disch := first | omega | simp) [wrap_i64, -aseqC, -anyC]) | (refine acallAt (hsm) ?_; try simp (disch := first | omega | simp) [wrap_i64, -aseqC, -anyC]) | (refine acall (l1) ?_; try simp (disch := first | omega | simp) [wrap_i64, -aseqC, -anyC]) | (refine agives (l1) ?_; try simp (disch := first | omega | simp) [wrap_i64, -aseqC, -anyC]) | (refine acallAt (l1) ?_; try simp (disch := first | omega | simp) [wrap_i64, -aseqC, -anyC]) | (refine awp_seq_k fun K hK => ?_) | (refine awp_regionC ?_) | (refine awp_anyA true (by kernel_rfl) (by kernel_rfl) ?_) | (refine awp_anyA false (by kernel_rfl) (by kernel_rfl) ?_) | (refine hK _ ?_; clear hK; clear K) | (clear hK; clear K; refine hK _ ?_; clear hK; clear K) | (clear hK; clear K; clear hK; clear K; refine hK _ ?_; clear hK; clear K) | refine awp_block ?_ | (refine awp_condC ?_; simp (disch := first | omega | simp) [wrap_i64, -aseqC, -anyC]) | (refine awp_exit ?_; try simp (disch := first | omega | simp) [wrap_i64, -aseqC, -anyC]) | (refine awp_skip ?_; try simp (disch := first | omega | simp) [wrap_i64, -aseqC, -anyC]) | (refine awp_ret ?_; try simp (disch := first | omega | simp) [wrap_i64, -aseqC, -anyC]))
  have L1 := lightC_ok hl1
  rw [hl1] at l1
  have n1 := L1.nl
  have n3 := L1.nc
  have hrow : ∀ d ∈ l, d.row.length ≤ 1000000 := fun d hd => by have := L1.row d hd; omega
  have f1 := rfits_g cols l (by omega) (by omega) hrow
  cases hf1 : fitsD cols l
  · rw [hf1] at f1
    obtain ⟨ins, types, out⟩ := c
    refine gives_of_awp Tryd.func5 Tryd.ntmps5 rfl rfl (by decide) rfl (by intro n; simp) fun σ n0 hcl hft => ?_
    repeat' (first | ((with_reducible refine aguard (fun hg => ?_) (fun hg => ?_)) <;> (try simp only [hg]) <;> (try simp only [beq_iff_eq, beq_eq_false_iff_ne, ne_eq, decide_eq_true_eq, decide_eq_false_iff_not, bne_iff_ne, bne_eq_false_iff_eq] at hg) <;> (try (first | simp only [eq_false hg, if_true, if_false] | simp only [eq_true hg, if_true, if_false])) <;> (try simp (disch := first | omega | simp) [wrap_i64, -aseqC, -anyC])) | (with_reducible refine aseq_step ?_; try simp (disch := first | omega | simp) [wrap_i64, -aseqC, -anyC]) | (with_reducible refine any_step' ?_; try simp (disch := first | omega | simp) [wrap_i64, -aseqC, -anyC]) | (with_reducible refine aseq_end ?_; try simp (disch := first | omega | simp) [wrap_i64, -aseqC, -anyC]) | (with_reducible refine any_end' ?_; try simp (disch := first | omega | simp) [wrap_i64, -aseqC, -anyC]) | ((first | with_reducible refine sideG ?_ ?_ | with_reducible refine sideG2 ?_ ?_ | with_reducible refine sideS ?_ ?_ | with_reducible refine sideS2 ?_ ?_ | with_reducible refine sideS3 ?_ ?_ | with_reducible refine sideA ?_ ?_ | with_reducible refine sideA2 ?_ ?_ | with_reducible refine sideA3 ?_ ?_); (first | omega | assumption | (simp; done))) | (refine acall (hsm) ?_; try simp (disch := first | omega | simp) [wrap_i64, -aseqC, -anyC]) | (refine agives (hsm) ?_; try simp (disch := first | omega | simp) [wrap_i64, -aseqC, -anyC]) | (refine acallAt (hsm) ?_; try simp (disch := first | omega | simp) [wrap_i64, -aseqC, -anyC]) | (refine acall (l1) ?_; try simp (disch := first | omega | simp) [wrap_i64, -aseqC, -anyC]) | (refine agives (l1) ?_; try simp (disch := first | omega | simp) [wrap_i64, -aseqC, -anyC]) | (refine acallAt (l1) ?_; try simp (disch := first | omega | simp) [wrap_i64, -aseqC, -anyC]) | (refine acall (f1) ?_; try simp (disch := first | omega | simp) [wrap_i64, -aseqC, -anyC]) | (refine agives (f1) ?_; try simp (disch := first | omega | simp) [wrap_i64, -aseqC, -anyC]) | (refine acallAt (f1) ?_; try simp (disch := first | omega | simp) [wrap_i64, -aseqC, -anyC]) | (refine awp_seq_k fun K hK => ?_) | (refine awp_regionC ?_) | (refine awp_anyA true (by kernel_rfl) (by kernel_rfl) ?_) | (refine awp_anyA false (by kernel_rfl) (by kernel_rfl) ?_) | (refine hK _ ?_; clear hK; clear K) | (clear hK; clear K; refine hK _ ?_; clear hK; clear K) | (clear hK; clear K; clear hK; clear K; refine hK _ ?_; clear hK; clear K) | refine awp_block ?_ | (refine awp_condC ?_; simp (disch := first | omega | simp) [wrap_i64, -aseqC, -anyC]) | (refine awp_exit ?_; try simp (disch := first | omega | simp) [wrap_i64, -aseqC, -anyC]) | (refine awp_skip ?_; try simp (disch := first | omega | simp) [wrap_i64, -aseqC, -anyC]) | (refine awp_ret ?_; try simp (disch := first | omega | simp) [wrap_i64, -aseqC, -anyC]))
  rw [hf1] at f1
  have v1 := verify_g c cols (by omega)
  by_cases hv : (verP c cols).2 = 0
  · have hok := verP_ok.1 hv
    have ht : ∀ time row, _ := fun time row => trim_ok hok time row
    have hc : ∀ time row, _ := fun time row => comp_ok hok time row
    have r1 := Run_g c cols l (by omega) (by omega) hrow
    have r2 := Run_g (trimP c) cols l (by omega) (by omega) hrow
    have r3 := Run_g (compP c) cols l (by omega) (by omega) hrow
    rw [runP_fit2 hv hf1] at r1
    rw [runP_fit2 (verP_ok.2 (ht 0 []).1) hf1, runD_val (fun time row => (ht time row).2.1)] at r2
    rw [runP_fit2 (verP_ok.2 (hc 0 []).1) hf1, runD_val (fun time row => (hc time row).2.1)] at r3
    have t1 := trim_g hok
    have t2 := compact_g hok
    have w1 := work_g c l.length (by omega) (by have := L1.ni; omega)
    have w2 := work_g (trimP c) l.length (by omega) (by have := (ht 0 []).2.2; have := L1.ni; omega)
    have w3 := work_g (compP c) l.length (by omega) (by have := (ht 0 []).2.2; have := (hc 0 []).2.2; have := L1.ni; omega)
    have m1 := work_mono (ht 0 []).2.2 l.length
    rw [workP_eq (hc 0 []).2.2] at w3
    rw [hv] at v1
    have x1 : (runD c l).length = l.length := by unfold runD; simp
    have s1 := rsame03_g (runD c l) (by omega)
    clear ht hc
    generalize runD c l = A at *
    generalize workP c l.length = wa at *
    generalize workP (trimP c) l.length = wb at *
    generalize trimP c = ct at *
    generalize compP c = cc at *
    obtain ⟨i1, y1, o1⟩ := ct
    obtain ⟨i2, y2, o2⟩ := cc
    obtain ⟨ins, types, out⟩ := c
    refine gives_of_awp Tryd.func5 Tryd.ntmps5 rfl rfl (by decide) rfl (by intro n; simp) fun σ n0 hcl hft => ?_
    repeat' (first | (with_reducible refine awp_anyA2 (id := 12) true (by kernel_rfl) (by kernel_rfl) ?_) | ((with_reducible refine aguard (fun hg => ?_) (fun hg => ?_)) <;> (try simp only [hg]) <;> (try simp only [beq_iff_eq, beq_eq_false_iff_ne, ne_eq, decide_eq_true_eq, decide_eq_false_iff_not, bne_iff_ne, bne_eq_false_iff_eq] at hg) <;> (try (first | simp only [eq_false hg, if_true, if_false] | simp only [eq_true hg, if_true, if_false])) <;> (try simp (disch := first | omega | simp) [wrap_i64, -aseqC, -anyC, m1])) | (with_reducible refine aseq_step ?_; try simp (disch := first | omega | simp) [wrap_i64, -aseqC, -anyC, m1]) | (with_reducible refine any_step' ?_; try simp (disch := first | omega | simp) [wrap_i64, -aseqC, -anyC, m1]) | (with_reducible refine aseq_end ?_; try simp (disch := first | omega | simp) [wrap_i64, -aseqC, -anyC, m1]) | (with_reducible refine any_end' ?_; try simp (disch := first | omega | simp) [wrap_i64, -aseqC, -anyC, m1]) | ((first | with_reducible refine sideG ?_ ?_ | with_reducible refine sideG2 ?_ ?_ | with_reducible refine sideS ?_ ?_ | with_reducible refine sideS2 ?_ ?_ | with_reducible refine sideS3 ?_ ?_ | with_reducible refine sideA ?_ ?_ | with_reducible refine sideA2 ?_ ?_ | with_reducible refine sideA3 ?_ ?_); (first | omega | assumption | (simp; done))) | (refine acall (hsm) ?_; try simp (disch := first | omega | simp) [wrap_i64, -aseqC, -anyC, m1]) | (refine agives (hsm) ?_; try simp (disch := first | omega | simp) [wrap_i64, -aseqC, -anyC, m1]) | (refine acallAt (hsm) ?_; try simp (disch := first | omega | simp) [wrap_i64, -aseqC, -anyC, m1]) | (refine acall (l1) ?_; try simp (disch := first | omega | simp) [wrap_i64, -aseqC, -anyC, m1]) | (refine agives (l1) ?_; try simp (disch := first | omega | simp) [wrap_i64, -aseqC, -anyC, m1]) | (refine acallAt (l1) ?_; try simp (disch := first | omega | simp) [wrap_i64, -aseqC, -anyC, m1]) | (refine acall (f1) ?_; try simp (disch := first | omega | simp) [wrap_i64, -aseqC, -anyC, m1]) | (refine agives (f1) ?_; try simp (disch := first | omega | simp) [wrap_i64, -aseqC, -anyC, m1]) | (refine acallAt (f1) ?_; try simp (disch := first | omega | simp) [wrap_i64, -aseqC, -anyC, m1]) | (refine acall (v1) ?_; try simp (disch := first | omega | simp) [wrap_i64, -aseqC, -anyC, m1]) | (refine agives (v1) ?_; try simp (disch := first | omega | simp) [wrap_i64, -aseqC, -anyC, m1]) | (refine acallAt (v1) ?_; try simp (disch := first | omega | simp) [wrap_i64, -aseqC, -anyC, m1]) | (refine acall (t1) ?_; try simp (disch := first | omega | simp) [wrap_i64, -aseqC, -anyC, m1]) | (refine agives (t1) ?_; try simp (disch := first | omega | simp) [wrap_i64, -aseqC, -anyC, m1]) | (refine acallAt (t1) ?_; try simp (disch := first | omega | simp) [wrap_i64, -aseqC, -anyC, m1]) | (refine acall (t2) ?_; try simp (disch := first | omega | simp) [wrap_i64, -aseqC, -anyC, m1]) | (refine agives (t2) ?_; try simp (disch := first | omega | simp) [wrap_i64, -aseqC, -anyC, m1]) | (refine acallAt (t2) ?_; try simp (disch := first | omega | simp) [wrap_i64, -aseqC, -anyC, m1]) | (refine acall (r1) ?_; try simp (disch := first | omega | simp) [wrap_i64, -aseqC, -anyC, m1]) | (refine agives (r1) ?_; try simp (disch := first | omega | simp) [wrap_i64, -aseqC, -anyC, m1]) | (refine acallAt (r1) ?_; try simp (disch := first | omega | simp) [wrap_i64, -aseqC, -anyC, m1]) | (refine acall (r2) ?_; try simp (disch := first | omega | simp) [wrap_i64, -aseqC, -anyC, m1]) | (refine agives (r2) ?_; try simp (disch := first | omega | simp) [wrap_i64, -aseqC, -anyC, m1]) | (refine acallAt (r2) ?_; try simp (disch := first | omega | simp) [wrap_i64, -aseqC, -anyC, m1]) | (refine acall (r3) ?_; try simp (disch := first | omega | simp) [wrap_i64, -aseqC, -anyC, m1]) | (refine agives (r3) ?_; try simp (disch := first | omega | simp) [wrap_i64, -aseqC, -anyC, m1]) | (refine acallAt (r3) ?_; try simp (disch := first | omega | simp) [wrap_i64, -aseqC, -anyC, m1]) | (refine acall (s1) ?_; try simp (disch := first | omega | simp) [wrap_i64, -aseqC, -anyC, m1]) | (refine agives (s1) ?_; try simp (disch := first | omega | simp) [wrap_i64, -aseqC, -anyC, m1]) | (refine acallAt (s1) ?_; try simp (disch := first | omega | simp) [wrap_i64, -aseqC, -anyC, m1]) | (refine acall (w1) ?_; try simp (disch := first | omega | simp) [wrap_i64, -aseqC, -anyC, m1]) | (refine agives (w1) ?_; try simp (disch := first | omega | simp) [wrap_i64, -aseqC, -anyC, m1]) | (refine acallAt (w1) ?_; try simp (disch := first | omega | simp) [wrap_i64, -aseqC, -anyC, m1]) | (refine acall (w2) ?_; try simp (disch := first | omega | simp) [wrap_i64, -aseqC, -anyC, m1]) | (refine agives (w2) ?_; try simp (disch := first | omega | simp) [wrap_i64, -aseqC, -anyC, m1]) | (refine acallAt (w2) ?_; try simp (disch := first | omega | simp) [wrap_i64, -aseqC, -anyC, m1]) | (refine acall (w3) ?_; try simp (disch := first | omega | simp) [wrap_i64, -aseqC, -anyC, m1]) | (refine agives (w3) ?_; try simp (disch := first | omega | simp) [wrap_i64, -aseqC, -anyC, m1]) | (refine acallAt (w3) ?_; try simp (disch := first | omega | simp) [wrap_i64, -aseqC, -anyC, m1]) | (refine awp_seq_k fun K hK => ?_) | (refine awp_regionC ?_) | (refine awp_anyA true (by kernel_rfl) (by kernel_rfl) ?_) | (refine awp_anyA false (by kernel_rfl) (by kernel_rfl) ?_) | (refine hK _ ?_; clear hK; clear K) | (clear hK; clear K; refine hK _ ?_; clear hK; clear K) | (clear hK; clear K; clear hK; clear K; refine hK _ ?_; clear hK; clear K) | refine awp_block ?_ | (refine awp_condC ?_; simp (disch := first | omega | simp) [wrap_i64, -aseqC, -anyC, m1]) | (refine awp_exit ?_; try simp (disch := first | omega | simp) [wrap_i64, -aseqC, -anyC, m1]) | (refine awp_skip ?_; try simp (disch := first | omega | simp) [wrap_i64, -aseqC, -anyC, m1]) | (refine awp_ret ?_; try simp (disch := first | omega | simp) [wrap_i64, -aseqC, -anyC, m1]))
  · obtain ⟨ins, types, out⟩ := c
    refine gives_of_awp Tryd.func5 Tryd.ntmps5 rfl rfl (by decide) rfl (by intro n; simp) fun σ n0 hcl hft => ?_
    repeat' (first | ((with_reducible refine aguard (fun hg => ?_) (fun hg => ?_)) <;> (try simp only [hg]) <;> (try simp only [beq_iff_eq, beq_eq_false_iff_ne, ne_eq, decide_eq_true_eq, decide_eq_false_iff_not, bne_iff_ne, bne_eq_false_iff_eq] at hg) <;> (try (first | simp only [eq_false hg, if_true, if_false] | simp only [eq_true hg, if_true, if_false])) <;> (try simp (disch := first | omega | simp) [wrap_i64, -aseqC, -anyC, hv])) | (with_reducible refine aseq_step ?_; try simp (disch := first | omega | simp) [wrap_i64, -aseqC, -anyC, hv]) | (with_reducible refine any_step' ?_; try simp (disch := first | omega | simp) [wrap_i64, -aseqC, -anyC, hv]) | (with_reducible refine aseq_end ?_; try simp (disch := first | omega | simp) [wrap_i64, -aseqC, -anyC, hv]) | (with_reducible refine any_end' ?_; try simp (disch := first | omega | simp) [wrap_i64, -aseqC, -anyC, hv]) | ((first | with_reducible refine sideG ?_ ?_ | with_reducible refine sideG2 ?_ ?_ | with_reducible refine sideS ?_ ?_ | with_reducible refine sideS2 ?_ ?_ | with_reducible refine sideS3 ?_ ?_ | with_reducible refine sideA ?_ ?_ | with_reducible refine sideA2 ?_ ?_ | with_reducible refine sideA3 ?_ ?_); (first | omega | assumption | (simp; done))) | (refine acall (hsm) ?_; try simp (disch := first | omega | simp) [wrap_i64, -aseqC, -anyC, hv]) | (refine agives (hsm) ?_; try simp (disch := first | omega | simp) [wrap_i64, -aseqC, -anyC, hv]) | (refine acallAt (hsm) ?_; try simp (disch := first | omega | simp) [wrap_i64, -aseqC, -anyC, hv]) | (refine acall (l1) ?_; try simp (disch := first | omega | simp) [wrap_i64, -aseqC, -anyC, hv]) | (refine agives (l1) ?_; try simp (disch := first | omega | simp) [wrap_i64, -aseqC, -anyC, hv]) | (refine acallAt (l1) ?_; try simp (disch := first | omega | simp) [wrap_i64, -aseqC, -anyC, hv]) | (refine acall (f1) ?_; try simp (disch := first | omega | simp) [wrap_i64, -aseqC, -anyC, hv]) | (refine agives (f1) ?_; try simp (disch := first | omega | simp) [wrap_i64, -aseqC, -anyC, hv]) | (refine acallAt (f1) ?_; try simp (disch := first | omega | simp) [wrap_i64, -aseqC, -anyC, hv]) | (refine acall (v1) ?_; try simp (disch := first | omega | simp) [wrap_i64, -aseqC, -anyC, hv]) | (refine agives (v1) ?_; try simp (disch := first | omega | simp) [wrap_i64, -aseqC, -anyC, hv]) | (refine acallAt (v1) ?_; try simp (disch := first | omega | simp) [wrap_i64, -aseqC, -anyC, hv]) | (refine awp_seq_k fun K hK => ?_) | (refine awp_regionC ?_) | (refine awp_anyA true (by kernel_rfl) (by kernel_rfl) ?_) | (refine awp_anyA false (by kernel_rfl) (by kernel_rfl) ?_) | (refine hK _ ?_; clear hK; clear K) | (clear hK; clear K; refine hK _ ?_; clear hK; clear K) | (clear hK; clear K; clear hK; clear K; refine hK _ ?_; clear hK; clear K) | refine awp_block ?_ | (refine awp_condC ?_; simp (disch := first | omega | simp) [wrap_i64, -aseqC, -anyC, hv]) | (refine awp_exit ?_; try simp (disch := first | omega | simp) [wrap_i64, -aseqC, -anyC, hv]) | (refine awp_skip ?_; try simp (disch := first | omega | simp) [wrap_i64, -aseqC, -anyC, hv]) | (refine awp_ret ?_; try simp (disch := first | omega | simp) [wrap_i64, -aseqC, -anyC, hv]))
    all_goals exact absurd (by assumption) hv
end Go.Proofs.YtnkakofcejkhiaaDoor

/- The law VmTrims, lifted: the row and the tied card. (Printed by gen_lift27.py.) -/
namespace Go.Proofs.YtnkakofcejkhiaaDoor
open Go.ChangeShapes Go.WideShapes Go.ChangeAt Go.RowKit Go.Lib

set_option maxRecDepth 100000 in
theorem vmTrims_lifted (os : Os) (started : os.Started) (H : Type) (enc : TypeId × Value → H) :
    ReturnsInHanded {} Tryd.checked os 5 .any (fun w args => (Rows.vmTrimsSpec.pre enc Tryd.prog Tryd.f5 Rows.vmTrimsRow.domain false w args ∧ laidMetH Tryd.prog Rows.vmTrimsRow.laid w) ∧ sizedMet enc Tryd.prog Tryd.f5 (OpenSpec.ofChange Rows.vmTrimsSpec) false w args)
      (Rows.vmTrimsSpec.post enc Tryd.prog Tryd.f5 false true false false) := by
  refine returnsInHanded_three (C := Tryd.checked) (X := fun w _ => laidMetH Tryd.prog Rows.vmTrimsRow.laid w) Tryd.own started (by kernel_rfl) Tryd.func5
    (ChangeSpec.witness_shaped (enc := enc) (C := Tryd.checked) (os := os) (X := fun w _ => laidMetH Tryd.prog Rows.vmTrimsRow.laid w) false (World.laidAll Tryd.prog os Rows.vmTrimsRow.laid) #[.agg #[.slice .none 0 0, .slice .none 0 0, .int .i64 0], .slice .none 0 0, .slice .none 0 0] 8 (World.laidAll_os _ _ _)
      (World.shaped_of_ZipB (by kernel_rfl) (by kernel_rfl)) (by kernel_rfl) (by kernel_rfl) (by kernel_rfl)
      (by rw [MakeChecks.laidMetH_plain _ _ _ (by kernel_rfl)]; exact laidMet_laidAll _ (by kernel_rfl) (by kernel_rfl)))
    (fun w w' us hh hX => by rw [MakeChecks.laidMetH_plain _ _ _ (by kernel_rfl)] at hX ⊢; exact laidMet.of_heap hh hX) ?_
  intro W base args ds gs before hval0 hW _ hsh hlaid
  rw [MakeChecks.laidMetH_plain _ _ _ (by kernel_rfl)] at hlaid
  have hglob := glob27 hlaid (by simp [Rows.vmTrimsRow])
  have hval : ∀ (j : Nat) t v, Tryd.f5.params[j]? = some t → args[j]? = some v → Value.okWide Tryd.prog W .any base t v := hval0
  have hW' := hW
  obtain ⟨p, q, hA0, hV, rfl, hfz, hnd⟩ := hW
  have hA : DataW.TrodAll enc Tryd.prog W 0 (fun _ => true) true Tryd.f5.params.toList args.toList ds p := hA0
  rw [Tryd.params5] at hA hval
  obtain ⟨v0, v1, v2, d0, d1, d2, p0, p1, p2, rfl, rfl, rfl, h0, h1, h2⟩ := trodAll_3_02 hA
  obtain ⟨rfl, rfl⟩ := trodVars_none hV
  obtain ⟨x0, cs0, rfl, r0⟩ := par_st Tryd.underlying25 (hval 0 _ v0 rfl rfl) h0 trods_cod
  obtain ⟨x1, r1⟩ := par_sl Tryd.underlying23 (hval 1 _ v1 rfl rfl) h1 trods_ints27
  obtain ⟨x2, r2⟩ := par_sl Tryd.underlying26 (hval 2 _ v2 rfl rfl) h2 trods_deltas
  refine (calls_of_gives (vals := [.agg cs0.toArray, v1, v2]) (vmTrims_g x0 x1 x2) ⟨_, _, rfl, Cod.flat r0, _, _, rfl, ints_flat27 r1, _, _, rfl, Delta.flats r2, rfl⟩ hglob).mono ?_
  rintro r W' ⟨rfl, hb⟩
  exact ⟨_, rfl, law_post (P := Tryd.prog) Tryd.laidOut hW' rfl rfl (by kernel_rfl) Tryd.underlying4 (by kernel_rfl) hb⟩

theorem vmTrims_row : Rows.VmTrimsSaid :=
  OpenClaim.holds_of_wide 5 Tryd.f5 rfl rfl rfl rfl rfl rfl rfl ⟨rfl, rfl, rfl, rfl, rfl⟩ rfl rfl rfl rfl rfl (by kernel_rfl) Tryd.func5 (by kernel_rfl)
    (of_decide_eq_true (by kernel_rfl)) (by unfold Func.isWrapper; first | (rw [if_pos (by decide +kernel)]; kernel_rfl) | (rw [if_neg (by decide +kernel)]; exact ⟨rfl, rfl⟩))
    (fun os started H enc _ => vmTrims_lifted os started H enc)
theorem vmTrims_holds : Rows.VmTrimsCardSaid :=
  Claim7.holds_tied_plain_at .later [] [.widerDeep] true (true, "65dcd1e851a4a643e71e0489e62c6c9ef66f53aebf533bd787cc632c7430e736") false vmTrims_row (fun _ h => by cases h) (by kernel_rfl) (fun _ h => by cases h) vmTrims_row_tie rfl ⟨rfl, rfl⟩ (by kernel_rfl) rfl
    (fun f fn hf hfn => by
      obtain rfl : f = 5 := Option.some.inj ((show Tryd.prog.funcNamed "errata/erratalaw27.VmTrims" = some 5 by kernel_rfl).symm.trans hf) |>.symm
      obtain rfl : fn = Tryd.f5 := (Option.some.inj (Tryd.func5.symm.trans hfn)).symm
      exact ⟨by kernel_rfl, fun j t ht => by
        rw [Tryd.params5] at ht
        have hm : t ∈ [25, 23, 26] := by simpa using Array.mem_of_getElem? ht
        have hall : ([25, 23, 26].all fun u => !Tryd.prog.wantsStandIn u) = true := by kernel_rfl
        exact (show Tryd.prog.wantsStandIn t = false by simpa using List.all_eq_true.1 hall t hm)⟩)
    (by kernel_rfl)
end Go.Proofs.YtnkakofcejkhiaaDoor
