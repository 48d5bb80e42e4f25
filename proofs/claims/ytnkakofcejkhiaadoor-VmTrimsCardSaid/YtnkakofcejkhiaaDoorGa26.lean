/- Walk of layer 27's reference: which batches fit. -/
import Derived.Test.YtnkakofcejkhiaaDoorCards
import Derived.Test.YtnkakofcejkhiaaDoorTie
import Derived.SevenTiedAt
import Derived.Stop.Joined
import Derived.Lib.LaidU8
import Derived.HandedShaped
import Derived.Lay
import Derived.LaidMore
import Derived.OpenShut
import Derived.Test.YtnkakofcejkhiaaDoorProg
import Derived.KernelRfl
import Derived.Test.YtnkakofcejkhiaaDoorGa1
import Derived.Test.YtnkakofcejkhiaaDoorGa6
import Derived.Test.YtnkakofcejkhiaaDoorGa8
import Derived.Test.YtnkakofcejkhiaaDoorGa15
import Derived.Test.YtnkakofcejkhiaaDoorGa17
import Derived.Test.YtnkakofcejkhiaaDoorGa19
import Derived.Test.YtnkakofcejkhiaaDoorGa22
import Derived.Test.YtnkakofcejkhiaaDoorGa24
set_option linter.unusedSimpArgs false
set_option linter.unusedVariables false
namespace Go.Proofs.YtnkakofcejkhiaaDoor
open Go.RowKit Go.Lib

set_option maxHeartbeats 4000000 in
theorem rfits_g (cols : List Int) (L : List Delta) (hc : cols.length ≤ 1000000) (hL : L.length ≤ 1000000) (hr : ∀ d ∈ L, d.row.length ≤ 1000000) : Gives Tryd.prog 10 [.sl (cols.map AV.int), .sl (L.map Delta.av)] (.bool (fitsD cols L)) := by
  obtain ⟨R, hR⟩ : ∃ R, R = fitsD cols L := ⟨_, rfl⟩
  rw [← hR]
  unfold fitsD at hR
  refine gives_of_awp Tryd.func10 Tryd.ntmps10 rfl rfl (by decide) rfl (by intro n; simp) fun σ n0 hcl hft => ?_
  repeat' (first | ((first | ((with_reducible refine aguard (fun hg => ?_) (fun hg => ?_)) <;> (try simp only [hg]) <;> (try simp only [beq_iff_eq, beq_eq_false_iff_ne, ne_eq, decide_eq_true_eq, decide_eq_false_iff_not, bne_iff_ne, bne_eq_false_iff_eq] at hg) <;> (try (first | simp only [eq_false hg, if_true, if_false] | simp only [eq_true hg, if_true, if_false]))) | with_reducible refine aseq_step ?_ | with_reducible refine any_step' ?_ | with_reducible refine aseq_end ?_ | with_reducible refine any_end' ?_ | refine awp_condC ?_ | refine awp_exit ?_ | refine awp_skip ?_ | refine awp_ret ?_) <;> (try simp (disch := first | omega | simp) [wrap_i64, -aseqC, -anyC])) | ((first | with_reducible refine sideG ?_ ?_ | with_reducible refine sideG2 ?_ ?_ | with_reducible refine sideS ?_ ?_ | with_reducible refine sideS2 ?_ ?_ | with_reducible refine sideS3 ?_ ?_ | with_reducible refine sideA ?_ ?_ | with_reducible refine sideA2 ?_ ?_ | with_reducible refine sideA3 ?_ ?_); (first | omega | assumption | (simp; done))) | (refine awp_seq_k fun K hK => ?_) | (refine awp_regionC ?_) | (refine awp_anyA true (by kernel_rfl) (by kernel_rfl) ?_) | (refine hK _ ?_; clear hK; clear K) | (clear hK; clear K; refine hK _ ?_; clear hK; clear K) | (clear hK; clear K; clear hK; clear K; refine hK _ ?_; clear hK; clear K) | refine awp_block ?_)
  refine awp_loopC hcl (fun k : Nat => [(0, .sl (cols.map AV.int)), (1, .sl (L.map Delta.av)), (5, .int k)]) (fun _ => [])
    (fun k => k ≤ L.length ∧ ∀ j (h : j < L.length), j < k → fitRow cols L[j].row = true) (fun k => L.length - k) 0 (by simp) (by simp) fun k ⟨hk, he⟩ => ?_
  by_cases hlt : k < L.length
  · have hbad : fitRow cols L[k].row = false → R = false := fun h => by
      rw [hR, all_hit hlt h]
    have hnext : fitRow cols L[k].row = true → ∃ b', (b' ≤ L.length ∧ ∀ j (h : j < L.length), j < b' → fitRow cols L[j].row = true) ∧ L.length - b' < L.length - k ∧ (k : Int) + 1 = b' := fun h =>
      ⟨k + 1, ⟨by omega, upto_succ (C := fun d : Delta => fitRow cols d.row = true) he fun _ => h⟩, by omega, by omega⟩
    have c1 := rrow_g L[k].row (hr _ (List.getElem_mem _))
    by_cases hl : L[k].row.length = cols.length
    · cases hro : rowOk L[k].row
      · rw [hro] at c1
        have hb := hbad (fitRow_row hro)
        repeat' (first | ((first | ((with_reducible refine aguard (fun hg => ?_) (fun hg => ?_)) <;> (try simp only [hg]) <;> (try simp only [beq_iff_eq, beq_eq_false_iff_ne, ne_eq, decide_eq_true_eq, decide_eq_false_iff_not, bne_iff_ne, bne_eq_false_iff_eq] at hg) <;> (try (first | simp only [eq_false hg, if_true, if_false] | simp only [eq_true hg, if_true, if_false]))) | with_reducible refine aseq_step ?_ | with_reducible refine any_step' ?_ | with_reducible refine aseq_end ?_ | with_reducible refine any_end' ?_ | refine acall (c1) ?_ | refine agives (c1) ?_ | refine awp_condC ?_ | refine awp_exit ?_ | refine awp_skip ?_ | refine awp_ret ?_) <;> (try simp (disch := first | omega | simp) [wrap_i64, -aseqC, -anyC, hlt, hl])) | ((first | with_reducible refine sideG ?_ ?_ | with_reducible refine sideG2 ?_ ?_ | with_reducible refine sideS ?_ ?_ | with_reducible refine sideS2 ?_ ?_ | with_reducible refine sideS3 ?_ ?_ | with_reducible refine sideA ?_ ?_ | with_reducible refine sideA2 ?_ ?_ | with_reducible refine sideA3 ?_ ?_); (first | omega | assumption | (simp; done))) | (refine awp_seq_k fun K hK => ?_) | (refine awp_regionC ?_) | (refine awp_anyA true (by kernel_rfl) (by kernel_rfl) ?_) | (refine hK _ ?_; clear hK; clear K) | (clear hK; clear K; refine hK _ ?_; clear hK; clear K) | (clear hK; clear K; clear hK; clear K; refine hK _ ?_; clear hK; clear K) | refine awp_block ?_)
        exact hb
      · rw [hro] at c1
        repeat' (first | ((first | ((with_reducible refine aguard (fun hg => ?_) (fun hg => ?_)) <;> (try simp only [hg]) <;> (try simp only [beq_iff_eq, beq_eq_false_iff_ne, ne_eq, decide_eq_true_eq, decide_eq_false_iff_not, bne_iff_ne, bne_eq_false_iff_eq] at hg) <;> (try (first | simp only [eq_false hg, if_true, if_false] | simp only [eq_true hg, if_true, if_false]))) | with_reducible refine aseq_step ?_ | with_reducible refine any_step' ?_ | with_reducible refine aseq_end ?_ | with_reducible refine any_end' ?_ | refine acall (c1) ?_ | refine agives (c1) ?_ | refine awp_condC ?_ | refine awp_exit ?_ | refine awp_skip ?_ | refine awp_ret ?_) <;> (try simp (disch := first | omega | simp) [wrap_i64, -aseqC, -anyC, hlt, hl])) | ((first | with_reducible refine sideG ?_ ?_ | with_reducible refine sideG2 ?_ ?_ | with_reducible refine sideS ?_ ?_ | with_reducible refine sideS2 ?_ ?_ | with_reducible refine sideS3 ?_ ?_ | with_reducible refine sideA ?_ ?_ | with_reducible refine sideA2 ?_ ?_ | with_reducible refine sideA3 ?_ ?_); (first | omega | assumption | (simp; done))) | (refine awp_seq_k fun K hK => ?_) | (refine awp_regionC ?_) | (refine awp_anyA true (by kernel_rfl) (by kernel_rfl) ?_) | (refine hK _ ?_; clear hK; clear K) | (clear hK; clear K; refine hK _ ?_; clear hK; clear K) | (clear hK; clear K; clear hK; clear K; refine hK _ ?_; clear hK; clear K) | refine awp_block ?_)
        refine awp_loopC hcl (fun i : Nat => [(0, .sl (cols.map AV.int)), (1, .sl (L.map Delta.av)), (5, .int k), (6, .int i)]) (fun _ => [])
          (fun i => i ≤ cols.length ∧ ∀ j (h : j < cols.length), j < i → L[k].row[j].k = cols[j]) (fun i => cols.length - i) 0 (by simp) (by simp) fun i ⟨hi, hei⟩ => ?_
        by_cases hlt2 : i < cols.length
        · have hi2 : i < L[k].row.length := by omega
          by_cases hkk : L[k].row[i].k = cols[i]
          · repeat' (first | ((with_reducible refine aguard (fun hg => ?_) (fun hg => ?_)) <;> (try simp only [hg]) <;> (try simp only [beq_iff_eq, beq_eq_false_iff_ne, ne_eq, decide_eq_true_eq, decide_eq_false_iff_not, bne_iff_ne, bne_eq_false_iff_eq] at hg) <;> (try (first | simp only [eq_false hg, if_true, if_false] | simp only [eq_true hg, if_true, if_false])) <;> (try simp (disch := first | omega | simp) [wrap_i64, -aseqC, -anyC, hlt, hlt2, hi2, hkk])) | (with_reducible refine aseq_step ?_; try simp (disch := first | omega | simp) [wrap_i64, -aseqC, -anyC, hlt, hlt2, hi2, hkk]) | (with_reducible refine any_step' ?_; try simp (disch := first | omega | simp) [wrap_i64, -aseqC, -anyC, hlt, hlt2, hi2, hkk]) | (with_reducible refine aseq_end ?_; try simp (disch := first | omega | simp) [wrap_i64, -aseqC, -anyC, hlt, hlt2, hi2, hkk]) | (with_reducible refine any_end' ?_; try simp (disch := first | omega | simp) [wrap_i64, -aseqC, -anyC, hlt, hlt2, hi2, hkk]) | ((first | with_reducible refine sideG ?_ ?_ | with_reducible refine sideG2 ?_ ?_ | with_reducible refine sideS ?_ ?_ | with_reducible refine sideS2 ?_ ?_ | with_reducible refine sideS3 ?_ ?_ | with_reducible refine sideA ?_ ?_ | with_reducible refine sideA2 ?_ ?_ | with_reducible refine sideA3 ?_ ?_); (first | omega | assumption | (simp; done))) | (refine awp_seq_k fun K hK => ?_) | (refine awp_regionC ?_) | (refine awp_anyA true (by kernel_rfl) (by kernel_rfl) ?_) | (refine awp_anyA false (by kernel_rfl) (by kernel_rfl) ?_) | (refine hK _ ?_; clear hK; clear K) | (clear hK; clear K; refine hK _ ?_; clear hK; clear K) | (clear hK; clear K; clear hK; clear K; refine hK _ ?_; clear hK; clear K) | refine awp_block ?_ | (refine awp_condC ?_; simp (disch := first | omega | simp) [wrap_i64, -aseqC, -anyC, hlt, hlt2, hi2, hkk]) | (refine awp_exit ?_; try simp (disch := first | omega | simp) [wrap_i64, -aseqC, -anyC, hlt, hlt2, hi2, hkk]) | (refine awp_skip ?_; try simp (disch := first | omega | simp) [wrap_i64, -aseqC, -anyC, hlt, hlt2, hi2, hkk]) | (refine awp_ret ?_; try simp (disch := first | omega | simp) [wrap_i64, -aseqC, -anyC, hlt, hlt2, hi2, hkk]))
            exact ⟨i + 1, ⟨by omega, fun j hj hji => by
              by_cases hji2 : j = i
              · subst hji2; exact hkk
              · exact hei j hj (by omega)⟩, by omega, by omega⟩
          · have hb := hbad (fitRow_at hl hro hlt2 hkk)
            repeat' (first | ((first | ((with_reducible refine aguard (fun hg => ?_) (fun hg => ?_)) <;> (try simp only [hg]) <;> (try simp only [beq_iff_eq, beq_eq_false_iff_ne, ne_eq, decide_eq_true_eq, decide_eq_false_iff_not, bne_iff_ne, bne_eq_false_iff_eq] at hg) <;> (try (first | simp only [eq_false hg, if_true, if_false] | simp only [eq_true hg, if_true, if_false]))) | with_reducible refine aseq_step ?_ | with_reducible refine any_step' ?_ | with_reducible refine aseq_end ?_ | with_reducible refine any_end' ?_ | refine awp_condC ?_ | refine awp_exit ?_ | refine awp_skip ?_ | refine awp_ret ?_) <;> (try simp (disch := first | omega | simp) [wrap_i64, -aseqC, -anyC, hlt, hlt2, hi2, hkk])) | ((first | with_reducible refine sideG ?_ ?_ | with_reducible refine sideG2 ?_ ?_ | with_reducible refine sideS ?_ ?_ | with_reducible refine sideS2 ?_ ?_ | with_reducible refine sideS3 ?_ ?_ | with_reducible refine sideA ?_ ?_ | with_reducible refine sideA2 ?_ ?_ | with_reducible refine sideA3 ?_ ?_); (first | omega | assumption | (simp; done))) | (refine awp_seq_k fun K hK => ?_) | (refine awp_regionC ?_) | (refine awp_anyA true (by kernel_rfl) (by kernel_rfl) ?_) | (refine hK _ ?_; clear hK; clear K) | (clear hK; clear K; refine hK _ ?_; clear hK; clear K) | (clear hK; clear K; clear hK; clear K; refine hK _ ?_; clear hK; clear K) | refine awp_block ?_)
            all_goals first | exact hb | exact absurd (by assumption) hkk
        · have hn := hnext (fitRow_all hl hro fun j hj => hei j hj (by omega))
          repeat' (first | ((first | ((with_reducible refine aguard (fun hg => ?_) (fun hg => ?_)) <;> (try simp only [hg]) <;> (try simp only [beq_iff_eq, beq_eq_false_iff_ne, ne_eq, decide_eq_true_eq, decide_eq_false_iff_not, bne_iff_ne, bne_eq_false_iff_eq] at hg) <;> (try (first | simp only [eq_false hg, if_true, if_false] | simp only [eq_true hg, if_true, if_false]))) | with_reducible refine aseq_step ?_ | with_reducible refine any_step' ?_ | with_reducible refine aseq_end ?_ | with_reducible refine any_end' ?_ | refine awp_condC ?_ | refine awp_exit ?_ | refine awp_skip ?_ | refine awp_ret ?_) <;> (try simp (disch := first | omega | simp) [wrap_i64, -aseqC, -anyC, hlt, hlt2])) | ((first | with_reducible refine sideG ?_ ?_ | with_reducible refine sideG2 ?_ ?_ | with_reducible refine sideS ?_ ?_ | with_reducible refine sideS2 ?_ ?_ | with_reducible refine sideS3 ?_ ?_ | with_reducible refine sideA ?_ ?_ | with_reducible refine sideA2 ?_ ?_ | with_reducible refine sideA3 ?_ ?_); (first | omega | assumption | (simp; done))) | (refine awp_seq_k fun K hK => ?_) | (refine awp_regionC ?_) | (refine awp_anyA true (by kernel_rfl) (by kernel_rfl) ?_) | (refine hK _ ?_; clear hK; clear K) | (clear hK; clear K; refine hK _ ?_; clear hK; clear K) | (clear hK; clear K; clear hK; clear K; refine hK _ ?_; clear hK; clear K) | refine awp_block ?_)
          exact hn
    · have hb := hbad (fitRow_len hl)
      repeat' (first | ((first | ((with_reducible refine aguard (fun hg => ?_) (fun hg => ?_)) <;> (try simp only [hg]) <;> (try simp only [beq_iff_eq, beq_eq_false_iff_ne, ne_eq, decide_eq_true_eq, decide_eq_false_iff_not, bne_iff_ne, bne_eq_false_iff_eq] at hg) <;> (try (first | simp only [eq_false hg, if_true, if_false] | simp only [eq_true hg, if_true, if_false]))) | with_reducible refine aseq_step ?_ | with_reducible refine any_step' ?_ | with_reducible refine aseq_end ?_ | with_reducible refine any_end' ?_ | refine awp_condC ?_ | refine awp_exit ?_ | refine awp_skip ?_ | refine awp_ret ?_) <;> (try simp (disch := first | omega | simp) [wrap_i64, -aseqC, -anyC, hlt, hl])) | ((first | with_reducible refine sideG ?_ ?_ | with_reducible refine sideG2 ?_ ?_ | with_reducible refine sideS ?_ ?_ | with_reducible refine sideS2 ?_ ?_ | with_reducible refine sideS3 ?_ ?_ | with_reducible refine sideA ?_ ?_ | with_reducible refine sideA2 ?_ ?_ | with_reducible refine sideA3 ?_ ?_); (first | omega | assumption | (simp; done))) | (refine awp_seq_k fun K hK => ?_) | (refine awp_regionC ?_) | (refine awp_anyA true (by kernel_rfl) (by kernel_rfl) ?_) | (refine hK _ ?_; clear hK; clear K) | (clear hK; clear K; refine hK _ ?_; clear hK; clear K) | (clear hK; clear K; clear hK; clear K; refine hK _ ?_; clear hK; clear K) | refine awp_block ?_)
      all_goals first | exact hb | (exfalso; omega)
  · repeat' (first | ((with_reducible refine aguard (fun hg => ?_) (fun hg => ?_)) <;> (try simp only [hg]) <;> (try simp only [beq_iff_eq, beq_eq_false_iff_ne, ne_eq, decide_eq_true_eq, decide_eq_false_iff_not, bne_iff_ne, bne_eq_false_iff_eq] at hg) <;> (try (first | simp only [eq_false hg, if_true, if_false] | simp only [eq_true hg, if_true, if_false])) <;> (try simp (disch := first | omega | simp) [wrap_i64, -aseqC, -anyC, hlt])) | (with_reducible refine aseq_step ?_; try simp (disch := first | omega | simp) [wrap_i64, -aseqC, -anyC, hlt]) | (with_reducible refine any_step' ?_; try simp (disch := first | omega | simp) [wrap_i64, -aseqC, -anyC, hlt]) | (with_reducible refine aseq_end ?_; try simp (disch := first | omega | simp) [wrap_i64, -aseqC, -anyC, hlt]) | (with_reducible refine any_end' ?_; try simp (disch := first | omega | simp) [wrap_i64, -aseqC, -anyC, hlt]) | ((first | with_reducible refine sideG ?_ ?_ | with_reducible refine sideG2 ?_ ?_ | with_reducible refine sideS ?_ ?_ | with_reducible refine sideS2 ?_ ?_ | with_reducible refine sideS3 ?_ ?_ | with_reducible refine sideA ?_ ?_ | with_reducible refine sideA2 ?_ ?_ | with_reducible refine sideA3 ?_ ?_); (first | omega | assumption | (simp; done))) | (refine awp_seq_k fun K hK => ?_) | (refine awp_regionC ?_) | (refine awp_anyA true (by kernel_rfl) (by kernel_rfl) ?_) | (refine awp_anyA false (by kernel_rfl) (by kernel_rfl) ?_) | (refine hK _ ?_; clear hK; clear K) | (clear hK; clear K; refine hK _ ?_; clear hK; clear K) | (clear hK; clear K; clear hK; clear K; refine hK _ ?_; clear hK; clear K) | refine awp_block ?_ | (refine awp_condC ?_; simp (disch := first | omega | simp) [wrap_i64, -aseqC, -anyC, hlt]) | (refine awp_exit ?_; try simp (disch := first | omega | simp) [wrap_i64, -aseqC, -anyC, hlt]) | (refine awp_skip ?_; try simp (disch := first | omega | simp) [wrap_i64, -aseqC, -anyC, hlt]) | (refine awp_ret ?_; try simp (disch := first | omega | simp) [wrap_i64, -aseqC, -anyC, hlt]))
    rw [hR, all_end (upto_all (C := fun d : Delta => fitRow cols d.row = true) he hlt)]
end Go.Proofs.YtnkakofcejkhiaaDoor

/- Lifting a law: the arguments' readings, and what the listed variables hold. -/
namespace Go.Proofs.YtnkakofcejkhiaaDoor
open Go.ChangeShapes Go.WideShapes Go.ChangeAt Go.RowKit Go.Lib

section
variable {H : Type} {enc : TypeId × Value → H}
theorem returnsInHanded_three {a : Assume} {C : Checked} {os : Os} {f : FuncId} {fn : Func} {s : ChangeSpec} {conds : List PathCond} {apart fresh handsOn again : Bool} {X : World → Array Value → Prop}
    (own : ownKnob C.prog.godebug = none) (started : os.Started) (noInit : C.prog.inits.idxOf? f = none) (hfn : C.prog.funcs[f]? = some fn)
    (witness : ∃ (w : World) (tape : Tape) (i : Input), w.os = os ∧ (w.forCall tape i).Shaped C.prog ∧ i.vars = [] ∧ Input.okWide C.prog (w.forCall tape i) .any w.heap.size f i ∧
      ((s.pre enc C.prog fn conds apart (w.forCall tape i).memory i.args ∧ X (w.forCall tape i).memory i.args) ∧ sizedMet enc C.prog fn (OpenSpec.ofChange s) apart (w.forCall tape i).memory i.args) ∧ a.holds C.prog (lone (Frame.enter C.prog f i.args .normal) [] (w.forCall tape i)))
    (hXh : ∀ (w w' : World) (us : Array Value), w.heap = w'.heap → X w us → X w' us)
    (contract : ∀ (W : World) (base : Nat) (args : Array Value) (ds gs : List (DataW H)) (before : List MemPlace),
      (∀ (j : Nat) t v, fn.params[j]? = some t → args[j]? = some v → Value.okWide C.prog W .any base t v) →
      DataW.Whole enc C.prog fn.params.toList s.vars apart W args.toList ds gs before →
      conds.all (PathCond.test C.prog ⟨fn.params.toList, ds, s.plain.varTypes C.prog, gs⟩) = true →
      W.ShapedOpen C.prog → X W args →
      Calls C.prog f args W fun e W' => ∃ v, e = .returned v ∧ s.post enc C.prog fn apart fresh handsOn again W args v W') :
    ReturnsInHanded a C os f .any (fun w args => (s.pre enc C.prog fn conds apart w args ∧ X w args) ∧ sizedMet enc C.prog fn (OpenSpec.ofChange s) apart w args) (s.post enc C.prog fn apart fresh handsOn again) := by
  refine returnsInHanded_of_calls own started noInit witness ?_
  intro w tape i _ hsh _ hok hpre hholds
  obtain ⟨_, _, _, fn', hfn', _, _, _, _, hval⟩ := hok
  have e : fn' = fn := Option.some.inj (hfn'.symm.trans hfn)
  subst e
  obtain ⟨⟨⟨ds, gs, before, hw, hc⟩, hX⟩, -⟩ := hpre
  have hw' := DataW.Whole.of_heap (w' := w.forCall tape i) (by rfl) hw
  refine (contract (w.forCall tape i) w.heap.size i.args ds gs before hval hw' hc hsh (hXh _ _ _ (by rfl) hX)).mono fun e W' ⟨v, he, hp⟩ => ?_
  subst he
  exact ChangeSpec.post_blind hp
end

theorem flat_int02 {w : World} {n : Int} : RR1 (St.flat w) (.int n) (.int .i64 n) := by
  show RC _ _ _
  rw [RC]
theorem flat_str02 {w : World} {s : ByteArray} : RR1 (St.flat w) (.str s) (.string s) := by
  show RC _ _ _
  rw [RC]
section
variable {H : Type} {enc : TypeId × Value → H} {w w0 : World} {sp : Nat → Bool} {hd : Bool} {b0 : Nat} {t : TypeId} {v : Value}
theorem par_intR {P : Program} (ht : P.underlying t = some (.int .i64)) (hval : Value.okWide P w0 .any b0 t v) : ∃ n, v = .int .i64 n ∧ (-9223372036854775808 ≤ n ∧ n ≤ 9223372036854775807) := by
  obtain ⟨n, rfl⟩ := okWide_int ht hval
  refine ⟨n, rfl, ?_⟩
  unfold Value.okWide at hval
  rw [ht] at hval
  dsimp only at hval
  unfold Cell.okWide at hval
  rw [ht] at hval
  dsimp only at hval
  unfold Cell.ok at hval
  rw [ht] at hval
  exact ⟨hval.2.1, hval.2.2⟩
end
section
variable {H : Type} {enc : TypeId × Value → H} {P : Program} {w : World} {base : Nat} {spare : Nat → Bool} {held : Bool} {t0 t1 t2 t3 : TypeId} {args : Array Value} {ds : List (DataW H)} {ps : List MemPlace}
theorem trodAll_1_02 (h : DataW.TrodAll enc P w base spare held [t0] args.toList ds ps) :
    ∃ v0 d0 p0, args = #[v0] ∧ ds = [d0] ∧ ps = p0 ∧ DataW.Trod enc P w base spare held t0 v0 d0 p0 := by
  obtain ⟨v0, vs0, d0, ds0, p0, q0, hargs, rfl, rfl, h0, r0⟩ := trodAll_cons h
  obtain ⟨rfl, rfl, rfl⟩ := trodAll_nil r0
  exact ⟨v0, d0, p0, by cases args; simp_all, rfl, by simp, h0⟩
theorem trodAll_2_02 (h : DataW.TrodAll enc P w base spare held [t0, t1] args.toList ds ps) :
    ∃ v0 v1 d0 d1 p0 p1, args = #[v0, v1] ∧ ds = [d0, d1] ∧ ps = p0 ++ p1 ∧ DataW.Trod enc P w base spare held t0 v0 d0 p0 ∧ DataW.Trod enc P w base spare held t1 v1 d1 p1 := by
  obtain ⟨v0, vs0, d0, ds0, p0, q0, hargs, rfl, rfl, h0, r0⟩ := trodAll_cons h
  obtain ⟨v1, vs1, d1, ds1, p1, q1, rfl, rfl, rfl, h1, r1⟩ := trodAll_cons r0
  obtain ⟨rfl, rfl, rfl⟩ := trodAll_nil r1
  exact ⟨v0, v1, d0, d1, p0, p1, by cases args; simp_all, rfl, by simp, h0, h1⟩
theorem trodAll_3_02 (h : DataW.TrodAll enc P w base spare held [t0, t1, t2] args.toList ds ps) :
    ∃ v0 v1 v2 d0 d1 d2 p0 p1 p2, args = #[v0, v1, v2] ∧ ds = [d0, d1, d2] ∧ ps = p0 ++ p1 ++ p2 ∧ DataW.Trod enc P w base spare held t0 v0 d0 p0 ∧ DataW.Trod enc P w base spare held t1 v1 d1 p1 ∧ DataW.Trod enc P w base spare held t2 v2 d2 p2 := by
  obtain ⟨v0, vs0, d0, ds0, p0, q0, hargs, rfl, rfl, h0, r0⟩ := trodAll_cons h
  obtain ⟨v1, vs1, d1, ds1, p1, q1, rfl, rfl, rfl, h1, r1⟩ := trodAll_cons r0
  obtain ⟨v2, vs2, d2, ds2, p2, q2, rfl, rfl, rfl, h2, r2⟩ := trodAll_cons r1
  obtain ⟨rfl, rfl, rfl⟩ := trodAll_nil r2
  exact ⟨v0, v1, v2, d0, d1, d2, p0, p1, p2, by cases args; simp_all, rfl, by simp, h0, h1, h2⟩
theorem trodAll_4_02 (h : DataW.TrodAll enc P w base spare held [t0, t1, t2, t3] args.toList ds ps) :
    ∃ v0 v1 v2 v3 d0 d1 d2 d3 p0 p1 p2 p3, args = #[v0, v1, v2, v3] ∧ ds = [d0, d1, d2, d3] ∧ ps = p0 ++ p1 ++ p2 ++ p3 ∧ DataW.Trod enc P w base spare held t0 v0 d0 p0 ∧ DataW.Trod enc P w base spare held t1 v1 d1 p1 ∧ DataW.Trod enc P w base spare held t2 v2 d2 p2 ∧ DataW.Trod enc P w base spare held t3 v3 d3 p3 := by
  obtain ⟨v0, vs0, d0, ds0, p0, q0, hargs, rfl, rfl, h0, r0⟩ := trodAll_cons h
  obtain ⟨v1, vs1, d1, ds1, p1, q1, rfl, rfl, rfl, h1, r1⟩ := trodAll_cons r0
  obtain ⟨v2, vs2, d2, ds2, p2, q2, rfl, rfl, rfl, h2, r2⟩ := trodAll_cons r1
  obtain ⟨v3, vs3, d3, ds3, p3, q3, rfl, rfl, rfl, h3, r3⟩ := trodAll_cons r2
  obtain ⟨rfl, rfl, rfl⟩ := trodAll_nil r3
  exact ⟨v0, v1, v2, v3, d0, d1, d2, d3, p0, p1, p2, p3, by cases args; simp_all, rfl, by simp, h0, h1, h2, h3⟩
end
theorem iface_of_trod {H : Type} {enc : TypeId × Value → H} {P : Program} {w : World} {base : Nat} {sp : Nat → Bool} {held : Bool} {fuel : Nat} {t : TypeId} {cs : List Value} {d : DataW H} {p : List MemPlace} (hu : (match P.underlying t with | some (.interface _) => true | _ => false) = true)
    (h : DataW.trod enc P w base sp held fuel t cs = some (d, p)) : ∃ x, cs = [x] ∧ (x = .nilIface ∨ ∃ te pe, x = .iface te pe) := by
  cases fuel with
  | zero => simp [DataW.trod] at h
  | succ fuel =>
    cases hu' : P.underlying t with
    | none => rw [hu'] at hu; cases hu
    | some u =>
      rw [hu'] at hu
      cases u <;> first | (cases hu; done) | skip
      simp only [DataW.trod, hu'] at h
      match cs, h with
      | [], h => simp at h
      | [x], h => cases x <;> first | exact ⟨_, rfl, .inl rfl⟩ | exact ⟨_, rfl, .inr ⟨_, _, rfl⟩⟩ | (simp at h; done)
      | _ :: _ :: _, h => simp at h
theorem var_block {P : Program} {w : World} {n : String} {g : Nat} {cs : Array Value} (hg : P.globalNamed n = some g) (h : w.var? P n = some cs) : ∃ t fz, w.heap[g]? = some (.cells cs t fz) := by
  unfold World.var? at h
  rw [hg] at h
  dsimp only [Option.bind] at h
  split at h
  · rename_i cs' t fz he
    cases h
    exact ⟨t, fz, he⟩
  · cases h
theorem globS_flat {w : World} {b : Nat} {cs : List Value} (h : ∃ t fz, w.heap[b]? = some (.cells cs.toArray t fz)) (hne : cs ≠ []) : GlobS (St.flat w) b 0 cs := by
  obtain ⟨t, fz, hb⟩ := h
  refine ⟨cellsS_of _ 0 fun j u hj => ⟨?_, ?_⟩, ⟨t, fz, hb⟩, (fun r hr => by cases hr), hne⟩
  · show World.cell? w _ = _
    simp [World.cell?, hb, hj]
  · exact (Array.getElem?_eq_some_iff.1 hb).1
def tabS {H : Type} (zs : List ByteArray) : DataW H := .agg (zs.map fun z => .lit (.string z.data.toList))
theorem cells_of_tabS {H : Type} {enc : TypeId × Value → H} {P : Program} {w : World} {base : Nat} {sp : Nat → Bool} {held : Bool} {fuel : Nat} {t e : TypeId} {n : Nat} {cs : List Value} {zs : List ByteArray} {p : List MemPlace}
    (ht : P.underlying t = some (.array n e)) (he : P.underlying e = some .string) (hce : P.cellsOf e = 1) (hct : P.cellsOf t = n)
    (h : DataW.trod enc P w base sp held fuel t cs = some (tabS zs, p)) : cs = zs.map fun z => Value.string z := by
  obtain ⟨xs, m, rfl, hx, hl, hxl, hf⟩ := DataW.trod_array ht h
  rw [hct] at hl
  have hxs : xs.map (·.1) = zs.map fun z => (DataW.lit (.string z.data.toList) : DataW H) := by
    have := congrArg Prod.fst hx
    simpa [tabS] using this.symm
  have hzl : zs.length = n := by
    have := congrArg List.length hxs
    simp at this
    omega
  apply List.ext_getElem?
  intro i
  by_cases hi : i < n
  · have hi2 := hf i hi
    rw [List.getElem?_eq_getElem (by omega)] at hi2
    obtain ⟨s, hc, hxi, -⟩ := DataW.trod_string he hi2
    rw [hce, Nat.mul_one] at hc
    have h1 : cs[i]? = some (.string s) := by
      have := congrArg (·[0]?) hc
      simpa [List.getElem?_take, List.getElem?_drop] using this
    have h2 : (xs.map (·.1))[i]? = some (DataW.lit (.string s.data.toList) : DataW H) := by
      rw [List.getElem?_map, List.getElem?_eq_getElem (by omega), hxi]; rfl
    rw [hxs] at h2
    simp only [List.getElem?_map, Option.map_eq_some_iff, DataW.lit.injEq, Lit.string.injEq] at h2
    obtain ⟨z', hz', hzz⟩ := h2
    have hz3 : z' = s := by
      cases z'; cases s; simp at hzz; rw [hzz]
    subst hz3
    simp [h1, hz']
  · rw [List.getElem?_eq_none (by omega), List.getElem?_eq_none (by simp; omega)]
end Go.Proofs.YtnkakofcejkhiaaDoor

/- Readings of arguments: api.Value. -/
namespace Go.Proofs.YtnkakofcejkhiaaDoor
open Go.RowKit Go.Lib
section
variable {H : Type} {enc : TypeId × Value → H} {w : World} {sp : Nat → Bool} {hd : Bool}

theorem trods_val (N : Nat) : Trods enc Tryd.prog w sp hd 39 Val.d N := by
  intro n cs x hn h
  obtain ⟨xs, m, rfl, -, hlen, hl2, hf⟩ := DataW.trod_struct Tryd.underlying39 h
  have hc : Tryd.prog.cellsOf 39 = 3 := by kernel_rfl
  rw [hc] at hlen
  obtain ⟨y0, h0⟩ := trod_field 0 3 0 1 hl2 hf ⟨_, rfl, rfl, rfl⟩ (by kernel_rfl)
  obtain ⟨y1, h1⟩ := trod_field 1 3 1 1 hl2 hf ⟨_, rfl, rfl, rfl⟩ (by kernel_rfl)
  obtain ⟨y2, h2⟩ := trod_field 2 9 2 1 hl2 hf ⟨_, rfl, rfl, rfl⟩ (by kernel_rfl)
  obtain ⟨a0, r0⟩ := trods_int Tryd.underlying3 (m + 1) m _ _ (by omega) h0
  obtain ⟨a1, r1⟩ := trods_int Tryd.underlying3 (m + 1) m _ _ (by omega) h1
  obtain ⟨a2, r2⟩ := trods_str Tryd.underlying9 (m + 1) m _ _ (by omega) h2
  exact ⟨⟨a0, a1, a2⟩, rd_st (rdS_cut (k := 1) r0 (rdS_cut (k := 1) r1 (rdS_cut (k := 1) r2 (rdS_end (by omega)))))⟩
theorem trods_vals (N : Nat) : Trods enc Tryd.prog w sp hd 33 (fun l : List Val => D.sl (l.map Val.d)) N := fun n cs x hn h =>
  trods_sl Tryd.underlying33 (sz := 3) (by kernel_rfl) (by omega) Val.width (trods_val N) n cs x (by omega) h
end
end Go.Proofs.YtnkakofcejkhiaaDoor

/- Readings of arguments: api.Delta. -/
namespace Go.Proofs.YtnkakofcejkhiaaDoor
open Go.RowKit Go.Lib
section
variable {H : Type} {enc : TypeId × Value → H} {w : World} {sp : Nat → Bool} {hd : Bool}

theorem trods_delta (N : Nat) : Trods enc Tryd.prog w sp hd 37 Delta.d N := by
  intro n cs x hn h
  obtain ⟨xs, m, rfl, -, hlen, hl2, hf⟩ := DataW.trod_struct Tryd.underlying37 h
  have hc : Tryd.prog.cellsOf 37 = 3 := by kernel_rfl
  rw [hc] at hlen
  obtain ⟨y0, h0⟩ := trod_field 0 3 0 1 hl2 hf ⟨_, rfl, rfl, rfl⟩ (by kernel_rfl)
  obtain ⟨y1, h1⟩ := trod_field 1 33 1 1 hl2 hf ⟨_, rfl, rfl, rfl⟩ (by kernel_rfl)
  obtain ⟨y2, h2⟩ := trod_field 2 3 2 1 hl2 hf ⟨_, rfl, rfl, rfl⟩ (by kernel_rfl)
  obtain ⟨a0, r0⟩ := trods_int Tryd.underlying3 (m + 1) m _ _ (by omega) h0
  obtain ⟨a1, r1⟩ := trods_sl Tryd.underlying33 (sz := 3) (by kernel_rfl) (by omega) Val.width (trods_val (m + 1)) m _ _ (by omega) h1
  obtain ⟨a2, r2⟩ := trods_int Tryd.underlying3 (m + 1) m _ _ (by omega) h2
  exact ⟨⟨a0, a1, a2⟩, rd_st (rdS_cut (k := 1) r0 (rdS_cut (k := 1) r1 (rdS_cut (k := 1) r2 (rdS_end (by omega)))))⟩
theorem trods_deltas (N : Nat) : Trods enc Tryd.prog w sp hd 26 (fun l : List Delta => D.sl (l.map Delta.d)) N := fun n cs x hn h =>
  trods_sl Tryd.underlying26 (sz := 3) (by kernel_rfl) (by omega) Delta.width (trods_delta N) n cs x (by omega) h
end
end Go.Proofs.YtnkakofcejkhiaaDoor

/- Readings of arguments: api.Ins. -/
namespace Go.Proofs.YtnkakofcejkhiaaDoor
open Go.RowKit Go.Lib
section
variable {H : Type} {enc : TypeId × Value → H} {w : World} {sp : Nat → Bool} {hd : Bool}

theorem trods_ins (N : Nat) : Trods enc Tryd.prog w sp hd 68 Ins.d N := by
  intro n cs x hn h
  obtain ⟨xs, m, rfl, -, hlen, hl2, hf⟩ := DataW.trod_struct Tryd.underlying68 h
  have hc : Tryd.prog.cellsOf 68 = 7 := by kernel_rfl
  rw [hc] at hlen
  obtain ⟨y0, h0⟩ := trod_field 0 3 0 1 hl2 hf ⟨_, rfl, rfl, rfl⟩ (by kernel_rfl)
  obtain ⟨y1, h1⟩ := trod_field 1 3 1 1 hl2 hf ⟨_, rfl, rfl, rfl⟩ (by kernel_rfl)
  obtain ⟨y2, h2⟩ := trod_field 2 3 2 1 hl2 hf ⟨_, rfl, rfl, rfl⟩ (by kernel_rfl)
  obtain ⟨y3, h3⟩ := trod_field 3 3 3 1 hl2 hf ⟨_, rfl, rfl, rfl⟩ (by kernel_rfl)
  obtain ⟨y4, h4⟩ := trod_field 4 3 4 1 hl2 hf ⟨_, rfl, rfl, rfl⟩ (by kernel_rfl)
  obtain ⟨y5, h5⟩ := trod_field 5 3 5 1 hl2 hf ⟨_, rfl, rfl, rfl⟩ (by kernel_rfl)
  obtain ⟨y6, h6⟩ := trod_field 6 9 6 1 hl2 hf ⟨_, rfl, rfl, rfl⟩ (by kernel_rfl)
  obtain ⟨a0, r0⟩ := trods_int Tryd.underlying3 (m + 1) m _ _ (by omega) h0
  obtain ⟨a1, r1⟩ := trods_int Tryd.underlying3 (m + 1) m _ _ (by omega) h1
  obtain ⟨a2, r2⟩ := trods_int Tryd.underlying3 (m + 1) m _ _ (by omega) h2
  obtain ⟨a3, r3⟩ := trods_int Tryd.underlying3 (m + 1) m _ _ (by omega) h3
  obtain ⟨a4, r4⟩ := trods_int Tryd.underlying3 (m + 1) m _ _ (by omega) h4
  obtain ⟨a5, r5⟩ := trods_int Tryd.underlying3 (m + 1) m _ _ (by omega) h5
  obtain ⟨a6, r6⟩ := trods_str Tryd.underlying9 (m + 1) m _ _ (by omega) h6
  exact ⟨⟨a0, a1, a2, a3, a4, a5, a6⟩, rd_st (rdS_cut (k := 1) r0 (rdS_cut (k := 1) r1 (rdS_cut (k := 1) r2 (rdS_cut (k := 1) r3 (rdS_cut (k := 1) r4 (rdS_cut (k := 1) r5 (rdS_cut (k := 1) r6 (rdS_end (by omega)))))))))⟩
theorem trods_inss (N : Nat) : Trods enc Tryd.prog w sp hd 22 (fun l : List Ins => D.sl (l.map Ins.d)) N := fun n cs x hn h =>
  trods_sl Tryd.underlying22 (sz := 7) (by kernel_rfl) (by omega) Ins.width (trods_ins N) n cs x (by omega) h
end
end Go.Proofs.YtnkakofcejkhiaaDoor

/- Readings of arguments: api.Code. -/
namespace Go.Proofs.YtnkakofcejkhiaaDoor
open Go.RowKit Go.Lib
section
variable {H : Type} {enc : TypeId × Value → H} {w : World} {sp : Nat → Bool} {hd : Bool}

theorem trods_cod (N : Nat) : Trods enc Tryd.prog w sp hd 25 Cod.d N := by
  intro n cs x hn h
  obtain ⟨xs, m, rfl, -, hlen, hl2, hf⟩ := DataW.trod_struct Tryd.underlying25 h
  have hc : Tryd.prog.cellsOf 25 = 3 := by kernel_rfl
  rw [hc] at hlen
  obtain ⟨y0, h0⟩ := trod_field 0 22 0 1 hl2 hf ⟨_, rfl, rfl, rfl⟩ (by kernel_rfl)
  obtain ⟨y1, h1⟩ := trod_field 1 23 1 1 hl2 hf ⟨_, rfl, rfl, rfl⟩ (by kernel_rfl)
  obtain ⟨y2, h2⟩ := trod_field 2 3 2 1 hl2 hf ⟨_, rfl, rfl, rfl⟩ (by kernel_rfl)
  obtain ⟨a0, r0⟩ := trods_sl Tryd.underlying22 (sz := 7) (by kernel_rfl) (by omega) Ins.width (trods_ins (m + 1)) m _ _ (by omega) h0
  obtain ⟨a1, r1⟩ := trods_sl Tryd.underlying23 (sz := 1) (by kernel_rfl) (by omega) (fun _ => rfl) (trods_int Tryd.underlying3 (m + 1)) m _ _ (by omega) h1
  obtain ⟨a2, r2⟩ := trods_int Tryd.underlying3 (m + 1) m _ _ (by omega) h2
  exact ⟨⟨a0, a1, a2⟩, rd_st (rdS_cut (k := 1) r0 (rdS_cut (k := 1) r1 (rdS_cut (k := 1) r2 (rdS_end (by omega)))))⟩
theorem trods_cods (N : Nat) : Trods enc Tryd.prog w sp hd 46 (fun l : List Cod => D.sl (l.map Cod.d)) N := fun n cs x hn h =>
  trods_sl Tryd.underlying46 (sz := 3) (by kernel_rfl) (by omega) Cod.width (trods_cod N) n cs x (by omega) h
end
end Go.Proofs.YtnkakofcejkhiaaDoor

/- What the row's variable holds at a law's entry: the table of names. -/
namespace Go.Proofs.YtnkakofcejkhiaaDoor
open Go.ChangeShapes Go.WideShapes Go.ChangeAt Go.RowKit Go.Lib

def namesZ : List ByteArray := namesTab.map fun v => match v with | .string s => s | _ => ByteArray.empty
theorem glob27 {W : World} {laid : List (String × DataW Unit)} (hl : laidMet Tryd.prog laid W) (h1 : ("errata/code.names", Rows.laid_errata_code_names) ∈ laid) : globsOk (GlobS (St.flat W)) := by
  obtain ⟨g1, t1, c1, f1, p1, a1, b1, d1, e1⟩ := laidMet.reads hl h1
  obtain rfl : g1 = 0 := Option.some.inj (a1.symm.trans (by kernel_rfl))
  obtain rfl : t1 = 151 := Option.some.inj (b1.symm.trans (by kernel_rfl))
  have e2 : (Rows.laid_errata_code_names : DataW Unit) = tabS namesZ := by kernel_rfl
  rw [e2] at e1
  have y1 := cells_of_tabS (n := 23) (e := 9) Tryd.underlying151 Tryd.underlying9 (by kernel_rfl) (by kernel_rfl) e1
  have e3 : (namesZ.map fun z => Value.string z) = namesTab := by kernel_rfl
  rw [e3] at y1
  refine ⟨⟨(), globS_flat ?_ (by simp [namesTab])⟩, trivial⟩
  obtain ⟨t, fz, hb⟩ := var_block a1 d1
  exact ⟨t, fz, by rw [hb, ← y1]⟩
section
variable {H : Type} {enc : TypeId × Value → H} {w : World} {sp : Nat → Bool} {hd : Bool}
theorem trods_ints27 (N : Nat) : Trods enc Tryd.prog w sp hd 23 (fun l : List Int => D.sl (l.map D.int)) N := fun n cs x hn h =>
  trods_sl Tryd.underlying23 (sz := 1) (by kernel_rfl) (by omega) (fun _ => rfl) (trods_int Tryd.underlying3 N) n cs x (by omega) h
end
theorem ints_av27 (l : List Int) : (D.sl (l.map D.int)).av = .sl (l.map AV.int) := by
  rw [D.av, D.avs_map, List.map_map]; rfl
theorem ints_flat27 {w : World} {l : List Int} {v : Value} (h : Rd w Any (.sl (l.map D.int)) [v]) : RR1 (St.flat w) (.sl (l.map AV.int)) v := by
  have := flat_rc h
  rw [ints_av27] at this
  exact this
end Go.Proofs.YtnkakofcejkhiaaDoor
