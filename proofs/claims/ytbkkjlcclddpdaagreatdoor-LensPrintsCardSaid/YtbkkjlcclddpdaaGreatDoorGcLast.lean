/- Walks of the laws of layer 14: bounds, steps and rows that suit. -/
import Derived.Test.YtbkkjlcclddpdaaGreatDoorCards
import Derived.Test.YtbkkjlcclddpdaaGreatDoorTie
import Derived.SevenTiedAt
import Derived.Stop.Joined
import Derived.Lib.LaidU8
import Derived.HandedShaped
import Derived.Lay
import Derived.LaidMore
import Derived.OpenShut
import Derived.Test.YtbkkjlcclddpdaaGreatDoorProg
import Derived.KernelRfl
import Derived.Test.YtbkkjlcclddpdaaGreatDoorGc1
import Derived.Test.YtbkkjlcclddpdaaGreatDoorGc8
import Derived.Test.YtbkkjlcclddpdaaGreatDoorGc10
import Derived.Test.YtbkkjlcclddpdaaGreatDoorGc18
import Derived.Test.YtbkkjlcclddpdaaGreatDoorGc31
import Derived.Test.YtbkkjlcclddpdaaGreatDoorGc32
set_option linter.unusedSimpArgs false
set_option linter.unusedVariables false
namespace Go.Proofs.YtbkkjlcclddpdaaGreatDoor
open Go.RowKit Go.Lib
def fewX (x : Lens) : Bool := decide (x.a.size ≤ 210) && (decide (x.b.size ≤ 210) && (decide (x.c.size ≤ 210) && (decide (x.sep.size ≤ 210) && decide (x.value.s.size ≤ 210))))
def fewL (l : List Lens) : Bool := l.all fewX && decide (l.length ≤ 20)
theorem fewX_iff {x : Lens} : fewX x = true ↔ x.a.size ≤ 210 ∧ x.b.size ≤ 210 ∧ x.c.size ≤ 210 ∧ x.sep.size ≤ 210 ∧ x.value.s.size ≤ 210 := by
  unfold fewX; simp
set_option maxHeartbeats 4000000 in
theorem few_g14 (l : List Lens) : Gives Tryz.prog 10 [.sl (l.map Lens.av)] (.bool (fewL l)) := by
  obtain ⟨R, hR⟩ : ∃ R, R = fewL l := ⟨_, rfl⟩
  rw [← hR]
  unfold fewL at hR
  refine gives_len fun hlen => ?_
  simp only [List.length_map] at hlen
  refine qj Tryz.func10 Tryz.ntmps10 fun σ n0 hcl hft => ?_
  repeat' (first | ((first | ((with_reducible refine qf (fun hg => ?_) (fun hg => ?_)) <;> (try simp only [hg]) <;> (try simp only [gS] at hg) <;> (try (first | simp only [eq_false hg, gI] | simp only [eq_true hg, gI]))) | refine Stp.m ?_) <;> (try simp (disch := first | omega | simp) [qd, -qg, -qm])) | refine sideA ?_ | refine qc fun K hK => ?_ | refine qa ?_ | refine qe ?_ | refine qb ?_ | (refine hK _ ?_; clear hK K) | clear hK K)
  refine qw hcl (fun k : Nat => [(0, .sl (l.map Lens.av)), (3, .int k)]) (fun _ => [])
    (fun k => k ≤ l.length ∧ ∀ j (h : j < l.length), j < k → fewX l[j] = true) (fun k => l.length - k) 0 (by simp) (by simp) fun k ⟨hk, he⟩ => ?_
  by_cases hlt : k < l.length
  · cases hs : fewX l[k] with
    | true =>
      obtain ⟨f1, f2, f3, f4, f5⟩ := fewX_iff.1 hs
      have g1 : ¬ (210 : Int) < l[k].a.size := by omega
      have g2 : ¬ (210 : Int) < l[k].b.size := by omega
      have g3 : ¬ (210 : Int) < l[k].c.size := by omega
      have g4 : ¬ (210 : Int) < l[k].sep.size := by omega
      have g5 : ¬ (210 : Int) < l[k].value.s.size := by omega
      repeat' (first | ((first | ((with_reducible refine qf (fun hg => ?_) (fun hg => ?_)) <;> (try simp only [hg]) <;> (try simp only [gS] at hg) <;> (try (first | simp only [eq_false hg, gI] | simp only [eq_true hg, gI]))) | refine Stp.m ?_) <;> (try simp (disch := first | omega | simp) [qd, -qg, -qm, hlt, g1, g2, g3, g4, g5])) | refine sideA ?_ | refine qc fun K hK => ?_ | refine qa ?_ | refine qe ?_ | refine qb ?_ | (refine hK _ ?_; clear hK K) | clear hK K)
      exact ⟨k + 1, ⟨by omega, upto_succ (C := fun x : Lens => fewX x = true) he fun _ => hs⟩, by omega, by simp⟩
    | false =>
      have hb : l.all fewX = false := by
        rw [List.all_eq_false]
        exact ⟨l[k], List.getElem_mem _, by simp [hs]⟩
      rw [hb] at hR
      have hR' : R = false := hR
      subst hR'
      have no : ¬ (l[k].a.size ≤ 210 ∧ l[k].b.size ≤ 210 ∧ l[k].c.size ≤ 210 ∧ l[k].sep.size ≤ 210 ∧ l[k].value.s.size ≤ 210) := fun h => by
        rw [fewX_iff.2 h] at hs; cases hs
      repeat' (first | ((first | ((with_reducible refine qf (fun hg => ?_) (fun hg => ?_)) <;> (try simp only [hg]) <;> (try simp only [gS] at hg) <;> (try (first | simp only [eq_false hg, gI] | simp only [eq_true hg, gI]))) | refine Stp.m ?_) <;> (try simp (disch := first | omega | simp) [qd, -qg, -qm, hlt])) | refine sideA ?_ | refine qc fun K hK => ?_ | refine qa ?_ | refine qe ?_ | refine qb ?_ | (refine hK _ ?_; clear hK K) | clear hK K)
      all_goals first | (exfalso; exact no ⟨by omega, by omega, by omega, by omega, by omega⟩) | rfl
  · have hb : l.all fewX = true := by
      rw [List.all_eq_true]
      intro x hx
      obtain ⟨j, hj, rfl⟩ := List.mem_iff_getElem.1 hx
      exact he j hj (by omega)
    rw [hb, Bool.true_and] at hR
    repeat' (first | ((first | ((with_reducible refine qf (fun hg => ?_) (fun hg => ?_)) <;> (try simp only [hg]) <;> (try simp only [gS] at hg) <;> (try (first | simp only [eq_false hg, gI] | simp only [eq_true hg, gI]))) | refine Stp.m ?_) <;> (try simp (disch := first | omega | simp) [qd, -qg, -qm, hlt])) | refine sideA ?_ | refine qc fun K hK => ?_ | refine qa ?_ | refine qe ?_ | refine qb ?_ | (refine hK _ ?_; clear hK K) | clear hK K)
    all_goals
      rw [hR, Bool.eq_iff_iff]
      simp
      omega
theorem few_small {l : List Lens} (h : fewL l = true) : l.length ≤ 20 ∧ ∀ x ∈ l, qbp x ∧ x.value.s.size ≤ 210 := by
  unfold fewL at h
  rw [Bool.and_eq_true, List.all_eq_true, decide_eq_true_eq] at h
  refine ⟨h.2, fun x hx => ?_⟩
  obtain ⟨f1, f2, f3, f4, f5⟩ := fewX_iff.1 (h.1 x hx)
  exact ⟨⟨by omega, by omega, by omega, by omega⟩, f5⟩
structure Suits (l : List Lens) (cols : List Col) (row : List Val) (ss : List (List Col)) : Prop where
  l20 : l.length ≤ 20
  small : ∀ x ∈ l, qbp x ∧ x.value.s.size ≤ 210
  shape : ShapeOk cols
  fit : FitOk row cols
  ss : qbi l cols = (ss, 0)
theorem Suits.pure {l : List Lens} {cols : List Col} {row : List Val} {ss : List (List Col)} (h : Suits l cols row ss) : qn l cols = (ss, 0) := by
  have h1 := h.ss
  have h2 := h.l20
  rwa [qbi, if_neg (by omega)] at h1
end Go.Proofs.YtbkkjlcclddpdaaGreatDoor

/- Walk of the law LensPrints. -/
namespace Go.Proofs.YtbkkjlcclddpdaaGreatDoor
open Go.RowKit Go.Lib
theorem size_lines : ∀ (l : List Lens), (∀ x ∈ l, fewX x = true ∧ i64 x.n ∧ i64 x.value.n) → (qr l).length ≤ 2500 * l.length
  | [], _ => by simp [qr]
  | x :: l, h => by
    have h1 := h x (by simp)
    have h2 := size_lines l fun y hy => h y (by simp [hy])
    have h3 := lineL_len x h1.2.1 h1.2.2
    obtain ⟨f1, f2, f3, f4, f5⟩ := fewX_iff.1 h1.1
    have e : qr (x :: l) = lineL x ++ [10] ++ qr l := by unfold qr; rw [List.flatMap_cons]
    have e3 : ([10] : List UInt8).length = 1 := rfl
    rw [e, List.length_append, List.length_append, e3, List.length_cons]
    omega
set_option maxRecDepth 4000 in
set_option maxHeartbeats 8000000 in
theorem lensPrints_g (l : List Lens) (s : ByteArray) (hln : ∀ x ∈ l, i64 x.n ∧ i64 x.value.n) : Gives Tryz.prog 3 [.sl (l.map Lens.av), .str s] (.bool true) := by
  have c0 := small14_g
  have c1 := few_g14 l
  by_cases hs : s.size ≤ 600
  · have hs' : ¬ (600 : Int) < s.size := by omega
    cases hf : fewL l with
    | false =>
      rw [hf] at c1
      refine qj Tryz.func3 Tryz.ntmps3 fun σ n0 hcl hft => ?_
      repeat' (first | ((first | ((with_reducible refine qf (fun hg => ?_) (fun hg => ?_)) <;> (try simp only [hg]) <;> (try simp only [gS] at hg) <;> (try (first | simp only [eq_false hg, gI] | simp only [eq_true hg, gI]))) | refine Stp.m ?_ | refine ql ?_ | refine agH ?_) <;> (try simp (disch := first | omega | simp) [qd, -qg, -qm, hs'])) | refine sideA ?_ | refine qc fun K hK => ?_ | refine qa ?_ | refine qe ?_ | refine qb ?_ | (refine hK _ ?_; clear hK K) | clear hK K)
    | true =>
      rw [hf] at c1
      have hfew : ∀ x ∈ l, fewX x = true := by
        unfold fewL at hf
        rw [Bool.and_eq_true, List.all_eq_true] at hf
        exact hf.1
      obtain ⟨hl20, hsm⟩ := few_small hf
      have hbytes := size_lines l fun x hx => ⟨hfew x hx, hln x hx⟩
      have hpx : ∀ x ∈ l, PrintX x := fun x hx => ⟨(hsm x hx).1, (hln x hx).1, (hln x hx).2, by have := (hsm x hx).2; omega⟩
      have c2 := lprint_g l hpx (by omega) (by omega)
      have c3 := rlprint_g l hpx (by omega) (by omega)
      have hpz : (qbh l).length ≤ 50000 := by
        unfold qbh
        split
        · omega
        · show 0 ≤ 50000; omega
      have c4 := lparse_g (qh (qbh l)) (by rw [qk]; exact hpz)
      rw [bA_data] at c4
      have c5 := rlsame_g l (by omega)
      have c6 := lparse_g s (by omega)
      have c7 := rlparse_g s (by omega)
      have hS : (qbk s.data.toList).length ≤ 600 := by
        have := lnK_num s.data.toList
        rw [qcl] at this
        unfold qbk; rw [List.length_map]; omega
      have hbs := steps_bytes s.data.toList
      rw [qcl] at hbs
      have hb1 : (qbo s.data.toList).1.length ≤ 600 := by
        unfold qbo
        split
        · exact hS
        · show 0 ≤ 600; omega
      have c8 := rlsame_g (qbo s.data.toList).1 (by omega)
      have c9 := lprint_g (qbo s.data.toList).1 (fun x hx => by
        unfold qbo at hx
        split at hx
        · have h := steps_ok x hx
          have h1 := h.a; have h2 := h.b; have h3 := h.c; have h4 := h.sep; have h5 := h.s
          rw [qcl] at h1 h2 h3 h4
          exact ⟨⟨by omega, by omega, by omega, by omega⟩, h.n, h.v, by omega⟩
        · cases hx) (by omega) (by
        unfold qbo
        split
        · show (qr (qbk s.data.toList)).length ≤ _; omega
        · show 0 ≤ 1000000000; omega)
      have hpp : (qbo s.data.toList).2 = true → qh (qbh (qbo s.data.toList).1) = s := fun h => by
        unfold qbo at h ⊢
        split at h
        · rename_i e
          rw [if_pos e]
          show qh (qbh (qbk s.data.toList)) = s
          rw [e]; exact bA_self s
        · cases h
      generalize qbo s.data.toList = Z at *
      obtain ⟨Z1, Z2⟩ := Z
      dsimp only at c6 c7 c8 c9 hpp hb1
      have hsz := qk (qbh l)
      refine qj Tryz.func3 Tryz.ntmps3 fun σ n0 hcl hft => ?_
      repeat' (first | ((first | ((with_reducible refine qf (fun hg => ?_) (fun hg => ?_)) <;> (try simp only [hg]) <;> (try simp only [gS] at hg) <;> (try (first | simp only [eq_false hg, gI] | simp only [eq_true hg, gI]))) | refine Stp.m ?_ | refine ql ?_ | refine agH ?_) <;> (try simp (disch := first | omega | simp) [qd, -qg, -qm, hs'])) | refine sideA ?_ | refine qc fun K hK => ?_ | refine qa ?_ | refine qe ?_ | refine qb ?_ | (refine hK _ ?_; clear hK K) | clear hK K)
      refine qw hcl (fun k : Nat => [(0, .sl (l.map Lens.av)), (1, .str s), (5, .bool true), (6, .bool ((l.take k).all qv)), (7, .int k)]) (fun _ => [])
        (fun k => k ≤ l.length) (fun k => l.length - k) 0 (Nat.zero_le _) (by simp) fun k hk => ?_
      by_cases hlt : k < l.length
      · have d1 := qep l[k] (hsm _ (List.getElem_mem hlt)).1
        have ht : (l.take (k + 1)).all qv = ((l.take k).all qv && qv l[k]) := by rw [List.take_succ_eq_append_getElem hlt, List.all_append]; simp
        cases hA : (l.take k).all qv with
        | false =>
          rw [hA] at ht
          have ht' : ∃ x, x ∈ List.take (k + 1) l ∧ qv x = false := by simpa using ht
          repeat' (first | ((first | ((with_reducible refine qf (fun hg => ?_) (fun hg => ?_)) <;> (try simp only [hg]) <;> (try simp only [gS] at hg) <;> (try (first | simp only [eq_false hg, gI] | simp only [eq_true hg, gI]))) | refine Stp.m ?_) <;> (try simp (disch := first | omega | simp) [qd, -qg, -qm, hlt])) | refine sideA ?_ | refine qc fun K hK => ?_ | refine qa ?_ | refine qe ?_ | refine qb ?_ | (refine hK _ ?_; clear hK K) | clear hK K)
          exact ⟨k + 1, by omega, by omega, ht', by simp⟩
        | true =>
          rw [hA, Bool.true_and] at ht
          repeat' (first | ((first | ((with_reducible refine qf (fun hg => ?_) (fun hg => ?_)) <;> (try simp only [hg]) <;> (try simp only [gS] at hg) <;> (try (first | simp only [eq_false hg, gI] | simp only [eq_true hg, gI]))) | refine Stp.m ?_ | refine ql ?_ | refine agH ?_) <;> (try simp (disch := first | omega | simp) [qd, -qg, -qm, hlt])) | refine sideA ?_ | refine qc fun K hK => ?_ | refine qa ?_ | refine qe ?_ | refine qb ?_ | (refine hK _ ?_; clear hK K) | clear hK K)
          exact ⟨k + 1, by omega, by omega, by simp [ht]⟩
      · obtain rfl : k = l.length := by omega
        rw [List.take_length]
        cases hA : l.all qv with
        | true =>
          have hpr := lparse_print fun x hx => ⟨List.all_eq_true.1 hA x hx, hln x hx⟩
          rw [hpr] at c4
          cases Z2 with
          | true =>
            rw [hpp rfl] at c9
            repeat' (first | ((first | ((with_reducible refine qf (fun hg => ?_) (fun hg => ?_)) <;> (try simp only [hg]) <;> (try simp only [gS] at hg) <;> (try (first | simp only [eq_false hg, gI] | simp only [eq_true hg, gI]))) | refine Stp.m ?_ | refine ql ?_ | refine agH ?_) <;> (try simp (disch := first | omega | simp) [qd, -qg, -qm, hlt])) | refine sideA ?_ | refine qc fun K hK => ?_ | refine qa ?_ | refine qe ?_ | refine qb ?_ | (refine hK _ ?_; clear hK K) | clear hK K)
          | false =>
            repeat' (first | ((first | ((with_reducible refine qf (fun hg => ?_) (fun hg => ?_)) <;> (try simp only [hg]) <;> (try simp only [gS] at hg) <;> (try (first | simp only [eq_false hg, gI] | simp only [eq_true hg, gI]))) | refine Stp.m ?_ | refine ql ?_ | refine agH ?_) <;> (try simp (disch := first | omega | simp) [qd, -qg, -qm, hlt])) | refine sideA ?_ | refine qc fun K hK => ?_ | refine qa ?_ | refine qe ?_ | refine qb ?_ | (refine hK _ ?_; clear hK K) | clear hK K)
        | false =>
          have hp0 : qbh l = [] := by unfold qbh; rw [if_neg (by rw [hA]; exact Bool.false_ne_true)]
          rw [hp0] at c2 c3 c4
          have e0 : qh [] = ⟨#[]⟩ := rfl
          cases Z2 with
          | true =>
            rw [hpp rfl] at c9
            repeat' (first | ((first | ((with_reducible refine qf (fun hg => ?_) (fun hg => ?_)) <;> (try simp only [hg]) <;> (try simp only [gS] at hg) <;> (try (first | simp only [eq_false hg, gI] | simp only [eq_true hg, gI]))) | refine Stp.m ?_ | refine ql ?_ | refine agH ?_) <;> (try simp (disch := first | omega | simp) [qd, -qg, -qm, hlt, e0])) | refine sideA ?_ | refine qc fun K hK => ?_ | refine qa ?_ | refine qe ?_ | refine qb ?_ | (refine hK _ ?_; clear hK K) | clear hK K)
          | false =>
            repeat' (first | ((first | ((with_reducible refine qf (fun hg => ?_) (fun hg => ?_)) <;> (try simp only [hg]) <;> (try simp only [gS] at hg) <;> (try (first | simp only [eq_false hg, gI] | simp only [eq_true hg, gI]))) | refine Stp.m ?_ | refine ql ?_ | refine agH ?_) <;> (try simp (disch := first | omega | simp) [qd, -qg, -qm, hlt, e0])) | refine sideA ?_ | refine qc fun K hK => ?_ | refine qa ?_ | refine qe ?_ | refine qb ?_ | (refine hK _ ?_; clear hK K) | clear hK K)
  · have hs' : (600 : Int) < s.size := by omega
    refine qj Tryz.func3 Tryz.ntmps3 fun σ n0 hcl hft => ?_
    repeat' (first | ((first | ((with_reducible refine qf (fun hg => ?_) (fun hg => ?_)) <;> (try simp only [hg]) <;> (try simp only [gS] at hg) <;> (try (first | simp only [eq_false hg, gI] | simp only [eq_true hg, gI]))) | refine Stp.m ?_ | refine ql ?_ | refine agH ?_) <;> (try simp (disch := first | omega | simp) [qd, -qg, -qm, hs'])) | refine sideA ?_ | refine qc fun K hK => ?_ | refine qa ?_ | refine qe ?_ | refine qb ?_ | (refine hK _ ?_; clear hK K) | clear hK K)
end Go.Proofs.YtbkkjlcclddpdaaGreatDoor

/- Lifting a law: the arguments' readings, and what the listed variables hold. -/
namespace Go.Proofs.YtbkkjlcclddpdaaGreatDoor
open Go.ChangeShapes Go.WideShapes Go.ChangeAt Go.RowKit Go.Lib
section
variable {H : Type} {enc : TypeId × Value → H}
theorem returnsInHanded_three {a : Assume} {C : Checked} {os : Os} {f : FuncId} {fn : Func} {s : ChangeSpec} {conds : List PathCond} {apart fresh handsOn again : Bool} {X : World → Array Value → Prop}
    (own : ownKnob C.prog.godebug = none) (started : os.Started) (noInit : C.prog.inits.idxOf? f = none) (hfn : C.prog.funcs[f]? = some fn)
    (witness : ∃ (w : World) (tape : Tape) (i : Input), w.os = os ∧ (w.forCall tape i).Shaped C.prog ∧ i.vars = [] ∧ Input.okWide C.prog (w.forCall tape i) .any w.heap.size f i ∧
      ((s.pre enc C.prog fn conds apart (w.forCall tape i).memory i.args ∧ X (w.forCall tape i).memory i.args) ∧ sizedMet enc C.prog fn (OpenSpec.ofChange s) apart (w.forCall tape i).memory i.args) ∧ a.holds C.prog (lone (Frame.enter C.prog f i.args .normal) [] (w.forCall tape i)))
    (hXh : ∀ (w w' : World) (us : Array Value), w.heap = w'.heap → X w us → X w' us)
    (contract : ∀ (W : World) (base : Nat) (args : Array Value) (ds gs : List (DataW H)) (before : List MemPlace),
      (∀ (j : Nat) t v, fn.params[j]? = some t → args[j]? = some v → Value.okWide C.prog W .any base t v) →
      DataW.Whole enc C.prog fn.params.toList s.vars apart W args.toList ds gs before →
      conds.all (PathCond.test C.prog ⟨fn.params.toList, ds, s.plain.varTypes C.prog, gs⟩) = true →
      W.ShapedOpen C.prog → X W args →
      Calls C.prog f args W fun e W' => ∃ v, e = .returned v ∧ s.post enc C.prog fn apart fresh handsOn again W args v W') :
    ReturnsInHanded a C os f .any (fun w args => (s.pre enc C.prog fn conds apart w args ∧ X w args) ∧ sizedMet enc C.prog fn (OpenSpec.ofChange s) apart w args) (s.post enc C.prog fn apart fresh handsOn again) := by
  refine returnsInHanded_of_calls own started noInit witness ?_
  intro w tape i _ hsh _ hok hpre hholds
  obtain ⟨_, _, _, fn', hfn', _, _, _, _, hval⟩ := hok
  have e : fn' = fn := Option.some.inj (hfn'.symm.trans hfn)
  subst e
  obtain ⟨⟨⟨ds, gs, before, hw, hc⟩, hX⟩, -⟩ := hpre
  have hw' := DataW.Whole.of_heap (w' := w.forCall tape i) (by rfl) hw
  refine (contract (w.forCall tape i) w.heap.size i.args ds gs before hval hw' hc hsh (hXh _ _ _ (by rfl) hX)).mono fun e W' ⟨v, he, hp⟩ => ?_
  subst he
  exact ChangeSpec.post_blind hp
end
theorem flat_str02 {w : World} {s : ByteArray} : RR1 (St.flat w) (.str s) (.string s) := by
  show RC _ _ _
  rw [RC]
section
variable {H : Type} {enc : TypeId × Value → H} {w w0 : World} {sp : Nat → Bool} {hd : Bool} {b0 : Nat} {t : TypeId} {v : Value}
end
section
variable {H : Type} {enc : TypeId × Value → H} {P : Program} {w : World} {base : Nat} {spare : Nat → Bool} {held : Bool} {t0 t1 t2 t3 : TypeId} {args : Array Value} {ds : List (DataW H)} {ps : List MemPlace}
theorem trodAll_2_02 (h : DataW.TrodAll enc P w base spare held [t0, t1] args.toList ds ps) :
    ∃ v0 v1 d0 d1 p0 p1, args = #[v0, v1] ∧ ds = [d0, d1] ∧ ps = p0 ++ p1 ∧ DataW.Trod enc P w base spare held t0 v0 d0 p0 ∧ DataW.Trod enc P w base spare held t1 v1 d1 p1 := by
  obtain ⟨v0, vs0, d0, ds0, p0, q0, hargs, rfl, rfl, h0, r0⟩ := trodAll_cons h
  obtain ⟨v1, vs1, d1, ds1, p1, q1, rfl, rfl, rfl, h1, r1⟩ := trodAll_cons r0
  obtain ⟨rfl, rfl, rfl⟩ := trodAll_nil r1
  exact ⟨v0, v1, d0, d1, p0, p1, by cases args; simp_all, rfl, by simp, h0, h1⟩
end
theorem iface_of_trod {H : Type} {enc : TypeId × Value → H} {P : Program} {w : World} {base : Nat} {sp : Nat → Bool} {held : Bool} {fuel : Nat} {t : TypeId} {cs : List Value} {d : DataW H} {p : List MemPlace} (hu : (match P.underlying t with | some (.interface _) => true | _ => false) = true)
    (h : DataW.trod enc P w base sp held fuel t cs = some (d, p)) : ∃ x, cs = [x] ∧ (x = .nilIface ∨ ∃ te pe, x = .iface te pe) := by
  cases fuel with
  | zero => simp [DataW.trod] at h
  | succ fuel =>
    cases hu' : P.underlying t with
    | none => rw [hu'] at hu; cases hu
    | some u =>
      rw [hu'] at hu
      cases u <;> first | (cases hu; done) | skip
      simp only [DataW.trod, hu'] at h
      match cs, h with
      | [], h => simp at h
      | [x], h => cases x <;> first | exact ⟨_, rfl, .inl rfl⟩ | exact ⟨_, rfl, .inr ⟨_, _, rfl⟩⟩ | (simp at h; done)
      | _ :: _ :: _, h => simp at h
theorem var_block {P : Program} {w : World} {n : String} {g : Nat} {cs : Array Value} (hg : P.globalNamed n = some g) (h : w.var? P n = some cs) : ∃ t fz, w.heap[g]? = some (.cells cs t fz) := by
  unfold World.var? at h
  rw [hg] at h
  dsimp only [Option.bind] at h
  split at h
  · rename_i cs' t fz he
    cases h
    exact ⟨t, fz, he⟩
  · cases h
theorem globS_flat {w : World} {b : Nat} {cs : List Value} (h : ∃ t fz, w.heap[b]? = some (.cells cs.toArray t fz)) (hne : cs ≠ []) : GlobS (St.flat w) b 0 cs := by
  obtain ⟨t, fz, hb⟩ := h
  refine ⟨qei _ 0 fun j u hj => ⟨?_, ?_⟩, ⟨t, fz, hb⟩, (fun r hr => by cases hr), hne⟩
  · show World.cell? w _ = _
    simp [World.cell?, hb, hj]
  · exact (Array.getElem?_eq_some_iff.1 hb).1
end Go.Proofs.YtbkkjlcclddpdaaGreatDoor

/- Readings of arguments: api.Value. -/
namespace Go.Proofs.YtbkkjlcclddpdaaGreatDoor
open Go.RowKit Go.Lib
section
variable {H : Type} {enc : TypeId × Value → H} {w : World} {sp : Nat → Bool} {hd : Bool}
end
end Go.Proofs.YtbkkjlcclddpdaaGreatDoor

/- Readings of arguments: api.Col. -/
namespace Go.Proofs.YtbkkjlcclddpdaaGreatDoor
open Go.RowKit Go.Lib
section
variable {H : Type} {enc : TypeId × Value → H} {w : World} {sp : Nat → Bool} {hd : Bool}
end
end Go.Proofs.YtbkkjlcclddpdaaGreatDoor

/- Readings of arguments: api.Lens. -/
namespace Go.Proofs.YtbkkjlcclddpdaaGreatDoor
open Go.RowKit Go.Lib
section
variable {H : Type} {enc : TypeId × Value → H} {w : World} {sp : Nat → Bool} {hd : Bool}
end
end Go.Proofs.YtbkkjlcclddpdaaGreatDoor

/- What the variables of a row of layer 14 hold at a law's entry. -/
namespace Go.Proofs.YtbkkjlcclddpdaaGreatDoor
open Go.ChangeShapes Go.WideShapes Go.ChangeAt Go.RowKit Go.Lib
theorem glob14 {W : World} {laid : List (String × DataW Unit)} (h : W.ShapedOpen Tryz.prog) (hl : laidMet Tryz.prog laid W)
    (h1 : ("strconv.ErrSyntax", Rows.laid_strconv_ErrSyntax) ∈ laid) (h2 : ("strconv.ErrRange", Rows.laid_strconv_ErrRange) ∈ laid) (h3 : ("internal/strconv.uint64pow10", Rows.laid_internal_strconv_uint64pow10) ∈ laid) : globsOk (GlobS (St.flat W)) := by
  obtain ⟨cs, hh, hs, hr⟩ := h.1 0 #[.int .i64 0] 3 (of_decide_eq_true (by kernel_rfl)) (by kernel_rfl)
  obtain ⟨m, hm⟩ := cell_of_shapedOpen_int (P := Tryz.prog) (g := 0) (zero := #[.int .i64 0]) (t := 3) h (of_decide_eq_true (by kernel_rfl)) (by kernel_rfl) rfl (by kernel_rfl) (by kernel_rfl) Tryz.underlying3
  have hc0 : cs = #[.int .i64 m] := by
    simp only [World.cell?, hh] at hm
    refine Array.ext (by simpa using hs) fun i h1 h2 => ?_
    have : i = 0 := by simp at h2; omega
    subst this
    simpa [Array.getElem?_eq_getElem h1] using hm
  subst hc0
  obtain ⟨g1, t1, c1, f1, p1, a1, b1, d1, e1⟩ := laidMet.reads hl h1
  obtain ⟨g2, t2, c2, f2, p2, a2, b2, d2, e2⟩ := laidMet.reads hl h2
  obtain ⟨g3, t3, c3, f3, p3, a3, b3, d3, e3⟩ := laidMet.reads hl h3
  obtain rfl : g1 = 1 := Option.some.inj (a1.symm.trans (by kernel_rfl))
  obtain rfl : g2 = 2 := Option.some.inj (a2.symm.trans (by kernel_rfl))
  obtain rfl : g3 = 3 := Option.some.inj (a3.symm.trans (by kernel_rfl))
  obtain rfl : t1 = 63 := Option.some.inj (b1.symm.trans (by kernel_rfl))
  obtain rfl : t2 = 63 := Option.some.inj (b2.symm.trans (by kernel_rfl))
  obtain rfl : t3 = 176 := Option.some.inj (b3.symm.trans (by kernel_rfl))
  obtain ⟨x1, y1, z1⟩ := iface_of_trod (by kernel_rfl) e1
  obtain ⟨x2, y2, z2⟩ := iface_of_trod (by kernel_rfl) e2
  have y3 := cells_of_tab (zs := Lib.pow10Tab) (k := .u64) (n := 20) (e := 158) Tryz.underlying176 Tryz.underlying158 (by kernel_rfl) (by kernel_rfl) e3
  refine ⟨⟨m, globS_flat ⟨_, _, hh⟩ (by simp)⟩, ⟨(), globS_flat ?_ (by simp [Lib.pow10Tab])⟩, ⟨⟨x1, z1⟩, globS_flat ?_ (by simp)⟩, ⟨⟨x2, z2⟩, globS_flat ?_ (by simp)⟩, trivial⟩
  · obtain ⟨t, fz, hb⟩ := var_block a3 d3
    exact ⟨t, fz, by rw [hb, ← y3]⟩
  · obtain ⟨t, fz, hb⟩ := var_block a1 d1
    exact ⟨t, fz, by rw [hb, ← y1]⟩
  · obtain ⟨t, fz, hb⟩ := var_block a2 d2
    exact ⟨t, fz, by rw [hb, ← y2]⟩
section
variable {H : Type} {enc : TypeId × Value → H} {w w0 : World} {sp : Nat → Bool} {hd : Bool} {b0 : Nat} {t : TypeId} {v : Value} {d : DataW H} {ps : List MemPlace}
theorem trods_intI {t : TypeId} (ht : Tryz.prog.underlying t = some (.int .i64)) {n : Nat} {cs : List Value} {x : DataW H × List MemPlace} (h : DataW.trod enc Tryz.prog w 0 sp hd n t cs = some x) : ∃ a, i64 a ∧ Rd w Any (D.int a) cs := by
  obtain ⟨a, rfl, -, hwf⟩ := DataW.trod_int ht h
  refine ⟨a, ?_, by rw [Rd]⟩
  simp only [Lit.wf, Bool.and_eq_true, decide_eq_true_eq] at hwf
  have e1 : IntKind.i64.min = -9223372036854775808 := by decide
  have e2 : IntKind.i64.max = 9223372036854775807 := by decide
  exact ⟨by omega, by omega⟩
theorem trods_valI (N : Nat) : Trods enc Tryz.prog w sp hd 27 (fun y : {y : Val // i64 y.n} => y.1.d) N := by
  intro n cs x hn h
  obtain ⟨xs, m, rfl, -, hlen, hl2, hf⟩ := DataW.trod_struct Tryz.underlying27 h
  have hc : Tryz.prog.cellsOf 27 = 3 := by kernel_rfl
  rw [hc] at hlen
  obtain ⟨y0, h0⟩ := qcq 0 3 0 1 hl2 hf ⟨_, rfl, rfl, rfl⟩ (by kernel_rfl)
  obtain ⟨y1, h1⟩ := qcq 1 3 1 1 hl2 hf ⟨_, rfl, rfl, rfl⟩ (by kernel_rfl)
  obtain ⟨y2, h2⟩ := qcq 2 9 2 1 hl2 hf ⟨_, rfl, rfl, rfl⟩ (by kernel_rfl)
  obtain ⟨a0, r0⟩ := trods_int Tryz.underlying3 (m + 1) m _ _ (by omega) h0
  obtain ⟨a1, i1, r1⟩ := trods_intI Tryz.underlying3 h1
  obtain ⟨a2, r2⟩ := trods_str Tryz.underlying9 (m + 1) m _ _ (by omega) h2
  exact ⟨⟨⟨a0, a1, a2⟩, i1⟩, rd_st (qfi (k := 1) r0 (qfi (k := 1) r1 (qfi (k := 1) r2 (rdS_end (by omega)))))⟩
theorem trods_lensI (N : Nat) : Trods enc Tryz.prog w sp hd 29 (fun y : {y : Lens // i64 y.n ∧ i64 y.value.n} => y.1.d) N := by
  intro n cs x hn h
  obtain ⟨xs, m, rfl, -, hlen, hl2, hf⟩ := DataW.trod_struct Tryz.underlying29 h
  have hc : Tryz.prog.cellsOf 29 = 9 := by kernel_rfl
  rw [hc] at hlen
  obtain ⟨y0, h0⟩ := qcq 0 3 0 1 hl2 hf ⟨_, rfl, rfl, rfl⟩ (by kernel_rfl)
  obtain ⟨y1, h1⟩ := qcq 1 9 1 1 hl2 hf ⟨_, rfl, rfl, rfl⟩ (by kernel_rfl)
  obtain ⟨y2, h2⟩ := qcq 2 9 2 1 hl2 hf ⟨_, rfl, rfl, rfl⟩ (by kernel_rfl)
  obtain ⟨y3, h3⟩ := qcq 3 9 3 1 hl2 hf ⟨_, rfl, rfl, rfl⟩ (by kernel_rfl)
  obtain ⟨y4, h4⟩ := qcq 4 9 4 1 hl2 hf ⟨_, rfl, rfl, rfl⟩ (by kernel_rfl)
  obtain ⟨y5, h5⟩ := qcq 5 3 5 1 hl2 hf ⟨_, rfl, rfl, rfl⟩ (by kernel_rfl)
  obtain ⟨y6, h6⟩ := qcq 6 27 6 3 hl2 hf ⟨_, rfl, rfl, rfl⟩ (by kernel_rfl)
  obtain ⟨a0, r0⟩ := trods_int Tryz.underlying3 (m + 1) m _ _ (by omega) h0
  obtain ⟨a1, r1⟩ := trods_str Tryz.underlying9 (m + 1) m _ _ (by omega) h1
  obtain ⟨a2, r2⟩ := trods_str Tryz.underlying9 (m + 1) m _ _ (by omega) h2
  obtain ⟨a3, r3⟩ := trods_str Tryz.underlying9 (m + 1) m _ _ (by omega) h3
  obtain ⟨a4, r4⟩ := trods_str Tryz.underlying9 (m + 1) m _ _ (by omega) h4
  obtain ⟨a5, i5, r5⟩ := trods_intI Tryz.underlying3 h5
  obtain ⟨a6, r6⟩ := trods_valI (m + 1) m _ _ (by omega) h6
  exact ⟨⟨⟨a0, a1, a2, a3, a4, a5, a6.1⟩, i5, a6.2⟩, rd_st (qfi (k := 1) r0 (qfi (k := 1) r1 (qfi (k := 1) r2 (qfi (k := 1) r3 (qfi (k := 1) r4 (qfi (k := 1) r5 (qfi (k := 3) r6 (rdS_end (by omega)))))))))⟩
theorem trods_lenssI (N : Nat) : Trods enc Tryz.prog w sp hd 22 (fun l : List {y : Lens // i64 y.n ∧ i64 y.value.n} => D.sl (l.map fun y => y.1.d)) N := fun n cs x hn h =>
  trods_sl Tryz.underlying22 (sz := 9) (by kernel_rfl) (by omega) (f := fun y : {y : Lens // i64 y.n ∧ i64 y.value.n} => y.1.d) (fun y => Lens.width y.1) (trods_lensI N) n cs x (by omega) h
set_option maxRecDepth 100000 in
theorem par_lens (hval : Value.okWide Tryz.prog w0 .any b0 22 v) (h : DataW.Trod enc Tryz.prog w 0 sp hd 22 v d ps) : ∃ x : List Lens, (∀ y ∈ x, i64 y.n ∧ i64 y.value.n) ∧ Rd w Any (.sl (x.map Lens.d)) [v] := by
  obtain ⟨x, hx⟩ := par_sl Tryz.underlying22 hval h trods_lenssI
  refine ⟨x.map (·.1), fun y hy => ?_, by rw [List.map_map]; exact hx⟩
  obtain ⟨z, -, rfl⟩ := List.mem_map.1 hy
  exact z.2
end
end Go.Proofs.YtbkkjlcclddpdaaGreatDoor

/- The law LensPrints, lifted: the row and the tied card. (Printed by gen_lift14.py.) -/
namespace Go.Proofs.YtbkkjlcclddpdaaGreatDoor
open Go.ChangeShapes Go.WideShapes Go.ChangeAt Go.RowKit Go.Lib
set_option maxRecDepth 100000 in
theorem lensPrints_lifted (os : Os) (started : os.Started) (H : Type) (enc : TypeId × Value → H) :
    ReturnsInHanded {} Tryz.checked os 3 .any (fun w args => (Rows.lensPrintsSpec.pre enc Tryz.prog Tryz.f3 Rows.lensPrintsRow.domain false w args ∧ laidMetH Tryz.prog Rows.lensPrintsRow.laid w) ∧ sizedMet enc Tryz.prog Tryz.f3 (OpenSpec.ofChange Rows.lensPrintsSpec) false w args)
      (Rows.lensPrintsSpec.post enc Tryz.prog Tryz.f3 false true false false) := by
  refine returnsInHanded_three (C := Tryz.checked) (X := fun w _ => laidMetH Tryz.prog Rows.lensPrintsRow.laid w) Tryz.own started (by kernel_rfl) Tryz.func3
    (ChangeSpec.witness_shaped (enc := enc) (C := Tryz.checked) (os := os) (X := fun w _ => laidMetH Tryz.prog Rows.lensPrintsRow.laid w) false (World.laidAll Tryz.prog os Rows.lensPrintsRow.laid) #[.slice .none 0 0, .string ByteArray.empty] 8 (World.laidAll_os _ _ _)
      (World.shaped_of_ZipB (by kernel_rfl) (by kernel_rfl)) (by kernel_rfl) (by kernel_rfl) (by kernel_rfl)
      (by rw [MakeChecks.laidMetH_plain _ _ _ (by kernel_rfl)]; exact laidMet_laidAll _ (by kernel_rfl) (by kernel_rfl)))
    (fun w w' us hh hX => by rw [MakeChecks.laidMetH_plain _ _ _ (by kernel_rfl)] at hX ⊢; exact laidMet.of_heap hh hX) ?_
  intro W base args ds gs before hval0 hW _ hsh hlaid
  rw [MakeChecks.laidMetH_plain _ _ _ (by kernel_rfl)] at hlaid
  have hglob := glob14 hsh hlaid (by simp [Rows.lensPrintsRow]) (by simp [Rows.lensPrintsRow]) (by simp [Rows.lensPrintsRow])
  have hval : ∀ (j : Nat) t v, Tryz.f3.params[j]? = some t → args[j]? = some v → Value.okWide Tryz.prog W .any base t v := hval0
  have hW' := hW
  obtain ⟨p, q, hA0, hV, rfl, hfz, hnd⟩ := hW
  have hA : DataW.TrodAll enc Tryz.prog W 0 (fun _ => true) true Tryz.f3.params.toList args.toList ds p := hA0
  rw [Tryz.params3] at hA hval
  obtain ⟨v0, v1, d0, d1, p0, p1, rfl, rfl, rfl, h0, h1⟩ := trodAll_2_02 hA
  obtain ⟨rfl, rfl⟩ := trodVars_none hV
  obtain ⟨x0, n0, r0⟩ := par_lens (hval 0 _ v0 rfl rfl) h0
  obtain ⟨x1, rfl⟩ := par_str Tryz.underlying9 (hval 1 _ v1 rfl rfl)
  refine (calls_of_gives (vals := [v0, .string x1]) (lensPrints_g x0 x1 n0) ⟨_, _, rfl, Lens.flats r0, _, _, rfl, flat_str02, rfl⟩ hglob).mono ?_
  rintro r W' ⟨rfl, hb⟩
  exact ⟨_, rfl, law_post (P := Tryz.prog) Tryz.laidOut hW' rfl rfl (by kernel_rfl) Tryz.underlying4 (by kernel_rfl) hb⟩
theorem lensPrints_row : Rows.LensPrintsSaid :=
  OpenClaim.holds_of_wide 3 Tryz.f3 rfl rfl rfl rfl rfl rfl rfl ⟨rfl, rfl, rfl, rfl, rfl⟩ rfl rfl rfl rfl rfl (by kernel_rfl) Tryz.func3 (by kernel_rfl)
    (of_decide_eq_true (by kernel_rfl)) (by unfold Func.isWrapper; first | (rw [if_pos (by decide +kernel)]; kernel_rfl) | (rw [if_neg (by decide +kernel)]; exact ⟨rfl, rfl⟩))
    (fun os started H enc _ => lensPrints_lifted os started H enc)
theorem lensPrints_holds : Rows.LensPrintsCardSaid :=
  Claim7.holds_tied_plain_at .later [] [.data, .data, .data, .sentinel, .sentinel] true (true, "37ee94979087aae3786833705abdfdda4f29bf2bd51485dabcfa75dee9ddd430") true lensPrints_row (fun _ h => by cases h) (by kernel_rfl) (fun _ h => by cases h) lensPrints_row_tie rfl ⟨rfl, rfl⟩ (by kernel_rfl) rfl
    (fun f fn hf hfn => by
      obtain rfl : f = 3 := Option.some.inj ((show Tryz.prog.funcNamed "errata/erratalaw14.LensPrints" = some 3 by kernel_rfl).symm.trans hf) |>.symm
      obtain rfl : fn = Tryz.f3 := (Option.some.inj (Tryz.func3.symm.trans hfn)).symm
      exact ⟨by kernel_rfl, fun j t ht => by
        rw [Tryz.params3] at ht
        have hm : t ∈ [22, 9] := by simpa using Array.mem_of_getElem? ht
        have hall : ([22, 9].all fun u => !Tryz.prog.wantsStandIn u) = true := by kernel_rfl
        exact (show Tryz.prog.wantsStandIn t = false by simpa using List.all_eq_true.1 hall t hm)⟩)
    (by kernel_rfl)
end Go.Proofs.YtbkkjlcclddpdaaGreatDoor
