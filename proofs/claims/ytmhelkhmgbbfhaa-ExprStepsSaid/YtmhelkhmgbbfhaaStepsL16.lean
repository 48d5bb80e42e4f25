/- The law ExprSteps: for every input it returns true, and each argument reads afterwards as it read before. -/
import Derived.Test.YtmhelkhmgbbfhaaSound16
import Derived.Test.YtmhelkhmgbbfhaaRunW16
import Derived.Test.YtmhelkhmgbbfhaaStepsW16
import Derived.Test.YtmhelkhmgbbfhaaTrod16
import Derived.Test.YtmhelkhmgbbfhaaLaw
namespace Go.Proofs.Ytmhelkhmgbbfhaa
open Go.ChangeShapes Go.WideShapes Go.ChangeAt Go.RowKit Go.Lib

theorem levelsL_le_of {K : Int} : ∀ (l : List Ex) (n : Int), (∀ e ∈ l, levels e ≤ K) → n ≤ K → levelsL l n ≤ K
  | [], n, _, h => by rw [levelsL]; exact h
  | e :: l, n, h, hn => by
    rw [levelsL]
    exact levelsL_le_of l _ (fun x hx => h x (by simp [hx])) (by have := h e (by simp); omega)
theorem levels_le_steps {B : List Int} (hB : GoodS B) {m : Nat} (hm : m ≤ B.length) (e : Ex) : wfS m e = true → countE B e < 1099511627776 → levels e ≤ countE B e := by
  induction e using Ex.ind with
  | h op n s l ih =>
    intro hw hle
    rw [wfS, wfSL_all] at hw
    simp only [Bool.and_eq_true, List.all_eq_true, Bool.or_eq_true, Bool.not_eq_true', decide_eq_false_iff_not, decide_eq_true_eq] at hw
    obtain ⟨⟨hw1, hw2⟩, hw3⟩ := hw
    have hks : GoodS (countL B l) := countL_good _ hB l
    rw [countE] at hle ⊢
    obtain ⟨o1, o2⟩ := stepsOf_open hB hks (fun h => by rw [countL_map, List.length_map]; exact hw1.resolve_left (fun k => k h)) (fun h => by
      have := hw2.resolve_left (fun k => k h); omega) hle
    rw [levels]
    by_cases h21 : op = 21
    · obtain ⟨a, b, d, hk, hs⟩ := o1 h21
      rw [hs] at hle ⊢
      have hl3 : l.length = 3 := hw1.resolve_left (fun k => k h21)
      match l, hl3 with
      | [x, y, z], _ =>
        simp only [countL_map, List.map_cons, List.map_nil, List.cons.injEq, and_true] at hk
        obtain ⟨rfl, rfl, rfl⟩ := hk
        have hg := hks; rw [countL_map] at hg
        have g1 := hg (countE B x) (by simp)
        have g2 := hg (countE B y) (by simp)
        have g3 := hg (countE B z) (by simp)
        have i1 := ih x (by simp) (hw3 x (by simp)) (by omega)
        have i2 := ih y (by simp) (hw3 y (by simp)) (by omega)
        have i3 := ih z (by simp) (hw3 z (by simp)) (by omega)
        have := levelsL_le_of (K := countE B x + max (countE B y) (countE B z)) [x, y, z] 0 (by
          intro e he
          simp only [List.mem_cons, List.not_mem_nil, or_false] at he
          rcases he with rfl | rfl | rfl <;> omega) (by omega)
        omega
    · have hs := o2 h21
      rw [hs] at hle ⊢
      have hbd := goodS_getD hB n.toNat
      have h0 := sumI_nonneg hks
      have := levelsL_le_of (K := sumI (countL B l)) l 0 (fun e he => by
        have hmm := sumI_mem hks (k := countE B e) (by rw [countL_map]; exact List.mem_map_of_mem he)
        have := ih e he (hw3 e he) (by split at hle <;> omega)
        omega) h0
      split at hle <;> split <;> omega

set_option maxRecDepth 10000 in
set_option maxHeartbeats 2000000 in
theorem steps_law (F : List Fn) (e : Ex) (time : Int) (R : List Val) (vF vR : Value) (cs : List Value) (w : World) (hF : Rd w Any (.sl (F.map Fn.d)) [vF]) (hr : Rd w Any e.d cs) (hR : Rd w Any (.sl (R.map Val.d)) [vR]) :
    Calls Try.prog 4 #[vF, .agg cs.toArray, .int .i64 time, vR] w fun r w' => r = .returned (.bool true) ∧ Ext w w' := by
  obtain ⟨A, cap, b, off, rfl, hl1, hl2, hl3, hm⟩ := Ex.open hr
  have hF' := Lib.hid hF; have hr' := Lib.hid hr; have hR' := Lib.hid hR
  clear hF hr hR hm hl3
  have hcg := fun w' h1 h2 h3 => good_any F e R Any Any Any vF vR [.int .i64 e.op, .int .i64 e.n, .string e.s, .slice A e.args.length cap] w' h1 h2 h3
  cases hg : goodP F e R with
  | false =>
    rw [hg] at hcg
    have hcg' := Lib.hid hcg
    clear hcg hg
    go_enter Try.func4, Try.ntmps4
    go_wp2_with fail
    refine (small_any _).mono ?_
    rintro r w1 ⟨rfl, he⟩
    have e0 : w1.cell? ⟨w.heap.size, 0, none⟩ = some (.int .i64 e.op) := he.at (by go_simp)
    have e1 : w1.cell? ⟨w.heap.size, 1, none⟩ = some (.int .i64 e.n) := he.at (by go_simp)
    have e2 : w1.cell? ⟨w.heap.size, 2, none⟩ = some (.string e.s) := he.at (by go_simp)
    have e3 : w1.cell? ⟨w.heap.size, 3, none⟩ = some (.slice A e.args.length cap) := he.at (by go_simp)
    go_wp2_with fail
    refine (hcg'.out _ (hF'.out.ext (by repeat' first | exact Ext.refl _ | assumption | apply Ext.alloc | apply Ext.drew | apply Ext.drewN | (refine Ext.trans ?_ (by assumption)))) (hr'.out.ext (by repeat' first | exact Ext.refl _ | assumption | apply Ext.alloc | apply Ext.drew | apply Ext.drewN | (refine Ext.trans ?_ (by assumption)))) (hR'.out.ext (by repeat' first | exact Ext.refl _ | assumption | apply Ext.alloc | apply Ext.drew | apply Ext.drewN | (refine Ext.trans ?_ (by assumption))))).mono ?_
    rintro r w2 ⟨rfl, he2⟩
    go_wp2_with fail
    go_ret
    exact ⟨rfl, (by repeat' first | exact Ext.refl _ | assumption | apply Ext.alloc | apply Ext.drew | apply Ext.drewN | (refine Ext.trans ?_ (by assumption)))⟩
  | true =>
    rw [hg] at hcg
    have hcg' := Lib.hid hcg
    clear hcg
    obtain ⟨t, hT, hRF, hty, hOk, hFp, hpb, hlR, hsR, hlev⟩ := good_all hg
    have hst10 : stepsP F e ≤ 10000 := by
      unfold goodP at hg
      simp only [Bool.and_eq_true, decide_eq_true_eq] at hg
      exact hg.2
    have hF22 : F.length ≤ 22 := by
      unfold goodP at hg
      simp only [Bool.and_eq_true, decide_eq_true_eq] at hg
      exact (goodP_parts hg.1.1.1.1 hg.1.1.1.2 hg.1.1.2).1
    have hwf : wfS F.length e = true := wfS_of_ty e hty
    have hwF : ∀ i (h : i < F.length), wfS i F[i].body = true := fun i h => by
      have := wfS_of_ty _ (okF_body (hOk i h) (List.getElem?_eq_getElem h))
      rwa [List.length_take, Nat.min_eq_left (by omega)] at this
    have hcs := fun w' h1 h2 => Steps_any F e Any Any vF [.int .i64 e.op, .int .i64 e.n, .string e.s, .slice A e.args.length cap] w' h1 h2 hpb hFp (by omega) hwf hwF
    have hB : GoodS (bodiesS [] F) := bodiesS_good F [] (fun k hk => by simp at hk)
    have hlt : countE (bodiesS [] F) e < 1099511627776 := by unfold stepsP at hst10; omega
    have hty2 : ty (F.take F.length) (R.map Val.k) [] e = some t := by rw [List.take_length]; exact hty
    have hcr := fun w' h1 h2 h3 => run_any F time hOk hFp F.length e (R.map Val.k) [] R [] t vF vR (.slice none 0 0) [.int .i64 e.op, .int .i64 e.n, .string e.s, .slice A e.args.length cap] w' hty2 rfl rfl hsR (by simp) hpb hlt h1 h2 (Rd.nil none (by omega)) h3
    have hle := cnt_le (row := R) (params := []) time hOk F.length e hty2 hlt
    have hlv := levels_le_steps hB (m := F.length) (by rw [bodiesS_len]; omega) e hwf hlt
    have hcl := fun w' h1 => rlevels_any e Any [.int .i64 e.op, .int .i64 e.n, .string e.s, .slice A e.args.length cap] w' h1 (by omega)
    have hN : stepsP F e = countE (bodiesS [] F) e := rfl
    rw [← hN] at hle hlv
    generalize stepsP F e = N at *
    generalize levels e = LV at *
    generalize ev (callN F time F.length) time R [] e = Z at *
    generalize cnt (callN F time F.length) (cntN F time F.length) time R [] e = C at *
    obtain ⟨kz, nz, sz⟩ := Z
    simp only [cntV] at hcr
    have hcs' := Lib.hid hcs; have hcr' := Lib.hid hcr; have hcl' := Lib.hid hcl
    clear hcs hcr hcl hT hRF hty hty2 hOk hFp hpb hsR hlev hg hwf hwF hB hlt hN
    have hfd : ∀ X : World, (Instr.field 40 (.agg #[.int .i64 kz, .int .i64 nz, .string sz, .int .i64 C]) 1).run Try.prog X = .ok (.int .i64 C) X := fun _ => by kernel_rfl
    go_enter Try.func4, Try.ntmps4
    go_wp2_with fail
    refine (small_any _).mono ?_
    rintro r w1 ⟨rfl, he⟩
    have e0 : w1.cell? ⟨w.heap.size, 0, none⟩ = some (.int .i64 e.op) := he.at (by go_simp)
    have e1 : w1.cell? ⟨w.heap.size, 1, none⟩ = some (.int .i64 e.n) := he.at (by go_simp)
    have e2 : w1.cell? ⟨w.heap.size, 2, none⟩ = some (.string e.s) := he.at (by go_simp)
    have e3 : w1.cell? ⟨w.heap.size, 3, none⟩ = some (.slice A e.args.length cap) := he.at (by go_simp)
    go_wp2_with fail
    refine (hcg'.out _ (hF'.out.ext (by repeat' first | exact Ext.refl _ | assumption | apply Ext.alloc | apply Ext.drew | apply Ext.drewN | (refine Ext.trans ?_ (by assumption)))) (hr'.out.ext (by repeat' first | exact Ext.refl _ | assumption | apply Ext.alloc | apply Ext.drew | apply Ext.drewN | (refine Ext.trans ?_ (by assumption)))) (hR'.out.ext (by repeat' first | exact Ext.refl _ | assumption | apply Ext.alloc | apply Ext.drew | apply Ext.drewN | (refine Ext.trans ?_ (by assumption))))).mono ?_
    rintro r w2 ⟨rfl, he2⟩
    have e0 := he2.at e0
    have e1 := he2.at e1
    have e2 := he2.at e2
    have e3 := he2.at e3
    have hw2 : Ext w w2 := (by repeat' first | exact Ext.refl _ | assumption | apply Ext.alloc | apply Ext.drew | apply Ext.drewN | (refine Ext.trans ?_ (by assumption)))
    clear he he2
    go_wp2_with fail
    refine (hcs'.out _ (hF'.out.ext hw2) (hr'.out.ext hw2)).mono ?_
    rintro r w3 ⟨rfl, he3⟩
    have e0 := he3.at e0
    have e1 := he3.at e1
    have e2 := he3.at e2
    have e3 := he3.at e3
    have hw3 : Ext w w3 := hw2.trans he3
    clear he3 hw2
    go_wp2_with fail
    refine (hcr'.out _ (hF'.out.ext hw3) (hR'.out.ext hw3) (hr'.out.ext hw3)).mono ?_
    rintro r w4 ⟨rfl, he4⟩
    have e0 := he4.at e0
    have e1 := he4.at e1
    have e2 := he4.at e2
    have e3 := he4.at e3
    have hw4 : Ext w w4 := hw3.trans he4
    clear he4 hw3
    go_wp2_with fail
    refine (hcl'.out _ (hr'.out.ext hw4)).mono ?_
    rintro r w5 ⟨rfl, he5⟩
    go_wp2_with fail
    go_ret
    exact ⟨rfl, hw4.trans he5⟩

set_option maxRecDepth 100000 in
theorem steps_lifted (os : Os) (started : os.Started) (H : Type) (enc : TypeId × Value → H) :
    ReturnsInHanded {} Try.checked os 4 .any (Rows.exprStepsSpec.pre6 enc Try.prog Try.f4 Rows.exprStepsRow.domain false) (Rows.exprStepsSpec.post enc Try.prog Try.f4 false true false false) := by
  refine returnsInHanded_of_change (C := Try.checked) Try.own started (by kernel_rfl) Try.func4
    (ChangeSpec.witness6 (enc := enc) (C := Try.checked) false ⟨#[], #[.slice .none 0 0, .agg #[.int .i64 0, .int .i64 0, .string ByteArray.empty, .slice .none 0 0], .int .i64 0, .slice .none 0 0], []⟩ 8 (by kernel_rfl) (by kernel_rfl) (by kernel_rfl) (by kernel_rfl)) ?_
  intro W base args ds gs before hval0 hW hcnd _
  have hval : ∀ (j : Nat) t v, Try.f4.params[j]? = some t → args[j]? = some v → Value.okWide Try.prog W .any base t v := hval0
  have hW' := hW
  obtain ⟨p, q, hA0, hV, rfl, hfz, hnd⟩ := hW
  have hA : DataW.TrodAll enc Try.prog W 0 (fun _ => true) true Try.f4.params.toList args.toList ds p := hA0
  rw [Try.params4] at hA hval
  obtain ⟨v0, v1, v2, v3, d0, d1, d2, d3, p0, p1, p2, p3, rfl, rfl, rfl, h0, h1, h2, h3⟩ := trodAll_four hA
  obtain ⟨rfl, rfl⟩ := trodVars_none hV
  obtain ⟨F, hF⟩ := par_sl Try.underlying22 (hval 0 _ v0 rfl rfl) h0 trods_fns
  obtain ⟨e, cs, rfl, he⟩ := par_st Try.underlying25 (hval 1 _ v1 rfl rfl) h1 trods_ex
  obtain ⟨time, rfl⟩ := par_int Try.underlying3 (hval 2 _ v2 rfl rfl)
  obtain ⟨R, hR⟩ := par_sl Try.underlying26 (hval 3 _ v3 rfl rfl) h3 trods_vals
  refine (steps_law F e time R v0 v3 cs W hF he hR).mono ?_
  rintro r W' ⟨rfl, hb⟩
  exact ⟨_, rfl, law_post (P := Try.prog) Try.laidOut hW' rfl rfl (by kernel_rfl) Try.underlying4 (by kernel_rfl) hb⟩

theorem steps_holds : Rows.ExprStepsSaid :=
  OpenClaim.holds_of_wide 4 Try.f4 rfl rfl rfl rfl rfl rfl rfl ⟨rfl, rfl, rfl, rfl, rfl⟩ rfl rfl rfl rfl rfl (by kernel_rfl) Try.func4 (by kernel_rfl)
    (of_decide_eq_true (by kernel_rfl)) (by unfold Func.isWrapper; rw [if_neg (by decide +kernel)]; exact ⟨rfl, rfl⟩)
    (fun os started H enc _ => steps_lifted os started H enc)
end Go.Proofs.Ytmhelkhmgbbfhaa
