/- Walk: what is good. -/
import Derived.Deep.RegionHeld3
import Derived.Test.YtmhelkhmgbbfhaaProg
import Derived.KernelRfl
import Derived.Test.YtmhelkhmgbbfhaaGa1
import Derived.Test.YtmhelkhmgbbfhaaGa3
import Derived.Test.YtmhelkhmgbbfhaaGa9
import Derived.Test.YtmhelkhmgbbfhaaGa22
set_option linter.unusedSimpArgs false
set_option linter.unusedVariables false
namespace Go.Proofs.Ytmhelkhmgbbfhaa
open Go.RowKit Go.Lib

def goodP (F : List Fn) (e : Ex) (R : List Val) : Bool :=
  fair F && decide (0 ≤ light e 100 20) && fitsR R && (typeP F (R.map Val.k) [] e).isSome && decide (stepsP F e ≤ 10000)

theorem goodP_parts {F : List Fn} {e : Ex} {R : List Val} (h1 : fair F = true) (h2 : 0 ≤ light e 100 20) (h3 : fitsR R = true) : F.length ≤ 22 ∧ (∀ f ∈ F, parts f.body ≤ 1000000) ∧ parts e ≤ 1000000 ∧ R.length ≤ 20 := by
  unfold fair at h1
  simp only [Bool.and_eq_true, List.all_eq_true, decide_eq_true_eq] at h1
  unfold fitsR at h3
  simp only [Bool.and_eq_true, List.all_eq_true, decide_eq_true_eq] at h3
  refine ⟨by omega, fun f hf => ?_, ?_, by omega⟩
  · have h := h1.1 f hf
    unfold fairB at h
    simp only [Bool.and_eq_true, decide_eq_true_eq] at h
    have := parts_of_light (by omega) h.1; omega
  · have := parts_of_light (by omega) h2; omega

set_option maxRecDepth 10000 in
set_option maxHeartbeats 2000000 in
theorem good_any (F : List Fn) (e : Ex) (R : List Val) (S S1 S2 : Nat → Prop) (vF vR : Value) (cs : List Value) (w : World) (hF : Rd w S (.sl (F.map Fn.d)) [vF]) (hr : Rd w S1 e.d cs) (hR : Rd w S2 (.sl (R.map Val.d)) [vR]) :
    Calls Try.prog 10 #[vF, .agg cs.toArray, vR] w fun r w' => r = .returned (.bool (goodP F e R)) ∧ Ext w w' := by
  obtain ⟨A, cap, b, off, rfl, hl1, hl2, hl3, hm⟩ := Ex.open hr
  have hF' := Lib.hid hF; have hr' := Lib.hid hr; have hR' := Lib.hid hR
  clear hF hr hR hm hl3
  have hcf := fair_any F S vF
  cases hfair : fair F with
  | false =>
    rw [hfair] at hcf
    have hcf' := Lib.hid hcf
    have H := Lib.hid (show goodP F e R = false by unfold goodP; rw [hfair]; rfl)
    clear hcf hfair
    go_enter Try.func10, Try.ntmps10
    go_wp2_with fail
    refine (hcf'.out _ (hF'.out.ext (by repeat' first | exact Ext.refl _ | assumption | apply Ext.alloc | apply Ext.drew | apply Ext.drewN | (refine Ext.trans ?_ (by assumption))))).mono ?_
    rintro r w1 ⟨rfl, he⟩
    go_wp2_with fail
    go_ret
    exact ⟨ret_bool (by rw [H.out]), (by repeat' first | exact Ext.refl _ | assumption | apply Ext.alloc | apply Ext.drew | apply Ext.drewN | (refine Ext.trans ?_ (by assumption)))⟩
  | true =>
  rw [hfair] at hcf
  have hcf' := Lib.hid hcf
  clear hcf
  by_cases hlight : light e 100 20 < 0
  · have H := Lib.hid (show goodP F e R = false by unfold goodP; rw [decide_eq_false (p := 0 ≤ light e 100 20) (by omega)]; simp)
    clear hfair
    go_enter Try.func10, Try.ntmps10
    go_wp2_with fail
    refine (hcf'.out _ (hF'.out.ext (by repeat' first | exact Ext.refl _ | assumption | apply Ext.alloc | apply Ext.drew | apply Ext.drewN | (refine Ext.trans ?_ (by assumption))))).mono ?_
    rintro r w1 ⟨rfl, he⟩
    have hcs := he.cells
    go_wp2_with fail
    refine (light_any e S1 _ 100 20 w1 (hr'.out.ext (by repeat' first | exact Ext.refl _ | assumption | apply Ext.alloc | apply Ext.drew | apply Ext.drewN | (refine Ext.trans ?_ (by assumption)))) (by omega) (by omega) (by omega) (by omega)).mono ?_
    rintro r w2 ⟨rfl, he2⟩
    go_wp2_with fail
    go_ret
    exact ⟨ret_bool (by rw [H.out]), (by repeat' first | exact Ext.refl _ | assumption | apply Ext.alloc | apply Ext.drew | apply Ext.drewN | (refine Ext.trans ?_ (by assumption)))⟩
  have hcr := fits_any R S2 vR
  cases hfits : fitsR R with
  | false =>
    rw [hfits] at hcr
    have hcr' := Lib.hid hcr
    have H := Lib.hid (show goodP F e R = false by unfold goodP; rw [hfits]; simp)
    clear hcr hfits hfair
    go_enter Try.func10, Try.ntmps10
    go_wp2_with fail
    refine (hcf'.out _ (hF'.out.ext (by repeat' first | exact Ext.refl _ | assumption | apply Ext.alloc | apply Ext.drew | apply Ext.drewN | (refine Ext.trans ?_ (by assumption))))).mono ?_
    rintro r w1 ⟨rfl, he⟩
    have hcs := he.cells
    go_wp2_with fail
    refine (light_any e S1 _ 100 20 w1 (hr'.out.ext (by repeat' first | exact Ext.refl _ | assumption | apply Ext.alloc | apply Ext.drew | apply Ext.drewN | (refine Ext.trans ?_ (by assumption)))) (by omega) (by omega) (by omega) (by omega)).mono ?_
    rintro r w2 ⟨rfl, he2⟩
    go_wp2_with fail
    refine (hcr'.out w2 (hR'.out.ext (by repeat' first | exact Ext.refl _ | assumption | apply Ext.alloc | apply Ext.drew | apply Ext.drewN | (refine Ext.trans ?_ (by assumption))))).mono ?_
    rintro r w3 ⟨rfl, he3⟩
    go_wp2_with fail
    go_ret
    exact ⟨ret_bool (by rw [H.out]), (by repeat' first | exact Ext.refl _ | assumption | apply Ext.alloc | apply Ext.drew | apply Ext.drewN | (refine Ext.trans ?_ (by assumption)))⟩
  | true =>
  rw [hfits] at hcr
  have hcr' := Lib.hid hcr
  clear hcr
  obtain ⟨hp1, hp2, hp3, hp4⟩ := goodP_parts (e := e) hfair (by omega) hfits
  have hG := Lib.hid (show goodP F e R = ((typeP F (R.map Val.k) [] e).isSome && decide (stepsP F e ≤ 10000)) by
    unfold goodP; rw [hfair, hfits, decide_eq_true (p := 0 ≤ light e 100 20) (by omega)]; rfl)
  have hp2' := Lib.hid hp2
  have hl0 : 0 ≤ light e 100 20 := by omega
  have hty := fun (vc : Value) (w' : World) (h1 : Rd w' S (.sl (F.map Fn.d)) [vF]) (h2 : Rd w' Any (.sl ((R.map Val.k).map D.int)) [vc]) (h3 : Rd w' S1 e.d [.int .i64 e.op, .int .i64 e.n, .string e.s, .slice A e.args.length cap]) =>
    rtype_any F (R.map Val.k) [] e S Any Any S1 vF vc (.slice none 0 0) _ w' h1 h2 (Rd.nil none (by omega)) h3 hp3 hp2
  clear hfair hfits hp2
  cases hT : typeP F (R.map Val.k) [] e with
  | none =>
    simp only [hT] at hty
    have hty' := Lib.hid hty
    have hT' := Lib.hid hT
    clear hty hT
    go_enter Try.func10, Try.ntmps10
    go_wp2_with fail
    refine (hcf'.out _ (hF'.out.ext (by repeat' first | exact Ext.refl _ | assumption | apply Ext.alloc | apply Ext.drew | apply Ext.drewN | (refine Ext.trans ?_ (by assumption))))).mono ?_
    rintro r w1 ⟨rfl, he⟩
    have hcs := he.cells
    go_wp2_with fail
    refine (light_any e S1 _ 100 20 w1 (hr'.out.ext (by repeat' first | exact Ext.refl _ | assumption | apply Ext.alloc | apply Ext.drew | apply Ext.drewN | (refine Ext.trans ?_ (by assumption)))) (by omega) (by omega) (by omega) (by omega)).mono ?_
    rintro r w2 ⟨rfl, he2⟩
    go_wp2_with fail
    refine (hcr'.out w2 (hR'.out.ext (by repeat' first | exact Ext.refl _ | assumption | apply Ext.alloc | apply Ext.drew | apply Ext.drewN | (refine Ext.trans ?_ (by assumption))))).mono ?_
    rintro r w3 ⟨rfl, he3⟩
    clear hcs
    have hw3 : Ext w w3 := (by repeat' first | exact Ext.refl _ | assumption | apply Ext.alloc | apply Ext.drew | apply Ext.drewN | (refine Ext.trans ?_ (by assumption)))
    have e0 : w3.cell? ⟨w.heap.size, 0, none⟩ = some (.int .i64 e.op) := he3.at (he2.at (he.at (by go_simp)))
    have e1 : w3.cell? ⟨w.heap.size, 1, none⟩ = some (.int .i64 e.n) := he3.at (he2.at (he.at (by go_simp)))
    have e2 : w3.cell? ⟨w.heap.size, 2, none⟩ = some (.string e.s) := he3.at (he2.at (he.at (by go_simp)))
    have e3 : w3.cell? ⟨w.heap.size, 3, none⟩ = some (.slice A e.args.length cap) := he3.at (he2.at (he.at (by go_simp)))
    clear he he2 he3
    go_wp2_with fail
    go_region_held3 (fun w' => w'.cell? ⟨w.heap.size, 0, none⟩ = some (.int .i64 e.op) ∧ w'.cell? ⟨w.heap.size, 1, none⟩ = some (.int .i64 e.n) ∧ w'.cell? ⟨w.heap.size, 2, none⟩ = some (.string e.s) ∧ w'.cell? ⟨w.heap.size, 3, none⟩ = some (.slice A e.args.length cap))
      (first
        | exact ⟨e0, e1, e2, e3⟩
        | exact ⟨he4.at e0, he4.at e1, he4.at e2, he4.at e3⟩
        | exact ⟨he5.at (he4.at e0), he5.at (he4.at e1), he5.at (he4.at e2), he5.at (he4.at e3)⟩)
      ((first
        | (go_at_call 12; refine (kinds_any R S2 vR _ (hR'.out.ext (hw3.trans (Ext.refl _).drew)) (by omega)).mono ?_; rintro r w4 ⟨⟨v', rfl, hown⟩, he4⟩)
        | (go_at_call 31; refine (hty'.out _ w4 (hF'.out.ext ((hw3.trans (Ext.refl _).drew).trans he4)) (own_ints hown (fun _ _ => trivial)) (hr'.out.ext ((hw3.trans (Ext.refl _).drew).trans he4))).mono ?_; rintro r w5 ⟨rfl, he5⟩)))
    have hw5 : Ext w w5 := ((hw3.trans (Ext.refl _).drew).trans he4).trans he5
    go_wp2_with fail
    go_ret
    exact ⟨ret_bool (by rw [hG.out, hT'.out]; rfl), hw5⟩
  | some t =>
    simp only [hT] at hty
    have hty' := Lib.hid hty
    have hT' := Lib.hid hT
    clear hty hT
    go_enter Try.func10, Try.ntmps10
    go_wp2_with fail
    refine (hcf'.out _ (hF'.out.ext (by repeat' first | exact Ext.refl _ | assumption | apply Ext.alloc | apply Ext.drew | apply Ext.drewN | (refine Ext.trans ?_ (by assumption))))).mono ?_
    rintro r w1 ⟨rfl, he⟩
    have hcs := he.cells
    go_wp2_with fail
    refine (light_any e S1 _ 100 20 w1 (hr'.out.ext (by repeat' first | exact Ext.refl _ | assumption | apply Ext.alloc | apply Ext.drew | apply Ext.drewN | (refine Ext.trans ?_ (by assumption)))) (by omega) (by omega) (by omega) (by omega)).mono ?_
    rintro r w2 ⟨rfl, he2⟩
    go_wp2_with fail
    refine (hcr'.out w2 (hR'.out.ext (by repeat' first | exact Ext.refl _ | assumption | apply Ext.alloc | apply Ext.drew | apply Ext.drewN | (refine Ext.trans ?_ (by assumption))))).mono ?_
    rintro r w3 ⟨rfl, he3⟩
    clear hcs
    have hw3 : Ext w w3 := (by repeat' first | exact Ext.refl _ | assumption | apply Ext.alloc | apply Ext.drew | apply Ext.drewN | (refine Ext.trans ?_ (by assumption)))
    have e0 : w3.cell? ⟨w.heap.size, 0, none⟩ = some (.int .i64 e.op) := he3.at (he2.at (he.at (by go_simp)))
    have e1 : w3.cell? ⟨w.heap.size, 1, none⟩ = some (.int .i64 e.n) := he3.at (he2.at (he.at (by go_simp)))
    have e2 : w3.cell? ⟨w.heap.size, 2, none⟩ = some (.string e.s) := he3.at (he2.at (he.at (by go_simp)))
    have e3 : w3.cell? ⟨w.heap.size, 3, none⟩ = some (.slice A e.args.length cap) := he3.at (he2.at (he.at (by go_simp)))
    clear he he2 he3
    go_wp2_with fail
    go_region_held3 (fun w' => w'.cell? ⟨w.heap.size, 0, none⟩ = some (.int .i64 e.op) ∧ w'.cell? ⟨w.heap.size, 1, none⟩ = some (.int .i64 e.n) ∧ w'.cell? ⟨w.heap.size, 2, none⟩ = some (.string e.s) ∧ w'.cell? ⟨w.heap.size, 3, none⟩ = some (.slice A e.args.length cap))
      (first
        | exact ⟨e0, e1, e2, e3⟩
        | exact ⟨he4.at e0, he4.at e1, he4.at e2, he4.at e3⟩
        | exact ⟨he5.at (he4.at e0), he5.at (he4.at e1), he5.at (he4.at e2), he5.at (he4.at e3)⟩)
      ((first
        | (go_at_call 12; refine (kinds_any R S2 vR _ (hR'.out.ext (hw3.trans (Ext.refl _).drew)) (by omega)).mono ?_; rintro r w4 ⟨⟨v', rfl, hown⟩, he4⟩)
        | (go_at_call 31; refine (hty'.out _ w4 (hF'.out.ext ((hw3.trans (Ext.refl _).drew).trans he4)) (own_ints hown (fun _ _ => trivial)) (hr'.out.ext ((hw3.trans (Ext.refl _).drew).trans he4))).mono ?_; rintro r w5 ⟨rfl, he5⟩)))
    have hw5 : Ext w w5 := ((hw3.trans (Ext.refl _).drew).trans he4).trans he5
    have e0 := he4.at e0
    have e1 := he4.at e1
    have e2 := he4.at e2
    have e3 := he4.at e3
    have e0 := he5.at e0
    have e1 := he5.at e1
    have e2 := he5.at e2
    have e3 := he5.at e3
    have hst := rsteps_any F e S1 S vF _ w5 (hF'.out.ext hw5) (hr'.out.ext hw5) hp3 hp2'.out (by omega)
    have hst' := Lib.hid hst; clear hst
    go_wp2_with fail
    refine (hst'.out).mono ?_
    rintro r w6 ⟨rfl, he6⟩
    go_wp2_with fail
    go_ret
    exact ⟨ret_bool (by rw [hG.out, hT'.out]; rfl), hw5.trans he6⟩

end Go.Proofs.Ytmhelkhmgbbfhaa

/- Walk: the law ExprSound. -/
namespace Go.Proofs.Ytmhelkhmgbbfhaa
open Go.RowKit Go.Lib

theorem good_all {F : List Fn} {e : Ex} {R : List Val} (h : goodP F e R = true) : ∃ t, typeP F (R.map Val.k) [] e = some t ∧ rightF F = true ∧ ty F (R.map Val.k) [] e = some t ∧ (∀ i, i < F.length → okF F i = true) ∧ (∀ f ∈ F, parts f.body ≤ 1000000) ∧ parts e ≤ 1000000 ∧ R.length ≤ 20 ∧ (∀ v ∈ R, soundV v) ∧ levels e ≤ 12 := by
  unfold goodP at h
  simp only [Bool.and_eq_true, decide_eq_true_eq] at h
  obtain ⟨⟨⟨⟨h1, h2⟩, h3⟩, h4⟩, h5⟩ := h
  obtain ⟨-, p2, p3, p4⟩ := goodP_parts h1 h2 h3
  obtain ⟨t, ht⟩ := Option.isSome_iff_exists.1 h4
  have htD := ht
  unfold typeP at htD
  split at htD
  · rename_i hF
    unfold tyD at htD
    split at htD
    · cases htD
    · rename_i hlev
      refine ⟨t, ht, hF, htD, ?_, p2, p3, p4, ?_, by omega⟩
      · unfold rightF at hF
        simp only [Bool.and_eq_true, List.all_eq_true, List.mem_range] at hF
        exact hF.2
      · unfold fitsR at h3
        simp only [Bool.and_eq_true, List.all_eq_true] at h3
        intro v hv
        have := h3.1 v hv
        unfold fitB at this
        simp only [Bool.and_eq_true, decide_eq_true_eq] at this
        exact ⟨this.1, by omega⟩
  · cases htD

set_option maxRecDepth 10000 in
set_option maxHeartbeats 2000000 in
theorem sound_any (F : List Fn) (e : Ex) (time : Int) (R : List Val) (vF vR : Value) (cs : List Value) (w : World) (hF : Rd w Any (.sl (F.map Fn.d)) [vF]) (hr : Rd w Any e.d cs) (hR : Rd w Any (.sl (R.map Val.d)) [vR]) :
    Calls Try.prog 3 #[vF, .agg cs.toArray, .int .i64 time, vR] w fun r w' => r = .returned (.bool true) ∧ Ext w w' := by
  obtain ⟨A, cap, b, off, rfl, hl1, hl2, hl3, hm⟩ := Ex.open hr
  have hF' := Lib.hid hF; have hr' := Lib.hid hr; have hR' := Lib.hid hR
  clear hF hr hR hm hl3
  have hcg := fun w' h1 h2 h3 => good_any F e R Any Any Any vF vR [.int .i64 e.op, .int .i64 e.n, .string e.s, .slice A e.args.length cap] w' h1 h2 h3
  cases hg : goodP F e R with
  | false =>
    rw [hg] at hcg
    have hcg' := Lib.hid hcg
    clear hcg hg
    go_enter Try.func3, Try.ntmps3
    go_wp2_with fail
    refine (small_any _).mono ?_
    rintro r w1 ⟨rfl, he⟩
    have e0 : w1.cell? ⟨w.heap.size, 0, none⟩ = some (.int .i64 e.op) := he.at (by go_simp)
    have e1 : w1.cell? ⟨w.heap.size, 1, none⟩ = some (.int .i64 e.n) := he.at (by go_simp)
    have e2 : w1.cell? ⟨w.heap.size, 2, none⟩ = some (.string e.s) := he.at (by go_simp)
    have e3 : w1.cell? ⟨w.heap.size, 3, none⟩ = some (.slice A e.args.length cap) := he.at (by go_simp)
    go_wp2_with fail
    refine (hcg'.out _ (hF'.out.ext (by repeat' first | exact Ext.refl _ | assumption | apply Ext.alloc | apply Ext.drew | apply Ext.drewN | (refine Ext.trans ?_ (by assumption)))) (hr'.out.ext (by repeat' first | exact Ext.refl _ | assumption | apply Ext.alloc | apply Ext.drew | apply Ext.drewN | (refine Ext.trans ?_ (by assumption)))) (hR'.out.ext (by repeat' first | exact Ext.refl _ | assumption | apply Ext.alloc | apply Ext.drew | apply Ext.drewN | (refine Ext.trans ?_ (by assumption))))).mono ?_
    rintro r w2 ⟨rfl, he2⟩
    go_wp2_with fail
    go_ret
    exact ⟨rfl, (by repeat' first | exact Ext.refl _ | assumption | apply Ext.alloc | apply Ext.drew | apply Ext.drewN | (refine Ext.trans ?_ (by assumption)))⟩
  | true =>
    rw [hg] at hcg
    have hcg' := Lib.hid hcg
    clear hcg
    obtain ⟨t, hT, hRF, hty, hOk, hFp, hpb, hlR, hsR, hlev⟩ := good_all hg
    have hct := fun (vc : Value) (w' : World) (h1 : Rd w' Any (.sl (F.map Fn.d)) [vF]) (h2 : Rd w' Any (.sl ((R.map Val.k).map D.int)) [vc]) (h3 : Rd w' Any e.d [.int .i64 e.op, .int .i64 e.n, .string e.s, .slice A e.args.length cap]) =>
      type_any F (R.map Val.k) [] e Any Any Any Any vF vc (.slice none 0 0) _ w' h1 h2 (Rd.nil none (by omega)) h3 hpb hFp
    simp only [hT, Option.getD_some, Option.isSome_some] at hct
    have hct' := Lib.hid hct
    have hev := fun w' h1 h2 h3 => Eval_any F time R e t hOk hFp hpb hty hsR vF vR [.int .i64 e.op, .int .i64 e.n, .string e.s, .slice A e.args.length cap] w' h1 h2 h3
    obtain ⟨hk, hs1, hs2⟩ := ev_sound (F := F) time hOk F.length e (by rw [List.take_length]; exact hty) rfl rfl hsR (show ∀ v ∈ ([] : List Val), soundV v by simp)
    have hZ : evalP F time R e = ev (callN F time F.length) time R [] e := rfl
    rw [← hZ] at hk hs1 hs2
    clear hZ
    have hri := fun w' => rightV_any (evalP F time R e) w'
    rw [hs1] at hri
    clear hT hRF hty hOk hFp hpb hsR hlev hct hg hs1
    generalize evalP F time R e = Z at *
    obtain ⟨kz, nz, sz⟩ := Z
    simp only [Val.v] at *
    subst hk
    have hev' := Lib.hid hev; have hri' := Lib.hid hri
    have hs3 : (sz.size : Int) ≤ 200 := by omega
    clear hev hri
    go_enter Try.func3, Try.ntmps3
    go_wp2_with fail
    refine (small_any _).mono ?_
    rintro r w1 ⟨rfl, he⟩
    have e0 : w1.cell? ⟨w.heap.size, 0, none⟩ = some (.int .i64 e.op) := he.at (by go_simp)
    have e1 : w1.cell? ⟨w.heap.size, 1, none⟩ = some (.int .i64 e.n) := he.at (by go_simp)
    have e2 : w1.cell? ⟨w.heap.size, 2, none⟩ = some (.string e.s) := he.at (by go_simp)
    have e3 : w1.cell? ⟨w.heap.size, 3, none⟩ = some (.slice A e.args.length cap) := he.at (by go_simp)
    go_wp2_with fail
    refine (hcg'.out _ (hF'.out.ext (by repeat' first | exact Ext.refl _ | assumption | apply Ext.alloc | apply Ext.drew | apply Ext.drewN | (refine Ext.trans ?_ (by assumption)))) (hr'.out.ext (by repeat' first | exact Ext.refl _ | assumption | apply Ext.alloc | apply Ext.drew | apply Ext.drewN | (refine Ext.trans ?_ (by assumption)))) (hR'.out.ext (by repeat' first | exact Ext.refl _ | assumption | apply Ext.alloc | apply Ext.drew | apply Ext.drewN | (refine Ext.trans ?_ (by assumption))))).mono ?_
    rintro r w2 ⟨rfl, he2⟩
    replace e0 := he2.at e0; replace e1 := he2.at e1; replace e2 := he2.at e2; replace e3 := he2.at e3
    have hw3 : Ext w w2 := (by repeat' first | exact Ext.refl _ | assumption | apply Ext.alloc | apply Ext.drew | apply Ext.drewN | (refine Ext.trans ?_ (by assumption)))
    clear he he2
    go_wp2_with fail
    go_region_held3 (fun w' => w'.cell? ⟨w.heap.size, 0, none⟩ = some (.int .i64 e.op) ∧ w'.cell? ⟨w.heap.size, 1, none⟩ = some (.int .i64 e.n) ∧ w'.cell? ⟨w.heap.size, 2, none⟩ = some (.string e.s) ∧ w'.cell? ⟨w.heap.size, 3, none⟩ = some (.slice A e.args.length cap))
      (first
        | exact ⟨e0, e1, e2, e3⟩
        | exact ⟨he4.at e0, he4.at e1, he4.at e2, he4.at e3⟩
        | exact ⟨he5.at (he4.at e0), he5.at (he4.at e1), he5.at (he4.at e2), he5.at (he4.at e3)⟩)
      ((first
        | (go_at_call 12; refine (kinds_any R Any vR _ (hR'.out.ext (hw3.trans (Ext.refl _).drew)) (by omega)).mono ?_; rintro r w4 ⟨⟨v', rfl, hown⟩, he4⟩)
        | (go_at_call 11; refine (hct'.out _ w4 (hF'.out.ext ((hw3.trans (Ext.refl _).drew).trans he4)) (own_ints hown (fun _ _ => trivial)) (hr'.out.ext ((hw3.trans (Ext.refl _).drew).trans he4))).mono ?_; rintro r w5 ⟨rfl, he5⟩)))
    have hw5 : Ext w w5 := ((hw3.trans (Ext.refl _).drew).trans he4).trans he5
    clear hown he4 he5 hw3
    go_wp2_with fail
    refine (hev'.out _ (hF'.out.ext hw5) (hR'.out.ext hw5) (hr'.out.ext hw5)).mono ?_
    rintro r w6 ⟨rfl, he6⟩
    have hw6 : Ext w w6 := hw5.trans he6
    clear hw5 he6
    go_wp2_with fail
    refine (hri'.out _).mono ?_
    rintro r w7 ⟨rfl, he7⟩
    have z0 : w7.cell? ⟨w6.heap.size, 0, none⟩ = some (.int .i64 kz) := he7.at (by go_simp)
    have z1 : w7.cell? ⟨w6.heap.size, 1, none⟩ = some (.int .i64 nz) := he7.at (by go_simp)
    have z2 : w7.cell? ⟨w6.heap.size, 2, none⟩ = some (.string sz) := he7.at (by go_simp)
    have hw7 : Ext w w7 := hw6.trans (((Ext.refl _).alloc _).trans he7)
    clear he7 hw6
    go_wp2_with fail
    go_ret
    exact ⟨rfl, hw7⟩
end Go.Proofs.Ytmhelkhmgbbfhaa

/- More contracts of layer 16, as abstract ones. -/
namespace Go.Proofs.Ytmhelkhmgbbfhaa
open Go.RowKit Go.Lib

theorem ints_av (L : List Int) : (D.sl (L.map D.int)).av = .sl (L.map AV.int) := by
  rw [D.av, D.avs_map, List.map_map]; rfl
theorem vals_av (L : List Val) : (D.sl (L.map Val.d)).av = .sl (L.map Val.av) := by
  rw [D.av, D.avs_map, List.map_map, List.map_congr_left (f := D.av ∘ Val.d) (g := Val.av) fun x _ => x.d_av]
theorem fns_av (L : List Fn) : (D.sl (L.map Fn.d)).av = .sl (L.map Fn.av) := by
  rw [D.av, D.avs_map, List.map_map, List.map_congr_left (f := D.av ∘ Fn.d) (g := Fn.av) fun x _ => x.d_av]
theorem arg_vals {X : St} {L : List Val} {v : Value} (h : RR1 X (.sl (L.map Val.av)) v) : Rd X.w Any (.sl (L.map Val.d)) [v] :=
  rd_of_rc _ _ (by rw [vals_av]; exact h)
theorem arg_fns {X : St} {L : List Fn} {v : Value} (h : RR1 X (.sl (L.map Fn.av)) v) : Rd X.w Any (.sl (L.map Fn.d)) [v] :=
  rd_of_rc _ _ (by rw [fns_av]; exact h)

theorem flat_r1s {X : St} : ∀ (l : List Value), (∀ x ∈ l, (AV.v x).one = true) → R1s X (l.map .v) l
  | [], _ => by rw [List.map_nil, R1s]
  | x :: l, h => by
    rw [List.map_cons, R1s]
    exact ⟨x, l, rfl, h x (by simp), by rw [RC], flat_r1s l fun y hy => h y (by simp [hy])⟩

theorem small_g : Gives Try.prog 9 [] (.bool true) :=
  gives_v fun X vals ha => by cases ha; exact small_any X.w
theorem good_g (F : List Fn) (e : Ex) (R : List Val) : Gives Try.prog 10 [.sl (F.map Fn.av), e.av, .sl (R.map Val.av)] (.bool (goodP F e R)) :=
  gives_v fun X vals ha => by
    obtain ⟨v0, _, rfl, h0, v1, _, rfl, h1, v2, _, rfl, h2, h3⟩ := ha
    cases h3
    obtain ⟨cs, rfl, hr⟩ := arg_ex h1
    exact good_any F e R Any Any Any v0 v2 cs X.w (arg_fns h0) hr (arg_vals h2)
theorem light_g (e : Ex) (n lv : Int) (h1 : 0 ≤ n) (h2 : n ≤ 1000) (h3 : -10 ≤ lv) (h4 : lv ≤ 20) : Gives Try.prog 18 [e.av, .int n, .int lv] (.int (light e n lv)) :=
  gives_v fun X vals ha => by
    obtain ⟨v0, _, rfl, h0, v1, _, rfl, h5, v2, _, rfl, h6, h7⟩ := ha
    cases h7
    obtain ⟨cs, rfl, hr⟩ := arg_ex h0
    cases arg_v h5; cases arg_v h6
    exact light_any e Any cs n lv X.w hr h1 h2 h3 h4
theorem rsteps_g (F : List Fn) (e : Ex) (hbd : parts e ≤ 1000000) (hp : ∀ f ∈ F, parts f.body ≤ 1000000) (hlen : F.length ≤ 1000000) : Gives Try.prog 25 [.sl (F.map Fn.av), e.av] (.int (stepsP F e)) :=
  gives_v fun X vals ha => by
    obtain ⟨v0, _, rfl, h0, v1, _, rfl, h1, h3⟩ := ha
    cases h3
    obtain ⟨cs, rfl, hr⟩ := arg_ex h1
    exact rsteps_any F e Any Any v0 cs X.w (arg_fns h0) hr hbd hp hlen
theorem eval_fit_g (F : List Fn) (time : Int) (R : List Val) (e : Ex) (t : Int) (hOk : ∀ i, i < F.length → okF F i = true) (hFp : ∀ f ∈ F, parts f.body ≤ 1000000) (hpb : parts e ≤ 1000000) {c : List Int} (ht : ty F c [] e = some t) (hR : RowFit c R) :
    Gives Try.prog 13 [.sl (F.map Fn.av), e.av, .int time, .sl (R.map Val.av)] (evalP F time R e).av :=
  gives_of fun X vals ha => by
    obtain ⟨v0, _, rfl, h0, v1, _, rfl, h1, v2, _, rfl, h2, v3, _, rfl, h3, h4⟩ := ha
    cases h4
    obtain ⟨cs, rfl, hr⟩ := arg_ex h1
    cases arg_v h2
    refine (Eval_fit F time R e t hOk hFp hpb ht hR v0 v3 cs X.w (arg_fns h0) (arg_vals h3) hr).mono fun r w' ⟨h1, h2⟩ => ⟨h2, _, h1, ?_⟩
    exact ⟨_, rfl, flat_r1s [_, _, _] (by intro x hx; simp only [List.mem_cons, List.not_mem_nil, or_false] at hx; rcases hx with rfl | rfl | rfl <;> rfl)⟩
theorem eval_g (F : List Fn) (time : Int) (R : List Val) (e : Ex) (t : Int) (hOk : ∀ i, i < F.length → okF F i = true) (hFp : ∀ f ∈ F, parts f.body ≤ 1000000) (hpb : parts e ≤ 1000000) (ht : ty F (R.map Val.k) [] e = some t) (hR : ∀ v ∈ R, soundV v) :
    Gives Try.prog 13 [.sl (F.map Fn.av), e.av, .int time, .sl (R.map Val.av)] (evalP F time R e).av := eval_fit_g F time R e t hOk hFp hpb ht (RowFit.of hR)
end Go.Proofs.Ytmhelkhmgbbfhaa

/- Readings of arguments: api.Value. -/
namespace Go.Proofs.Ytmhelkhmgbbfhaa
open Go.RowKit Go.Lib
section
variable {H : Type} {enc : TypeId × Value → H} {w : World} {sp : Nat → Bool} {hd : Bool}

theorem trods_val (N : Nat) : Trods enc Try.prog w sp hd 34 Val.d N := by
  intro n cs x hn h
  obtain ⟨xs, m, rfl, -, hlen, hl2, hf⟩ := DataW.trod_struct Try.underlying34 h
  have hc : Try.prog.cellsOf 34 = 3 := by kernel_rfl
  rw [hc] at hlen
  obtain ⟨y0, h0⟩ := trod_field 0 3 0 1 hl2 hf ⟨_, rfl, rfl, rfl⟩ (by kernel_rfl)
  obtain ⟨y1, h1⟩ := trod_field 1 3 1 1 hl2 hf ⟨_, rfl, rfl, rfl⟩ (by kernel_rfl)
  obtain ⟨y2, h2⟩ := trod_field 2 9 2 1 hl2 hf ⟨_, rfl, rfl, rfl⟩ (by kernel_rfl)
  obtain ⟨a0, r0⟩ := trods_int Try.underlying3 (m + 1) m _ _ (by omega) h0
  obtain ⟨a1, r1⟩ := trods_int Try.underlying3 (m + 1) m _ _ (by omega) h1
  obtain ⟨a2, r2⟩ := trods_str Try.underlying9 (m + 1) m _ _ (by omega) h2
  exact ⟨⟨a0, a1, a2⟩, rd_st (rdS_cut (k := 1) r0 (rdS_cut (k := 1) r1 (rdS_cut (k := 1) r2 (rdS_end (by omega)))))⟩
theorem trods_vals (N : Nat) : Trods enc Try.prog w sp hd 26 (fun l : List Val => D.sl (l.map Val.d)) N := fun n cs x hn h =>
  trods_sl Try.underlying26 (sz := 3) (by kernel_rfl) (by omega) Val.width (trods_val N) n cs x (by omega) h
end
end Go.Proofs.Ytmhelkhmgbbfhaa

/- Readings of the statement's arguments of layer 16. -/
namespace Go.Proofs.Ytmhelkhmgbbfhaa
open Go.RowKit Go.Lib

section
variable {H : Type} {enc : TypeId × Value → H} {w : World} {sp : Nat → Bool} {hd : Bool}
theorem trods_ex : ∀ N : Nat, Trods enc Try.prog w sp hd 25 Ex.d N := by
  intro N
  induction N with
  | zero => intro n cs x hn; omega
  | succ N ih =>
    intro n cs x hn h
    obtain ⟨xs, m, rfl, -, hlen, hl2, hf⟩ := DataW.trod_struct Try.underlying25 h
    have hc3 : Try.prog.cellsOf 3 = 1 := by kernel_rfl
    have hc9 : Try.prog.cellsOf 9 = 1 := by kernel_rfl
    have hcl : Try.prog.cellsOf 23 = 1 := by kernel_rfl
    have hc : Try.prog.cellsOf 25 = 4 := by kernel_rfl
    rw [hc] at hlen
    obtain ⟨y0, h0⟩ := trod_field 0 3 0 1 hl2 hf ⟨_, rfl, rfl, rfl⟩ hc3
    obtain ⟨y1, h1⟩ := trod_field 1 3 1 1 hl2 hf ⟨_, rfl, rfl, rfl⟩ hc3
    obtain ⟨y2, h2⟩ := trod_field 2 9 2 1 hl2 hf ⟨_, rfl, rfl, rfl⟩ hc9
    obtain ⟨y3, h3⟩ := trod_field 3 23 3 1 hl2 hf ⟨_, rfl, rfl, rfl⟩ hcl
    obtain ⟨a0, r0⟩ := trods_int Try.underlying3 (m + 1) m _ _ (by omega) h0
    obtain ⟨a1, r1⟩ := trods_int Try.underlying3 (m + 1) m _ _ (by omega) h1
    obtain ⟨a2, r2⟩ := trods_str Try.underlying9 (m + 1) m _ _ (by omega) h2
    obtain ⟨a3, r3⟩ := trods_sl Try.underlying23 hc (by omega) Ex.width ih m _ _ (by omega) h3
    refine ⟨.mk a0 a1 a2 a3, ?_⟩
    rw [Ex.d, Ex.ds_map]
    exact rd_st (rdS_cut (k := 1) r0 (rdS_cut (k := 1) r1 (rdS_cut (k := 1) r2 (rdS_cut (k := 1) r3 (rdS_end (by omega))))))

theorem trods_ints (N : Nat) : Trods enc Try.prog w sp hd 31 (fun l : List Int => D.sl (l.map D.int)) N := fun n cs x hn h =>
  trods_sl Try.underlying31 (sz := 1) (by kernel_rfl) (by omega) (fun _ => rfl) (trods_int Try.underlying3 N) n cs x (by omega) h
theorem trods_exs (N : Nat) : Trods enc Try.prog w sp hd 23 (fun l : List Ex => D.sl (l.map Ex.d)) N := fun n cs x hn h =>
  trods_sl Try.underlying23 (sz := 4) (by kernel_rfl) (by omega) Ex.width (trods_ex N) n cs x (by omega) h

theorem trods_fn (N : Nat) : Trods enc Try.prog w sp hd 67 Fn.d N := by
  intro n cs x hn h
  obtain ⟨xs, m, rfl, -, hlen, hl2, hf⟩ := DataW.trod_struct Try.underlying67 h
  have hc3 : Try.prog.cellsOf 3 = 1 := by kernel_rfl
  have hc9 : Try.prog.cellsOf 9 = 1 := by kernel_rfl
  have hcl : Try.prog.cellsOf 31 = 1 := by kernel_rfl
  have hce : Try.prog.cellsOf 25 = 4 := by kernel_rfl
  have hc : Try.prog.cellsOf 67 = 7 := by kernel_rfl
  rw [hc] at hlen
  obtain ⟨y0, h0⟩ := trod_field 0 9 0 1 hl2 hf ⟨_, rfl, rfl, rfl⟩ hc9
  obtain ⟨y1, h1⟩ := trod_field 1 31 1 1 hl2 hf ⟨_, rfl, rfl, rfl⟩ hcl
  obtain ⟨y2, h2⟩ := trod_field 2 3 2 1 hl2 hf ⟨_, rfl, rfl, rfl⟩ hc3
  obtain ⟨y3, h3⟩ := trod_field 3 25 3 4 hl2 hf ⟨_, rfl, rfl, rfl⟩ hce
  obtain ⟨a0, r0⟩ := trods_str Try.underlying9 (m + 1) m _ _ (by omega) h0
  obtain ⟨a1, r1⟩ := trods_ints (m + 1) m _ _ (by omega) h1
  obtain ⟨a2, r2⟩ := trods_int Try.underlying3 (m + 1) m _ _ (by omega) h2
  obtain ⟨a3, r3⟩ := trods_ex (m + 1) m _ _ (by omega) h3
  exact ⟨⟨a0, a1, a2, a3⟩, rd_st (rdS_cut (k := 1) r0 (rdS_cut (k := 1) r1 (rdS_cut (k := 1) r2 (rdS_cut (k := 4) r3 (rdS_end (by omega))))))⟩
theorem trods_fns (N : Nat) : Trods enc Try.prog w sp hd 22 (fun l : List Fn => D.sl (l.map Fn.d)) N := fun n cs x hn h =>
  trods_sl Try.underlying22 (sz := 7) (by kernel_rfl) (by omega) Fn.width (trods_fn N) n cs x (by omega) h
end
end Go.Proofs.Ytmhelkhmgbbfhaa

/- What an argument of a law is, for the abstract machine; rows of arguments. -/
namespace Go.Proofs.Ytmhelkhmgbbfhaa
open Go.ChangeShapes Go.WideShapes Go.ChangeAt Go.RowKit Go.Lib

theorem val_q : qinfo Try.prog 34 = some [(0, 0), (1, 0), (2, 2)] := by kernel_rfl
theorem val_eq (v : Val) : aeq Try.prog .eql 34 v.av v.av = some true := by
  simp only [aeq, aeqS, val_q, Val.av, feq, feq1]
  simp
theorem val_ne (v : Val) : aeq Try.prog .neq 34 v.av v.av = some false := by
  simp only [aeq, aeqS, val_q, Val.av, feq, feq1]
  simp
theorem flat_fns {w : World} {L : List Fn} {v : Value} (h : Rd w Any (.sl (L.map Fn.d)) [v]) : RR1 (St.flat w) (.sl (L.map Fn.av)) v := by
  have := flat_rc h
  rw [fns_av] at this
  exact this
theorem flat_vals {w : World} {L : List Val} {v : Value} (h : Rd w Any (.sl (L.map Val.d)) [v]) : RR1 (St.flat w) (.sl (L.map Val.av)) v := by
  have := flat_rc h
  rw [vals_av] at this
  exact this
theorem flat_exs {w : World} {L : List Ex} {v : Value} (h : Rd w Any (.sl (L.map Ex.d)) [v]) : RR1 (St.flat w) (.sl (L.map Ex.av)) v := by
  have := flat_rc h
  rw [exs_av] at this
  exact this
theorem flat_ints {w : World} {L : List Int} {v : Value} (h : Rd w Any (.sl (L.map D.int)) [v]) : RR1 (St.flat w) (.sl (L.map AV.int)) v := by
  have := flat_rc h
  rw [ints_av] at this
  exact this
theorem flat_ex {w : World} {e : Ex} {cs : List Value} (h : Rd w Any e.d cs) : RR1 (St.flat w) e.av (.agg cs.toArray) := by
  have := flat_rc h
  rw [Ex.d_av, Ex.av_eq, RC] at this
  rw [Ex.av_eq]
  exact ⟨cs, rfl, this⟩
theorem flat_int {w : World} {n : Int} : RR1 (St.flat w) (.int n) (.int .i64 n) := by
  show RC _ _ _
  rw [RC]

theorem flat_val {w : World} {e : Val} {cs : List Value} (h : Rd w Any e.d cs) : RR1 (St.flat w) e.av (.agg cs.toArray) := by
  have := flat_rc h
  rw [Val.d_av, Val.av, RC] at this
  rw [Val.av]
  exact ⟨cs, rfl, this⟩

theorem trodAll_five {H : Type} {enc : TypeId × Value → H} {P : Program} {w : World} {base : Nat} {spare : Nat → Bool} {held : Bool} {t0 t1 t2 t3 t4 : TypeId} {args : Array Value} {ds : List (DataW H)} {ps : List MemPlace} (h : DataW.TrodAll enc P w base spare held [t0, t1, t2, t3, t4] args.toList ds ps) :
    ∃ v0 v1 v2 v3 v4 d0 d1 d2 d3 d4 p0 p1 p2 p3 p4, args = #[v0, v1, v2, v3, v4] ∧ ds = [d0, d1, d2, d3, d4] ∧ ps = p0 ++ p1 ++ p2 ++ p3 ++ p4 ∧ DataW.Trod enc P w base spare held t0 v0 d0 p0 ∧ DataW.Trod enc P w base spare held t1 v1 d1 p1 ∧ DataW.Trod enc P w base spare held t2 v2 d2 p2 ∧ DataW.Trod enc P w base spare held t3 v3 d3 p3 ∧ DataW.Trod enc P w base spare held t4 v4 d4 p4 := by
  obtain ⟨v0, vs0, d0, ds0, p0, q0, hargs, rfl, rfl, h0, r0⟩ := trodAll_cons h
  obtain ⟨v1, vs1, d1, ds1, p1, q1, rfl, rfl, rfl, h1, r1⟩ := trodAll_cons r0
  obtain ⟨v2, vs2, d2, ds2, p2, q2, rfl, rfl, rfl, h2, r2⟩ := trodAll_cons r1
  obtain ⟨v3, vs3, d3, ds3, p3, q3, rfl, rfl, rfl, h3, r3⟩ := trodAll_cons r2
  obtain ⟨v4, vs4, d4, ds4, p4, q4, rfl, rfl, rfl, h4, r4⟩ := trodAll_cons r3
  obtain ⟨rfl, rfl, rfl⟩ := trodAll_nil r4
  exact ⟨v0, v1, v2, v3, v4, d0, d1, d2, d3, d4, p0, p1, p2, p3, p4, by cases args; simp_all, rfl, by simp, h0, h1, h2, h3, h4⟩

theorem trodAll_seven {H : Type} {enc : TypeId × Value → H} {P : Program} {w : World} {base : Nat} {spare : Nat → Bool} {held : Bool} {t0 t1 t2 t3 t4 t5 t6 : TypeId} {args : Array Value} {ds : List (DataW H)} {ps : List MemPlace} (h : DataW.TrodAll enc P w base spare held [t0, t1, t2, t3, t4, t5, t6] args.toList ds ps) :
    ∃ v0 v1 v2 v3 v4 v5 v6 d0 d1 d2 d3 d4 d5 d6 p0 p1 p2 p3 p4 p5 p6, args = #[v0, v1, v2, v3, v4, v5, v6] ∧ ds = [d0, d1, d2, d3, d4, d5, d6] ∧ ps = p0 ++ p1 ++ p2 ++ p3 ++ p4 ++ p5 ++ p6 ∧ DataW.Trod enc P w base spare held t0 v0 d0 p0 ∧ DataW.Trod enc P w base spare held t1 v1 d1 p1 ∧ DataW.Trod enc P w base spare held t2 v2 d2 p2 ∧ DataW.Trod enc P w base spare held t3 v3 d3 p3 ∧ DataW.Trod enc P w base spare held t4 v4 d4 p4 ∧ DataW.Trod enc P w base spare held t5 v5 d5 p5 ∧ DataW.Trod enc P w base spare held t6 v6 d6 p6 := by
  obtain ⟨v0, vs0, d0, ds0, p0, q0, hargs, rfl, rfl, h0, r0⟩ := trodAll_cons h
  obtain ⟨v1, vs1, d1, ds1, p1, q1, rfl, rfl, rfl, h1, r1⟩ := trodAll_cons r0
  obtain ⟨v2, vs2, d2, ds2, p2, q2, rfl, rfl, rfl, h2, r2⟩ := trodAll_cons r1
  obtain ⟨v3, vs3, d3, ds3, p3, q3, rfl, rfl, rfl, h3, r3⟩ := trodAll_cons r2
  obtain ⟨v4, vs4, d4, ds4, p4, q4, rfl, rfl, rfl, h4, r4⟩ := trodAll_cons r3
  obtain ⟨v5, vs5, d5, ds5, p5, q5, rfl, rfl, rfl, h5, r5⟩ := trodAll_cons r4
  obtain ⟨v6, vs6, d6, ds6, p6, q6, rfl, rfl, rfl, h6, r6⟩ := trodAll_cons r5
  obtain ⟨rfl, rfl, rfl⟩ := trodAll_nil r6
  exact ⟨v0, v1, v2, v3, v4, v5, v6, d0, d1, d2, d3, d4, d5, d6, p0, p1, p2, p3, p4, p5, p6, by cases args; simp_all, rfl, by simp, h0, h1, h2, h3, h4, h5, h6⟩

end Go.Proofs.Ytmhelkhmgbbfhaa

/- Walk: whether two slices of ints are equal. -/
namespace Go.Proofs.Ytmhelkhmgbbfhaa
open Go.RowKit Go.Lib

theorem ints_g (a b : List Int) (hl : a.length ≤ 1000000) : Gives Try.prog 34 [.sl (a.map AV.int), .sl (b.map AV.int)] (.bool (decide (a = b))) := by
  obtain ⟨R, hR⟩ : ∃ R, R = decide (a = b) := ⟨_, rfl⟩
  rw [← hR]
  by_cases hlen : a.length = b.length
  · have hlen' : (a.length : Int) = b.length := by omega
    refine gives_of_awp Try.func34 Try.ntmps34 rfl rfl (by decide) rfl (by intro n; simp) fun σ n0 hcl hft => ?_
    repeat' (first | ((with_reducible refine aguard (fun hg => ?_) (fun hg => ?_)) <;> (try simp only [hg]) <;> (try simp only [beq_iff_eq, beq_eq_false_iff_ne, ne_eq, decide_eq_true_eq, decide_eq_false_iff_not, bne_iff_ne, bne_eq_false_iff_eq] at hg) <;> (try (first | simp only [eq_false hg, if_true, if_false] | simp only [eq_true hg, if_true, if_false])) <;> (try simp (disch := first | omega | simp) [wrap_i64, -aseqC, -anyC, hlen'])) | (with_reducible refine aseq_step ?_; try simp (disch := first | omega | simp) [wrap_i64, -aseqC, -anyC, hlen']) | (with_reducible refine any_step' ?_; try simp (disch := first | omega | simp) [wrap_i64, -aseqC, -anyC, hlen']) | (with_reducible refine aseq_end ?_; try simp (disch := first | omega | simp) [wrap_i64, -aseqC, -anyC, hlen']) | (with_reducible refine any_end' ?_; try simp (disch := first | omega | simp) [wrap_i64, -aseqC, -anyC, hlen']) | ((first | with_reducible refine sideG ?_ ?_ | with_reducible refine sideG2 ?_ ?_ | with_reducible refine sideS ?_ ?_ | with_reducible refine sideS2 ?_ ?_ | with_reducible refine sideS3 ?_ ?_ | with_reducible refine sideA ?_ ?_ | with_reducible refine sideA2 ?_ ?_ | with_reducible refine sideA3 ?_ ?_); (first | omega | assumption | (simp; done))) | (refine awp_seq_k fun K hK => ?_) | (refine awp_regionC ?_) | (refine awp_anyA true (by kernel_rfl) (by kernel_rfl) ?_) | (refine awp_anyA false (by kernel_rfl) (by kernel_rfl) ?_) | (refine hK _ ?_; clear hK; clear K) | (clear hK; clear K; refine hK _ ?_; clear hK; clear K) | (clear hK; clear K; clear hK; clear K; refine hK _ ?_; clear hK; clear K) | refine awp_block ?_ | (refine awp_condC ?_; simp (disch := first | omega | simp) [wrap_i64, -aseqC, -anyC, hlen']) | (refine awp_exit ?_; try simp (disch := first | omega | simp) [wrap_i64, -aseqC, -anyC, hlen']) | (refine awp_skip ?_; try simp (disch := first | omega | simp) [wrap_i64, -aseqC, -anyC, hlen']) | (refine awp_ret ?_; try simp (disch := first | omega | simp) [wrap_i64, -aseqC, -anyC, hlen']))
    refine awp_loopC hcl (fun k : Nat => [(0, .sl (a.map AV.int)), (1, .sl (b.map AV.int)), (5, .int k)]) (fun _ => [])
      (fun k => k ≤ a.length ∧ a.take k = b.take k) (fun k => a.length - k) 0 (by simp) (by simp) fun k hk => ?_
    obtain ⟨hk, he⟩ := hk
    by_cases hlt : k < a.length
    · have hlt2 : k < b.length := by omega
      by_cases hx : a[k] = b[k]
      · repeat' (first | ((with_reducible refine aguard (fun hg => ?_) (fun hg => ?_)) <;> (try simp only [hg]) <;> (try simp only [beq_iff_eq, beq_eq_false_iff_ne, ne_eq, decide_eq_true_eq, decide_eq_false_iff_not, bne_iff_ne, bne_eq_false_iff_eq] at hg) <;> (try (first | simp only [eq_false hg, if_true, if_false] | simp only [eq_true hg, if_true, if_false])) <;> (try simp (disch := first | omega | simp) [wrap_i64, -aseqC, -anyC, hlt, hlt2, hx])) | (with_reducible refine aseq_step ?_; try simp (disch := first | omega | simp) [wrap_i64, -aseqC, -anyC, hlt, hlt2, hx]) | (with_reducible refine any_step' ?_; try simp (disch := first | omega | simp) [wrap_i64, -aseqC, -anyC, hlt, hlt2, hx]) | (with_reducible refine aseq_end ?_; try simp (disch := first | omega | simp) [wrap_i64, -aseqC, -anyC, hlt, hlt2, hx]) | (with_reducible refine any_end' ?_; try simp (disch := first | omega | simp) [wrap_i64, -aseqC, -anyC, hlt, hlt2, hx]) | ((first | with_reducible refine sideG ?_ ?_ | with_reducible refine sideG2 ?_ ?_ | with_reducible refine sideS ?_ ?_ | with_reducible refine sideS2 ?_ ?_ | with_reducible refine sideS3 ?_ ?_ | with_reducible refine sideA ?_ ?_ | with_reducible refine sideA2 ?_ ?_ | with_reducible refine sideA3 ?_ ?_); (first | omega | assumption | (simp; done))) | (refine awp_seq_k fun K hK => ?_) | (refine awp_regionC ?_) | (refine awp_anyA true (by kernel_rfl) (by kernel_rfl) ?_) | (refine awp_anyA false (by kernel_rfl) (by kernel_rfl) ?_) | (refine hK _ ?_; clear hK; clear K) | (clear hK; clear K; refine hK _ ?_; clear hK; clear K) | (clear hK; clear K; clear hK; clear K; refine hK _ ?_; clear hK; clear K) | refine awp_block ?_ | (refine awp_condC ?_; simp (disch := first | omega | simp) [wrap_i64, -aseqC, -anyC, hlt, hlt2, hx]) | (refine awp_exit ?_; try simp (disch := first | omega | simp) [wrap_i64, -aseqC, -anyC, hlt, hlt2, hx]) | (refine awp_skip ?_; try simp (disch := first | omega | simp) [wrap_i64, -aseqC, -anyC, hlt, hlt2, hx]) | (refine awp_ret ?_; try simp (disch := first | omega | simp) [wrap_i64, -aseqC, -anyC, hlt, hlt2, hx]))
        all_goals first
          | exact ⟨k + 1, ⟨by omega, by rw [List.take_succ_eq_append_getElem hlt, List.take_succ_eq_append_getElem hlt2, he, hx]⟩, by omega, by omega⟩
          | exact absurd hx (by assumption)
      · obtain rfl : R = false := by
          rw [hR]
          exact decide_eq_false fun h => hx (by subst h; rfl)
        repeat' (first | ((with_reducible refine aguard (fun hg => ?_) (fun hg => ?_)) <;> (try simp only [hg]) <;> (try simp only [beq_iff_eq, beq_eq_false_iff_ne, ne_eq, decide_eq_true_eq, decide_eq_false_iff_not, bne_iff_ne, bne_eq_false_iff_eq] at hg) <;> (try (first | simp only [eq_false hg, if_true, if_false] | simp only [eq_true hg, if_true, if_false])) <;> (try simp (disch := first | omega | simp) [wrap_i64, -aseqC, -anyC, hlt, hlt2, hx])) | (with_reducible refine aseq_step ?_; try simp (disch := first | omega | simp) [wrap_i64, -aseqC, -anyC, hlt, hlt2, hx]) | (with_reducible refine any_step' ?_; try simp (disch := first | omega | simp) [wrap_i64, -aseqC, -anyC, hlt, hlt2, hx]) | (with_reducible refine aseq_end ?_; try simp (disch := first | omega | simp) [wrap_i64, -aseqC, -anyC, hlt, hlt2, hx]) | (with_reducible refine any_end' ?_; try simp (disch := first | omega | simp) [wrap_i64, -aseqC, -anyC, hlt, hlt2, hx]) | ((first | with_reducible refine sideG ?_ ?_ | with_reducible refine sideG2 ?_ ?_ | with_reducible refine sideS ?_ ?_ | with_reducible refine sideS2 ?_ ?_ | with_reducible refine sideS3 ?_ ?_ | with_reducible refine sideA ?_ ?_ | with_reducible refine sideA2 ?_ ?_ | with_reducible refine sideA3 ?_ ?_); (first | omega | assumption | (simp; done))) | (refine awp_seq_k fun K hK => ?_) | (refine awp_regionC ?_) | (refine awp_anyA true (by kernel_rfl) (by kernel_rfl) ?_) | (refine awp_anyA false (by kernel_rfl) (by kernel_rfl) ?_) | (refine hK _ ?_; clear hK; clear K) | (clear hK; clear K; refine hK _ ?_; clear hK; clear K) | (clear hK; clear K; clear hK; clear K; refine hK _ ?_; clear hK; clear K) | refine awp_block ?_ | (refine awp_condC ?_; simp (disch := first | omega | simp) [wrap_i64, -aseqC, -anyC, hlt, hlt2, hx]) | (refine awp_exit ?_; try simp (disch := first | omega | simp) [wrap_i64, -aseqC, -anyC, hlt, hlt2, hx]) | (refine awp_skip ?_; try simp (disch := first | omega | simp) [wrap_i64, -aseqC, -anyC, hlt, hlt2, hx]) | (refine awp_ret ?_; try simp (disch := first | omega | simp) [wrap_i64, -aseqC, -anyC, hlt, hlt2, hx]))
        all_goals first | rfl | exact absurd (by assumption) hx
    · obtain rfl : R = true := by
        rw [hR]
        refine decide_eq_true ?_
        have h1 : k = a.length := by omega
        subst h1
        rw [List.take_length, hlen, List.take_length] at he
        exact he
      repeat' (first | ((with_reducible refine aguard (fun hg => ?_) (fun hg => ?_)) <;> (try simp only [hg]) <;> (try simp only [beq_iff_eq, beq_eq_false_iff_ne, ne_eq, decide_eq_true_eq, decide_eq_false_iff_not, bne_iff_ne, bne_eq_false_iff_eq] at hg) <;> (try (first | simp only [eq_false hg, if_true, if_false] | simp only [eq_true hg, if_true, if_false])) <;> (try simp (disch := first | omega | simp) [wrap_i64, -aseqC, -anyC, hlt])) | (with_reducible refine aseq_step ?_; try simp (disch := first | omega | simp) [wrap_i64, -aseqC, -anyC, hlt]) | (with_reducible refine any_step' ?_; try simp (disch := first | omega | simp) [wrap_i64, -aseqC, -anyC, hlt]) | (with_reducible refine aseq_end ?_; try simp (disch := first | omega | simp) [wrap_i64, -aseqC, -anyC, hlt]) | (with_reducible refine any_end' ?_; try simp (disch := first | omega | simp) [wrap_i64, -aseqC, -anyC, hlt]) | ((first | with_reducible refine sideG ?_ ?_ | with_reducible refine sideG2 ?_ ?_ | with_reducible refine sideS ?_ ?_ | with_reducible refine sideS2 ?_ ?_ | with_reducible refine sideS3 ?_ ?_ | with_reducible refine sideA ?_ ?_ | with_reducible refine sideA2 ?_ ?_ | with_reducible refine sideA3 ?_ ?_); (first | omega | assumption | (simp; done))) | (refine awp_seq_k fun K hK => ?_) | (refine awp_regionC ?_) | (refine awp_anyA true (by kernel_rfl) (by kernel_rfl) ?_) | (refine awp_anyA false (by kernel_rfl) (by kernel_rfl) ?_) | (refine hK _ ?_; clear hK; clear K) | (clear hK; clear K; refine hK _ ?_; clear hK; clear K) | (clear hK; clear K; clear hK; clear K; refine hK _ ?_; clear hK; clear K) | refine awp_block ?_ | (refine awp_condC ?_; simp (disch := first | omega | simp) [wrap_i64, -aseqC, -anyC, hlt]) | (refine awp_exit ?_; try simp (disch := first | omega | simp) [wrap_i64, -aseqC, -anyC, hlt]) | (refine awp_skip ?_; try simp (disch := first | omega | simp) [wrap_i64, -aseqC, -anyC, hlt]) | (refine awp_ret ?_; try simp (disch := first | omega | simp) [wrap_i64, -aseqC, -anyC, hlt]))
  · obtain rfl : R = false := by
      rw [hR]
      exact decide_eq_false fun h => hlen (by rw [h])
    have hlen' : ¬ (a.length : Int) = b.length := by omega
    refine gives_of_awp Try.func34 Try.ntmps34 rfl rfl (by decide) rfl (by intro n; simp) fun σ n0 hcl hft => ?_
    repeat' (first | ((with_reducible refine aguard (fun hg => ?_) (fun hg => ?_)) <;> (try simp only [hg]) <;> (try simp only [beq_iff_eq, beq_eq_false_iff_ne, ne_eq, decide_eq_true_eq, decide_eq_false_iff_not, bne_iff_ne, bne_eq_false_iff_eq] at hg) <;> (try (first | simp only [eq_false hg, if_true, if_false] | simp only [eq_true hg, if_true, if_false])) <;> (try simp (disch := first | omega | simp) [wrap_i64, -aseqC, -anyC, hlen'])) | (with_reducible refine aseq_step ?_; try simp (disch := first | omega | simp) [wrap_i64, -aseqC, -anyC, hlen']) | (with_reducible refine any_step' ?_; try simp (disch := first | omega | simp) [wrap_i64, -aseqC, -anyC, hlen']) | (with_reducible refine aseq_end ?_; try simp (disch := first | omega | simp) [wrap_i64, -aseqC, -anyC, hlen']) | (with_reducible refine any_end' ?_; try simp (disch := first | omega | simp) [wrap_i64, -aseqC, -anyC, hlen']) | ((first | with_reducible refine sideG ?_ ?_ | with_reducible refine sideG2 ?_ ?_ | with_reducible refine sideS ?_ ?_ | with_reducible refine sideS2 ?_ ?_ | with_reducible refine sideS3 ?_ ?_ | with_reducible refine sideA ?_ ?_ | with_reducible refine sideA2 ?_ ?_ | with_reducible refine sideA3 ?_ ?_); (first | omega | assumption | (simp; done))) | (refine awp_seq_k fun K hK => ?_) | (refine awp_regionC ?_) | (refine awp_anyA true (by kernel_rfl) (by kernel_rfl) ?_) | (refine awp_anyA false (by kernel_rfl) (by kernel_rfl) ?_) | (refine hK _ ?_; clear hK; clear K) | (clear hK; clear K; refine hK _ ?_; clear hK; clear K) | (clear hK; clear K; clear hK; clear K; refine hK _ ?_; clear hK; clear K) | refine awp_block ?_ | (refine awp_condC ?_; simp (disch := first | omega | simp) [wrap_i64, -aseqC, -anyC, hlen']) | (refine awp_exit ?_; try simp (disch := first | omega | simp) [wrap_i64, -aseqC, -anyC, hlen']) | (refine awp_skip ?_; try simp (disch := first | omega | simp) [wrap_i64, -aseqC, -anyC, hlen']) | (refine awp_ret ?_; try simp (disch := first | omega | simp) [wrap_i64, -aseqC, -anyC, hlen']))
    all_goals exact absurd (by assumption) hlen'
end Go.Proofs.Ytmhelkhmgbbfhaa

/- Walk: the columns that an expression reads, of the reference. -/
namespace Go.Proofs.Ytmhelkhmgbbfhaa
open Go.RowKit Go.Lib

def withP : List Int → Int → List Int
  | [], n => [n]
  | a :: l, n => if a < n then a :: withP l n else if a = n then a :: l else n :: a :: l
theorem withP_at (n : Int) : ∀ (l : List Int) (i : Nat), i ≤ l.length → (∀ j (h : j < l.length), j < i → l[j] < n) → (∀ h : i < l.length, ¬ l[i] < n) →
    withP l n = if h : i < l.length then (if l[i] = n then l else l.take i ++ [n] ++ l.drop i) else l ++ [n]
  | [], i, hi, _, _ => by
    have : i = 0 := by simpa using hi
    subst this; rfl
  | a :: l, 0, _, _, h2 => by
    have h3 := h2 (by simp)
    simp only [List.getElem_cons_zero] at h3
    rw [withP, if_neg h3]
    simp
  | a :: l, i + 1, hi, h1, h2 => by
    have h3 := h1 0 (by simp) (by omega)
    simp only [List.getElem_cons_zero] at h3
    rw [withP, if_pos h3, withP_at n l i (by simpa using hi) (fun j h hj => by have := h1 (j + 1) (by simpa using h) (by omega); simpa only [List.getElem_cons_succ] using this) (fun h => by have := h2 (by simpa using h); simpa only [List.getElem_cons_succ] using this)]
    by_cases h4 : i < l.length
    · simp [h4]
      split <;> rfl
    · simp [h4]
theorem withP_len (n : Int) : ∀ l : List Int, (withP l n).length ≤ l.length + 1
  | [] => by simp [withP]
  | a :: l => by
    have := withP_len n l
    rw [withP]
    split
    · simpa using this
    · split <;> simp

theorem withP_mem (n x : Int) : ∀ l : List Int, x ∈ withP l n ↔ x = n ∨ x ∈ l
  | [] => by simp [withP]
  | a :: l => by
    rw [withP]
    split
    · rw [List.mem_cons, withP_mem n x l, List.mem_cons]
      constructor
      · rintro (h | h | h) <;> simp [h]
      · rintro (h | h | h) <;> simp [h]
    · split
      · rename_i h
        subst h
        simp
      · simp
/-- strictly rising -/
def Up : List Int → Prop
  | [] => True
  | a :: l => (∀ x ∈ l, a < x) ∧ Up l
theorem withP_up (n : Int) : ∀ l : List Int, Up l → Up (withP l n)
  | [], _ => by simp [withP, Up]
  | a :: l, h => by
    rw [Up] at h
    rw [withP]
    split
    · rename_i hlt
      rw [Up]
      refine ⟨fun x hx => ?_, withP_up n l h.2⟩
      rcases (withP_mem n x l).1 hx with rfl | hx
      · exact hlt
      · exact h.1 x hx
    · split
      · rw [Up]; exact h
      · rw [Up, Up]
        refine ⟨fun x hx => ?_, h⟩
        rcases List.mem_cons.1 hx with rfl | hx
        · omega
        · have := h.1 x hx; omega
theorem up_ext : ∀ (a b : List Int), Up a → Up b → (∀ x, x ∈ a ↔ x ∈ b) → a = b
  | [], [], _, _, _ => rfl
  | [], y :: b, _, _, h => by have := (h y).2 (by simp); cases this
  | x :: a, [], _, _, h => by have := (h x).1 (by simp); cases this
  | x :: a, y :: b, ha, hb, h => by
    rw [Up] at ha hb
    have hxy : x = y := by
      rcases List.mem_cons.1 ((h x).1 (by simp)) with e | e
      · exact e
      · rcases List.mem_cons.1 ((h y).2 (by simp)) with e2 | e2
        · exact e2.symm
        · have := hb.1 x e; have := ha.1 y e2; omega
    subst hxy
    rw [up_ext a b ha.2 hb.2 fun z => ?_]
    have hz := h z
    rw [List.mem_cons, List.mem_cons] at hz
    constructor
    · intro hm
      rcases hz.1 (.inr hm) with e | e
      · subst e; have := ha.1 z hm; omega
      · exact e
    · intro hm
      rcases hz.2 (.inr hm) with e | e
      · subst e; have := hb.1 z hm; omega
      · exact e
/-- a strictly rising list of numbers from 0 to n has at most n of them -/
theorem up_len : ∀ (l : List Int) (a n : Int), Up l → (∀ x ∈ l, a ≤ x ∧ x < n) → a ≤ n → (l.length : Int) ≤ n - a
  | [], a, n, _, _, h => by simp; omega
  | x :: l, a, n, hu, h, hn => by
    rw [Up] at hu
    have h1 := h x (by simp)
    have := up_len l (x + 1) n hu.2 (fun y hy => ⟨by have := hu.1 y hy; omega, (h y (by simp [hy])).2⟩) (by omega)
    rw [List.length_cons]; omega

def addAll (l ns : List Int) : List Int := ns.foldl withP l
mutual
def readsP : Ex → List Int
  | .mk o n _ l => readsL (if o = 3 then [n] else []) l
def readsL (acc : List Int) : List Ex → List Int
  | [] => acc
  | e :: l => readsL (addAll acc (readsP e)) l
end
theorem addAll_mem (x : Int) : ∀ (ns l : List Int), x ∈ addAll l ns ↔ x ∈ ns ∨ x ∈ l
  | [], l => by simp [addAll]
  | n :: ns, l => by
    rw [addAll, List.foldl_cons]
    have := addAll_mem x ns (withP l n)
    rw [addAll] at this
    rw [this, withP_mem, List.mem_cons]
    constructor
    · rintro (h | h | h) <;> simp [h]
    · rintro ((h | h) | h) <;> simp [h]
theorem addAll_up : ∀ (ns l : List Int), Up l → Up (addAll l ns)
  | [], l, h => h
  | n :: ns, l, h => addAll_up ns (withP l n) (withP_up n l h)
theorem readsL_mem (x : Int) : ∀ (l : List Ex) (acc : List Int), x ∈ readsL acc l ↔ x ∈ acc ∨ ∃ e ∈ l, x ∈ readsP e
  | [], acc => by rw [readsL]; simp
  | e :: l, acc => by
    rw [readsL, readsL_mem x l, addAll_mem]
    constructor
    · rintro ((h | h) | ⟨y, h1, h2⟩)
      · exact .inr ⟨e, by simp, h⟩
      · exact .inl h
      · exact .inr ⟨y, by simp [h1], h2⟩
    · rintro (h | ⟨y, h1, h2⟩)
      · exact .inl (.inr h)
      · rcases List.mem_cons.1 h1 with rfl | h1
        · exact .inl (.inl h2)
        · exact .inr ⟨y, h1, h2⟩
theorem readsL_up : ∀ (l : List Ex) (acc : List Int), Up acc → Up (readsL acc l)
  | [], acc, h => by rw [readsL]; exact h
  | e :: l, acc, h => by rw [readsL]; exact readsL_up l _ (addAll_up _ _ h)
theorem readsP_up (e : Ex) : Up (readsP e) := by
  cases e; rw [readsP]
  refine readsL_up _ _ ?_
  split
  · refine ⟨fun x hx => ?_, trivial⟩
    cases hx
  · trivial
end Go.Proofs.Ytmhelkhmgbbfhaa
