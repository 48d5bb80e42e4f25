/- Walk: what is good. -/
import Derived.Test.YtmhelkhmgbbfhaaFits16
import Derived.Test.YtmhelkhmgbbfhaaCountR16
import Derived.Test.YtmhelkhmgbbfhaaRightR16b
import Derived.Deep.RegionHeld3
namespace Go.Proofs.Ytmhelkhmgbbfhaa
open Go.RowKit Go.Lib

def goodP (F : List Fn) (e : Ex) (R : List Val) : Bool :=
  fair F && decide (0 ≤ light e 100 20) && fitsR R && (typeP F (R.map Val.k) [] e).isSome && decide (stepsP F e ≤ 10000)

theorem goodP_parts {F : List Fn} {e : Ex} {R : List Val} (h1 : fair F = true) (h2 : 0 ≤ light e 100 20) (h3 : fitsR R = true) : F.length ≤ 22 ∧ (∀ f ∈ F, parts f.body ≤ 1000000) ∧ parts e ≤ 1000000 ∧ R.length ≤ 20 := by
  unfold fair at h1
  simp only [Bool.and_eq_true, List.all_eq_true, decide_eq_true_eq] at h1
  unfold fitsR at h3
  simp only [Bool.and_eq_true, List.all_eq_true, decide_eq_true_eq] at h3
  refine ⟨by omega, fun f hf => ?_, ?_, by omega⟩
  · have h := h1.1 f hf
    unfold fairB at h
    simp only [Bool.and_eq_true, decide_eq_true_eq] at h
    have := parts_of_light (by omega) h.1; omega
  · have := parts_of_light (by omega) h2; omega

set_option maxRecDepth 10000 in
set_option maxHeartbeats 2000000 in
theorem good_any (F : List Fn) (e : Ex) (R : List Val) (S S1 S2 : Nat → Prop) (vF vR : Value) (cs : List Value) (w : World) (hF : Rd w S (.sl (F.map Fn.d)) [vF]) (hr : Rd w S1 e.d cs) (hR : Rd w S2 (.sl (R.map Val.d)) [vR]) :
    Calls Try.prog 10 #[vF, .agg cs.toArray, vR] w fun r w' => r = .returned (.bool (goodP F e R)) ∧ Ext w w' := by
  obtain ⟨A, cap, b, off, rfl, hl1, hl2, hl3, hm⟩ := Ex.open hr
  have hF' := Lib.hid hF; have hr' := Lib.hid hr; have hR' := Lib.hid hR
  clear hF hr hR hm hl3
  have hcf := fair_any F S vF
  cases hfair : fair F with
  | false =>
    rw [hfair] at hcf
    have hcf' := Lib.hid hcf
    have H := Lib.hid (show goodP F e R = false by unfold goodP; rw [hfair]; rfl)
    clear hcf hfair
    go_enter Try.func10, Try.ntmps10
    go_wp2_with fail
    refine (hcf'.out _ (hF'.out.ext (by repeat' first | exact Ext.refl _ | assumption | apply Ext.alloc | apply Ext.drew | apply Ext.drewN | (refine Ext.trans ?_ (by assumption))))).mono ?_
    rintro r w1 ⟨rfl, he⟩
    go_wp2_with fail
    go_ret
    exact ⟨ret_bool (by rw [H.out]), (by repeat' first | exact Ext.refl _ | assumption | apply Ext.alloc | apply Ext.drew | apply Ext.drewN | (refine Ext.trans ?_ (by assumption)))⟩
  | true =>
  rw [hfair] at hcf
  have hcf' := Lib.hid hcf
  clear hcf
  by_cases hlight : light e 100 20 < 0
  · have H := Lib.hid (show goodP F e R = false by unfold goodP; rw [decide_eq_false (p := 0 ≤ light e 100 20) (by omega)]; simp)
    clear hfair
    go_enter Try.func10, Try.ntmps10
    go_wp2_with fail
    refine (hcf'.out _ (hF'.out.ext (by repeat' first | exact Ext.refl _ | assumption | apply Ext.alloc | apply Ext.drew | apply Ext.drewN | (refine Ext.trans ?_ (by assumption))))).mono ?_
    rintro r w1 ⟨rfl, he⟩
    have hcs := he.cells
    go_wp2_with fail
    refine (light_any e S1 _ 100 20 w1 (hr'.out.ext (by repeat' first | exact Ext.refl _ | assumption | apply Ext.alloc | apply Ext.drew | apply Ext.drewN | (refine Ext.trans ?_ (by assumption)))) (by omega) (by omega) (by omega) (by omega)).mono ?_
    rintro r w2 ⟨rfl, he2⟩
    go_wp2_with fail
    go_ret
    exact ⟨ret_bool (by rw [H.out]), (by repeat' first | exact Ext.refl _ | assumption | apply Ext.alloc | apply Ext.drew | apply Ext.drewN | (refine Ext.trans ?_ (by assumption)))⟩
  have hcr := fits_any R S2 vR
  cases hfits : fitsR R with
  | false =>
    rw [hfits] at hcr
    have hcr' := Lib.hid hcr
    have H := Lib.hid (show goodP F e R = false by unfold goodP; rw [hfits]; simp)
    clear hcr hfits hfair
    go_enter Try.func10, Try.ntmps10
    go_wp2_with fail
    refine (hcf'.out _ (hF'.out.ext (by repeat' first | exact Ext.refl _ | assumption | apply Ext.alloc | apply Ext.drew | apply Ext.drewN | (refine Ext.trans ?_ (by assumption))))).mono ?_
    rintro r w1 ⟨rfl, he⟩
    have hcs := he.cells
    go_wp2_with fail
    refine (light_any e S1 _ 100 20 w1 (hr'.out.ext (by repeat' first | exact Ext.refl _ | assumption | apply Ext.alloc | apply Ext.drew | apply Ext.drewN | (refine Ext.trans ?_ (by assumption)))) (by omega) (by omega) (by omega) (by omega)).mono ?_
    rintro r w2 ⟨rfl, he2⟩
    go_wp2_with fail
    refine (hcr'.out w2 (hR'.out.ext (by repeat' first | exact Ext.refl _ | assumption | apply Ext.alloc | apply Ext.drew | apply Ext.drewN | (refine Ext.trans ?_ (by assumption))))).mono ?_
    rintro r w3 ⟨rfl, he3⟩
    go_wp2_with fail
    go_ret
    exact ⟨ret_bool (by rw [H.out]), (by repeat' first | exact Ext.refl _ | assumption | apply Ext.alloc | apply Ext.drew | apply Ext.drewN | (refine Ext.trans ?_ (by assumption)))⟩
  | true =>
  rw [hfits] at hcr
  have hcr' := Lib.hid hcr
  clear hcr
  obtain ⟨hp1, hp2, hp3, hp4⟩ := goodP_parts (e := e) hfair (by omega) hfits
  have hG := Lib.hid (show goodP F e R = ((typeP F (R.map Val.k) [] e).isSome && decide (stepsP F e ≤ 10000)) by
    unfold goodP; rw [hfair, hfits, decide_eq_true (p := 0 ≤ light e 100 20) (by omega)]; rfl)
  have hp2' := Lib.hid hp2
  have hl0 : 0 ≤ light e 100 20 := by omega
  have hty := fun (vc : Value) (w' : World) (h1 : Rd w' S (.sl (F.map Fn.d)) [vF]) (h2 : Rd w' Any (.sl ((R.map Val.k).map D.int)) [vc]) (h3 : Rd w' S1 e.d [.int .i64 e.op, .int .i64 e.n, .string e.s, .slice A e.args.length cap]) =>
    rtype_any F (R.map Val.k) [] e S Any Any S1 vF vc (.slice none 0 0) _ w' h1 h2 (Rd.nil none (by omega)) h3 hp3 hp2
  clear hfair hfits hp2
  cases hT : typeP F (R.map Val.k) [] e with
  | none =>
    simp only [hT] at hty
    have hty' := Lib.hid hty
    have hT' := Lib.hid hT
    clear hty hT
    go_enter Try.func10, Try.ntmps10
    go_wp2_with fail
    refine (hcf'.out _ (hF'.out.ext (by repeat' first | exact Ext.refl _ | assumption | apply Ext.alloc | apply Ext.drew | apply Ext.drewN | (refine Ext.trans ?_ (by assumption))))).mono ?_
    rintro r w1 ⟨rfl, he⟩
    have hcs := he.cells
    go_wp2_with fail
    refine (light_any e S1 _ 100 20 w1 (hr'.out.ext (by repeat' first | exact Ext.refl _ | assumption | apply Ext.alloc | apply Ext.drew | apply Ext.drewN | (refine Ext.trans ?_ (by assumption)))) (by omega) (by omega) (by omega) (by omega)).mono ?_
    rintro r w2 ⟨rfl, he2⟩
    go_wp2_with fail
    refine (hcr'.out w2 (hR'.out.ext (by repeat' first | exact Ext.refl _ | assumption | apply Ext.alloc | apply Ext.drew | apply Ext.drewN | (refine Ext.trans ?_ (by assumption))))).mono ?_
    rintro r w3 ⟨rfl, he3⟩
    clear hcs
    have hw3 : Ext w w3 := (by repeat' first | exact Ext.refl _ | assumption | apply Ext.alloc | apply Ext.drew | apply Ext.drewN | (refine Ext.trans ?_ (by assumption)))
    have e0 : w3.cell? ⟨w.heap.size, 0, none⟩ = some (.int .i64 e.op) := he3.at (he2.at (he.at (by go_simp)))
    have e1 : w3.cell? ⟨w.heap.size, 1, none⟩ = some (.int .i64 e.n) := he3.at (he2.at (he.at (by go_simp)))
    have e2 : w3.cell? ⟨w.heap.size, 2, none⟩ = some (.string e.s) := he3.at (he2.at (he.at (by go_simp)))
    have e3 : w3.cell? ⟨w.heap.size, 3, none⟩ = some (.slice A e.args.length cap) := he3.at (he2.at (he.at (by go_simp)))
    clear he he2 he3
    go_wp2_with fail
    go_region_held3 (fun w' => w'.cell? ⟨w.heap.size, 0, none⟩ = some (.int .i64 e.op) ∧ w'.cell? ⟨w.heap.size, 1, none⟩ = some (.int .i64 e.n) ∧ w'.cell? ⟨w.heap.size, 2, none⟩ = some (.string e.s) ∧ w'.cell? ⟨w.heap.size, 3, none⟩ = some (.slice A e.args.length cap))
      (first
        | exact ⟨e0, e1, e2, e3⟩
        | exact ⟨he4.at e0, he4.at e1, he4.at e2, he4.at e3⟩
        | exact ⟨he5.at (he4.at e0), he5.at (he4.at e1), he5.at (he4.at e2), he5.at (he4.at e3)⟩)
      ((first
        | (go_at_call 12; refine (kinds_any R S2 vR _ (hR'.out.ext (hw3.trans (Ext.refl _).drew)) (by omega)).mono ?_; rintro r w4 ⟨⟨v', rfl, hown⟩, he4⟩)
        | (go_at_call 31; refine (hty'.out _ w4 (hF'.out.ext ((hw3.trans (Ext.refl _).drew).trans he4)) (own_ints hown (fun _ _ => trivial)) (hr'.out.ext ((hw3.trans (Ext.refl _).drew).trans he4))).mono ?_; rintro r w5 ⟨rfl, he5⟩)))
    have hw5 : Ext w w5 := ((hw3.trans (Ext.refl _).drew).trans he4).trans he5
    go_wp2_with fail
    go_ret
    exact ⟨ret_bool (by rw [hG.out, hT'.out]; rfl), hw5⟩
  | some t =>
    simp only [hT] at hty
    have hty' := Lib.hid hty
    have hT' := Lib.hid hT
    clear hty hT
    go_enter Try.func10, Try.ntmps10
    go_wp2_with fail
    refine (hcf'.out _ (hF'.out.ext (by repeat' first | exact Ext.refl _ | assumption | apply Ext.alloc | apply Ext.drew | apply Ext.drewN | (refine Ext.trans ?_ (by assumption))))).mono ?_
    rintro r w1 ⟨rfl, he⟩
    have hcs := he.cells
    go_wp2_with fail
    refine (light_any e S1 _ 100 20 w1 (hr'.out.ext (by repeat' first | exact Ext.refl _ | assumption | apply Ext.alloc | apply Ext.drew | apply Ext.drewN | (refine Ext.trans ?_ (by assumption)))) (by omega) (by omega) (by omega) (by omega)).mono ?_
    rintro r w2 ⟨rfl, he2⟩
    go_wp2_with fail
    refine (hcr'.out w2 (hR'.out.ext (by repeat' first | exact Ext.refl _ | assumption | apply Ext.alloc | apply Ext.drew | apply Ext.drewN | (refine Ext.trans ?_ (by assumption))))).mono ?_
    rintro r w3 ⟨rfl, he3⟩
    clear hcs
    have hw3 : Ext w w3 := (by repeat' first | exact Ext.refl _ | assumption | apply Ext.alloc | apply Ext.drew | apply Ext.drewN | (refine Ext.trans ?_ (by assumption)))
    have e0 : w3.cell? ⟨w.heap.size, 0, none⟩ = some (.int .i64 e.op) := he3.at (he2.at (he.at (by go_simp)))
    have e1 : w3.cell? ⟨w.heap.size, 1, none⟩ = some (.int .i64 e.n) := he3.at (he2.at (he.at (by go_simp)))
    have e2 : w3.cell? ⟨w.heap.size, 2, none⟩ = some (.string e.s) := he3.at (he2.at (he.at (by go_simp)))
    have e3 : w3.cell? ⟨w.heap.size, 3, none⟩ = some (.slice A e.args.length cap) := he3.at (he2.at (he.at (by go_simp)))
    clear he he2 he3
    go_wp2_with fail
    go_region_held3 (fun w' => w'.cell? ⟨w.heap.size, 0, none⟩ = some (.int .i64 e.op) ∧ w'.cell? ⟨w.heap.size, 1, none⟩ = some (.int .i64 e.n) ∧ w'.cell? ⟨w.heap.size, 2, none⟩ = some (.string e.s) ∧ w'.cell? ⟨w.heap.size, 3, none⟩ = some (.slice A e.args.length cap))
      (first
        | exact ⟨e0, e1, e2, e3⟩
        | exact ⟨he4.at e0, he4.at e1, he4.at e2, he4.at e3⟩
        | exact ⟨he5.at (he4.at e0), he5.at (he4.at e1), he5.at (he4.at e2), he5.at (he4.at e3)⟩)
      ((first
        | (go_at_call 12; refine (kinds_any R S2 vR _ (hR'.out.ext (hw3.trans (Ext.refl _).drew)) (by omega)).mono ?_; rintro r w4 ⟨⟨v', rfl, hown⟩, he4⟩)
        | (go_at_call 31; refine (hty'.out _ w4 (hF'.out.ext ((hw3.trans (Ext.refl _).drew).trans he4)) (own_ints hown (fun _ _ => trivial)) (hr'.out.ext ((hw3.trans (Ext.refl _).drew).trans he4))).mono ?_; rintro r w5 ⟨rfl, he5⟩)))
    have hw5 : Ext w w5 := ((hw3.trans (Ext.refl _).drew).trans he4).trans he5
    have e0 := he4.at e0
    have e1 := he4.at e1
    have e2 := he4.at e2
    have e3 := he4.at e3
    have e0 := he5.at e0
    have e1 := he5.at e1
    have e2 := he5.at e2
    have e3 := he5.at e3
    have hst := rsteps_any F e S1 S vF _ w5 (hF'.out.ext hw5) (hr'.out.ext hw5) hp3 hp2'.out (by omega)
    have hst' := Lib.hid hst; clear hst
    go_wp2_with fail
    refine (hst'.out).mono ?_
    rintro r w6 ⟨rfl, he6⟩
    go_wp2_with fail
    go_ret
    exact ⟨ret_bool (by rw [hG.out, hT'.out]; rfl), hw5.trans he6⟩

end Go.Proofs.Ytmhelkhmgbbfhaa
