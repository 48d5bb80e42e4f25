/- Walk: the law ExprSound. -/
import Derived.Test.YtmhelkhmgbbfhaaSmallW16
import Derived.Test.YtmhelkhmgbbfhaaGood16
namespace Go.Proofs.Ytmhelkhmgbbfhaa
open Go.RowKit Go.Lib

theorem good_all {F : List Fn} {e : Ex} {R : List Val} (h : goodP F e R = true) : ∃ t, typeP F (R.map Val.k) [] e = some t ∧ rightF F = true ∧ ty F (R.map Val.k) [] e = some t ∧ (∀ i, i < F.length → okF F i = true) ∧ (∀ f ∈ F, parts f.body ≤ 1000000) ∧ parts e ≤ 1000000 ∧ R.length ≤ 20 ∧ (∀ v ∈ R, soundV v) ∧ levels e ≤ 12 := by
  unfold goodP at h
  simp only [Bool.and_eq_true, decide_eq_true_eq] at h
  obtain ⟨⟨⟨⟨h1, h2⟩, h3⟩, h4⟩, h5⟩ := h
  obtain ⟨-, p2, p3, p4⟩ := goodP_parts h1 h2 h3
  obtain ⟨t, ht⟩ := Option.isSome_iff_exists.1 h4
  have htD := ht
  unfold typeP at htD
  split at htD
  · rename_i hF
    unfold tyD at htD
    split at htD
    · cases htD
    · rename_i hlev
      refine ⟨t, ht, hF, htD, ?_, p2, p3, p4, ?_, by omega⟩
      · unfold rightF at hF
        simp only [Bool.and_eq_true, List.all_eq_true, List.mem_range] at hF
        exact hF.2
      · unfold fitsR at h3
        simp only [Bool.and_eq_true, List.all_eq_true] at h3
        intro v hv
        have := h3.1 v hv
        unfold fitB at this
        simp only [Bool.and_eq_true, decide_eq_true_eq] at this
        exact ⟨this.1, by omega⟩
  · cases htD

set_option maxRecDepth 10000 in
set_option maxHeartbeats 2000000 in
theorem sound_any (F : List Fn) (e : Ex) (time : Int) (R : List Val) (vF vR : Value) (cs : List Value) (w : World) (hF : Rd w Any (.sl (F.map Fn.d)) [vF]) (hr : Rd w Any e.d cs) (hR : Rd w Any (.sl (R.map Val.d)) [vR]) :
    Calls Try.prog 3 #[vF, .agg cs.toArray, .int .i64 time, vR] w fun r w' => r = .returned (.bool true) ∧ Ext w w' := by
  obtain ⟨A, cap, b, off, rfl, hl1, hl2, hl3, hm⟩ := Ex.open hr
  have hF' := Lib.hid hF; have hr' := Lib.hid hr; have hR' := Lib.hid hR
  clear hF hr hR hm hl3
  have hcg := fun w' h1 h2 h3 => good_any F e R Any Any Any vF vR [.int .i64 e.op, .int .i64 e.n, .string e.s, .slice A e.args.length cap] w' h1 h2 h3
  cases hg : goodP F e R with
  | false =>
    rw [hg] at hcg
    have hcg' := Lib.hid hcg
    clear hcg hg
    go_enter Try.func3, Try.ntmps3
    go_wp2_with fail
    refine (small_any _).mono ?_
    rintro r w1 ⟨rfl, he⟩
    have e0 : w1.cell? ⟨w.heap.size, 0, none⟩ = some (.int .i64 e.op) := he.at (by go_simp)
    have e1 : w1.cell? ⟨w.heap.size, 1, none⟩ = some (.int .i64 e.n) := he.at (by go_simp)
    have e2 : w1.cell? ⟨w.heap.size, 2, none⟩ = some (.string e.s) := he.at (by go_simp)
    have e3 : w1.cell? ⟨w.heap.size, 3, none⟩ = some (.slice A e.args.length cap) := he.at (by go_simp)
    go_wp2_with fail
    refine (hcg'.out _ (hF'.out.ext (by repeat' first | exact Ext.refl _ | assumption | apply Ext.alloc | apply Ext.drew | apply Ext.drewN | (refine Ext.trans ?_ (by assumption)))) (hr'.out.ext (by repeat' first | exact Ext.refl _ | assumption | apply Ext.alloc | apply Ext.drew | apply Ext.drewN | (refine Ext.trans ?_ (by assumption)))) (hR'.out.ext (by repeat' first | exact Ext.refl _ | assumption | apply Ext.alloc | apply Ext.drew | apply Ext.drewN | (refine Ext.trans ?_ (by assumption))))).mono ?_
    rintro r w2 ⟨rfl, he2⟩
    go_wp2_with fail
    go_ret
    exact ⟨rfl, (by repeat' first | exact Ext.refl _ | assumption | apply Ext.alloc | apply Ext.drew | apply Ext.drewN | (refine Ext.trans ?_ (by assumption)))⟩
  | true =>
    rw [hg] at hcg
    have hcg' := Lib.hid hcg
    clear hcg
    obtain ⟨t, hT, hRF, hty, hOk, hFp, hpb, hlR, hsR, hlev⟩ := good_all hg
    have hct := fun (vc : Value) (w' : World) (h1 : Rd w' Any (.sl (F.map Fn.d)) [vF]) (h2 : Rd w' Any (.sl ((R.map Val.k).map D.int)) [vc]) (h3 : Rd w' Any e.d [.int .i64 e.op, .int .i64 e.n, .string e.s, .slice A e.args.length cap]) =>
      type_any F (R.map Val.k) [] e Any Any Any Any vF vc (.slice none 0 0) _ w' h1 h2 (Rd.nil none (by omega)) h3 hpb hFp
    simp only [hT, Option.getD_some, Option.isSome_some] at hct
    have hct' := Lib.hid hct
    have hev := fun w' h1 h2 h3 => Eval_any F time R e t hOk hFp hpb hty hsR vF vR [.int .i64 e.op, .int .i64 e.n, .string e.s, .slice A e.args.length cap] w' h1 h2 h3
    obtain ⟨hk, hs1, hs2⟩ := ev_sound (F := F) time hOk F.length e (by rw [List.take_length]; exact hty) rfl rfl hsR (show ∀ v ∈ ([] : List Val), soundV v by simp)
    have hZ : evalP F time R e = ev (callN F time F.length) time R [] e := rfl
    rw [← hZ] at hk hs1 hs2
    clear hZ
    have hri := fun w' => rightV_any (evalP F time R e) w'
    rw [hs1] at hri
    clear hT hRF hty hOk hFp hpb hsR hlev hct hg hs1
    generalize evalP F time R e = Z at *
    obtain ⟨kz, nz, sz⟩ := Z
    simp only [Val.v] at *
    subst hk
    have hev' := Lib.hid hev; have hri' := Lib.hid hri
    have hs3 : (sz.size : Int) ≤ 200 := by omega
    clear hev hri
    go_enter Try.func3, Try.ntmps3
    go_wp2_with fail
    refine (small_any _).mono ?_
    rintro r w1 ⟨rfl, he⟩
    have e0 : w1.cell? ⟨w.heap.size, 0, none⟩ = some (.int .i64 e.op) := he.at (by go_simp)
    have e1 : w1.cell? ⟨w.heap.size, 1, none⟩ = some (.int .i64 e.n) := he.at (by go_simp)
    have e2 : w1.cell? ⟨w.heap.size, 2, none⟩ = some (.string e.s) := he.at (by go_simp)
    have e3 : w1.cell? ⟨w.heap.size, 3, none⟩ = some (.slice A e.args.length cap) := he.at (by go_simp)
    go_wp2_with fail
    refine (hcg'.out _ (hF'.out.ext (by repeat' first | exact Ext.refl _ | assumption | apply Ext.alloc | apply Ext.drew | apply Ext.drewN | (refine Ext.trans ?_ (by assumption)))) (hr'.out.ext (by repeat' first | exact Ext.refl _ | assumption | apply Ext.alloc | apply Ext.drew | apply Ext.drewN | (refine Ext.trans ?_ (by assumption)))) (hR'.out.ext (by repeat' first | exact Ext.refl _ | assumption | apply Ext.alloc | apply Ext.drew | apply Ext.drewN | (refine Ext.trans ?_ (by assumption))))).mono ?_
    rintro r w2 ⟨rfl, he2⟩
    replace e0 := he2.at e0; replace e1 := he2.at e1; replace e2 := he2.at e2; replace e3 := he2.at e3
    have hw3 : Ext w w2 := (by repeat' first | exact Ext.refl _ | assumption | apply Ext.alloc | apply Ext.drew | apply Ext.drewN | (refine Ext.trans ?_ (by assumption)))
    clear he he2
    go_wp2_with fail
    go_region_held3 (fun w' => w'.cell? ⟨w.heap.size, 0, none⟩ = some (.int .i64 e.op) ∧ w'.cell? ⟨w.heap.size, 1, none⟩ = some (.int .i64 e.n) ∧ w'.cell? ⟨w.heap.size, 2, none⟩ = some (.string e.s) ∧ w'.cell? ⟨w.heap.size, 3, none⟩ = some (.slice A e.args.length cap))
      (first
        | exact ⟨e0, e1, e2, e3⟩
        | exact ⟨he4.at e0, he4.at e1, he4.at e2, he4.at e3⟩
        | exact ⟨he5.at (he4.at e0), he5.at (he4.at e1), he5.at (he4.at e2), he5.at (he4.at e3)⟩)
      ((first
        | (go_at_call 12; refine (kinds_any R Any vR _ (hR'.out.ext (hw3.trans (Ext.refl _).drew)) (by omega)).mono ?_; rintro r w4 ⟨⟨v', rfl, hown⟩, he4⟩)
        | (go_at_call 11; refine (hct'.out _ w4 (hF'.out.ext ((hw3.trans (Ext.refl _).drew).trans he4)) (own_ints hown (fun _ _ => trivial)) (hr'.out.ext ((hw3.trans (Ext.refl _).drew).trans he4))).mono ?_; rintro r w5 ⟨rfl, he5⟩)))
    have hw5 : Ext w w5 := ((hw3.trans (Ext.refl _).drew).trans he4).trans he5
    clear hown he4 he5 hw3
    go_wp2_with fail
    refine (hev'.out _ (hF'.out.ext hw5) (hR'.out.ext hw5) (hr'.out.ext hw5)).mono ?_
    rintro r w6 ⟨rfl, he6⟩
    have hw6 : Ext w w6 := hw5.trans he6
    clear hw5 he6
    go_wp2_with fail
    refine (hri'.out _).mono ?_
    rintro r w7 ⟨rfl, he7⟩
    have z0 : w7.cell? ⟨w6.heap.size, 0, none⟩ = some (.int .i64 kz) := he7.at (by go_simp)
    have z1 : w7.cell? ⟨w6.heap.size, 1, none⟩ = some (.int .i64 nz) := he7.at (by go_simp)
    have z2 : w7.cell? ⟨w6.heap.size, 2, none⟩ = some (.string sz) := he7.at (by go_simp)
    have hw7 : Ext w w7 := hw6.trans (((Ext.refl _).alloc _).trans he7)
    clear he7 hw6
    go_wp2_with fail
    go_ret
    exact ⟨rfl, hw7⟩
end Go.Proofs.Ytmhelkhmgbbfhaa
