/- Walks: what the reference finds right, all functions. -/
import Derived.Test.YtmhelkhmgbbfhaaRightR16
namespace Go.Proofs.Ytmhelkhmgbbfhaa
open Go.RowKit Go.Lib

theorem okF_at {F : List Fn} {k : Nat} (h : k < F.length) : okF F k = (F[k].params.all kindB && decide (tyD (F.take k) [] F[k].params F[k].body = some F[k].res) && decide ((F[k].params.length : Int) ≤ 6)) := by
  unfold okF; rw [List.getElem?_eq_getElem h]
theorem rightF_false {F : List Fn} {k : Nat} (h : k < F.length) (hk : okF F k = false) : rightF F = false := by
  unfold rightF; rw [all_range_false h hk, Bool.and_false]
theorem rightF_end {F : List Fn} (h : ∀ i, i < F.length → okF F i = true) : rightF F = decide ((F.length : Int) ≤ 20) := by
  unfold rightF; rw [all_range_true h, Bool.and_true]

set_option maxHeartbeats 2000000 in
theorem rright_any (F : List Fn) (S : Nat → Prop) (v : Value) (w : World) (hr : Rd w S (.sl (F.map Fn.d)) [v]) (hp : ∀ f ∈ F, parts f.body ≤ 1000000) :
    Calls Try.prog 33 #[v] w fun r w' => r = .returned (.bool (rightF F)) ∧ Ext w w' := by
  obtain ⟨A, cap, b, off, rfl, hl1, hl2, hl3, hm⟩ := Rd.sl_open hr
  simp only [List.length_map] at *
  have hp' := Lib.hid hp; have hl3' := Lib.hid hl3; have hm' := Lib.hid hm
  clear hp hr hl3 hm
  go_enter Try.func33, Try.ntmps33
  go_wp2_with fail
  go_loopw [3] (fun i wr => ∃ (k : Nat), k ≤ F.length ∧ k ≤ 21 ∧ i = .int .i64 k ∧ Hid (∀ j, j < k → okF F j = true) ∧ Ext w wr) (fun i _ => 30 - (intOf i).toNat)
  case atStart => exact ⟨0, by omega, by omega, rfl, Lib.hid (fun j h => absurd h (by omega)), Ext.refl _⟩
  case round =>
    obtain ⟨k, hk, hk2, rfl, HH, hw⟩ := hrel
    obtain ⟨wo, rfl⟩ : ∃ wo : World, wo = wr := ⟨_, rfl⟩
    by_cases hlt : k < F.length
    case neg =>
      have hkl : k = F.length := by omega
      subst hkl
      have H := Lib.hid (rightF_end HH.out)
      go_wp2_with fail
      go_ret
      exact ⟨ret_bool H.out.symm, hw⟩
    by_cases h20 : k ≤ 20
    case neg =>
      have H := Lib.hid (show rightF F = false by unfold rightF; rw [decide_eq_false (by omega)]; rfl)
      have hgt : ¬ (F.length : Int) ≤ 20 := by omega
      go_wp2_with fail
      go_ret
      exact ⟨ret_bool (by rw [H.out]), hw⟩
    obtain ⟨rfl, hSb⟩ := hl3'.out (by omega)
    obtain ⟨A1, cap1, b1, off1, A2, cap2, b2, off2, c0, c1, c2, c3, c4, c5, c6, hr', q1, q2, q3, q4, q5, q6, q7, q8⟩ := Fn.at (hm'.out.ext (fun _ => hSb) hw) hlt
    have hfun := Lib.hid (Rd.cut (k := k) (by simpa using hk) (by simpa using hl1) hl2 hSb (hm'.out.ext (fun _ => hSb) hw))
    have hpar := Lib.hid (Rd.sl_mk (w := wo) (S := S) (n := F[k].params.length) (l := F[k].params.map D.int) (by simp) (by simpa using q1) q2 (by simpa using q3) q4)
    have hbod := Lib.hid (Ex.mk_rd q5 q6 q7 q8)
    have hpb := hp'.out F[k] (List.getElem_mem hlt)
    have q3' := Lib.hid q3; have q4' := Lib.hid q4; have hok := Lib.hid (okF_at hlt)
    have hSb' := Lib.hid hSb
    clear hr' q3 q4 q5 q7 q8 hSb
    go_wp2_with fail
    go_loopw [5] (fun i wq => ∃ (j : Nat), j ≤ F[k].params.length ∧ i = .int .i64 j ∧ Hid (∀ i (hi : i < F[k].params.length), i < j → kindB F[k].params[i] = true) ∧ Ext (wo.alloc (.cells #[.string F[k].name, .slice A1 F[k].params.length cap1, .int .i64 F[k].res, .int .i64 F[k].body.op, .int .i64 F[k].body.n, .string F[k].body.s, .slice A2 F[k].body.args.length cap2] 67)) wq) (fun i _ => F[k].params.length - (intOf i).toNat)
    case atStart => exact ⟨0, by omega, rfl, Lib.hid (fun j _ h => absurd h (by omega)), Ext.refl _⟩
    case round =>
      obtain ⟨j, hj, rfl, HJ, hb⟩ := hrel
      have f1 : wr.cell? ⟨wo.heap.size, 1, none⟩ = some (.slice A1 F[k].params.length cap1) := hb.at (by go_simp)
      have f2 : wr.cell? ⟨wo.heap.size, 2, none⟩ = some (.int .i64 F[k].res) := hb.at (by go_simp)
      have f3 : wr.cell? ⟨wo.heap.size, 3, none⟩ = some (.int .i64 F[k].body.op) := hb.at (by go_simp)
      have f4 : wr.cell? ⟨wo.heap.size, 4, none⟩ = some (.int .i64 F[k].body.n) := hb.at (by go_simp)
      have f5 : wr.cell? ⟨wo.heap.size, 5, none⟩ = some (.string F[k].body.s) := hb.at (by go_simp)
      have f6 : wr.cell? ⟨wo.heap.size, 6, none⟩ = some (.slice A2 F[k].body.args.length cap2) := hb.at (by go_simp)
      have hwr : Ext wo wr := ((Ext.refl _).alloc _).trans hb
      by_cases hjl : j < F[k].params.length
      · obtain ⟨rfl, hS1⟩ := q3'.out (by omega)
        have d0 := ints_at (q4'.out.ext (fun _ => hS1) hwr) hjl
        have hS1' := Lib.hid hS1; clear hS1
        by_cases hkd : kindB F[k].params[j] = true
        · go_wp2_with fail
          refine (rkind_any _ _).mono ?_
          rintro r w1 ⟨rfl, he⟩
          go_wp2_with fail
          go_roundw
          case rel => exact ⟨j + 1, by omega, by go_num, Lib.hid (fun i hi h => by rcases Nat.lt_succ_iff_lt_or_eq.1 h with h | rfl; exact HJ.out i hi h; exact hkd), hb.trans he⟩
          case measure => simp [intOf]; omega
        · have hkd2 : kindB F[k].params[j] = false := by simpa using hkd
          have H := Lib.hid (rightF_false hlt (by rw [hok.out, all_at_false hjl hkd2]; rfl))
          clear hkd
          go_wp2_with fail
          refine (rkind_any _ _).mono ?_
          rintro r w1 ⟨rfl, he⟩
          go_wp2_with fail
          go_ret
          exact ⟨ret_bool (by rw [H.out]), (hw.trans hwr).trans he⟩
      · have hjl2 : j = F[k].params.length := by omega
        subst hjl2
        have hall := Lib.hid (all_at_true (p := kindB) (fun i hi => HJ.out i hi hi))
        have gf1 := ExtW.at f1
        have gf2 := ExtW.at f2
        have gf3 := ExtW.at f3
        have gf4 := ExtW.at f4
        have gf5 := ExtW.at f5
        have gf6 := ExtW.at f6
        have hcall := fun x : ExtW wr => rof_any (F.take k) [] F[k].params F[k].body S Any S S _ (.slice none 0 0) _ _ x.val (by simpa [List.map_take] using (hfun.out.ext hwr).ext x.ext) (Rd.nil none (by omega)) ((hpar.out.ext hwr).ext x.ext) ((hbod.out.ext hwr).ext x.ext) hpb
        cases hT : tyD (F.take k) [] F[k].params F[k].body with
        | none =>
          rw [hT] at hcall
          have hcall' := Lib.hid hcall
          have H := Lib.hid (rightF_false hlt (by rw [hok.out, hT]; simp))
          clear hcall hT
          go_wp2_with fail
          refine wp_region_ext (by kernel_rfl) (by kernel_rfl) ?_
          repeat (go_big_quiet_step ((go_at_call 58; exact Calls.ext_of (hcall'.out _))))
          refine wpQuiet_nil ?_
          intro w1 he
          go_wp2_with fail
          go_ret
          exact ⟨ret_bool (by rw [H.out]), (hw.trans hwr).trans he⟩
        | some t =>
          rw [hT] at hcall
          have hcall' := Lib.hid hcall
          by_cases ht : t = F[k].res
          · by_cases h6 : (F[k].params.length : Int) ≤ 6
            · have H := Lib.hid (show okF F k = true by rw [hok.out, hT, hall.out, ht, decide_eq_true h6]; simp)
              subst ht
              clear hcall hT
              go_wp2_with fail
              refine wp_region_ext (by kernel_rfl) (by kernel_rfl) ?_
              repeat (go_big_quiet_step ((go_at_call 58; exact Calls.ext_of (hcall'.out _))))
              refine wpQuiet_nil ?_
              intro w1 he
              have f1 := he.at f1
              have f2 := he.at f2
              go_wp2_with fail
              go_roundw
              case rel => exact ⟨k + 1, by omega, by omega, by go_num, Lib.hid (fun i h => by rcases Nat.lt_succ_iff_lt_or_eq.1 h with h | rfl; exact HH.out i h; exact H.out), (hw.trans hwr).trans he⟩
              case measure => simp [intOf]; omega
            · have H := Lib.hid (rightF_false hlt (by rw [hok.out, decide_eq_false h6, Bool.and_false]))
              subst ht
              clear hcall hT
              go_wp2_with fail
              refine wp_region_ext (by kernel_rfl) (by kernel_rfl) ?_
              repeat (go_big_quiet_step ((go_at_call 58; exact Calls.ext_of (hcall'.out _))))
              refine wpQuiet_nil ?_
              intro w1 he
              have f1 := he.at f1
              have f2 := he.at f2
              go_wp2_with fail
              go_ret
              exact ⟨ret_bool (by rw [H.out]), (hw.trans hwr).trans he⟩
          · have H := Lib.hid (rightF_false hlt (by rw [hok.out, hT]; simp [ht]))
            have ht' : (t != F[k].res) = true := by simp [ht]
            clear hcall hT
            go_wp2_with fail
            refine wp_region_ext (by kernel_rfl) (by kernel_rfl) ?_
            repeat (go_big_quiet_step ((go_at_call 58; exact Calls.ext_of (hcall'.out _))))
            refine wpQuiet_nil ?_
            intro w1 he
            have f1 := he.at f1
            have f2 := he.at f2
            go_wp2_with fail
            go_ret
            exact ⟨ret_bool (by rw [H.out]), (hw.trans hwr).trans he⟩

set_option maxHeartbeats 1000000 in
theorem rtype_any (F : List Fn) (c p : List Int) (e : Ex) (S S1 S2 S3 : Nat → Prop) (vF vc vp : Value) (cs : List Value) (w : World) (hF : Rd w S (.sl (F.map Fn.d)) [vF]) (hc : Rd w S1 (.sl (c.map D.int)) [vc]) (hp : Rd w S2 (.sl (p.map D.int)) [vp]) (hr : Rd w S3 e.d cs) (hbd : parts e ≤ 1000000) (hpF : ∀ f ∈ F, parts f.body ≤ 1000000) :
    Calls Try.prog 31 #[vF, vc, vp, .agg cs.toArray] w fun r w' => r = .returned (.tuple #[.int .i64 ((typeP F c p e).getD 0), .bool (typeP F c p e).isSome]) ∧ Ext w w' := by
  obtain ⟨A, cap, b, off, rfl, hl1, hl2, hl3, hm⟩ := Ex.open hr
  have hF' := Lib.hid hF; have hc' := Lib.hid hc; have hp' := Lib.hid hp; have hr' := Lib.hid hr; have hpF' := Lib.hid hpF
  clear hF hc hp hr hm hl3 hpF
  cases hR : rightF F with
  | false =>
    have H := Lib.hid (show typeP F c p e = none by unfold typeP; rw [hR]; rfl)
    have hcall := rright_any F S vF
    rw [hR] at hcall
    have hcall' := Lib.hid hcall
    clear hcall hR
    go_enter Try.func31, Try.ntmps31
    go_wp2_with fail
    refine (hcall'.out _ (hF'.out.ext (by repeat' first | exact Ext.refl _ | assumption | apply Ext.alloc | apply Ext.drew | apply Ext.drewN | (refine Ext.trans ?_ (by assumption)))) hpF'.out).mono ?_
    rintro r w1 ⟨rfl, he⟩
    go_wp2_with fail
    go_ret2
    exact ⟨by rw [H.out]; rfl, (by repeat' first | exact Ext.refl _ | assumption | apply Ext.alloc | apply Ext.drew | apply Ext.drewN | (refine Ext.trans ?_ (by assumption)))⟩
  | true =>
    have H := Lib.hid (show typeP F c p e = tyD F c p e by unfold typeP; rw [hR]; rfl)
    have hcall := rright_any F S vF
    rw [hR] at hcall
    have hcall' := Lib.hid hcall
    clear hcall hR
    go_enter Try.func31, Try.ntmps31
    go_wp2_with fail
    refine (hcall'.out _ (hF'.out.ext (by repeat' first | exact Ext.refl _ | assumption | apply Ext.alloc | apply Ext.drew | apply Ext.drewN | (refine Ext.trans ?_ (by assumption)))) hpF'.out).mono ?_
    rintro r w1 ⟨rfl, he⟩
    have hcs := he.cells
    go_wp2_with fail
    refine (rof_any F c p e S S1 S2 S3 vF vc vp _ _ (hF'.out.ext (by repeat' first | exact Ext.refl _ | assumption | apply Ext.alloc | apply Ext.drew | apply Ext.drewN | (refine Ext.trans ?_ (by assumption)))) (hc'.out.ext (by repeat' first | exact Ext.refl _ | assumption | apply Ext.alloc | apply Ext.drew | apply Ext.drewN | (refine Ext.trans ?_ (by assumption)))) (hp'.out.ext (by repeat' first | exact Ext.refl _ | assumption | apply Ext.alloc | apply Ext.drew | apply Ext.drewN | (refine Ext.trans ?_ (by assumption)))) (hr'.out.ext (by repeat' first | exact Ext.refl _ | assumption | apply Ext.alloc | apply Ext.drew | apply Ext.drewN | (refine Ext.trans ?_ (by assumption)))) hbd).mono ?_
    rintro r w2 ⟨rfl, he2⟩
    go_wp2_with fail
    go_ret2
    exact ⟨by rw [H.out]; rfl, (by repeat' first | exact Ext.refl _ | assumption | apply Ext.alloc | apply Ext.drew | apply Ext.drewN | (refine Ext.trans ?_ (by assumption)))⟩

end Go.Proofs.Ytmhelkhmgbbfhaa
