/- Walks: what the reference finds right. -/
import Derived.Test.YtmhelkhmgbbfhaaGa2
import Derived.Test.YtmhelkhmgbbfhaaGa6
namespace Go.Proofs.Ytmhelkhmgbbfhaa
open Go.RowKit Go.Lib

theorem levels_bd {e : Ex} (h : parts e ≤ 1000000) : levels e ≤ 1000000 := by have := levels_le e; omega

set_option maxHeartbeats 1000000 in
theorem rof_any (F : List Fn) (c p : List Int) (e : Ex) (S S1 S2 S3 : Nat → Prop) (vF vc vp : Value) (cs : List Value) (w : World) (hF : Rd w S (.sl (F.map Fn.d)) [vF]) (hc : Rd w S1 (.sl (c.map D.int)) [vc]) (hp : Rd w S2 (.sl (p.map D.int)) [vp]) (hr : Rd w S3 e.d cs) (hbd : parts e ≤ 1000000) :
    Calls Try.prog 58 #[vF, vc, vp, .agg cs.toArray] w fun r w' => r = .returned (.tuple #[.int .i64 ((tyD F c p e).getD 0), .bool (tyD F c p e).isSome]) ∧ Ext w w' := by
  obtain ⟨A, cap, b, off, rfl, hl1, hl2, hl3, hm⟩ := Ex.open hr
  have hF' := Lib.hid hF; have hc' := Lib.hid hc; have hp' := Lib.hid hp; have hr' := Lib.hid hr
  clear hF hc hp hr hm hl3
  have hlv := levels_bd hbd
  by_cases h12 : levels e > 12
  · have H := Lib.hid (show tyD F c p e = none by unfold tyD; rw [if_pos h12])
    go_enter Try.func58, Try.ntmps58
    go_wp2_with fail
    refine (rlevels_any e S3 _ _ (hr'.out.ext (by repeat' first | exact Ext.refl _ | assumption | apply Ext.alloc | apply Ext.drew | apply Ext.drewN | (refine Ext.trans ?_ (by assumption)))) hlv).mono ?_
    rintro r w1 ⟨rfl, he⟩
    go_wp2_with fail
    go_ret2
    exact ⟨by rw [H.out]; rfl, (by repeat' first | exact Ext.refl _ | assumption | apply Ext.alloc | apply Ext.drew | apply Ext.drewN | (refine Ext.trans ?_ (by assumption)))⟩
  · have H := Lib.hid (show tyD F c p e = ty F c p e by unfold tyD; rw [if_neg h12])
    go_enter Try.func58, Try.ntmps58
    go_wp2_with fail
    refine (rlevels_any e S3 _ _ (hr'.out.ext (by repeat' first | exact Ext.refl _ | assumption | apply Ext.alloc | apply Ext.drew | apply Ext.drewN | (refine Ext.trans ?_ (by assumption)))) hlv).mono ?_
    rintro r w1 ⟨rfl, he⟩
    have hcs := he.cells
    go_wp2_with fail
    refine (inner_any F c p e S S1 S2 S3 vF vc vp _ _ (hF'.out.ext (by repeat' first | exact Ext.refl _ | assumption | apply Ext.alloc | apply Ext.drew | apply Ext.drewN | (refine Ext.trans ?_ (by assumption)))) (hc'.out.ext (by repeat' first | exact Ext.refl _ | assumption | apply Ext.alloc | apply Ext.drew | apply Ext.drewN | (refine Ext.trans ?_ (by assumption)))) (hp'.out.ext (by repeat' first | exact Ext.refl _ | assumption | apply Ext.alloc | apply Ext.drew | apply Ext.drewN | (refine Ext.trans ?_ (by assumption)))) (hr'.out.ext (by repeat' first | exact Ext.refl _ | assumption | apply Ext.alloc | apply Ext.drew | apply Ext.drewN | (refine Ext.trans ?_ (by assumption)))) hbd).mono ?_
    rintro r w2 ⟨⟨t, ok, rfl, hA⟩, he2⟩
    have hA' := Lib.hid hA; clear hA hcs
    cases ok
    all_goals
      go_wp2_with fail
      go_ret2
      exact ⟨by rw [H.out, ← hA'.out]; rfl, (by repeat' first | exact Ext.refl _ | assumption | apply Ext.alloc | apply Ext.drew | apply Ext.drewN | (refine Ext.trans ?_ (by assumption)))⟩

end Go.Proofs.Ytmhelkhmgbbfhaa

/- Walks: what the reference finds right, all functions. -/
namespace Go.Proofs.Ytmhelkhmgbbfhaa
open Go.RowKit Go.Lib

theorem okF_at {F : List Fn} {k : Nat} (h : k < F.length) : okF F k = (F[k].params.all kindB && decide (tyD (F.take k) [] F[k].params F[k].body = some F[k].res) && decide ((F[k].params.length : Int) ≤ 6)) := by
  unfold okF; rw [List.getElem?_eq_getElem h]
theorem rightF_false {F : List Fn} {k : Nat} (h : k < F.length) (hk : okF F k = false) : rightF F = false := by
  unfold rightF; rw [all_range_false h hk, Bool.and_false]
theorem rightF_end {F : List Fn} (h : ∀ i, i < F.length → okF F i = true) : rightF F = decide ((F.length : Int) ≤ 20) := by
  unfold rightF; rw [all_range_true h, Bool.and_true]

set_option maxHeartbeats 2000000 in
theorem rright_any (F : List Fn) (S : Nat → Prop) (v : Value) (w : World) (hr : Rd w S (.sl (F.map Fn.d)) [v]) (hp : ∀ f ∈ F, parts f.body ≤ 1000000) :
    Calls Try.prog 33 #[v] w fun r w' => r = .returned (.bool (rightF F)) ∧ Ext w w' := by
  obtain ⟨A, cap, b, off, rfl, hl1, hl2, hl3, hm⟩ := Rd.sl_open hr
  simp only [List.length_map] at *
  have hp' := Lib.hid hp; have hl3' := Lib.hid hl3; have hm' := Lib.hid hm
  clear hp hr hl3 hm
  go_enter Try.func33, Try.ntmps33
  go_wp2_with fail
  go_loopw [3] (fun i wr => ∃ (k : Nat), k ≤ F.length ∧ k ≤ 21 ∧ i = .int .i64 k ∧ Hid (∀ j, j < k → okF F j = true) ∧ Ext w wr) (fun i _ => 30 - (intOf i).toNat)
  case atStart => exact ⟨0, by omega, by omega, rfl, Lib.hid (fun j h => absurd h (by omega)), Ext.refl _⟩
  case round =>
    obtain ⟨k, hk, hk2, rfl, HH, hw⟩ := hrel
    obtain ⟨wo, rfl⟩ : ∃ wo : World, wo = wr := ⟨_, rfl⟩
    by_cases hlt : k < F.length
    case neg =>
      have hkl : k = F.length := by omega
      subst hkl
      have H := Lib.hid (rightF_end HH.out)
      go_wp2_with fail
      go_ret
      exact ⟨ret_bool H.out.symm, hw⟩
    by_cases h20 : k ≤ 20
    case neg =>
      have H := Lib.hid (show rightF F = false by unfold rightF; rw [decide_eq_false (by omega)]; rfl)
      have hgt : ¬ (F.length : Int) ≤ 20 := by omega
      go_wp2_with fail
      go_ret
      exact ⟨ret_bool (by rw [H.out]), hw⟩
    obtain ⟨rfl, hSb⟩ := hl3'.out (by omega)
    obtain ⟨A1, cap1, b1, off1, A2, cap2, b2, off2, c0, c1, c2, c3, c4, c5, c6, hr', q1, q2, q3, q4, q5, q6, q7, q8⟩ := Fn.at (hm'.out.ext (fun _ => hSb) hw) hlt
    have hfun := Lib.hid (Rd.cut (k := k) (by simpa using hk) (by simpa using hl1) hl2 hSb (hm'.out.ext (fun _ => hSb) hw))
    have hpar := Lib.hid (Rd.sl_mk (w := wo) (S := S) (n := F[k].params.length) (l := F[k].params.map D.int) (by simp) (by simpa using q1) q2 (by simpa using q3) q4)
    have hbod := Lib.hid (Ex.mk_rd q5 q6 q7 q8)
    have hpb := hp'.out F[k] (List.getElem_mem hlt)
    have q3' := Lib.hid q3; have q4' := Lib.hid q4; have hok := Lib.hid (okF_at hlt)
    have hSb' := Lib.hid hSb
    clear hr' q3 q4 q5 q7 q8 hSb
    go_wp2_with fail
    go_loopw [5] (fun i wq => ∃ (j : Nat), j ≤ F[k].params.length ∧ i = .int .i64 j ∧ Hid (∀ i (hi : i < F[k].params.length), i < j → kindB F[k].params[i] = true) ∧ Ext (wo.alloc (.cells #[.string F[k].name, .slice A1 F[k].params.length cap1, .int .i64 F[k].res, .int .i64 F[k].body.op, .int .i64 F[k].body.n, .string F[k].body.s, .slice A2 F[k].body.args.length cap2] 67)) wq) (fun i _ => F[k].params.length - (intOf i).toNat)
    case atStart => exact ⟨0, by omega, rfl, Lib.hid (fun j _ h => absurd h (by omega)), Ext.refl _⟩
    case round =>
      obtain ⟨j, hj, rfl, HJ, hb⟩ := hrel
      have f1 : wr.cell? ⟨wo.heap.size, 1, none⟩ = some (.slice A1 F[k].params.length cap1) := hb.at (by go_simp)
      have f2 : wr.cell? ⟨wo.heap.size, 2, none⟩ = some (.int .i64 F[k].res) := hb.at (by go_simp)
      have f3 : wr.cell? ⟨wo.heap.size, 3, none⟩ = some (.int .i64 F[k].body.op) := hb.at (by go_simp)
      have f4 : wr.cell? ⟨wo.heap.size, 4, none⟩ = some (.int .i64 F[k].body.n) := hb.at (by go_simp)
      have f5 : wr.cell? ⟨wo.heap.size, 5, none⟩ = some (.string F[k].body.s) := hb.at (by go_simp)
      have f6 : wr.cell? ⟨wo.heap.size, 6, none⟩ = some (.slice A2 F[k].body.args.length cap2) := hb.at (by go_simp)
      have hwr : Ext wo wr := ((Ext.refl _).alloc _).trans hb
      by_cases hjl : j < F[k].params.length
      · obtain ⟨rfl, hS1⟩ := q3'.out (by omega)
        have d0 := ints_at (q4'.out.ext (fun _ => hS1) hwr) hjl
        have hS1' := Lib.hid hS1; clear hS1
        by_cases hkd : kindB F[k].params[j] = true
        · go_wp2_with fail
          refine (rkind_any _ _).mono ?_
          rintro r w1 ⟨rfl, he⟩
          go_wp2_with fail
          go_roundw
          case rel => exact ⟨j + 1, by omega, by go_num, Lib.hid (fun i hi h => by rcases Nat.lt_succ_iff_lt_or_eq.1 h with h | rfl; exact HJ.out i hi h; exact hkd), hb.trans he⟩
          case measure => simp [intOf]; omega
        · have hkd2 : kindB F[k].params[j] = false := by simpa using hkd
          have H := Lib.hid (rightF_false hlt (by rw [hok.out, all_at_false hjl hkd2]; rfl))
          clear hkd
          go_wp2_with fail
          refine (rkind_any _ _).mono ?_
          rintro r w1 ⟨rfl, he⟩
          go_wp2_with fail
          go_ret
          exact ⟨ret_bool (by rw [H.out]), (hw.trans hwr).trans he⟩
      · have hjl2 : j = F[k].params.length := by omega
        subst hjl2
        have hall := Lib.hid (all_at_true (p := kindB) (fun i hi => HJ.out i hi hi))
        have gf1 := ExtW.at f1
        have gf2 := ExtW.at f2
        have gf3 := ExtW.at f3
        have gf4 := ExtW.at f4
        have gf5 := ExtW.at f5
        have gf6 := ExtW.at f6
        have hcall := fun x : ExtW wr => rof_any (F.take k) [] F[k].params F[k].body S Any S S _ (.slice none 0 0) _ _ x.val (by simpa [List.map_take] using (hfun.out.ext hwr).ext x.ext) (Rd.nil none (by omega)) ((hpar.out.ext hwr).ext x.ext) ((hbod.out.ext hwr).ext x.ext) hpb
        cases hT : tyD (F.take k) [] F[k].params F[k].body with
        | none =>
          rw [hT] at hcall
          have hcall' := Lib.hid hcall
          have H := Lib.hid (rightF_false hlt (by rw [hok.out, hT]; simp))
          clear hcall hT
          go_wp2_with fail
          refine wp_region_ext (by kernel_rfl) (by kernel_rfl) ?_
          repeat (go_big_quiet_step ((go_at_call 58; exact Calls.ext_of (hcall'.out _))))
          refine wpQuiet_nil ?_
          intro w1 he
          go_wp2_with fail
          go_ret
          exact ⟨ret_bool (by rw [H.out]), (hw.trans hwr).trans he⟩
        | some t =>
          rw [hT] at hcall
          have hcall' := Lib.hid hcall
          by_cases ht : t = F[k].res
          · by_cases h6 : (F[k].params.length : Int) ≤ 6
            · have H := Lib.hid (show okF F k = true by rw [hok.out, hT, hall.out, ht, decide_eq_true h6]; simp)
              subst ht
              clear hcall hT
              go_wp2_with fail
              refine wp_region_ext (by kernel_rfl) (by kernel_rfl) ?_
              repeat (go_big_quiet_step ((go_at_call 58; exact Calls.ext_of (hcall'.out _))))
              refine wpQuiet_nil ?_
              intro w1 he
              have f1 := he.at f1
              have f2 := he.at f2
              go_wp2_with fail
              go_roundw
              case rel => exact ⟨k + 1, by omega, by omega, by go_num, Lib.hid (fun i h => by rcases Nat.lt_succ_iff_lt_or_eq.1 h with h | rfl; exact HH.out i h; exact H.out), (hw.trans hwr).trans he⟩
              case measure => simp [intOf]; omega
            · have H := Lib.hid (rightF_false hlt (by rw [hok.out, decide_eq_false h6, Bool.and_false]))
              subst ht
              clear hcall hT
              go_wp2_with fail
              refine wp_region_ext (by kernel_rfl) (by kernel_rfl) ?_
              repeat (go_big_quiet_step ((go_at_call 58; exact Calls.ext_of (hcall'.out _))))
              refine wpQuiet_nil ?_
              intro w1 he
              have f1 := he.at f1
              have f2 := he.at f2
              go_wp2_with fail
              go_ret
              exact ⟨ret_bool (by rw [H.out]), (hw.trans hwr).trans he⟩
          · have H := Lib.hid (rightF_false hlt (by rw [hok.out, hT]; simp [ht]))
            have ht' : (t != F[k].res) = true := by simp [ht]
            clear hcall hT
            go_wp2_with fail
            refine wp_region_ext (by kernel_rfl) (by kernel_rfl) ?_
            repeat (go_big_quiet_step ((go_at_call 58; exact Calls.ext_of (hcall'.out _))))
            refine wpQuiet_nil ?_
            intro w1 he
            have f1 := he.at f1
            have f2 := he.at f2
            go_wp2_with fail
            go_ret
            exact ⟨ret_bool (by rw [H.out]), (hw.trans hwr).trans he⟩

set_option maxHeartbeats 1000000 in
theorem rtype_any (F : List Fn) (c p : List Int) (e : Ex) (S S1 S2 S3 : Nat → Prop) (vF vc vp : Value) (cs : List Value) (w : World) (hF : Rd w S (.sl (F.map Fn.d)) [vF]) (hc : Rd w S1 (.sl (c.map D.int)) [vc]) (hp : Rd w S2 (.sl (p.map D.int)) [vp]) (hr : Rd w S3 e.d cs) (hbd : parts e ≤ 1000000) (hpF : ∀ f ∈ F, parts f.body ≤ 1000000) :
    Calls Try.prog 31 #[vF, vc, vp, .agg cs.toArray] w fun r w' => r = .returned (.tuple #[.int .i64 ((typeP F c p e).getD 0), .bool (typeP F c p e).isSome]) ∧ Ext w w' := by
  obtain ⟨A, cap, b, off, rfl, hl1, hl2, hl3, hm⟩ := Ex.open hr
  have hF' := Lib.hid hF; have hc' := Lib.hid hc; have hp' := Lib.hid hp; have hr' := Lib.hid hr; have hpF' := Lib.hid hpF
  clear hF hc hp hr hm hl3 hpF
  cases hR : rightF F with
  | false =>
    have H := Lib.hid (show typeP F c p e = none by unfold typeP; rw [hR]; rfl)
    have hcall := rright_any F S vF
    rw [hR] at hcall
    have hcall' := Lib.hid hcall
    clear hcall hR
    go_enter Try.func31, Try.ntmps31
    go_wp2_with fail
    refine (hcall'.out _ (hF'.out.ext (by repeat' first | exact Ext.refl _ | assumption | apply Ext.alloc | apply Ext.drew | apply Ext.drewN | (refine Ext.trans ?_ (by assumption)))) hpF'.out).mono ?_
    rintro r w1 ⟨rfl, he⟩
    go_wp2_with fail
    go_ret2
    exact ⟨by rw [H.out]; rfl, (by repeat' first | exact Ext.refl _ | assumption | apply Ext.alloc | apply Ext.drew | apply Ext.drewN | (refine Ext.trans ?_ (by assumption)))⟩
  | true =>
    have H := Lib.hid (show typeP F c p e = tyD F c p e by unfold typeP; rw [hR]; rfl)
    have hcall := rright_any F S vF
    rw [hR] at hcall
    have hcall' := Lib.hid hcall
    clear hcall hR
    go_enter Try.func31, Try.ntmps31
    go_wp2_with fail
    refine (hcall'.out _ (hF'.out.ext (by repeat' first | exact Ext.refl _ | assumption | apply Ext.alloc | apply Ext.drew | apply Ext.drewN | (refine Ext.trans ?_ (by assumption)))) hpF'.out).mono ?_
    rintro r w1 ⟨rfl, he⟩
    have hcs := he.cells
    go_wp2_with fail
    refine (rof_any F c p e S S1 S2 S3 vF vc vp _ _ (hF'.out.ext (by repeat' first | exact Ext.refl _ | assumption | apply Ext.alloc | apply Ext.drew | apply Ext.drewN | (refine Ext.trans ?_ (by assumption)))) (hc'.out.ext (by repeat' first | exact Ext.refl _ | assumption | apply Ext.alloc | apply Ext.drew | apply Ext.drewN | (refine Ext.trans ?_ (by assumption)))) (hp'.out.ext (by repeat' first | exact Ext.refl _ | assumption | apply Ext.alloc | apply Ext.drew | apply Ext.drewN | (refine Ext.trans ?_ (by assumption)))) (hr'.out.ext (by repeat' first | exact Ext.refl _ | assumption | apply Ext.alloc | apply Ext.drew | apply Ext.drewN | (refine Ext.trans ?_ (by assumption)))) hbd).mono ?_
    rintro r w2 ⟨rfl, he2⟩
    go_wp2_with fail
    go_ret2
    exact ⟨by rw [H.out]; rfl, (by repeat' first | exact Ext.refl _ | assumption | apply Ext.alloc | apply Ext.drew | apply Ext.drewN | (refine Ext.trans ?_ (by assumption)))⟩

end Go.Proofs.Ytmhelkhmgbbfhaa

/- Walks: the type of an expression, as the program finds it. -/
namespace Go.Proofs.Ytmhelkhmgbbfhaa
open Go.RowKit Go.Lib

set_option maxRecDepth 10000 in
set_option maxHeartbeats 4000000 in
theorem leaf_any (c p : List Int) (e : Ex) (S S1 S2 : Nat → Prop) (vF vc vp : Value) (cs : List Value) (w : World) (hc : Rd w S1 (.sl (c.map D.int)) [vc]) (hp : Rd w S2 (.sl (p.map D.int)) [vp]) (hr : Rd w S e.d cs) :
    Calls Try.prog 92 #[.agg #[vF, vc, vp], .agg cs.toArray] w fun r w' => Answer (leafT c p e.op e.n e.s) r ∧ Ext w w' := by
  obtain ⟨A, cap, b, off, rfl, hl1, hl2, hl3, hm⟩ := Ex.open hr
  obtain ⟨o, m, s, l⟩ := e
  simp only [Ex.args, Ex.op, Ex.n, Ex.s] at *
  have hc' := Lib.hid hc; have hp' := Lib.hid hp
  clear hr hm hl3 hc hp
  have hO : o = 0 ∨ o = 1 ∨ o = 2 ∨ o = 3 ∨ o = 4 ∨ o = 5 ∨ (o < 0 ∨ 5 < o) := by omega
  have hO' := Lib.hid hO; clear hO
  have hbx : ∀ o1 (x : ExtW ((w.alloc o1).alloc (.cells #[.int .i64 o, .int .i64 m, .string s, .slice A l.length cap] 25))), x.val.cell? ⟨w.heap.size + 1, 1, none⟩ = some (.int .i64 m) := fun o1 x => x.ext.at (by go_simp)
  have hbx2 : ∀ o1 (x : ExtW ((w.alloc o1).alloc (.cells #[.int .i64 o, .int .i64 m, .string s, .slice A l.length cap] 25))), x.val.cell? ⟨w.heap.size + 1, 2, none⟩ = some (.string s) := fun o1 x => x.ext.at (by go_simp)
  rcases hO'.out with rfl | rfl | rfl | rfl | rfl | rfl | hC
  · go_enter Try.func92, Try.ntmps92
    go_wp2_with fail
    go_ret2
    exact ⟨by simp only [leafT]; exact answer_some, (by repeat' first | exact Ext.refl _ | assumption | apply Ext.alloc | apply Ext.drew | apply Ext.drewN | (refine Ext.trans ?_ (by assumption)))⟩
  · by_cases hm0 : m = 0
    · subst hm0
      go_enter Try.func92, Try.ntmps92
      go_wp2_with fail
      refine wp_region_ext (by kernel_rfl) (by kernel_rfl) ?_
      repeat (go_big_quiet_step ((fail)))
      refine wpQuiet_nil ?_
      intro w1 he
      go_wp2_with fail
      go_ret2
      exact ⟨answer_of (by simp [leafT]), (by repeat' first | exact Ext.refl _ | assumption | apply Ext.alloc | apply Ext.drew | apply Ext.drewN | (refine Ext.trans ?_ (by assumption)))⟩
    · have hm1 : (m == 0) = false := by simp [hm0]
      go_enter Try.func92, Try.ntmps92
      go_wp2_with fail
      refine wp_region_ext (by kernel_rfl) (by kernel_rfl) ?_
      repeat (go_big_quiet_step ((fail)))
      refine wpQuiet_nil ?_
      intro w1 he
      go_wp2_with fail
      go_ret2
      exact ⟨answer_of (by simp [leafT, hm0]), (by repeat' first | exact Ext.refl _ | assumption | apply Ext.alloc | apply Ext.drew | apply Ext.drewN | (refine Ext.trans ?_ (by assumption)))⟩
  · by_cases hm0 : m = 0
    · subst hm0
      go_enter Try.func92, Try.ntmps92
      go_wp2_with fail
      refine wp_region_ext (by kernel_rfl) (by kernel_rfl) ?_
      repeat (go_big_quiet_step ((fail)))
      refine wpQuiet_nil ?_
      intro w1 he
      go_wp2_with fail
      go_ret2
      exact ⟨answer_of (by simp [leafT]), (by repeat' first | exact Ext.refl _ | assumption | apply Ext.alloc | apply Ext.drew | apply Ext.drewN | (refine Ext.trans ?_ (by assumption)))⟩
    · have hm1 : (m == 0) = false := by simp [hm0]
      go_enter Try.func92, Try.ntmps92
      go_wp2_with fail
      refine wp_region_ext (by kernel_rfl) (by kernel_rfl) ?_
      repeat (go_big_quiet_step ((fail)))
      refine wpQuiet_nil ?_
      intro w1 he
      go_wp2_with fail
      go_ret2
      exact ⟨answer_of (by simp [leafT, hm0]), (by repeat' first | exact Ext.refl _ | assumption | apply Ext.alloc | apply Ext.drew | apply Ext.drewN | (refine Ext.trans ?_ (by assumption)))⟩
  · go_enter Try.func92, Try.ntmps92
    go_wp2_with fail
    refine (pick_any c m S1 vc _ (hc'.out.ext (by repeat' first | exact Ext.refl _ | assumption | apply Ext.alloc | apply Ext.drew | apply Ext.drewN | (refine Ext.trans ?_ (by assumption))))).mono ?_
    rintro r w1 ⟨⟨t, ok, rfl, hA⟩, he⟩
    have hA' := Lib.hid hA; clear hA
    go_wp2_with fail
    go_ret2
    exact ⟨answer_of (by rw [hA'.out]; simp [leafT]), (by repeat' first | exact Ext.refl _ | assumption | apply Ext.alloc | apply Ext.drew | apply Ext.drewN | (refine Ext.trans ?_ (by assumption)))⟩
  · go_enter Try.func92, Try.ntmps92
    go_wp2_with fail
    refine (pick_any p m S2 vp _ (hp'.out.ext (by repeat' first | exact Ext.refl _ | assumption | apply Ext.alloc | apply Ext.drew | apply Ext.drewN | (refine Ext.trans ?_ (by assumption))))).mono ?_
    rintro r w1 ⟨⟨t, ok, rfl, hA⟩, he⟩
    have hA' := Lib.hid hA; clear hA
    go_wp2_with fail
    go_ret2
    exact ⟨answer_of (by rw [hA'.out]; simp [leafT]), (by repeat' first | exact Ext.refl _ | assumption | apply Ext.alloc | apply Ext.drew | apply Ext.drewN | (refine Ext.trans ?_ (by assumption)))⟩
  · go_enter Try.func92, Try.ntmps92
    go_wp2_with fail
    refine wp_region_ext (by kernel_rfl) (by kernel_rfl) ?_
    repeat (go_big_quiet_step ((fail)))
    refine wpQuiet_nil ?_
    intro w1 he
    go_wp2_with fail
    go_ret2
    exact ⟨answer_of (by simp [leafT]), (by repeat' first | exact Ext.refl _ | assumption | apply Ext.alloc | apply Ext.drew | apply Ext.drewN | (refine Ext.trans ?_ (by assumption)))⟩
  · have H := Lib.hid (show leafT c p o m s = none by
      unfold leafT
      rw [if_neg (by omega), if_neg (by omega), if_neg (by omega), if_neg (by omega), if_neg (by omega), if_neg (by omega)])
    clear hO'
    rcases hC with hC | hC
    all_goals
      go_enter Try.func92, Try.ntmps92
      go_wp2_with fail
      go_ret2
      exact ⟨by rw [H.out]; exact answer_none, (by repeat' first | exact Ext.refl _ | assumption | apply Ext.alloc | apply Ext.drew | apply Ext.drewN | (refine Ext.trans ?_ (by assumption)))⟩

end Go.Proofs.Ytmhelkhmgbbfhaa

/- Walk: the end of (scope).of, a theorem for each kind of operation. -/
namespace Go.Proofs.Ytmhelkhmgbbfhaa
open Go.RowKit Go.Lib

noncomputable def ofTail : Code := restFrom 10 ((Try.f65.body).getD .skip)

theorem tail_oper2 {F : List Fn} {c p : List Int} {op n : Int} {s : ByteArray} {ts : List Int} (h : s.toList = [] ∨ op = 1) (h22 : ¬ op = 22) (hne : ts ≠ []) : tailT F c p op n s ts = operT op n ts := by
  unfold tailT; rw [if_neg (by rw [ne_eq, size_zero]; rintro ⟨a, b⟩; exact h.elim a b), if_neg h22, if_neg hne]

theorem callT_none {F : List Fn} {n : Int} {ts : List Int} (h : n < 0 ∨ (F.length : Int) ≤ n) : callT F n ts = none := by
  unfold callT
  by_cases h0 : n < 0
  · rw [if_pos h0]
  · rw [if_neg h0, List.getElem?_eq_none (by omega)]

/-- what holds where the tail begins -/
def OfAt (F : List Fn) (c p : List Int) (o m : Int) (s : ByteArray) (l : List Ex) (A : Option Addr) (cap : Nat) (ts : List Int) (bs bx : Nat) (vF vc vp vts : Value) (w : World) : Prop :=
  w.cell? ⟨bs, 0, none⟩ = some vF ∧ w.cell? ⟨bs, 1, none⟩ = some vc ∧ w.cell? ⟨bs, 2, none⟩ = some vp ∧
  w.cell? ⟨bx, 0, none⟩ = some (.int .i64 o) ∧ w.cell? ⟨bx, 1, none⟩ = some (.int .i64 m) ∧ w.cell? ⟨bx, 2, none⟩ = some (.string s) ∧ w.cell? ⟨bx, 3, none⟩ = some (.slice A l.length cap) ∧
  Rd w Any (.sl (F.map Fn.d)) [vF] ∧ Rd w Any (.sl (c.map D.int)) [vc] ∧ Rd w Any (.sl (p.map D.int)) [vp] ∧ Rd w Any (.sl (ts.map D.int)) [vts] ∧
  Rd w Any (Ex.mk o m s l).d [.int .i64 o, .int .i64 m, .string s, .slice A l.length cap] ∧ l.length ≤ 1000000

set_option maxRecDepth 100000 in
set_option maxHeartbeats 1000000 in
theorem of_text (F : List Fn) (c p : List Int) (o m : Int) (s : ByteArray) (l : List Ex) (A : Option Addr) (cap : Nat) (ts : List Int) (bs bx : Nat) (vF vc vp vts : Value) (w : World) (h : OfAt F c p o m s l A cap ts bs bx vF vc vp vts w) (hs : ¬ s.toList = []) (ho : ¬ o = 1) (R : Ending → World → Prop) (hR : ∀ r w', Answer (tailT F c p o m s ts) r → Ext w w' → R r w')
    (u4 u5 u7 u8 u9 u10 u11 u12 u13 u14 u15 u16 u17 u18 u19 u20 u21 u22 u23 u24 u25 u26 u27 u28 u29 u30 u31 u32 u33 u34 u35 u36 u37 u38 u39 u40 u41 u42 u43 u44 u45 u46 u47 u48 u49 u50 u51 u52 u53 u54 u55 u56 u57 u58 u59 u60 u61 u62 u63 u64 u65 u66 u67 u68 u69 u70 u71 u72 u73 u74 u75 u76 u77 u78 u79 u80 u81 u82 u83 u84 u85 u86 u87 u88 u89 : Value) : Code.wp Try.prog ofTail (bodyPost Try.prog Try.f65 R) ⟨#[.agg #[vF, vc, vp], .agg #[.int .i64 o, .int .i64 m, .string s, .slice A l.length cap], .pointer (some ⟨bs, 0, none⟩), .pointer (some ⟨bx, 0, none⟩), u4, u5, vts, u7, u8, u9, u10, u11, u12, u13, u14, u15, u16, u17, u18, u19, u20, u21, u22, u23, u24, u25, u26, u27, u28, u29, u30, u31, u32, u33, u34, u35, u36, u37, u38, u39, u40, u41, u42, u43, u44, u45, u46, u47, u48, u49, u50, u51, u52, u53, u54, u55, u56, u57, u58, u59, u60, u61, u62, u63, u64, u65, u66, u67, u68, u69, u70, u71, u72, u73, u74, u75, u76, u77, u78, u79, u80, u81, u82, u83, u84, u85, u86, u87, u88, u89], []⟩ w := by
  obtain ⟨s0, s1, s2, e0, e1, e2, e3, hF, hc, hp, hts, hr, hll⟩ := h
  obtain ⟨A9, cap9, b9, off9, rfl, z1, z2, -, -⟩ := Rd.sl_open hts
  obtain ⟨AF, capF, bF, offF, rfl, F1, F2, F3, F4⟩ := Rd.sl_open hF
  simp only [List.length_map] at *
  have hF' := Lib.hid hF; have hc' := Lib.hid hc; have hp' := Lib.hid hp; have hR' := Lib.hid hR; have hr' := Lib.hid hr
  have F3' := Lib.hid F3; have F4' := Lib.hid F4
  clear hF hc hp hR hr F3 F4
  have hts' := Lib.hid hts
  clear hts
  have hs5 : (!s.toList.isEmpty) = true := by cases h : s.toList with | nil => exact absurd h hs | cons x y => rfl
  have hs4 : (o != 1) = true := by simp [ho]
  conv => arg 2; whnf
  go_wp2_with fail
  try go_ret2
  exact hR'.out _ _ (by rw [tail_text hs ho]; exact answer_none) (Ext.refl _)

set_option maxRecDepth 100000 in
set_option maxHeartbeats 1000000 in
theorem of_call_lo_nil (F : List Fn) (c p : List Int) (o m : Int) (s : ByteArray) (l : List Ex) (A : Option Addr) (cap : Nat) (ts : List Int) (bs bx : Nat) (vF vc vp vts : Value) (w : World) (h : OfAt F c p o m s l A cap ts bs bx vF vc vp vts w) (hs : s.toList = []) (ho : o = 22) (hn : m < 0) (hl : ts.length = 0) (R : Ending → World → Prop) (hR : ∀ r w', Answer (tailT F c p o m s ts) r → Ext w w' → R r w')
    (u4 u5 u7 u8 u9 u10 u11 u12 u13 u14 u15 u16 u17 u18 u19 u20 u21 u22 u23 u24 u25 u26 u27 u28 u29 u30 u31 u32 u33 u34 u35 u36 u37 u38 u39 u40 u41 u42 u43 u44 u45 u46 u47 u48 u49 u50 u51 u52 u53 u54 u55 u56 u57 u58 u59 u60 u61 u62 u63 u64 u65 u66 u67 u68 u69 u70 u71 u72 u73 u74 u75 u76 u77 u78 u79 u80 u81 u82 u83 u84 u85 u86 u87 u88 u89 : Value) : Code.wp Try.prog ofTail (bodyPost Try.prog Try.f65 R) ⟨#[.agg #[vF, vc, vp], .agg #[.int .i64 o, .int .i64 m, .string s, .slice A l.length cap], .pointer (some ⟨bs, 0, none⟩), .pointer (some ⟨bx, 0, none⟩), u4, u5, vts, u7, u8, u9, u10, u11, u12, u13, u14, u15, u16, u17, u18, u19, u20, u21, u22, u23, u24, u25, u26, u27, u28, u29, u30, u31, u32, u33, u34, u35, u36, u37, u38, u39, u40, u41, u42, u43, u44, u45, u46, u47, u48, u49, u50, u51, u52, u53, u54, u55, u56, u57, u58, u59, u60, u61, u62, u63, u64, u65, u66, u67, u68, u69, u70, u71, u72, u73, u74, u75, u76, u77, u78, u79, u80, u81, u82, u83, u84, u85, u86, u87, u88, u89], []⟩ w := by
  obtain ⟨s0, s1, s2, e0, e1, e2, e3, hF, hc, hp, hts, hr, hll⟩ := h
  obtain ⟨A9, cap9, b9, off9, rfl, z1, z2, -, -⟩ := Rd.sl_open hts
  obtain ⟨AF, capF, bF, offF, rfl, F1, F2, F3, F4⟩ := Rd.sl_open hF
  simp only [List.length_map] at *
  have hF' := Lib.hid hF; have hc' := Lib.hid hc; have hp' := Lib.hid hp; have hR' := Lib.hid hR; have hr' := Lib.hid hr
  have F3' := Lib.hid F3; have F4' := Lib.hid F4
  clear hF hc hp hR hr F3 F4
  obtain rfl := List.eq_nil_of_length_eq_zero hl
  simp only [List.length_nil] at *
  have hts' := Lib.hid hts
  clear hts
  subst ho
  have H := Lib.hid ((tail_call (F := F) (c := c) (p := p) (n := m) (ts := []) hs).trans (callT_none (by omega)))
  conv => arg 2; whnf
  go_wp2_with fail
  try go_ret2
  exact hR'.out _ _ (by rw [H.out]; exact answer_none) (Ext.refl _)

set_option maxRecDepth 100000 in
set_option maxHeartbeats 1000000 in
theorem of_call_hi_nil (F : List Fn) (c p : List Int) (o m : Int) (s : ByteArray) (l : List Ex) (A : Option Addr) (cap : Nat) (ts : List Int) (bs bx : Nat) (vF vc vp vts : Value) (w : World) (h : OfAt F c p o m s l A cap ts bs bx vF vc vp vts w) (hs : s.toList = []) (ho : o = 22) (hn : (F.length : Int) ≤ m) (hl : ts.length = 0) (R : Ending → World → Prop) (hR : ∀ r w', Answer (tailT F c p o m s ts) r → Ext w w' → R r w')
    (u4 u5 u7 u8 u9 u10 u11 u12 u13 u14 u15 u16 u17 u18 u19 u20 u21 u22 u23 u24 u25 u26 u27 u28 u29 u30 u31 u32 u33 u34 u35 u36 u37 u38 u39 u40 u41 u42 u43 u44 u45 u46 u47 u48 u49 u50 u51 u52 u53 u54 u55 u56 u57 u58 u59 u60 u61 u62 u63 u64 u65 u66 u67 u68 u69 u70 u71 u72 u73 u74 u75 u76 u77 u78 u79 u80 u81 u82 u83 u84 u85 u86 u87 u88 u89 : Value) : Code.wp Try.prog ofTail (bodyPost Try.prog Try.f65 R) ⟨#[.agg #[vF, vc, vp], .agg #[.int .i64 o, .int .i64 m, .string s, .slice A l.length cap], .pointer (some ⟨bs, 0, none⟩), .pointer (some ⟨bx, 0, none⟩), u4, u5, vts, u7, u8, u9, u10, u11, u12, u13, u14, u15, u16, u17, u18, u19, u20, u21, u22, u23, u24, u25, u26, u27, u28, u29, u30, u31, u32, u33, u34, u35, u36, u37, u38, u39, u40, u41, u42, u43, u44, u45, u46, u47, u48, u49, u50, u51, u52, u53, u54, u55, u56, u57, u58, u59, u60, u61, u62, u63, u64, u65, u66, u67, u68, u69, u70, u71, u72, u73, u74, u75, u76, u77, u78, u79, u80, u81, u82, u83, u84, u85, u86, u87, u88, u89], []⟩ w := by
  obtain ⟨s0, s1, s2, e0, e1, e2, e3, hF, hc, hp, hts, hr, hll⟩ := h
  obtain ⟨A9, cap9, b9, off9, rfl, z1, z2, -, -⟩ := Rd.sl_open hts
  obtain ⟨AF, capF, bF, offF, rfl, F1, F2, F3, F4⟩ := Rd.sl_open hF
  simp only [List.length_map] at *
  have hF' := Lib.hid hF; have hc' := Lib.hid hc; have hp' := Lib.hid hp; have hR' := Lib.hid hR; have hr' := Lib.hid hr
  have F3' := Lib.hid F3; have F4' := Lib.hid F4
  clear hF hc hp hR hr F3 F4
  obtain rfl := List.eq_nil_of_length_eq_zero hl
  simp only [List.length_nil] at *
  have hts' := Lib.hid hts
  clear hts
  subst ho
  have h0 : ¬ m < 0 := by omega
  have H := Lib.hid ((tail_call (F := F) (c := c) (p := p) (n := m) (ts := []) hs).trans (callT_none (by omega)))
  conv => arg 2; whnf
  go_wp2_with fail
  try go_ret2
  exact hR'.out _ _ (by rw [H.out]; exact answer_none) (Ext.refl _)

set_option maxRecDepth 100000 in
set_option maxHeartbeats 1000000 in
theorem of_call_in_nil (F : List Fn) (c p : List Int) (o m : Int) (s : ByteArray) (l : List Ex) (A : Option Addr) (cap : Nat) (ts : List Int) (bs bx : Nat) (vF vc vp vts : Value) (w : World) (h : OfAt F c p o m s l A cap ts bs bx vF vc vp vts w) (hs : s.toList = []) (ho : o = 22) (hn : 0 ≤ m) (hn9 : m < F.length) (hl : ts.length = 0) (R : Ending → World → Prop) (hR : ∀ r w', Answer (tailT F c p o m s ts) r → Ext w w' → R r w')
    (u4 u5 u7 u8 u9 u10 u11 u12 u13 u14 u15 u16 u17 u18 u19 u20 u21 u22 u23 u24 u25 u26 u27 u28 u29 u30 u31 u32 u33 u34 u35 u36 u37 u38 u39 u40 u41 u42 u43 u44 u45 u46 u47 u48 u49 u50 u51 u52 u53 u54 u55 u56 u57 u58 u59 u60 u61 u62 u63 u64 u65 u66 u67 u68 u69 u70 u71 u72 u73 u74 u75 u76 u77 u78 u79 u80 u81 u82 u83 u84 u85 u86 u87 u88 u89 : Value) : Code.wp Try.prog ofTail (bodyPost Try.prog Try.f65 R) ⟨#[.agg #[vF, vc, vp], .agg #[.int .i64 o, .int .i64 m, .string s, .slice A l.length cap], .pointer (some ⟨bs, 0, none⟩), .pointer (some ⟨bx, 0, none⟩), u4, u5, vts, u7, u8, u9, u10, u11, u12, u13, u14, u15, u16, u17, u18, u19, u20, u21, u22, u23, u24, u25, u26, u27, u28, u29, u30, u31, u32, u33, u34, u35, u36, u37, u38, u39, u40, u41, u42, u43, u44, u45, u46, u47, u48, u49, u50, u51, u52, u53, u54, u55, u56, u57, u58, u59, u60, u61, u62, u63, u64, u65, u66, u67, u68, u69, u70, u71, u72, u73, u74, u75, u76, u77, u78, u79, u80, u81, u82, u83, u84, u85, u86, u87, u88, u89], []⟩ w := by
  obtain ⟨s0, s1, s2, e0, e1, e2, e3, hF, hc, hp, hts, hr, hll⟩ := h
  obtain ⟨A9, cap9, b9, off9, rfl, z1, z2, -, -⟩ := Rd.sl_open hts
  obtain ⟨AF, capF, bF, offF, rfl, F1, F2, F3, F4⟩ := Rd.sl_open hF
  simp only [List.length_map] at *
  have hF' := Lib.hid hF; have hc' := Lib.hid hc; have hp' := Lib.hid hp; have hR' := Lib.hid hR; have hr' := Lib.hid hr
  have F3' := Lib.hid F3; have F4' := Lib.hid F4
  clear hF hc hp hR hr F3 F4
  obtain rfl := List.eq_nil_of_length_eq_zero hl
  simp only [List.length_nil] at *
  have hts' := Lib.hid hts
  clear hts
  subst ho
  obtain ⟨k, rfl⟩ := Int.eq_ofNat_of_zero_le hn
  have hlt : k < F.length := by omega
  obtain ⟨rfl, hSF⟩ := F3'.out (by omega)
  obtain ⟨A1, cap1, b1, off1, A2, cap2, b2, off2, c0, c1, c2, c3, c4, c5, c6, hr9, q1, q2, q3, q4, -⟩ := Fn.at F4'.out hlt
  have hpar := Lib.hid (Rd.sl_mk (w := w) (S := Any) (n := F[k].params.length) (l := F[k].params.map D.int) (by simp) (by simpa using q1) q2 (by simpa using q3) q4)
  have H := Lib.hid ((tail_call (F := F) (c := c) (p := p) (n := (k : Int)) (ts := []) hs).trans (show callT F (k : Int) [] = if F[k].params = [] then some F[k].res else none by simp [callT, List.getElem?_eq_getElem hlt, show ¬ ((k : Int) < 0) by omega]))
  have hn1 : ¬ F.length ≤ k := by omega
  have hn2 : ¬ (k : Int) < 0 := by omega
  have hSF2 := Lib.hid hSF
  clear hr9 q3 q4 hn hSF
  have hcall := equal_any F[k].params [] Any Any _ _ w hpar.out hts'.out
  by_cases heq : F[k].params = []
  · rw [decide_eq_true heq] at hcall
    have hcall' := Lib.hid hcall
    have heq' := Lib.hid heq
    clear hcall heq
    conv => arg 2; whnf
    go_wp2_with fail
    refine (hcall'.out).mono ?_
    rintro r w1 ⟨rfl, he⟩
    have e0 := he.at e0
    have e1 := he.at e1
    have s0 := he.at s0
    have c1 := he.at c1
    have c2 := he.at c2
    go_wp2_with fail
    try go_ret2
    exact hR'.out _ _ (by rw [H.out, if_pos heq'.out]; exact answer_some) he
  · rw [decide_eq_false heq] at hcall
    have hcall' := Lib.hid hcall
    have heq' := Lib.hid heq
    clear hcall heq
    conv => arg 2; whnf
    go_wp2_with fail
    refine (hcall'.out).mono ?_
    rintro r w1 ⟨rfl, he⟩
    have e0 := he.at e0
    have e1 := he.at e1
    have s0 := he.at s0
    go_wp2_with fail
    try go_ret2
    exact hR'.out _ _ (by rw [H.out, if_neg heq'.out]; exact answer_none) he

set_option maxRecDepth 100000 in
set_option maxHeartbeats 1000000 in
theorem of_call_lo_cons (F : List Fn) (c p : List Int) (o m : Int) (s : ByteArray) (l : List Ex) (A : Option Addr) (cap : Nat) (ts : List Int) (bs bx : Nat) (vF vc vp vts : Value) (w : World) (h : OfAt F c p o m s l A cap ts bs bx vF vc vp vts w) (hs : s.toList = []) (ho : o = 22) (hn : m < 0) (hl : ts ≠ []) (R : Ending → World → Prop) (hR : ∀ r w', Answer (tailT F c p o m s ts) r → Ext w w' → R r w')
    (u4 u5 u7 u8 u9 u10 u11 u12 u13 u14 u15 u16 u17 u18 u19 u20 u21 u22 u23 u24 u25 u26 u27 u28 u29 u30 u31 u32 u33 u34 u35 u36 u37 u38 u39 u40 u41 u42 u43 u44 u45 u46 u47 u48 u49 u50 u51 u52 u53 u54 u55 u56 u57 u58 u59 u60 u61 u62 u63 u64 u65 u66 u67 u68 u69 u70 u71 u72 u73 u74 u75 u76 u77 u78 u79 u80 u81 u82 u83 u84 u85 u86 u87 u88 u89 : Value) : Code.wp Try.prog ofTail (bodyPost Try.prog Try.f65 R) ⟨#[.agg #[vF, vc, vp], .agg #[.int .i64 o, .int .i64 m, .string s, .slice A l.length cap], .pointer (some ⟨bs, 0, none⟩), .pointer (some ⟨bx, 0, none⟩), u4, u5, vts, u7, u8, u9, u10, u11, u12, u13, u14, u15, u16, u17, u18, u19, u20, u21, u22, u23, u24, u25, u26, u27, u28, u29, u30, u31, u32, u33, u34, u35, u36, u37, u38, u39, u40, u41, u42, u43, u44, u45, u46, u47, u48, u49, u50, u51, u52, u53, u54, u55, u56, u57, u58, u59, u60, u61, u62, u63, u64, u65, u66, u67, u68, u69, u70, u71, u72, u73, u74, u75, u76, u77, u78, u79, u80, u81, u82, u83, u84, u85, u86, u87, u88, u89], []⟩ w := by
  obtain ⟨s0, s1, s2, e0, e1, e2, e3, hF, hc, hp, hts, hr, hll⟩ := h
  obtain ⟨A9, cap9, b9, off9, rfl, z1, z2, -, -⟩ := Rd.sl_open hts
  obtain ⟨AF, capF, bF, offF, rfl, F1, F2, F3, F4⟩ := Rd.sl_open hF
  simp only [List.length_map] at *
  have hF' := Lib.hid hF; have hc' := Lib.hid hc; have hp' := Lib.hid hp; have hR' := Lib.hid hR; have hr' := Lib.hid hr
  have F3' := Lib.hid F3; have F4' := Lib.hid F4
  clear hF hc hp hR hr F3 F4
  obtain ⟨t0, tr, rfl⟩ : ∃ t0 tr, ts = t0 :: tr := by cases ts with | nil => exact absurd rfl hl | cons a b => exact ⟨a, b, rfl⟩
  simp only [List.length_cons] at *
  have hts' := Lib.hid hts
  clear hts
  subst ho
  have H := Lib.hid ((tail_call (F := F) (c := c) (p := p) (n := m) (ts := t0 :: tr) hs).trans (callT_none (by omega)))
  conv => arg 2; whnf
  go_wp2_with fail
  try go_ret2
  exact hR'.out _ _ (by rw [H.out]; exact answer_none) (Ext.refl _)

set_option maxRecDepth 100000 in
set_option maxHeartbeats 1000000 in
theorem of_call_hi_cons (F : List Fn) (c p : List Int) (o m : Int) (s : ByteArray) (l : List Ex) (A : Option Addr) (cap : Nat) (ts : List Int) (bs bx : Nat) (vF vc vp vts : Value) (w : World) (h : OfAt F c p o m s l A cap ts bs bx vF vc vp vts w) (hs : s.toList = []) (ho : o = 22) (hn : (F.length : Int) ≤ m) (hl : ts ≠ []) (R : Ending → World → Prop) (hR : ∀ r w', Answer (tailT F c p o m s ts) r → Ext w w' → R r w')
    (u4 u5 u7 u8 u9 u10 u11 u12 u13 u14 u15 u16 u17 u18 u19 u20 u21 u22 u23 u24 u25 u26 u27 u28 u29 u30 u31 u32 u33 u34 u35 u36 u37 u38 u39 u40 u41 u42 u43 u44 u45 u46 u47 u48 u49 u50 u51 u52 u53 u54 u55 u56 u57 u58 u59 u60 u61 u62 u63 u64 u65 u66 u67 u68 u69 u70 u71 u72 u73 u74 u75 u76 u77 u78 u79 u80 u81 u82 u83 u84 u85 u86 u87 u88 u89 : Value) : Code.wp Try.prog ofTail (bodyPost Try.prog Try.f65 R) ⟨#[.agg #[vF, vc, vp], .agg #[.int .i64 o, .int .i64 m, .string s, .slice A l.length cap], .pointer (some ⟨bs, 0, none⟩), .pointer (some ⟨bx, 0, none⟩), u4, u5, vts, u7, u8, u9, u10, u11, u12, u13, u14, u15, u16, u17, u18, u19, u20, u21, u22, u23, u24, u25, u26, u27, u28, u29, u30, u31, u32, u33, u34, u35, u36, u37, u38, u39, u40, u41, u42, u43, u44, u45, u46, u47, u48, u49, u50, u51, u52, u53, u54, u55, u56, u57, u58, u59, u60, u61, u62, u63, u64, u65, u66, u67, u68, u69, u70, u71, u72, u73, u74, u75, u76, u77, u78, u79, u80, u81, u82, u83, u84, u85, u86, u87, u88, u89], []⟩ w := by
  obtain ⟨s0, s1, s2, e0, e1, e2, e3, hF, hc, hp, hts, hr, hll⟩ := h
  obtain ⟨A9, cap9, b9, off9, rfl, z1, z2, -, -⟩ := Rd.sl_open hts
  obtain ⟨AF, capF, bF, offF, rfl, F1, F2, F3, F4⟩ := Rd.sl_open hF
  simp only [List.length_map] at *
  have hF' := Lib.hid hF; have hc' := Lib.hid hc; have hp' := Lib.hid hp; have hR' := Lib.hid hR; have hr' := Lib.hid hr
  have F3' := Lib.hid F3; have F4' := Lib.hid F4
  clear hF hc hp hR hr F3 F4
  obtain ⟨t0, tr, rfl⟩ : ∃ t0 tr, ts = t0 :: tr := by cases ts with | nil => exact absurd rfl hl | cons a b => exact ⟨a, b, rfl⟩
  simp only [List.length_cons] at *
  have hts' := Lib.hid hts
  clear hts
  subst ho
  have h0 : ¬ m < 0 := by omega
  have H := Lib.hid ((tail_call (F := F) (c := c) (p := p) (n := m) (ts := t0 :: tr) hs).trans (callT_none (by omega)))
  conv => arg 2; whnf
  go_wp2_with fail
  try go_ret2
  exact hR'.out _ _ (by rw [H.out]; exact answer_none) (Ext.refl _)

set_option maxRecDepth 100000 in
set_option maxHeartbeats 1000000 in
theorem of_call_in_cons (F : List Fn) (c p : List Int) (o m : Int) (s : ByteArray) (l : List Ex) (A : Option Addr) (cap : Nat) (ts : List Int) (bs bx : Nat) (vF vc vp vts : Value) (w : World) (h : OfAt F c p o m s l A cap ts bs bx vF vc vp vts w) (hs : s.toList = []) (ho : o = 22) (hn : 0 ≤ m) (hn9 : m < F.length) (hl : ts ≠ []) (R : Ending → World → Prop) (hR : ∀ r w', Answer (tailT F c p o m s ts) r → Ext w w' → R r w')
    (u4 u5 u7 u8 u9 u10 u11 u12 u13 u14 u15 u16 u17 u18 u19 u20 u21 u22 u23 u24 u25 u26 u27 u28 u29 u30 u31 u32 u33 u34 u35 u36 u37 u38 u39 u40 u41 u42 u43 u44 u45 u46 u47 u48 u49 u50 u51 u52 u53 u54 u55 u56 u57 u58 u59 u60 u61 u62 u63 u64 u65 u66 u67 u68 u69 u70 u71 u72 u73 u74 u75 u76 u77 u78 u79 u80 u81 u82 u83 u84 u85 u86 u87 u88 u89 : Value) : Code.wp Try.prog ofTail (bodyPost Try.prog Try.f65 R) ⟨#[.agg #[vF, vc, vp], .agg #[.int .i64 o, .int .i64 m, .string s, .slice A l.length cap], .pointer (some ⟨bs, 0, none⟩), .pointer (some ⟨bx, 0, none⟩), u4, u5, vts, u7, u8, u9, u10, u11, u12, u13, u14, u15, u16, u17, u18, u19, u20, u21, u22, u23, u24, u25, u26, u27, u28, u29, u30, u31, u32, u33, u34, u35, u36, u37, u38, u39, u40, u41, u42, u43, u44, u45, u46, u47, u48, u49, u50, u51, u52, u53, u54, u55, u56, u57, u58, u59, u60, u61, u62, u63, u64, u65, u66, u67, u68, u69, u70, u71, u72, u73, u74, u75, u76, u77, u78, u79, u80, u81, u82, u83, u84, u85, u86, u87, u88, u89], []⟩ w := by
  obtain ⟨s0, s1, s2, e0, e1, e2, e3, hF, hc, hp, hts, hr, hll⟩ := h
  obtain ⟨A9, cap9, b9, off9, rfl, z1, z2, -, -⟩ := Rd.sl_open hts
  obtain ⟨AF, capF, bF, offF, rfl, F1, F2, F3, F4⟩ := Rd.sl_open hF
  simp only [List.length_map] at *
  have hF' := Lib.hid hF; have hc' := Lib.hid hc; have hp' := Lib.hid hp; have hR' := Lib.hid hR; have hr' := Lib.hid hr
  have F3' := Lib.hid F3; have F4' := Lib.hid F4
  clear hF hc hp hR hr F3 F4
  obtain ⟨t0, tr, rfl⟩ : ∃ t0 tr, ts = t0 :: tr := by cases ts with | nil => exact absurd rfl hl | cons a b => exact ⟨a, b, rfl⟩
  simp only [List.length_cons] at *
  have hts' := Lib.hid hts
  clear hts
  subst ho
  obtain ⟨k, rfl⟩ := Int.eq_ofNat_of_zero_le hn
  have hlt : k < F.length := by omega
  obtain ⟨rfl, hSF⟩ := F3'.out (by omega)
  obtain ⟨A1, cap1, b1, off1, A2, cap2, b2, off2, c0, c1, c2, c3, c4, c5, c6, hr9, q1, q2, q3, q4, -⟩ := Fn.at F4'.out hlt
  have hpar := Lib.hid (Rd.sl_mk (w := w) (S := Any) (n := F[k].params.length) (l := F[k].params.map D.int) (by simp) (by simpa using q1) q2 (by simpa using q3) q4)
  have H := Lib.hid ((tail_call (F := F) (c := c) (p := p) (n := (k : Int)) (ts := (t0 :: tr)) hs).trans (show callT F (k : Int) (t0 :: tr) = if F[k].params = (t0 :: tr) then some F[k].res else none by simp [callT, List.getElem?_eq_getElem hlt, show ¬ ((k : Int) < 0) by omega]))
  have hn1 : ¬ F.length ≤ k := by omega
  have hn2 : ¬ (k : Int) < 0 := by omega
  have hSF2 := Lib.hid hSF
  clear hr9 q3 q4 hn hSF
  have hcall := equal_any F[k].params (t0 :: tr) Any Any _ _ w hpar.out hts'.out
  by_cases heq : F[k].params = (t0 :: tr)
  · rw [decide_eq_true heq] at hcall
    have hcall' := Lib.hid hcall
    have heq' := Lib.hid heq
    clear hcall heq
    conv => arg 2; whnf
    go_wp2_with fail
    refine (hcall'.out).mono ?_
    rintro r w1 ⟨rfl, he⟩
    have e0 := he.at e0
    have e1 := he.at e1
    have s0 := he.at s0
    have c1 := he.at c1
    have c2 := he.at c2
    go_wp2_with fail
    try go_ret2
    exact hR'.out _ _ (by rw [H.out, if_pos heq'.out]; exact answer_some) he
  · rw [decide_eq_false heq] at hcall
    have hcall' := Lib.hid hcall
    have heq' := Lib.hid heq
    clear hcall heq
    conv => arg 2; whnf
    go_wp2_with fail
    refine (hcall'.out).mono ?_
    rintro r w1 ⟨rfl, he⟩
    have e0 := he.at e0
    have e1 := he.at e1
    have s0 := he.at s0
    go_wp2_with fail
    try go_ret2
    exact hR'.out _ _ (by rw [H.out, if_neg heq'.out]; exact answer_none) he

set_option maxRecDepth 100000 in
set_option maxHeartbeats 1000000 in
theorem of_leafa (F : List Fn) (c p : List Int) (o m : Int) (s : ByteArray) (l : List Ex) (A : Option Addr) (cap : Nat) (ts : List Int) (bs bx : Nat) (vF vc vp vts : Value) (w : World) (h : OfAt F c p o m s l A cap ts bs bx vF vc vp vts w) (hs : s.toList = []) (h22 : ¬ o = 22) (hl : ts.length = 0) (R : Ending → World → Prop) (hR : ∀ r w', Answer (tailT F c p o m s ts) r → Ext w w' → R r w')
    (u4 u5 u7 u8 u9 u10 u11 u12 u13 u14 u15 u16 u17 u18 u19 u20 u21 u22 u23 u24 u25 u26 u27 u28 u29 u30 u31 u32 u33 u34 u35 u36 u37 u38 u39 u40 u41 u42 u43 u44 u45 u46 u47 u48 u49 u50 u51 u52 u53 u54 u55 u56 u57 u58 u59 u60 u61 u62 u63 u64 u65 u66 u67 u68 u69 u70 u71 u72 u73 u74 u75 u76 u77 u78 u79 u80 u81 u82 u83 u84 u85 u86 u87 u88 u89 : Value) : Code.wp Try.prog ofTail (bodyPost Try.prog Try.f65 R) ⟨#[.agg #[vF, vc, vp], .agg #[.int .i64 o, .int .i64 m, .string s, .slice A l.length cap], .pointer (some ⟨bs, 0, none⟩), .pointer (some ⟨bx, 0, none⟩), u4, u5, vts, u7, u8, u9, u10, u11, u12, u13, u14, u15, u16, u17, u18, u19, u20, u21, u22, u23, u24, u25, u26, u27, u28, u29, u30, u31, u32, u33, u34, u35, u36, u37, u38, u39, u40, u41, u42, u43, u44, u45, u46, u47, u48, u49, u50, u51, u52, u53, u54, u55, u56, u57, u58, u59, u60, u61, u62, u63, u64, u65, u66, u67, u68, u69, u70, u71, u72, u73, u74, u75, u76, u77, u78, u79, u80, u81, u82, u83, u84, u85, u86, u87, u88, u89], []⟩ w := by
  obtain ⟨s0, s1, s2, e0, e1, e2, e3, hF, hc, hp, hts, hr, hll⟩ := h
  obtain ⟨A9, cap9, b9, off9, rfl, z1, z2, -, -⟩ := Rd.sl_open hts
  obtain ⟨AF, capF, bF, offF, rfl, F1, F2, F3, F4⟩ := Rd.sl_open hF
  simp only [List.length_map] at *
  have hF' := Lib.hid hF; have hc' := Lib.hid hc; have hp' := Lib.hid hp; have hR' := Lib.hid hR; have hr' := Lib.hid hr
  have F3' := Lib.hid F3; have F4' := Lib.hid F4
  clear hF hc hp hR hr F3 F4
  obtain rfl := List.eq_nil_of_length_eq_zero hl
  simp only [List.length_nil] at *
  have hts' := Lib.hid hts
  clear hts
  have h22b : (o == 22) = false := by simp [h22]
  have h22c : (o != 22) = true := by simp [h22]
  have H := Lib.hid (tail_leaf (F := F) (c := c) (p := p) (n := m) (s := s) (.inl hs) h22)
  conv => arg 2; whnf
  go_wp2_with fail
  refine (leaf_any c p (.mk o m s l) Any Any Any _ vc vp _ w hc'.out hp'.out hr'.out).mono ?_
  rintro r w1 ⟨⟨t, ok, rfl, hA⟩, he⟩
  have hA' := Lib.hid hA; clear hA
  go_wp2_with fail
  try go_ret2
  exact hR'.out _ _ (answer_of (by rw [hA'.out, H.out]; rfl)) he

set_option maxRecDepth 100000 in
set_option maxHeartbeats 1000000 in
theorem of_leafb (F : List Fn) (c p : List Int) (o m : Int) (s : ByteArray) (l : List Ex) (A : Option Addr) (cap : Nat) (ts : List Int) (bs bx : Nat) (vF vc vp vts : Value) (w : World) (h : OfAt F c p o m s l A cap ts bs bx vF vc vp vts w) (hs : ¬ s.toList = []) (h22 : ¬ o = 22) (ho : o = 1) (hl : ts.length = 0) (R : Ending → World → Prop) (hR : ∀ r w', Answer (tailT F c p o m s ts) r → Ext w w' → R r w')
    (u4 u5 u7 u8 u9 u10 u11 u12 u13 u14 u15 u16 u17 u18 u19 u20 u21 u22 u23 u24 u25 u26 u27 u28 u29 u30 u31 u32 u33 u34 u35 u36 u37 u38 u39 u40 u41 u42 u43 u44 u45 u46 u47 u48 u49 u50 u51 u52 u53 u54 u55 u56 u57 u58 u59 u60 u61 u62 u63 u64 u65 u66 u67 u68 u69 u70 u71 u72 u73 u74 u75 u76 u77 u78 u79 u80 u81 u82 u83 u84 u85 u86 u87 u88 u89 : Value) : Code.wp Try.prog ofTail (bodyPost Try.prog Try.f65 R) ⟨#[.agg #[vF, vc, vp], .agg #[.int .i64 o, .int .i64 m, .string s, .slice A l.length cap], .pointer (some ⟨bs, 0, none⟩), .pointer (some ⟨bx, 0, none⟩), u4, u5, vts, u7, u8, u9, u10, u11, u12, u13, u14, u15, u16, u17, u18, u19, u20, u21, u22, u23, u24, u25, u26, u27, u28, u29, u30, u31, u32, u33, u34, u35, u36, u37, u38, u39, u40, u41, u42, u43, u44, u45, u46, u47, u48, u49, u50, u51, u52, u53, u54, u55, u56, u57, u58, u59, u60, u61, u62, u63, u64, u65, u66, u67, u68, u69, u70, u71, u72, u73, u74, u75, u76, u77, u78, u79, u80, u81, u82, u83, u84, u85, u86, u87, u88, u89], []⟩ w := by
  obtain ⟨s0, s1, s2, e0, e1, e2, e3, hF, hc, hp, hts, hr, hll⟩ := h
  obtain ⟨A9, cap9, b9, off9, rfl, z1, z2, -, -⟩ := Rd.sl_open hts
  obtain ⟨AF, capF, bF, offF, rfl, F1, F2, F3, F4⟩ := Rd.sl_open hF
  simp only [List.length_map] at *
  have hF' := Lib.hid hF; have hc' := Lib.hid hc; have hp' := Lib.hid hp; have hR' := Lib.hid hR; have hr' := Lib.hid hr
  have F3' := Lib.hid F3; have F4' := Lib.hid F4
  clear hF hc hp hR hr F3 F4
  obtain rfl := List.eq_nil_of_length_eq_zero hl
  simp only [List.length_nil] at *
  have hts' := Lib.hid hts
  clear hts
  have h22b : (o == 22) = false := by simp [h22]
  have h22c : (o != 22) = true := by simp [h22]
  subst ho
  have H := Lib.hid (tail_leaf (F := F) (c := c) (p := p) (n := m) (s := s) (.inr rfl) h22)
  conv => arg 2; whnf
  go_wp2_with fail
  refine (leaf_any c p (.mk 1 m s l) Any Any Any _ vc vp _ w hc'.out hp'.out hr'.out).mono ?_
  rintro r w1 ⟨⟨t, ok, rfl, hA⟩, he⟩
  have hA' := Lib.hid hA; clear hA
  go_wp2_with fail
  try go_ret2
  exact hR'.out _ _ (answer_of (by rw [hA'.out, H.out]; rfl)) he

set_option maxRecDepth 100000 in
set_option maxHeartbeats 1000000 in
theorem of_opera (F : List Fn) (c p : List Int) (o m : Int) (s : ByteArray) (l : List Ex) (A : Option Addr) (cap : Nat) (ts : List Int) (bs bx : Nat) (vF vc vp vts : Value) (w : World) (h : OfAt F c p o m s l A cap ts bs bx vF vc vp vts w) (hs : s.toList = []) (h22 : ¬ o = 22) (hl : ts ≠ []) (R : Ending → World → Prop) (hR : ∀ r w', Answer (tailT F c p o m s ts) r → Ext w w' → R r w')
    (u4 u5 u7 u8 u9 u10 u11 u12 u13 u14 u15 u16 u17 u18 u19 u20 u21 u22 u23 u24 u25 u26 u27 u28 u29 u30 u31 u32 u33 u34 u35 u36 u37 u38 u39 u40 u41 u42 u43 u44 u45 u46 u47 u48 u49 u50 u51 u52 u53 u54 u55 u56 u57 u58 u59 u60 u61 u62 u63 u64 u65 u66 u67 u68 u69 u70 u71 u72 u73 u74 u75 u76 u77 u78 u79 u80 u81 u82 u83 u84 u85 u86 u87 u88 u89 : Value) : Code.wp Try.prog ofTail (bodyPost Try.prog Try.f65 R) ⟨#[.agg #[vF, vc, vp], .agg #[.int .i64 o, .int .i64 m, .string s, .slice A l.length cap], .pointer (some ⟨bs, 0, none⟩), .pointer (some ⟨bx, 0, none⟩), u4, u5, vts, u7, u8, u9, u10, u11, u12, u13, u14, u15, u16, u17, u18, u19, u20, u21, u22, u23, u24, u25, u26, u27, u28, u29, u30, u31, u32, u33, u34, u35, u36, u37, u38, u39, u40, u41, u42, u43, u44, u45, u46, u47, u48, u49, u50, u51, u52, u53, u54, u55, u56, u57, u58, u59, u60, u61, u62, u63, u64, u65, u66, u67, u68, u69, u70, u71, u72, u73, u74, u75, u76, u77, u78, u79, u80, u81, u82, u83, u84, u85, u86, u87, u88, u89], []⟩ w := by
  obtain ⟨s0, s1, s2, e0, e1, e2, e3, hF, hc, hp, hts, hr, hll⟩ := h
  obtain ⟨A9, cap9, b9, off9, rfl, z1, z2, -, -⟩ := Rd.sl_open hts
  obtain ⟨AF, capF, bF, offF, rfl, F1, F2, F3, F4⟩ := Rd.sl_open hF
  simp only [List.length_map] at *
  have hF' := Lib.hid hF; have hc' := Lib.hid hc; have hp' := Lib.hid hp; have hR' := Lib.hid hR; have hr' := Lib.hid hr
  have F3' := Lib.hid F3; have F4' := Lib.hid F4
  clear hF hc hp hR hr F3 F4
  obtain ⟨t0, tr, rfl⟩ : ∃ t0 tr, ts = t0 :: tr := by cases ts with | nil => exact absurd rfl hl | cons a b => exact ⟨a, b, rfl⟩
  simp only [List.length_cons] at *
  have hts' := Lib.hid hts
  clear hts
  have h22b : (o == 22) = false := by simp [h22]
  have h22c : (o != 22) = true := by simp [h22]
  have H := Lib.hid (tail_oper2 (F := F) (c := c) (p := p) (n := m) (s := s) (ts := t0 :: tr) (.inl hs) h22 (by simp))
  conv => arg 2; whnf
  go_wp2_with fail
  refine (operation_any (.mk o m s l) (t0 :: tr) Any Any _ _ w hr'.out hts'.out (by simp)).mono ?_
  rintro r w1 ⟨⟨t, ok, rfl, hA⟩, he⟩
  have hA' := Lib.hid hA; clear hA
  go_wp2_with fail
  try go_ret2
  exact hR'.out _ _ (answer_of (by rw [hA'.out, H.out]; rfl)) he

set_option maxRecDepth 100000 in
set_option maxHeartbeats 1000000 in
theorem of_operb (F : List Fn) (c p : List Int) (o m : Int) (s : ByteArray) (l : List Ex) (A : Option Addr) (cap : Nat) (ts : List Int) (bs bx : Nat) (vF vc vp vts : Value) (w : World) (h : OfAt F c p o m s l A cap ts bs bx vF vc vp vts w) (hs : ¬ s.toList = []) (h22 : ¬ o = 22) (ho : o = 1) (hl : ts ≠ []) (R : Ending → World → Prop) (hR : ∀ r w', Answer (tailT F c p o m s ts) r → Ext w w' → R r w')
    (u4 u5 u7 u8 u9 u10 u11 u12 u13 u14 u15 u16 u17 u18 u19 u20 u21 u22 u23 u24 u25 u26 u27 u28 u29 u30 u31 u32 u33 u34 u35 u36 u37 u38 u39 u40 u41 u42 u43 u44 u45 u46 u47 u48 u49 u50 u51 u52 u53 u54 u55 u56 u57 u58 u59 u60 u61 u62 u63 u64 u65 u66 u67 u68 u69 u70 u71 u72 u73 u74 u75 u76 u77 u78 u79 u80 u81 u82 u83 u84 u85 u86 u87 u88 u89 : Value) : Code.wp Try.prog ofTail (bodyPost Try.prog Try.f65 R) ⟨#[.agg #[vF, vc, vp], .agg #[.int .i64 o, .int .i64 m, .string s, .slice A l.length cap], .pointer (some ⟨bs, 0, none⟩), .pointer (some ⟨bx, 0, none⟩), u4, u5, vts, u7, u8, u9, u10, u11, u12, u13, u14, u15, u16, u17, u18, u19, u20, u21, u22, u23, u24, u25, u26, u27, u28, u29, u30, u31, u32, u33, u34, u35, u36, u37, u38, u39, u40, u41, u42, u43, u44, u45, u46, u47, u48, u49, u50, u51, u52, u53, u54, u55, u56, u57, u58, u59, u60, u61, u62, u63, u64, u65, u66, u67, u68, u69, u70, u71, u72, u73, u74, u75, u76, u77, u78, u79, u80, u81, u82, u83, u84, u85, u86, u87, u88, u89], []⟩ w := by
  obtain ⟨s0, s1, s2, e0, e1, e2, e3, hF, hc, hp, hts, hr, hll⟩ := h
  obtain ⟨A9, cap9, b9, off9, rfl, z1, z2, -, -⟩ := Rd.sl_open hts
  obtain ⟨AF, capF, bF, offF, rfl, F1, F2, F3, F4⟩ := Rd.sl_open hF
  simp only [List.length_map] at *
  have hF' := Lib.hid hF; have hc' := Lib.hid hc; have hp' := Lib.hid hp; have hR' := Lib.hid hR; have hr' := Lib.hid hr
  have F3' := Lib.hid F3; have F4' := Lib.hid F4
  clear hF hc hp hR hr F3 F4
  obtain ⟨t0, tr, rfl⟩ : ∃ t0 tr, ts = t0 :: tr := by cases ts with | nil => exact absurd rfl hl | cons a b => exact ⟨a, b, rfl⟩
  simp only [List.length_cons] at *
  have hts' := Lib.hid hts
  clear hts
  have h22b : (o == 22) = false := by simp [h22]
  have h22c : (o != 22) = true := by simp [h22]
  subst ho
  have H := Lib.hid (tail_oper2 (F := F) (c := c) (p := p) (n := m) (s := s) (ts := t0 :: tr) (.inr rfl) h22 (by simp))
  conv => arg 2; whnf
  go_wp2_with fail
  refine (operation_any (.mk 1 m s l) (t0 :: tr) Any Any _ _ w hr'.out hts'.out (by simp)).mono ?_
  rintro r w1 ⟨⟨t, ok, rfl, hA⟩, he⟩
  have hA' := Lib.hid hA; clear hA
  go_wp2_with fail
  try go_ret2
  exact hR'.out _ _ (answer_of (by rw [hA'.out, H.out]; rfl)) he

set_option maxHeartbeats 1000000 in
theorem of_tail (F : List Fn) (c p : List Int) (o m : Int) (s : ByteArray) (l : List Ex) (A : Option Addr) (cap : Nat) (ts : List Int) (bs bx : Nat) (vF vc vp vts : Value) (w : World) (h : OfAt F c p o m s l A cap ts bs bx vF vc vp vts w) (R : Ending → World → Prop) (hR : ∀ r w', Answer (tailT F c p o m s ts) r → Ext w w' → R r w')
    (u4 u5 u7 u8 u9 u10 u11 u12 u13 u14 u15 u16 u17 u18 u19 u20 u21 u22 u23 u24 u25 u26 u27 u28 u29 u30 u31 u32 u33 u34 u35 u36 u37 u38 u39 u40 u41 u42 u43 u44 u45 u46 u47 u48 u49 u50 u51 u52 u53 u54 u55 u56 u57 u58 u59 u60 u61 u62 u63 u64 u65 u66 u67 u68 u69 u70 u71 u72 u73 u74 u75 u76 u77 u78 u79 u80 u81 u82 u83 u84 u85 u86 u87 u88 u89 : Value) : Code.wp Try.prog ofTail (bodyPost Try.prog Try.f65 R) ⟨#[.agg #[vF, vc, vp], .agg #[.int .i64 o, .int .i64 m, .string s, .slice A l.length cap], .pointer (some ⟨bs, 0, none⟩), .pointer (some ⟨bx, 0, none⟩), u4, u5, vts, u7, u8, u9, u10, u11, u12, u13, u14, u15, u16, u17, u18, u19, u20, u21, u22, u23, u24, u25, u26, u27, u28, u29, u30, u31, u32, u33, u34, u35, u36, u37, u38, u39, u40, u41, u42, u43, u44, u45, u46, u47, u48, u49, u50, u51, u52, u53, u54, u55, u56, u57, u58, u59, u60, u61, u62, u63, u64, u65, u66, u67, u68, u69, u70, u71, u72, u73, u74, u75, u76, u77, u78, u79, u80, u81, u82, u83, u84, u85, u86, u87, u88, u89], []⟩ w := by
  by_cases h22 : o = 22
  · by_cases hs : s.toList = []
    · by_cases hl : ts.length = 0
      · by_cases hn : m < 0
        · apply of_call_lo_nil <;> assumption
        · have hn0 : 0 ≤ m := by omega
          by_cases hn1 : (F.length : Int) ≤ m
          · apply of_call_hi_nil <;> assumption
          · have hn2 : m < F.length := by omega
            apply of_call_in_nil <;> assumption
      · have hl2 : ts ≠ [] := fun h => hl (by rw [h]; rfl)
        by_cases hn : m < 0
        · apply of_call_lo_cons <;> assumption
        · have hn0 : 0 ≤ m := by omega
          by_cases hn1 : (F.length : Int) ≤ m
          · apply of_call_hi_cons <;> assumption
          · have hn2 : m < F.length := by omega
            apply of_call_in_cons <;> assumption
    · have ho : ¬ o = 1 := by omega
      apply of_text <;> assumption
  · by_cases hs : s.toList = []
    · by_cases hl : ts.length = 0
      · apply of_leafa <;> assumption
      · have hl2 : ts ≠ [] := fun h => hl (by rw [h]; rfl)
        apply of_opera <;> assumption
    · by_cases ho : o = 1
      · by_cases hl : ts.length = 0
        · apply of_leafb <;> assumption
        · have hl2 : ts ≠ [] := fun h => hl (by rw [h]; rfl)
          apply of_operb <;> assumption
      · apply of_text <;> assumption

end Go.Proofs.Ytmhelkhmgbbfhaa
