/- Walks: the type of an expression, as the program finds it. -/
import Derived.Test.YtmhelkhmgbbfhaaOperP16
import Derived.Test.YtmhelkhmgbbfhaaEqual16
import Derived.Test.YtmhelkhmgbbfhaaRightR16b
namespace Go.Proofs.Ytmhelkhmgbbfhaa
open Go.RowKit Go.Lib

set_option maxRecDepth 10000 in
set_option maxHeartbeats 4000000 in
theorem leaf_any (c p : List Int) (e : Ex) (S S1 S2 : Nat → Prop) (vF vc vp : Value) (cs : List Value) (w : World) (hc : Rd w S1 (.sl (c.map D.int)) [vc]) (hp : Rd w S2 (.sl (p.map D.int)) [vp]) (hr : Rd w S e.d cs) :
    Calls Try.prog 92 #[.agg #[vF, vc, vp], .agg cs.toArray] w fun r w' => Answer (leafT c p e.op e.n e.s) r ∧ Ext w w' := by
  obtain ⟨A, cap, b, off, rfl, hl1, hl2, hl3, hm⟩ := Ex.open hr
  obtain ⟨o, m, s, l⟩ := e
  simp only [Ex.args, Ex.op, Ex.n, Ex.s] at *
  have hc' := Lib.hid hc; have hp' := Lib.hid hp
  clear hr hm hl3 hc hp
  have hO : o = 0 ∨ o = 1 ∨ o = 2 ∨ o = 3 ∨ o = 4 ∨ o = 5 ∨ (o < 0 ∨ 5 < o) := by omega
  have hO' := Lib.hid hO; clear hO
  have hbx : ∀ o1 (x : ExtW ((w.alloc o1).alloc (.cells #[.int .i64 o, .int .i64 m, .string s, .slice A l.length cap] 25))), x.val.cell? ⟨w.heap.size + 1, 1, none⟩ = some (.int .i64 m) := fun o1 x => x.ext.at (by go_simp)
  have hbx2 : ∀ o1 (x : ExtW ((w.alloc o1).alloc (.cells #[.int .i64 o, .int .i64 m, .string s, .slice A l.length cap] 25))), x.val.cell? ⟨w.heap.size + 1, 2, none⟩ = some (.string s) := fun o1 x => x.ext.at (by go_simp)
  rcases hO'.out with rfl | rfl | rfl | rfl | rfl | rfl | hC
  · go_enter Try.func92, Try.ntmps92
    go_wp2_with fail
    go_ret2
    exact ⟨by simp only [leafT]; exact answer_some, (by repeat' first | exact Ext.refl _ | assumption | apply Ext.alloc | apply Ext.drew | apply Ext.drewN | (refine Ext.trans ?_ (by assumption)))⟩
  · by_cases hm0 : m = 0
    · subst hm0
      go_enter Try.func92, Try.ntmps92
      go_wp2_with fail
      refine wp_region_ext (by kernel_rfl) (by kernel_rfl) ?_
      repeat (go_big_quiet_step ((fail)))
      refine wpQuiet_nil ?_
      intro w1 he
      go_wp2_with fail
      go_ret2
      exact ⟨answer_of (by simp [leafT]), (by repeat' first | exact Ext.refl _ | assumption | apply Ext.alloc | apply Ext.drew | apply Ext.drewN | (refine Ext.trans ?_ (by assumption)))⟩
    · have hm1 : (m == 0) = false := by simp [hm0]
      go_enter Try.func92, Try.ntmps92
      go_wp2_with fail
      refine wp_region_ext (by kernel_rfl) (by kernel_rfl) ?_
      repeat (go_big_quiet_step ((fail)))
      refine wpQuiet_nil ?_
      intro w1 he
      go_wp2_with fail
      go_ret2
      exact ⟨answer_of (by simp [leafT, hm0]), (by repeat' first | exact Ext.refl _ | assumption | apply Ext.alloc | apply Ext.drew | apply Ext.drewN | (refine Ext.trans ?_ (by assumption)))⟩
  · by_cases hm0 : m = 0
    · subst hm0
      go_enter Try.func92, Try.ntmps92
      go_wp2_with fail
      refine wp_region_ext (by kernel_rfl) (by kernel_rfl) ?_
      repeat (go_big_quiet_step ((fail)))
      refine wpQuiet_nil ?_
      intro w1 he
      go_wp2_with fail
      go_ret2
      exact ⟨answer_of (by simp [leafT]), (by repeat' first | exact Ext.refl _ | assumption | apply Ext.alloc | apply Ext.drew | apply Ext.drewN | (refine Ext.trans ?_ (by assumption)))⟩
    · have hm1 : (m == 0) = false := by simp [hm0]
      go_enter Try.func92, Try.ntmps92
      go_wp2_with fail
      refine wp_region_ext (by kernel_rfl) (by kernel_rfl) ?_
      repeat (go_big_quiet_step ((fail)))
      refine wpQuiet_nil ?_
      intro w1 he
      go_wp2_with fail
      go_ret2
      exact ⟨answer_of (by simp [leafT, hm0]), (by repeat' first | exact Ext.refl _ | assumption | apply Ext.alloc | apply Ext.drew | apply Ext.drewN | (refine Ext.trans ?_ (by assumption)))⟩
  · go_enter Try.func92, Try.ntmps92
    go_wp2_with fail
    refine (pick_any c m S1 vc _ (hc'.out.ext (by repeat' first | exact Ext.refl _ | assumption | apply Ext.alloc | apply Ext.drew | apply Ext.drewN | (refine Ext.trans ?_ (by assumption))))).mono ?_
    rintro r w1 ⟨⟨t, ok, rfl, hA⟩, he⟩
    have hA' := Lib.hid hA; clear hA
    go_wp2_with fail
    go_ret2
    exact ⟨answer_of (by rw [hA'.out]; simp [leafT]), (by repeat' first | exact Ext.refl _ | assumption | apply Ext.alloc | apply Ext.drew | apply Ext.drewN | (refine Ext.trans ?_ (by assumption)))⟩
  · go_enter Try.func92, Try.ntmps92
    go_wp2_with fail
    refine (pick_any p m S2 vp _ (hp'.out.ext (by repeat' first | exact Ext.refl _ | assumption | apply Ext.alloc | apply Ext.drew | apply Ext.drewN | (refine Ext.trans ?_ (by assumption))))).mono ?_
    rintro r w1 ⟨⟨t, ok, rfl, hA⟩, he⟩
    have hA' := Lib.hid hA; clear hA
    go_wp2_with fail
    go_ret2
    exact ⟨answer_of (by rw [hA'.out]; simp [leafT]), (by repeat' first | exact Ext.refl _ | assumption | apply Ext.alloc | apply Ext.drew | apply Ext.drewN | (refine Ext.trans ?_ (by assumption)))⟩
  · go_enter Try.func92, Try.ntmps92
    go_wp2_with fail
    refine wp_region_ext (by kernel_rfl) (by kernel_rfl) ?_
    repeat (go_big_quiet_step ((fail)))
    refine wpQuiet_nil ?_
    intro w1 he
    go_wp2_with fail
    go_ret2
    exact ⟨answer_of (by simp [leafT]), (by repeat' first | exact Ext.refl _ | assumption | apply Ext.alloc | apply Ext.drew | apply Ext.drewN | (refine Ext.trans ?_ (by assumption)))⟩
  · have H := Lib.hid (show leafT c p o m s = none by
      unfold leafT
      rw [if_neg (by omega), if_neg (by omega), if_neg (by omega), if_neg (by omega), if_neg (by omega), if_neg (by omega)])
    clear hO'
    rcases hC with hC | hC
    all_goals
      go_enter Try.func92, Try.ntmps92
      go_wp2_with fail
      go_ret2
      exact ⟨by rw [H.out]; exact answer_none, (by repeat' first | exact Ext.refl _ | assumption | apply Ext.alloc | apply Ext.drew | apply Ext.drewN | (refine Ext.trans ?_ (by assumption)))⟩

end Go.Proofs.Ytmhelkhmgbbfhaa
