/- Walks: what the reference finds right. -/
import Derived.Test.YtmhelkhmgbbfhaaInnerR16
import Derived.Test.YtmhelkhmgbbfhaaMore
namespace Go.Proofs.Ytmhelkhmgbbfhaa
open Go.RowKit Go.Lib

theorem levels_bd {e : Ex} (h : parts e ≤ 1000000) : levels e ≤ 1000000 := by have := levels_le e; omega

set_option maxHeartbeats 1000000 in
theorem rof_any (F : List Fn) (c p : List Int) (e : Ex) (S S1 S2 S3 : Nat → Prop) (vF vc vp : Value) (cs : List Value) (w : World) (hF : Rd w S (.sl (F.map Fn.d)) [vF]) (hc : Rd w S1 (.sl (c.map D.int)) [vc]) (hp : Rd w S2 (.sl (p.map D.int)) [vp]) (hr : Rd w S3 e.d cs) (hbd : parts e ≤ 1000000) :
    Calls Try.prog 58 #[vF, vc, vp, .agg cs.toArray] w fun r w' => r = .returned (.tuple #[.int .i64 ((tyD F c p e).getD 0), .bool (tyD F c p e).isSome]) ∧ Ext w w' := by
  obtain ⟨A, cap, b, off, rfl, hl1, hl2, hl3, hm⟩ := Ex.open hr
  have hF' := Lib.hid hF; have hc' := Lib.hid hc; have hp' := Lib.hid hp; have hr' := Lib.hid hr
  clear hF hc hp hr hm hl3
  have hlv := levels_bd hbd
  by_cases h12 : levels e > 12
  · have H := Lib.hid (show tyD F c p e = none by unfold tyD; rw [if_pos h12])
    go_enter Try.func58, Try.ntmps58
    go_wp2_with fail
    refine (rlevels_any e S3 _ _ (hr'.out.ext (by repeat' first | exact Ext.refl _ | assumption | apply Ext.alloc | apply Ext.drew | apply Ext.drewN | (refine Ext.trans ?_ (by assumption)))) hlv).mono ?_
    rintro r w1 ⟨rfl, he⟩
    go_wp2_with fail
    go_ret2
    exact ⟨by rw [H.out]; rfl, (by repeat' first | exact Ext.refl _ | assumption | apply Ext.alloc | apply Ext.drew | apply Ext.drewN | (refine Ext.trans ?_ (by assumption)))⟩
  · have H := Lib.hid (show tyD F c p e = ty F c p e by unfold tyD; rw [if_neg h12])
    go_enter Try.func58, Try.ntmps58
    go_wp2_with fail
    refine (rlevels_any e S3 _ _ (hr'.out.ext (by repeat' first | exact Ext.refl _ | assumption | apply Ext.alloc | apply Ext.drew | apply Ext.drewN | (refine Ext.trans ?_ (by assumption)))) hlv).mono ?_
    rintro r w1 ⟨rfl, he⟩
    have hcs := he.cells
    go_wp2_with fail
    refine (inner_any F c p e S S1 S2 S3 vF vc vp _ _ (hF'.out.ext (by repeat' first | exact Ext.refl _ | assumption | apply Ext.alloc | apply Ext.drew | apply Ext.drewN | (refine Ext.trans ?_ (by assumption)))) (hc'.out.ext (by repeat' first | exact Ext.refl _ | assumption | apply Ext.alloc | apply Ext.drew | apply Ext.drewN | (refine Ext.trans ?_ (by assumption)))) (hp'.out.ext (by repeat' first | exact Ext.refl _ | assumption | apply Ext.alloc | apply Ext.drew | apply Ext.drewN | (refine Ext.trans ?_ (by assumption)))) (hr'.out.ext (by repeat' first | exact Ext.refl _ | assumption | apply Ext.alloc | apply Ext.drew | apply Ext.drewN | (refine Ext.trans ?_ (by assumption)))) hbd).mono ?_
    rintro r w2 ⟨⟨t, ok, rfl, hA⟩, he2⟩
    have hA' := Lib.hid hA; clear hA hcs
    cases ok
    all_goals
      go_wp2_with fail
      go_ret2
      exact ⟨by rw [H.out, ← hA'.out]; rfl, (by repeat' first | exact Ext.refl _ | assumption | apply Ext.alloc | apply Ext.drew | apply Ext.drewN | (refine Ext.trans ?_ (by assumption)))⟩

end Go.Proofs.Ytmhelkhmgbbfhaa
