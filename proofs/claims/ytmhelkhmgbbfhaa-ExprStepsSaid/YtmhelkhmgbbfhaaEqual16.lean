/- Walk: slices.Equal at ints. -/
import Derived.Test.YtmhelkhmgbbfhaaMore
import Derived.Test.YtmhelkhmgbbfhaaRows
namespace Go.Proofs.Ytmhelkhmgbbfhaa
open Go.RowKit Go.Lib

set_option maxHeartbeats 1000000 in
theorem equal_any (xs ys : List Int) (S S2 : Nat → Prop) (v v2 : Value) (w : World) (hr : Rd w S (.sl (xs.map D.int)) [v]) (hr2 : Rd w S2 (.sl (ys.map D.int)) [v2]) :
    Calls Try.prog 93 #[v, v2] w fun r w' => r = .returned (.bool (decide (xs = ys))) ∧ Ext w w' := by
  obtain ⟨A, cap, b, off, rfl, hl1, hl2, hl3, hm⟩ := Rd.sl_open hr
  obtain ⟨A0, cap0, b0, off0, rfl, k1, k2, k3, km⟩ := Rd.sl_open hr2
  simp only [List.length_map] at *
  have hl3' := Lib.hid hl3; have hm' := Lib.hid hm; have k3' := Lib.hid k3; have km' := Lib.hid km
  clear hr hr2 hl3 hm k3 km
  by_cases hlen : xs.length = ys.length
  · have hlen' := Lib.hid hlen
    obtain ⟨n, hn⟩ : ∃ n, n = ys.length := ⟨_, rfl⟩
    rw [hlen, ← hn] at hl1 ⊢
    rw [← hn] at k1
    have hn' := Lib.hid hn
    clear hlen hn
    go_enter Try.func93, Try.ntmps93
    go_wp2_with fail
    go_loopw [13] (fun i wr => ∃ (k : Nat), k ≤ n ∧ i = .int .i64 k ∧ Hid (xs.take k = ys.take k) ∧ Ext w wr) (fun i _ => n - (intOf i).toNat)
    case atStart => exact ⟨0, by omega, rfl, Lib.hid rfl, Ext.refl _⟩
    case round =>
      obtain ⟨k, hk, rfl, HH, hw⟩ := hrel
      by_cases hlt : k < n
      · have hx : k < xs.length := by rw [hlen'.out, ← hn'.out]; exact hlt
        have hy : k < ys.length := by rw [← hn'.out]; exact hlt
        obtain ⟨rfl, hSb⟩ := hl3'.out (by omega)
        obtain ⟨rfl, hSb2⟩ := k3'.out (by omega)
        have d0 := ints_at (hm'.out.ext (fun _ => hSb) hw) hx
        have d1 := ints_at (km'.out.ext (fun _ => hSb2) hw) hy
        have hSb' := Lib.hid hSb; have hSb2' := Lib.hid hSb2
        clear hSb hSb2
        have gd0 := ExtW.at d0
        have gd1 := ExtW.at d1
        by_cases he : xs[k] = ys[k]
        · have he1 : (xs[k] != ys[k]) = false := by simp [he]
          have he' := Lib.hid he; clear he
          go_wp2_with fail
          refine wp_region_ext (by kernel_rfl) (by kernel_rfl) ?_
          repeat (go_big_quiet_step ((fail)))
          refine wpQuiet_nil ?_
          intro w1 he1
          go_wp2_with fail
          go_roundw
          case rel => exact ⟨k + 1, by omega, by go_num, Lib.hid (by rw [List.take_succ_eq_append_getElem hx, List.take_succ_eq_append_getElem hy, HH.out, he'.out]), hw.trans he1⟩
          case measure => simp [intOf]; omega
        · have he1 : (xs[k] != ys[k]) = true := by simp [he]
          have H := Lib.hid (show decide (xs = ys) = false by rw [decide_eq_false]; intro h; subst h; exact he rfl)
          clear he
          go_wp2_with fail
          refine wp_region_ext (by kernel_rfl) (by kernel_rfl) ?_
          repeat (go_big_quiet_step ((fail)))
          refine wpQuiet_nil ?_
          intro w1 he2
          go_wp2_with fail
          go_ret
          exact ⟨ret_bool (by rw [H.out]), hw.trans he2⟩
      · have hkl : k = n := by omega
        subst hkl
        have H := Lib.hid (show decide (xs = ys) = true by
          rw [decide_eq_true]
          have h1 := HH.out
          rw [List.take_of_length_le (by rw [hlen'.out, ← hn'.out]; omega), List.take_of_length_le (by rw [← hn'.out]; omega)] at h1
          exact h1)
        go_wp2_with fail
        go_ret
        exact ⟨ret_bool (by rw [H.out]), hw⟩
  · have H := Lib.hid (show decide (xs = ys) = false by rw [decide_eq_false]; intro h; subst h; exact hlen rfl)
    have hl4 : ¬ (xs.length : Int) = ys.length := by omega
    go_enter Try.func93, Try.ntmps93
    go_wp2_with fail
    go_ret
    exact ⟨ret_bool (by rw [H.out]), Ext.refl _⟩


end Go.Proofs.Ytmhelkhmgbbfhaa
