/- Walks: right values, and what fits a row. -/
import Derived.Test.YtmhelkhmgbbfhaaPure16b
import Derived.Test.YtmhelkhmgbbfhaaMore
import Derived.Test.YtmhelkhmgbbfhaaHelp16
import Derived.Test.YtmhelkhmgbbfhaaInnerTail16
namespace Go.Proofs.Ytmhelkhmgbbfhaa
open Go.RowKit Go.Lib

/-- a right value (chapter 3) -/
def okV (v : Val) : Bool :=
  if v.k = 0 then decide (v.s.toList = [])
  else if v.k = 1 then decide (v.n = 0) && decide ((v.s.size : Int) ≤ 200)
  else decide (v.k = 2) && (decide (v.n = 0) || decide (v.n = 1)) && decide (v.s.toList = [])

set_option maxRecDepth 10000 in
set_option maxHeartbeats 1000000 in
theorem rightV_any (v : Val) (w : World) : Calls Try.prog 14 #[v.v] w fun r w' => r = .returned (.bool (okV v)) ∧ Ext w w' := by
  obtain ⟨k, n, s⟩ := v
  simp only [Val.v]
  have hS : s.toList = [] ∨ ¬ s.toList = [] := Decidable.em _
  by_cases h0 : k = 0
  · subst h0
    rcases hS with hs | hs
    all_goals
      have H := Lib.hid (show okV ⟨0, n, s⟩ = decide (s.toList = []) by simp [okV])
      go_enter Try.func14, Try.ntmps14
      go_wp2_with fail
      go_ret
      exact ⟨ret_bool (by rw [H.out]; simp [hs]), (by repeat' first | exact Ext.refl _ | assumption | apply Ext.alloc | apply Ext.drew | apply Ext.drewN | (refine Ext.trans ?_ (by assumption)))⟩
  by_cases h1 : k = 1
  · subst h1
    have H := Lib.hid (show okV ⟨1, n, s⟩ = (decide (n = 0) && decide ((s.size : Int) ≤ 200)) by simp [okV])
    clear h0
    by_cases hn : n = 0
    · subst hn
      go_enter Try.func14, Try.ntmps14
      go_wp2_with fail
      go_ret
      exact ⟨ret_bool (by rw [H.out]; simp), (by repeat' first | exact Ext.refl _ | assumption | apply Ext.alloc | apply Ext.drew | apply Ext.drewN | (refine Ext.trans ?_ (by assumption)))⟩
    · have hn1 : (n == 0) = false := by simp [hn]
      go_enter Try.func14, Try.ntmps14
      go_wp2_with fail
      go_ret
      exact ⟨ret_bool (by rw [H.out]; simp [hn]), (by repeat' first | exact Ext.refl _ | assumption | apply Ext.alloc | apply Ext.drew | apply Ext.drewN | (refine Ext.trans ?_ (by assumption)))⟩
  have H := Lib.hid (show okV ⟨k, n, s⟩ = (decide (k = 2) && (decide (n = 0) || decide (n = 1)) && decide (s.toList = [])) by simp [okV, h0, h1])
  have h0b : (k == 0) = false := by simp [h0]
  have h1b : (k == 1) = false := by simp [h1]
  by_cases h2 : k = 2
  · subst h2
    clear h0 h1 h0b h1b
    rcases hS with hs | hs
    all_goals
      by_cases hn : n = 0
      · subst hn
        go_enter Try.func14, Try.ntmps14
        go_wp2_with fail
        go_ret
        exact ⟨ret_bool (by rw [H.out]; simp [hs]), (by repeat' first | exact Ext.refl _ | assumption | apply Ext.alloc | apply Ext.drew | apply Ext.drewN | (refine Ext.trans ?_ (by assumption)))⟩
      · have hn1 : (n == 0) = false := by simp [hn]
        by_cases hm : n = 1
        · subst hm
          go_enter Try.func14, Try.ntmps14
          go_wp2_with fail
          go_ret
          exact ⟨ret_bool (by rw [H.out]; simp [hs]), (by repeat' first | exact Ext.refl _ | assumption | apply Ext.alloc | apply Ext.drew | apply Ext.drewN | (refine Ext.trans ?_ (by assumption)))⟩
        · have hm1 : (n == 1) = false := by simp [hm]
          go_enter Try.func14, Try.ntmps14
          go_wp2_with fail
          go_ret
          exact ⟨ret_bool (by rw [H.out]; simp [hn, hm]), (by repeat' first | exact Ext.refl _ | assumption | apply Ext.alloc | apply Ext.drew | apply Ext.drewN | (refine Ext.trans ?_ (by assumption)))⟩
  · have h2b : (k == 2) = false := by simp [h2]
    go_enter Try.func14, Try.ntmps14
    go_wp2_with fail
    go_ret
    exact ⟨ret_bool (by rw [H.out]; simp [h2]), (by repeat' first | exact Ext.refl _ | assumption | apply Ext.alloc | apply Ext.drew | apply Ext.drewN | (refine Ext.trans ?_ (by assumption)))⟩

def fitB (v : Val) : Bool := okV v && decide ((v.s.size : Int) ≤ 200)
def fitsR (R : List Val) : Bool := R.all fitB && decide ((R.length : Int) ≤ 20)

set_option maxHeartbeats 1000000 in
theorem fits_any (R : List Val) (S : Nat → Prop) (v : Value) (w : World) (hr : Rd w S (.sl (R.map Val.d)) [v]) :
    Calls Try.prog 28 #[v] w fun r w' => r = .returned (.bool (fitsR R)) ∧ Ext w w' := by
  obtain ⟨A, cap, b, off, rfl, hl1, hl2, hl3, hm⟩ := Rd.sl_open hr
  simp only [List.length_map] at *
  have hl3' := Lib.hid hl3; have hm' := Lib.hid hm
  clear hr hl3 hm
  go_enter Try.func28, Try.ntmps28
  go_wp2_with fail
  go_loopw [3] (fun i wr => ∃ (k : Nat), k ≤ R.length ∧ i = .int .i64 k ∧ Hid (∀ i (hi : i < R.length), i < k → fitB R[i] = true) ∧ Ext w wr) (fun i _ => R.length - (intOf i).toNat)
  case atStart => exact ⟨0, by omega, rfl, Lib.hid (fun j _ h => absurd h (by omega)), Ext.refl _⟩
  case round =>
    obtain ⟨k, hk, rfl, HH, hw⟩ := hrel
    by_cases hlt : k < R.length
    · obtain ⟨rfl, hSb⟩ := hl3'.out (by omega)
      obtain ⟨c0, c1, c2, hr'⟩ := Val.at (hm'.out.ext (fun _ => hSb) hw) hlt
      have hSb' := Lib.hid hSb
      clear hr' hSb
      have hc := rightV_any R[k]
      cases hok : okV R[k] with
      | false =>
        rw [hok] at hc
        have hc' := Lib.hid hc
        have H := Lib.hid (show fitsR R = false by unfold fitsR; rw [all_at_false hlt (by unfold fitB; rw [hok]; rfl)]; rfl)
        clear hc hok
        go_wp2_with fail
        refine (hc'.out _).mono ?_
        rintro r w1 ⟨rfl, he⟩
        go_wp2_with fail
        go_ret
        exact ⟨ret_bool (by rw [H.out]), hw.trans he⟩
      | true =>
        rw [hok] at hc
        have hc' := Lib.hid hc
        by_cases hz : (R[k].s.size : Int) ≤ 200
        · have H := Lib.hid (show fitB R[k] = true by unfold fitB; rw [hok, decide_eq_true hz]; rfl)
          clear hc hok
          go_wp2_with fail
          refine (hc'.out _).mono ?_
          rintro r w1 ⟨rfl, he⟩
          have c2 := he.at c2
          go_wp2_with fail
          go_roundw
          case rel => exact ⟨k + 1, by omega, by go_num, Lib.hid (fun i hi h => by rcases Nat.lt_succ_iff_lt_or_eq.1 h with h | rfl; exact HH.out i hi h; exact H.out), hw.trans he⟩
          case measure => simp [intOf]; omega
        · have H := Lib.hid (show fitsR R = false by unfold fitsR; rw [all_at_false hlt (by unfold fitB; rw [hok, decide_eq_false hz]; rfl)]; rfl)
          clear hc hok
          go_wp2_with fail
          refine (hc'.out _).mono ?_
          rintro r w1 ⟨rfl, he⟩
          have c2 := he.at c2
          go_wp2_with fail
          go_ret
          exact ⟨ret_bool (by rw [H.out]), hw.trans he⟩
    · have hkl : k = R.length := by omega
      subst hkl
      have H := Lib.hid (show fitsR R = decide ((R.length : Int) ≤ 20) by unfold fitsR; rw [all_at_true (fun i hi => HH.out i hi hi)]; rfl)
      go_wp2_with fail
      go_ret
      exact ⟨ret_bool (by rw [H.out]), hw⟩

end Go.Proofs.Ytmhelkhmgbbfhaa
