/- Walks of the law's own helpers of layer 16. -/
import Derived.Test.YtmhelkhmgbbfhaaPure16
import Derived.Test.YtmhelkhmgbbfhaaOwn
import Derived.Test.YtmhelkhmgbbfhaaRows
namespace Go.Proofs.Ytmhelkhmgbbfhaa
open Go.RowKit Go.Lib

set_option maxHeartbeats 400000 in
theorem light_any (e : Ex) : ∀ (S : Nat → Prop) (cs : List Value) (n lv : Int) (w : World), Rd w S e.d cs → 0 ≤ n → n ≤ 1000 → -10 ≤ lv → lv ≤ 20 →
    Calls Try.prog 18 #[.agg cs.toArray, .int .i64 n, .int .i64 lv] w fun r w' => r = .returned (.int .i64 (light e n lv)) ∧ Ext w w' := by
  induction e using Ex.ind with | h o m s l ih => ?_
  intro S cs n lv w hr h1 h2 h3 h4
  obtain ⟨A, cap, b, off, rfl, hl1, hl2, hl3, hm⟩ := Ex.open hr
  simp only [Ex.args, Ex.op, Ex.n, Ex.s] at *
  by_cases hc : n - 1 < 0 ∨ lv < 1 ∨ (s.size : Int) > 300
  · have H := Lib.hid (show light (.mk o m s l) n lv = -1 by rw [light, if_pos hc])
    go_enter Try.func18, Try.ntmps18
    go_wp2_with fail
    all_goals
      go_ret
      exact ⟨ret_int H.out.symm, (Below.refl _ _).alloc (Nat.le_refl _) _⟩
  · have H := Lib.hid (show light (.mk o m s l) n lv = lightL l (n - 1) (lv - 1) by rw [light, if_neg hc])
    have g1 : ¬ n - 1 < 0 := by omega
    have g2 : ¬ lv < 1 := by omega
    have g3 : ¬ (s.size : Int) > 300 := by omega
    clear hc
    go_enter Try.func18, Try.ntmps18
    go_wp2_with fail
    go_loopw [1, 7] (fun x i wr => ∃ (k : Nat) (q : Int), k ≤ l.length ∧ i = .int .i64 k ∧ x = .int .i64 q ∧ -1 ≤ q ∧ q ≤ 1000 ∧ Hid (lightL l (n - 1) (lv - 1) = lightL (l.drop k) q (lv - 1)) ∧ Ext (w.alloc (.cells #[.int .i64 o, .int .i64 m, .string s, .slice A l.length cap] 25)) wr) (fun _ i _ => l.length - (intOf i).toNat)
    case atStart => exact ⟨0, _, by omega, rfl, rfl, by omega, by omega, Lib.hid rfl, Ext.refl _⟩
    case round =>
      obtain ⟨k, q, hk, rfl, rfl, hq1, hq2, HH, hb⟩ := hrel
      have hbox : wr.cell? ⟨w.heap.size, 3, none⟩ = some (.slice A l.length cap) := by rw [hb.cell (by simp)]; go_simp
      have hw : Ext w wr := ((Ext.refl _).alloc _).trans hb
      have hm' := Lib.hid (hm.ext (fun h => (hl3 (by simpa using h)).2) hw)
      clear hr hm
      by_cases hlt : k < l.length
      · obtain ⟨rfl, hSb⟩ := hl3 (by omega)
        obtain ⟨A1, cap1, b1, off1, c0, c1, c2, c3, hr', -⟩ := Ex.at hm'.out hlt
        have hr2 := Lib.hid hr'
        have hSb' := Lib.hid hSb
        clear hr' hSb hl3
        go_wp2_with fail
        · have hq0 : 0 ≤ q := by assumption
          refine (ih l[k] (List.getElem_mem hlt) S _ q (lv - 1) _ hr2.out hq0 (by omega) (by omega) (by omega)).mono ?_
          rintro r w1 ⟨rfl, he⟩
          have hle := light_le l[k] q (lv - 1) hq0
          have HH2 := Lib.hid (HH.out.trans (by rw [List.drop_eq_getElem_cons hlt, lightL, if_pos hq0]))
          clear HH
          go_wp2_with fail
          go_roundw
          case rel => exact ⟨k + 1, _, by omega, by go_num, rfl, by omega, by omega, HH2, hb.trans he⟩
          case measure => simp [intOf]; omega
        · have hq0 : q < 0 := by assumption
          go_ret
          exact ⟨ret_int (by rw [H.out, HH.out]; cases hd : l.drop k with | nil => rw [lightL] | cons x xs => rw [lightL, if_neg (by omega)]), hw⟩
      · have hkl : k = l.length := by omega
        subst hkl
        go_wp2_with fail
        go_ret
        exact ⟨ret_int (by rw [H.out, HH.out]; simp [lightL]), hw⟩

def fairB (f : Fn) : Bool := decide (0 ≤ light f.body 60 20) && decide ((f.params.length : Int) ≤ 8)
def fair (F : List Fn) : Bool := F.all fairB && decide ((F.length : Int) ≤ 22)

set_option maxHeartbeats 400000 in
theorem fair_any (F : List Fn) (S : Nat → Prop) (v : Value) (w : World) (hr : Rd w S (.sl (F.map Fn.d)) [v]) :
    Calls Try.prog 30 #[v] w fun r w' => r = .returned (.bool (fair F)) ∧ Ext w w' := by
  obtain ⟨A, cap, b, off, rfl, hl1, hl2, hl3, hm⟩ := Rd.sl_open hr
  simp only [List.length_map] at *
  go_enter Try.func30, Try.ntmps30
  go_wp2_with fail
  go_loopw [3] (fun i wr => ∃ (k : Nat), k ≤ F.length ∧ i = .int .i64 k ∧ Hid (F.all fairB = (F.drop k).all fairB) ∧ Ext w wr) (fun i _ => F.length - (intOf i).toNat)
  case atStart => exact ⟨0, by omega, rfl, Lib.hid rfl, Ext.refl _⟩
  case round =>
    obtain ⟨k, hk, rfl, HH, hw⟩ := hrel
    by_cases hlt : k < F.length
    · obtain ⟨rfl, hSb⟩ := hl3 (by omega)
      obtain ⟨A1, cap1, b1, off1, A2, cap2, b2, off2, c0, c1, c2, c3, c4, c5, c6, hr', q1, q2, q3, q4, q5, q6, q7, q8⟩ := Fn.at (hm.ext (fun _ => hSb) hw) hlt
      have hb := Ex.mk_rd q5 q6 q7 q8
      have H1 := Lib.hid hr'; have H2 := Lib.hid q3; have H3 := Lib.hid q4; have H4 := Lib.hid hb; have H5 := Lib.hid hSb; have H6 := Lib.hid hm
      have hd := Lib.hid (List.drop_eq_getElem_cons hlt)
      clear hr' q3 q4 q7 q8 hb hSb hr hm hl3
      by_cases h1 : light F[k].body 60 20 < 0
      · have hp := Lib.hid (show fairB F[k] = false by unfold fairB; rw [decide_eq_false (by omega)]; rfl)
        go_wp2_with fail
        refine (light_any F[k].body S _ 60 20 _ H4.out (by omega) (by omega) (by omega) (by omega)).mono ?_
        rintro r w1 ⟨rfl, he⟩
        go_wp2_with fail
        go_ret
        exact ⟨ret_bool (by unfold fair; rw [HH.out, hd.out, List.all_cons, hp.out]; rfl), hw.trans he⟩
      · by_cases h2 : 8 < F[k].params.length
        · have hp := Lib.hid (show fairB F[k] = false by unfold fairB; rw [decide_eq_false (p := (F[k].params.length : Int) ≤ 8) (by omega)]; simp)
          go_wp2_with fail
          refine (light_any F[k].body S _ 60 20 _ H4.out (by omega) (by omega) (by omega) (by omega)).mono ?_
          rintro r w1 ⟨rfl, he⟩
          have d1 := he.at c1
          go_wp2_with fail
          go_ret
          exact ⟨ret_bool (by unfold fair; rw [HH.out, hd.out, List.all_cons, hp.out]; rfl), hw.trans he⟩
        · have hp := Lib.hid (show fairB F[k] = true by unfold fairB; rw [decide_eq_true (by omega), decide_eq_true (by omega)]; rfl)
          go_wp2_with fail
          refine (light_any F[k].body S _ 60 20 _ H4.out (by omega) (by omega) (by omega) (by omega)).mono ?_
          rintro r w1 ⟨rfl, he⟩
          have d1 := he.at c1
          go_wp2_with fail
          go_roundw
          case rel => exact ⟨k + 1, by omega, by go_num, Lib.hid (by rw [HH.out, hd.out, List.all_cons, hp.out]; rfl), hw.trans he⟩
          case measure => simp [intOf]; omega
    · have hkl : k = F.length := by omega
      subst hkl
      go_wp2_with fail
      go_ret
      exact ⟨ret_bool (by unfold fair; rw [HH.out]; simp), hw⟩

theorem Try.info3 : (Try.prog.info? 3).map (fun i => (i.zero, i.size, i.bytes)) = some (some (.int .i64 0), 1, 8) := by kernel_rfl

set_option maxHeartbeats 400000 in
theorem kinds_any (R : List Val) (S : Nat → Prop) (v : Value) (w : World) (hr : Rd w S (.sl (R.map Val.d)) [v]) (hlen : R.length ≤ 1000000) :
    Calls Try.prog 12 #[v] w fun r w' => (∃ v', r = .returned v' ∧ w'.ownsRow w.heap.size 3 1 v' (R.map Val.k).length ((R.map Val.k).map (Value.int .i64))) ∧ Ext w w' := by
  obtain ⟨A, cap, b, off, rfl, hl1, hl2, hl3, hm⟩ := Rd.sl_open hr
  simp only [List.length_map] at *
  go_enter Try.func12, Try.ntmps12
  go_wp2_with fail
  go_loopw [3, 4] (fun x i wr => ∃ (k : Nat), k ≤ R.length ∧ i = .int .i64 k ∧ wr.ownsRow w.heap.size 3 1 x k (((R.map Val.k).take k).map (Value.int .i64)) ∧ Ext w wr) (fun _ i _ => R.length - (intOf i).toNat)
  case atStart => exact ⟨0, by omega, rfl, World.ownsRow_nil _ _ _ _, Ext.refl _⟩
  case round =>
    obtain ⟨k, hk, rfl, hown, hw⟩ := hrel
    by_cases hlt : k < R.length
    · obtain ⟨rfl, hSb⟩ := hl3 (by omega)
      obtain ⟨c0, c1, c2, hr'⟩ := Val.at (hm.ext (fun _ => hSb) hw) hlt
      have H5 := Lib.hid hSb; have H6 := Lib.hid hm
      have hd := Lib.hid (show (((R.map Val.k).take (k + 1)).map (Value.int .i64)) = (((R.map Val.k).take k).map (Value.int .i64)) ++ [Value.int .i64 R[k].k] by rw [List.take_succ_eq_append_getElem (by simpa using hlt)]; simp)
      clear hr' hSb hr hm hl3
      go_wp2_with (at_builtin; refine wp_append1 _ _ _ rfl _ _ _ rfl w.heap.size 3 1 8 _ Try.underlying31 Try.info3 rfl (by decide) (by decide) _ _ _ rfl hown rfl rfl (by intro u hu; simp at hu; subst hu; rfl) (by omega) hw.size ?_; intro v' w1 hown1 hg1 hn1)
      go_roundw
      case rel => exact ⟨k + 1, by omega, by go_num, by rw [hd.out]; exact hown1, hw.grown hown (Nat.le_refl _) hg1⟩
      case measure => simp [intOf]; omega
    · have hkl : k = R.length := by omega
      subst hkl
      go_wp2_with fail
      go_ret
      exact ⟨⟨_, rfl, by simpa [← List.map_take] using hown⟩, hw⟩
end Go.Proofs.Ytmhelkhmgbbfhaa
