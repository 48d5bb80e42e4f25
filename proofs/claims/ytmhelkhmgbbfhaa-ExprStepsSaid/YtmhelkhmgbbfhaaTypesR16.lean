/- Walks: what the reference calls types of expressions. -/
import Derived.Test.YtmhelkhmgbbfhaaQuiet
import Derived.Test.YtmhelkhmgbbfhaaHelp16
namespace Go.Proofs.Ytmhelkhmgbbfhaa
open Go.RowKit Go.Lib

set_option maxHeartbeats 400000 in
theorem rkind_any (n : Int) (w : World) : Calls Try.prog 62 #[.int .i64 n] w fun r w' => r = .returned (.bool (kindB n)) ∧ Ext w w' := by
  go_enter Try.func62, Try.ntmps62
  go_wp2_with fail
  all_goals
    go_ret
    exact ⟨ret_bool (by first | rfl | (unfold kindB; simp; omega)), Ext.refl _⟩

theorem answer_none {x : Int} : Answer none (.returned (.tuple #[.int .i64 x, .bool false])) := ⟨x, false, rfl, rfl⟩
theorem answer_some {x : Int} : Answer (some x) (.returned (.tuple #[.int .i64 x, .bool true])) := ⟨x, true, rfl, rfl⟩
theorem answer_of {x : Int} {b : Bool} {t : Option Int} (h : (if b then some x else none) = t) : Answer t (.returned (.tuple #[.int .i64 x, .bool b])) := ⟨x, b, rfl, h⟩

set_option maxHeartbeats 400000 in
theorem rat_any (l : List Int) (n : Int) (S : Nat → Prop) (v : Value) (w : World) (hr : Rd w S (.sl (l.map D.int)) [v]) :
    Calls Try.prog 101 #[v, .int .i64 n] w fun r w' => Answer (pickT l n) r ∧ Ext w w' := by
  obtain ⟨A, cap, b, off, rfl, hl1, hl2, hl3, hm⟩ := Rd.sl_open hr
  simp only [List.length_map] at *
  by_cases hn : n < 0 ∨ (l.length : Int) ≤ n
  · have H := Lib.hid (show pickT l n = none by
      unfold pickT; split
      · rfl
      · rw [List.getElem?_eq_none (by omega)])
    clear hr hm hl3
    rcases hn with hn | hn
    all_goals
      go_enter Try.func101, Try.ntmps101
      go_wp2_with fail
      all_goals
        go_ret2
        exact ⟨by rw [H.out]; exact answer_none, Ext.refl _⟩
  · obtain ⟨k, rfl⟩ := Int.eq_ofNat_of_zero_le (show 0 ≤ n by omega)
    have hlt : k < l.length := by omega
    obtain ⟨rfl, hSb⟩ := hl3 (by omega)
    have c0 := ints_at hm hlt
    have gc0 := ExtW.at c0
    have H := Lib.hid (show (if kindB l[k] then some l[k] else none) = pickT l (k : Int) by
      simp [pickT, List.getElem?_eq_getElem hlt, show ¬ ((k : Int) < 0) by omega])
    clear hm hSb hr hl3 hn
    go_enter Try.func101, Try.ntmps101
    go_wp2_with fail
    refine wp_region_ext (by kernel_rfl) (by kernel_rfl) ?_
    repeat (go_big_quiet_step ((go_at_call 62; exact Calls.ext_of (rkind_any _ _))))
    refine wpQuiet_nil ?_
    intro w1 he
    go_wp2_with fail
    go_ret2
    exact ⟨answer_of H.out, he⟩

set_option maxHeartbeats 400000 in
theorem rnumber_any (op : Int) (w : World) : Calls Try.prog 100 #[.int .i64 op] w fun r w' => r = .returned (.int .i64 (if 0 ≤ op ∧ op ≤ 5 then 0 else if op = 6 ∨ op = 7 ∨ op = 20 then 1 else if op = 21 then 3 else if 5 < op ∧ op < 21 then 2 else -1)) ∧ Ext w w' := by
  by_cases h0 : 0 ≤ op ∧ op ≤ 5
  · rw [if_pos h0]
    have : op = 0 ∨ op = 1 ∨ op = 2 ∨ op = 3 ∨ op = 4 ∨ op = 5 := by omega
    rcases this with rfl | rfl | rfl | rfl | rfl | rfl
    all_goals
      go_enter Try.func100, Try.ntmps100
      go_wp2_with fail
      go_ret
      exact ⟨rfl, Ext.refl _⟩
  · rw [if_neg h0]
    by_cases h1 : op = 6 ∨ op = 7 ∨ op = 20
    · rw [if_pos h1]
      rcases h1 with rfl | rfl | rfl
      all_goals
        go_enter Try.func100, Try.ntmps100
        go_wp2_with fail
        go_ret
        exact ⟨rfl, Ext.refl _⟩
    · rw [if_neg h1]
      by_cases h2 : op = 21
      · rw [if_pos h2]; subst h2
        go_enter Try.func100, Try.ntmps100
        go_wp2_with fail
        go_ret
        exact ⟨rfl, Ext.refl _⟩
      · rw [if_neg h2]
        have e0 : ¬ op = 0 := by omega
        have e1 : ¬ op = 1 := by omega
        have e2 : ¬ op = 2 := by omega
        have e3 : ¬ op = 3 := by omega
        have e4 : ¬ op = 4 := by omega
        have e5 : ¬ op = 5 := by omega
        have e6 : ¬ op = 6 := by omega
        have e7 : ¬ op = 7 := by omega
        have e20 : ¬ op = 20 := by omega
        clear h1
        by_cases h3 : 5 < op ∧ op < 21
        · rw [if_pos h3]
          obtain ⟨h3, h4⟩ := h3
          clear h0
          go_enter Try.func100, Try.ntmps100
          go_wp2_with fail
          all_goals
            go_ret
            exact ⟨rfl, Ext.refl _⟩
        · rw [if_neg h3]
          by_cases h4 : 5 < op
          · have h5 : 22 ≤ op := by omega
            clear h3 h0
            go_enter Try.func100, Try.ntmps100
            go_wp2_with fail
            all_goals
              go_ret
              exact ⟨rfl, Ext.refl _⟩
          · clear h3 h0
            go_enter Try.func100, Try.ntmps100
            go_wp2_with fail
            all_goals
              go_ret
              exact ⟨rfl, Ext.refl _⟩

theorem levelsL_mem : ∀ (l : List Ex) (n : Int) (e : Ex), e ∈ l → levels e ≤ levelsL l n
  | [], _, _, h => by simp at h
  | x :: l, n, e, h => by
    rw [levelsL]
    rcases List.mem_cons.1 h with rfl | h
    · have := (levelsL_le l (max n (levels e)) (max n (levels e)).toNat (by have := levels_le e; omega) (by omega)).1; omega
    · exact levelsL_mem l _ e h

set_option maxHeartbeats 400000 in
theorem rlevels_any (e : Ex) : ∀ (S : Nat → Prop) (cs : List Value) (w : World), Rd w S e.d cs → levels e ≤ 1000000 →
    Calls Try.prog 17 #[.agg cs.toArray] w fun r w' => r = .returned (.int .i64 (levels e)) ∧ Ext w w' := by
  induction e using Ex.ind with | h o m s l ih => ?_
  intro S cs w hr hbd
  obtain ⟨A, cap, b, off, rfl, hl1, hl2, hl3, hm⟩ := Ex.open hr
  simp only [Ex.args, Ex.op, Ex.n, Ex.s] at *
  rw [levels] at hbd
  have H := Lib.hid (show levels (.mk o m s l) = levelsL l 0 + 1 by rw [levels])
  go_enter Try.func17, Try.ntmps17
  go_wp2_with fail
  go_loopw [3, 4] (fun x i wr => ∃ (k : Nat) (q : Int), k ≤ l.length ∧ i = .int .i64 k ∧ x = .int .i64 q ∧ 0 ≤ q ∧ q ≤ 1000000 ∧ Hid (levelsL l 0 = levelsL (l.drop k) q) ∧ Ext (w.alloc (.cells #[.int .i64 o, .int .i64 m, .string s, .slice A l.length cap] 25)) wr) (fun _ i _ => l.length - (intOf i).toNat)
  case atStart => exact ⟨0, _, by omega, rfl, rfl, by omega, by omega, Lib.hid rfl, Ext.refl _⟩
  case round =>
    obtain ⟨k, q, hk, rfl, rfl, hq1, hq2, HH, hb⟩ := hrel
    have hbox : wr.cell? ⟨w.heap.size, 3, none⟩ = some (.slice A l.length cap) := hb.at (by go_simp)
    have hw : Ext w wr := ((Ext.refl _).alloc _).trans hb
    have hm' := Lib.hid (hm.ext (fun h => (hl3 (by simpa using h)).2) hw)
    clear hr hm
    by_cases hlt : k < l.length
    · obtain ⟨rfl, hSb⟩ := hl3 (by omega)
      obtain ⟨A1, cap1, b1, off1, c0, c1, c2, c3, hr', -⟩ := Ex.at hm'.out hlt
      have hr2 := Lib.hid hr'
      have hSb' := Lib.hid hSb
      clear hr' hSb hl3
      have hle := levelsL_mem l 0 l[k] (List.getElem_mem hlt)
      have hll := levels_le l[k]
      go_wp2_with fail
      refine (ih l[k] (List.getElem_mem hlt) S _ _ hr2.out (by omega)).mono ?_
      rintro r w1 ⟨rfl, he⟩
      have HH2 := Lib.hid (HH.out.trans (by rw [List.drop_eq_getElem_cons hlt, levelsL]))
      clear HH
      go_wp2_with fail
      go_roundw
      case rel => exact ⟨k + 1, max q (levels l[k]), by omega, by go_num, by first | rfl | go_num | (simp [Int.max_def]), by omega, by omega, HH2, hb.trans he⟩
      case measure => simp [intOf]; omega
    · have hkl : k = l.length := by omega
      subst hkl
      have hq3 : levelsL l 0 = q := by rw [HH.out]; simp [levelsL]
      have hq4 := Lib.hid hq3
      have hq5 : q ≤ 999999 := by omega
      clear hq3
      go_wp2_with fail
      go_ret
      exact ⟨ret_int (by rw [H.out, hq4.out]), hw⟩

theorem take_ne {l m : List Int} {k : Nat} (h1 : k < l.length) (h2 : k < m.length) (h : l[k] ≠ m[k]) : m ≠ l := by
  rintro rfl; exact h rfl

set_option maxHeartbeats 400000 in
theorem rcall_any (F : List Fn) (n : Int) (ts : List Int) (S S2 : Nat → Prop) (v v2 : Value) (w : World) (hr : Rd w S (.sl (F.map Fn.d)) [v]) (hr2 : Rd w S2 (.sl (ts.map D.int)) [v2]) :
    Calls Try.prog 99 #[v, .int .i64 n, v2] w fun r w' => Answer (callT F n ts) r ∧ Ext w w' := by
  obtain ⟨A, cap, b, off, rfl, hl1, hl2, hl3, hm⟩ := Rd.sl_open hr
  obtain ⟨A0, cap0, b0, off0, rfl, k1, k2, k3, km⟩ := Rd.sl_open hr2
  simp only [List.length_map] at *
  by_cases hn : n < 0 ∨ (F.length : Int) ≤ n
  · have H := Lib.hid (show callT F n ts = none by
      unfold callT; split
      · rfl
      · rw [List.getElem?_eq_none (by omega)])
    clear hr hm hl3 hr2 km k3
    rcases hn with hn | hn
    all_goals
      go_enter Try.func99, Try.ntmps99
      go_wp2_with fail
      all_goals
        go_ret2
        exact ⟨by rw [H.out]; exact answer_none, Ext.refl _⟩
  · obtain ⟨k, rfl⟩ := Int.eq_ofNat_of_zero_le (show 0 ≤ n by omega)
    have hlt : k < F.length := by omega
    obtain ⟨rfl, hSb⟩ := hl3 (by omega)
    obtain ⟨A1, cap1, b1, off1, A2, cap2, b2, off2, c0, c1, c2, c3, c4, c5, c6, hr', q1, q2, q3, q4, -⟩ := Fn.at hm hlt
    have H := Lib.hid (show callT F (k : Int) ts = if F[k].params = ts then some F[k].res else none by
      simp [callT, List.getElem?_eq_getElem hlt, show ¬ ((k : Int) < 0) by omega])
    have H1 := Lib.hid q3; have H2 := Lib.hid q4; have H3 := Lib.hid k3; have H4 := Lib.hid km
    clear q3 q4 hSb hr hm hl3 hr2 km k3 hn
    have hn1 : ¬ F.length ≤ k := by omega
    have hn2 : ¬ (k : Int) < 0 := by omega
    by_cases hlen : F[k].params.length = ts.length
    · have hlen' := Lib.hid hlen
      rw [hlen] at c1
      clear hlen hr'
      go_enter Try.func99, Try.ntmps99
      go_wp2_with fail
      go_loopw [9] (fun i wr => ∃ (j : Nat), j ≤ ts.length ∧ i = .int .i64 j ∧ Hid (ts.take j = F[k].params.take j) ∧ Ext (w.alloc (.cells #[.string F[k].name, .slice A1 ts.length cap1, .int .i64 F[k].res, .int .i64 F[k].body.op, .int .i64 F[k].body.n, .string F[k].body.s, .slice A2 F[k].body.args.length cap2] 67)) wr) (fun i _ => ts.length - (intOf i).toNat)
      case atStart => exact ⟨0, by omega, rfl, Lib.hid rfl, Ext.refl _⟩
      case round =>
        obtain ⟨j, hj, rfl, HH, hb⟩ := hrel
        have hbox1 : wr.cell? ⟨w.heap.size, 1, none⟩ = some (.slice A1 ts.length cap1) := hb.at (by go_simp)
        have hbox2 : wr.cell? ⟨w.heap.size, 2, none⟩ = some (.int .i64 F[k].res) := hb.at (by go_simp)
        have hw : Ext w wr := ((Ext.refl _).alloc _).trans hb
        by_cases hjl : j < ts.length
        · obtain ⟨rfl, hS0⟩ := H3.out (by omega)
          obtain ⟨rfl, hS1⟩ := H1.out (by rw [hlen'.out]; omega)
          have d0 := ints_at (H4.out.ext (fun _ => hS0) hw) hjl
          have hjl2 : j < F[k].params.length := by rw [hlen'.out]; omega
          have d1 := ints_at (H2.out.ext (fun _ => hS1) hw) hjl2
          have H6 := Lib.hid hS0; have H7 := Lib.hid hS1
          clear hS0 hS1
          have gd0 := ExtW.at d0
          have gd1 := ExtW.at d1
          have ghbox1 := ExtW.at hbox1
          by_cases hx : ts[j] = F[k].params[j]
          · have hx1 : (ts[j] != F[k].params[j]) = false := by simp [hx]
            have hx2 := Lib.hid hx; clear hx
            go_wp2_with fail
            refine wp_region_ext (by kernel_rfl) (by kernel_rfl) ?_
            repeat (go_big_quiet_step ((fail)))
            refine wpQuiet_nil ?_
            intro w1 he
            go_wp2_with fail
            go_roundw
            case rel => exact ⟨j + 1, by omega, by go_num, Lib.hid (by rw [List.take_succ_eq_append_getElem hjl, List.take_succ_eq_append_getElem hjl2, HH.out, hx2.out]), hb.trans he⟩
            case measure => simp [intOf]; omega
          · have hx1 : (ts[j] != F[k].params[j]) = true := by simp [hx]
            have hx2 := Lib.hid hx; clear hx
            have H8 := Lib.hid (show callT F (k : Int) ts = none by rw [H.out, if_neg (take_ne hjl hjl2 hx2.out)])
            go_wp2_with fail
            refine wp_region_ext (by kernel_rfl) (by kernel_rfl) ?_
            repeat (go_big_quiet_step ((fail)))
            refine wpQuiet_nil ?_
            intro w1 he
            go_wp2_with fail
            go_ret2
            exact ⟨by rw [H8.out]; exact answer_none, hw.trans he⟩
        · have hjl2 : j = ts.length := by omega
          subst hjl2
          have H8 := Lib.hid (show callT F (k : Int) ts = some F[k].res by
            rw [H.out, if_pos]
            have h1 := HH.out
            rw [List.take_length, ← hlen'.out, List.take_length] at h1
            exact h1.symm)
          go_wp2_with fail
          go_ret2
          exact ⟨by rw [H8.out]; exact answer_some, hw⟩
    · have H5 := Lib.hid (show callT F (k : Int) ts = none by rw [H.out, if_neg (by intro h; exact hlen (by rw [h]))])
      have hlen' : ¬ (F[k].params.length : Int) = ts.length := by omega
      go_enter Try.func99, Try.ntmps99
      go_wp2_with fail
      go_ret2
      exact ⟨by rw [H5.out]; exact answer_none, (by repeat' first | exact Ext.refl _ | assumption | apply Ext.alloc | apply Ext.drew | apply Ext.drewN | (refine Ext.trans ?_ (by assumption)))⟩

end Go.Proofs.Ytmhelkhmgbbfhaa
