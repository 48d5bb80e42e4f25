/- Walks: types of expressions, as the program finds them: the small functions. -/
import Derived.Test.YtmhelkhmgbbfhaaFuncs16
import Derived.Test.YtmhelkhmgbbfhaaTypesR16
namespace Go.Proofs.Ytmhelkhmgbbfhaa
open Go.RowKit Go.Lib

set_option maxHeartbeats 400000 in
theorem kind_any (n : Int) (w : World) : Calls Try.prog 60 #[.int .i64 n] w fun r w' => r = .returned (.bool (kindB n)) ∧ Ext w w' := by
  go_enter Try.func60, Try.ntmps60
  go_wp2_with fail
  all_goals
    go_ret
    exact ⟨ret_bool (by first | rfl | (unfold kindB; simp; omega)), Ext.refl _⟩

set_option maxHeartbeats 400000 in
theorem wrongKind_any (n : Int) (w : World) : Calls Try.prog 59 #[.int .i64 n] w fun r w' => r = .returned (.bool (!kindB n)) ∧ Ext w w' := by
  go_enter Try.func59, Try.ntmps59
  go_wp2_with fail
  refine (kind_any _ _).mono ?_
  rintro r w1 ⟨rfl, he⟩
  go_wp2_with fail
  go_ret
  exact ⟨rfl, he⟩

set_option maxHeartbeats 400000 in
theorem levels_any (e : Ex) : ∀ (S : Nat → Prop) (cs : List Value) (w : World), Rd w S e.d cs → levels e ≤ 1000000 →
    Calls Try.prog 46 #[.agg cs.toArray] w fun r w' => r = .returned (.int .i64 (levels e)) ∧ Ext w w' := by
  induction e using Ex.ind with | h o m s l ih => ?_
  intro S cs w hr hbd
  obtain ⟨A, cap, b, off, rfl, hl1, hl2, hl3, hm⟩ := Ex.open hr
  simp only [Ex.args, Ex.op, Ex.n, Ex.s] at *
  rw [levels] at hbd
  have H := Lib.hid (show levels (.mk o m s l) = levelsL l 0 + 1 by rw [levels])
  have hl3' := Lib.hid hl3; have hm' := Lib.hid hm
  clear hr hl3 hm
  go_enter Try.func46, Try.ntmps46
  go_wp2_with fail
  go_loopw [3, 9] (fun x i wr => ∃ (k : Nat) (q : Int), k ≤ l.length ∧ i = .int .i64 k ∧ x = .int .i64 q ∧ 0 ≤ q ∧ q ≤ 1000000 ∧ Hid (levelsL l 0 = levelsL (l.drop k) q) ∧ Ext (w.alloc (.cells #[.int .i64 o, .int .i64 m, .string s, .slice A l.length cap] 25)) wr) (fun _ i _ => l.length - (intOf i).toNat)
  case atStart => exact ⟨0, _, by omega, rfl, rfl, by omega, by omega, Lib.hid rfl, Ext.refl _⟩
  case round =>
    obtain ⟨k, q, hk, rfl, rfl, hq1, hq2, HH, hb⟩ := hrel
    have hw : Ext w wr := ((Ext.refl _).alloc _).trans hb
    by_cases hlt : k < l.length
    · obtain ⟨rfl, hSb⟩ := hl3'.out (by omega)
      obtain ⟨A1, cap1, b1, off1, c0, c1, c2, c3, hr', -⟩ := Ex.at (hm'.out.ext (fun _ => hSb) hw) hlt
      have hr2 := Lib.hid hr'
      have hSb' := Lib.hid hSb
      clear hr' hSb
      have hle := levelsL_mem l 0 l[k] (List.getElem_mem hlt)
      have hll := levels_le l[k]
      go_wp2_with fail
      refine (ih l[k] (List.getElem_mem hlt) S _ _ (hr2.out.ext (by repeat' first | exact Ext.refl _ | assumption | apply Ext.alloc | apply Ext.drew | apply Ext.drewN | (refine Ext.trans ?_ (by assumption)))) (by omega)).mono ?_
      rintro r w1 ⟨rfl, he⟩
      have HH2 := Lib.hid (HH.out.trans (by rw [List.drop_eq_getElem_cons hlt, levelsL]))
      clear HH
      go_wp2_with fail
      go_roundw
      case rel => exact ⟨k + 1, max q (levels l[k]), by omega, by go_num, by first | rfl | go_num | (simp [Int.max_def]), by omega, by omega, HH2, (by repeat' first | exact Ext.refl _ | assumption | apply Ext.alloc | apply Ext.drew | apply Ext.drewN | (refine Ext.trans ?_ (by assumption)))⟩
      case measure => simp [intOf]; omega
    · have hkl : k = l.length := by omega
      subst hkl
      have hq3 : levelsL l 0 = q := by rw [HH.out]; simp [levelsL]
      have hq4 := Lib.hid hq3
      have hq5 : q ≤ 999999 := by omega
      clear hq3
      go_wp2_with fail
      go_ret
      exact ⟨ret_int (by rw [H.out, hq4.out]), hw⟩

set_option maxHeartbeats 400000 in
theorem pick_any (l : List Int) (n : Int) (S : Nat → Prop) (v : Value) (w : World) (hr : Rd w S (.sl (l.map D.int)) [v]) :
    Calls Try.prog 102 #[v, .int .i64 n] w fun r w' => Answer (pickT l n) r ∧ Ext w w' := by
  obtain ⟨A, cap, b, off, rfl, hl1, hl2, hl3, hm⟩ := Rd.sl_open hr
  simp only [List.length_map] at *
  by_cases hn : n < 0 ∨ (l.length : Int) ≤ n
  · have H := Lib.hid (show pickT l n = none by
      unfold pickT; split
      · rfl
      · rw [List.getElem?_eq_none (by omega)])
    clear hr hm hl3
    rcases hn with hn | hn
    · go_enter Try.func102, Try.ntmps102
      go_wp2_with fail
      go_ret2
      exact ⟨by rw [H.out]; exact answer_none, Ext.refl _⟩
    · by_cases h0 : n < 0
      all_goals
        go_enter Try.func102, Try.ntmps102
        go_wp2_with fail
        go_ret2
        exact ⟨by rw [H.out]; exact answer_none, Ext.refl _⟩
  · obtain ⟨k, rfl⟩ := Int.eq_ofNat_of_zero_le (show 0 ≤ n by omega)
    have hlt : k < l.length := by omega
    obtain ⟨rfl, hSb⟩ := hl3 (by omega)
    have c0 := ints_at hm hlt
    have hn1 : ¬ l.length ≤ k := by omega
    have hn2 : ¬ (k : Int) < 0 := by omega
    have H := Lib.hid (show (if kindB l[k] then some l[k] else none) = pickT l (k : Int) by
      simp [pickT, List.getElem?_eq_getElem hlt, show ¬ ((k : Int) < 0) by omega])
    clear hm hSb hr hl3 hn
    have hc := kind_any l[k]
    cases hp : kindB l[k] with
    | true =>
      rw [hp] at hc H
      have hc' := Lib.hid hc; clear hc hp
      go_enter Try.func102, Try.ntmps102
      go_wp2_with fail
      refine (hc'.out _).mono ?_
      rintro r w1 ⟨rfl, he⟩
      have c0 := he.at c0
      go_wp2_with fail
      go_ret2
      exact ⟨answer_of H.out, he⟩
    | false =>
      rw [hp] at hc H
      have hc' := Lib.hid hc; clear hc hp
      go_enter Try.func102, Try.ntmps102
      go_wp2_with fail
      refine (hc'.out _).mono ?_
      rintro r w1 ⟨rfl, he⟩
      go_wp2_with fail
      go_ret2
      exact ⟨answer_of H.out, he⟩

set_option maxHeartbeats 400000 in
theorem other_any (t k : Int) (b : Nat) (w : World) (h : w.cell? ⟨b, 0, none⟩ = some (.int .i64 t)) :
    Calls Try.prog 104 #[.int .i64 k, .pointer (some ⟨b, 0, none⟩)] w fun r w' => r = .returned (.bool (k != t)) ∧ Ext w w' := by
  go_enter Try.func104, Try.ntmps104
  go_wp2_with fail
  go_ret
  exact ⟨rfl, Ext.refl _⟩

/-- all of a list are t, and there are n -/
def allAre (ts : List Int) (t : Int) (n : Int) : Bool := decide ((ts.length : Int) = n) && !ts.any (· != t)

set_option maxHeartbeats 1000000 in
theorem all_any (ts : List Int) (t n : Int) (b : Nat) (S : Nat → Prop) (v : Value) (w : World) (h : w.cell? ⟨b, 0, none⟩ = some v) (hr : Rd w S (.sl (ts.map D.int)) [v]) :
    Calls Try.prog 103 #[.int .i64 t, .int .i64 n, .pointer (some ⟨b, 0, none⟩)] w fun r w' => r = .returned (.bool (allAre ts t n)) ∧ Ext w w' := by
  obtain ⟨A, cap, b1, off, rfl, hl1, hl2, hl3, hm⟩ := Rd.sl_open hr
  simp only [List.length_map] at *
  have hr' := Lib.hid hr
  clear hr hl3 hm
  have hcs := World.block_lt_of_cell? w _ h
  by_cases hn : (ts.length : Int) = n
  · have H := Lib.hid (show allAre ts t n = !ts.any (· != t) by unfold allAre; rw [decide_eq_true hn]; rfl)
    subst hn
    have hc : ∀ w', Ext (w.alloc (.cells #[.int .i64 t] 3)) w' → Calls Try.prog 61 #[.slice A ts.length cap, .func (.func 104) #[] #[.pointer (some ⟨w.heap.size, 0, none⟩)]] w' fun r w'' => r = .returned (.bool (ts.any (· != t))) ∧ Ext w' w'' := fun w' hw' =>
      containsFunc_any ts (· != t) _ (fun a w => by kernel_rfl) _ S _ w' ((hr'.out.ext ((Ext.refl _).alloc _)).ext hw') (fun x w'' hw'' => other_any t x w.heap.size w'' ((hw'.trans hw'').at (by go_simp)))
    have hc' := Lib.hid hc; clear hc
    go_enter Try.func103, Try.ntmps103
    go_wp2_with fail
    refine (hc'.out _ (Ext.refl _)).mono ?_
    rintro r w1 ⟨rfl, he⟩
    go_wp2_with fail
    go_ret
    exact ⟨ret_bool (by rw [H.out]), (by repeat' first | exact Ext.refl _ | assumption | apply Ext.alloc | apply Ext.drew | apply Ext.drewN | (refine Ext.trans ?_ (by assumption)))⟩
  · have H := Lib.hid (show allAre ts t n = false by unfold allAre; rw [decide_eq_false hn]; rfl)
    have hn2 : ((ts.length : Int) == n) = false := by simp [hn]
    go_enter Try.func103, Try.ntmps103
    go_wp2_with fail
    go_ret
    exact ⟨ret_bool (by rw [H.out]), (by repeat' first | exact Ext.refl _ | assumption | apply Ext.alloc | apply Ext.drew | apply Ext.drewN | (refine Ext.trans ?_ (by assumption)))⟩

end Go.Proofs.Ytmhelkhmgbbfhaa
