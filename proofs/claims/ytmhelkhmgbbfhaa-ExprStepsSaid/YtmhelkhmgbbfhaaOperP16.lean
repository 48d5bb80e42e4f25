/- Walks: types of operations, as the program finds them. -/
import Derived.Test.YtmhelkhmgbbfhaaTypesP16
namespace Go.Proofs.Ytmhelkhmgbbfhaa
open Go.RowKit Go.Lib

theorem len3 {l : List Int} (h : l.length = 3) : ∃ a b c, l = [a, b, c] := by
  match l, h with | [a, b, c], _ => exact ⟨a, b, c, rfl⟩
theorem allAre_one (ts : List Int) (t : Int) : allAre ts t 1 = decide (ts = [t]) := by
  unfold allAre
  match ts with
  | [] => simp
  | [a] => by_cases h : a = t <;> simp [h]
  | a :: b :: l => simp; omega
theorem allAre_two (ts : List Int) (t : Int) : allAre ts t 2 = decide (ts = [t, t]) := by
  unfold allAre
  match ts with
  | [] => simp
  | [a] => simp
  | [a, b] => by_cases h : a = t <;> by_cases h2 : b = t <;> simp [h, h2]
  | a :: b :: c :: l => simp; omega
theorem answer_dec {p : Prop} [Decidable p] {x : Int} {t : Option Int} (h : t = if p then some x else none) : Answer t (.returned (.tuple #[.int .i64 x, .bool (decide p)])) := by
  refine answer_of ?_
  rw [h]; by_cases hp : p <;> simp [hp]

set_option maxRecDepth 10000 in
set_option maxHeartbeats 4000000 in
theorem operation_any (e : Ex) (ts : List Int) (S S2 : Nat → Prop) (cs : List Value) (v : Value) (w : World) (hr : Rd w S e.d cs) (hts : Rd w S2 (.sl (ts.map D.int)) [v]) (hne : ts ≠ []) :
    Calls Try.prog 94 #[.agg cs.toArray, v] w fun r w' => Answer (operT e.op e.n ts) r ∧ Ext w w' := by
  obtain ⟨A, cap, b, off, rfl, hl1, hl2, hl3, hm⟩ := Ex.open hr
  obtain ⟨o, m, s, l⟩ := e
  simp only [Ex.args, Ex.op, Ex.n, Ex.s] at *
  obtain ⟨A9, cap9, b9, off9, rfl, z1, z2, z3, z4⟩ := Rd.sl_open hts
  simp only [List.length_map] at *
  have hts' := Lib.hid hts
  have hpos : 0 < ts.length := by cases ts with | nil => exact absurd rfl hne | cons a r => simp
  obtain ⟨rfl, hSb⟩ := z3 hpos
  have hne' := Lib.hid hne
  have c0 := ints_at z4 hpos
  simp only [Nat.add_zero] at c0
  have z4' := Lib.hid z4; have hSb' := Lib.hid hSb
  clear hr hm hl3 hts z3 z4 hne hSb
  by_cases hm0 : m = 0
  case neg =>
    have H := Lib.hid (show operT o m ts = none by unfold operT; rw [if_pos hm0])
    go_enter Try.func94, Try.ntmps94
    go_wp2_with fail
    go_ret2
    exact ⟨by rw [H.out]; exact answer_none, (by repeat' first | exact Ext.refl _ | assumption | apply Ext.alloc | apply Ext.drew | apply Ext.drewN | (refine Ext.trans ?_ (by assumption)))⟩
  subst hm0
  have hO : (o = 6 ∨ o = 7 ∨ o = 20) ∨ (o = 8 ∨ o = 9 ∨ o = 10 ∨ o = 11 ∨ o = 12) ∨ (o = 13 ∨ o = 14 ∨ o = 15 ∨ o = 16) ∨ (o = 17 ∨ o = 18 ∨ o = 19) ∨ o = 21 ∨ (o < 6 ∨ 21 < o) := by omega
  have hO' := Lib.hid hO; clear hO
  have hall := Lib.hid (fun (t n : Int) (b : Nat) (w' : World) (h : w'.cell? ⟨b, 0, none⟩ = some (.slice (some ⟨b9, off9, none⟩) ts.length cap9)) (hw : Ext w w') => all_any ts t n b S2 _ w' h (hts'.out.ext hw))
  rcases hO'.out with hC | hC | hC | hC | hC | hC
  · clear hO'
    rcases hC with rfl | rfl | rfl
    all_goals
      go_enter Try.func94, Try.ntmps94
      go_wp2_with fail
      refine (hall.out _ _ _ _ (by go_simp) (by repeat' first | exact Ext.refl _ | assumption | apply Ext.alloc | apply Ext.drew | apply Ext.drewN | (refine Ext.trans ?_ (by assumption)))).mono ?_
      rintro r w1 ⟨rfl, he⟩
      go_wp2_with fail
      go_ret2
      exact ⟨by rw [allAre_one]; exact answer_dec (by simp [operT]), (by repeat' first | exact Ext.refl _ | assumption | apply Ext.alloc | apply Ext.drew | apply Ext.drewN | (refine Ext.trans ?_ (by assumption)))⟩
  · clear hO'
    rcases hC with rfl | rfl | rfl | rfl | rfl
    all_goals
      go_enter Try.func94, Try.ntmps94
      go_wp2_with fail
      refine (hall.out _ _ _ _ (by go_simp) (by repeat' first | exact Ext.refl _ | assumption | apply Ext.alloc | apply Ext.drew | apply Ext.drewN | (refine Ext.trans ?_ (by assumption)))).mono ?_
      rintro r w1 ⟨rfl, he⟩
      go_wp2_with fail
      go_ret2
      exact ⟨by rw [allAre_two]; exact answer_dec (by simp [operT]), (by repeat' first | exact Ext.refl _ | assumption | apply Ext.alloc | apply Ext.drew | apply Ext.drewN | (refine Ext.trans ?_ (by assumption)))⟩
  · clear hO'
    have H := Lib.hid (show ∀ op : Int, 13 ≤ op ∧ op ≤ 16 → operT op 0 ts = if ts = [ts[0], ts[0]] then some 2 else none by
      intro op hop
      unfold operT
      rw [if_neg (by simp), if_neg (by omega), if_neg (by omega), if_neg (by omega), if_neg (by omega), if_pos hop]
      match ts with
      | [a] => simp
      | [a, b] => simp; by_cases hab : a = b <;> simp [hab]; exact fun h => hab h.symm
      | a :: b :: c :: r => simp)
    have hld : ∀ o1 o2, ((w.alloc o1).alloc o2).cell? ⟨b9, off9, none⟩ = some (.int .i64 ts[0]) := fun o1 o2 => (((Ext.refl w).alloc o1).alloc o2).at c0
    rcases hC with rfl | rfl | rfl | rfl
    all_goals
      go_enter Try.func94, Try.ntmps94
      go_wp2_with fail
      refine (hall.out _ _ _ _ (by go_simp) (by repeat' first | exact Ext.refl _ | assumption | apply Ext.alloc | apply Ext.drew | apply Ext.drewN | (refine Ext.trans ?_ (by assumption)))).mono ?_
      rintro r w1 ⟨rfl, he⟩
      go_wp2_with fail
      go_ret2
      exact ⟨by rw [allAre_two]; exact answer_dec (H.out _ (by decide)), (by repeat' first | exact Ext.refl _ | assumption | apply Ext.alloc | apply Ext.drew | apply Ext.drewN | (refine Ext.trans ?_ (by assumption)))⟩
  · clear hO'
    rcases hC with rfl | rfl | rfl
    all_goals
      go_enter Try.func94, Try.ntmps94
      go_wp2_with fail
      refine (hall.out _ _ _ _ (by go_simp) (by repeat' first | exact Ext.refl _ | assumption | apply Ext.alloc | apply Ext.drew | apply Ext.drewN | (refine Ext.trans ?_ (by assumption)))).mono ?_
      rintro r w1 ⟨rfl, he⟩
      go_wp2_with fail
      go_ret2
      exact ⟨by rw [allAre_two]; exact answer_dec (by simp [operT]), (by repeat' first | exact Ext.refl _ | assumption | apply Ext.alloc | apply Ext.drew | apply Ext.drewN | (refine Ext.trans ?_ (by assumption)))⟩
  · clear hO'
    subst hC
    have hbx : ∀ o1 (x : ExtW ((w.alloc o1).alloc (.cells #[.slice (some ⟨b9, off9, none⟩) ts.length cap9] 31))), x.val.cell? ⟨w.heap.size + 1, 0, none⟩ = some (.slice (some ⟨b9, off9, none⟩) ts.length cap9) := fun o1 x => x.ext.at (by go_simp)
    have hcl : ∀ (j : Nat) (hj : j < ts.length) o1 o2 (x : ExtW ((w.alloc o1).alloc o2)), x.val.cell? ⟨b9, off9 + j, none⟩ = some (.int .i64 ts[j]) := fun j hj o1 o2 x => x.ext.at ((((Ext.refl w).alloc o1).alloc o2).at (ints_at z4'.out hj))
    have hcl' := Lib.hid hcl; clear hcl
    by_cases hl : ts.length = 3
    · obtain ⟨t0, t1, t2, rfl⟩ := len3 hl
      have y0 := hcl'.out 0 (by simp)
      have y1 := hcl'.out 1 (by simp)
      have y2 := hcl'.out 2 (by simp)
      simp only [List.getElem_cons_zero, List.getElem_cons_succ, Nat.add_zero, List.length_cons, List.length_nil, Nat.zero_add, Nat.reduceAdd] at y0 y1 y2 hbx
      clear c0
      by_cases ht : t0 = 2
      · subst ht
        go_enter Try.func94, Try.ntmps94
        go_wp2_with fail
        refine wp_region_ext (by kernel_rfl) (by kernel_rfl) ?_
        repeat (go_big_quiet_step ((fail)))
        refine wpQuiet_nil ?_
        intro w1 he
        go_wp2_with fail
        go_ret2
        exact ⟨answer_of (by by_cases hx : t1 = t2 <;> simp [operT, hx]), (by repeat' first | exact Ext.refl _ | assumption | apply Ext.alloc | apply Ext.drew | apply Ext.drewN | (refine Ext.trans ?_ (by assumption)))⟩
      · have ht2 : (t0 == 2) = false := by simp [ht]
        go_enter Try.func94, Try.ntmps94
        go_wp2_with fail
        refine wp_region_ext (by kernel_rfl) (by kernel_rfl) ?_
        repeat (go_big_quiet_step ((fail)))
        refine wpQuiet_nil ?_
        intro w1 he
        go_wp2_with fail
        go_ret2
        exact ⟨answer_of (by simp [operT, ht]), (by repeat' first | exact Ext.refl _ | assumption | apply Ext.alloc | apply Ext.drew | apply Ext.drewN | (refine Ext.trans ?_ (by assumption)))⟩
    · have y0 := hcl'.out (ts.length - 1) (by omega)
      have hl2 : ¬ (ts.length : Int) = 3 := by omega
      have hl3 : ((ts.length : Int) == 3) = false := by simp; omega
      have hz : off9 + (ts.length - 1) = off9 + (ts.length - 1) := rfl
      clear hz
      have H := Lib.hid (show operT 21 0 ts = none by
        unfold operT
        rw [if_neg (by simp), if_neg (by omega), if_neg (by omega), if_neg (by omega), if_neg (by omega), if_neg (by omega), if_neg (by omega), if_neg (by omega), if_pos rfl]
        match ts, hl with
        | [], _ => rfl
        | [a], _ => rfl
        | [a, b], _ => rfl
        | [a, b, c], h => exact absurd rfl h
        | a :: b :: c :: d :: r, _ => rfl)
      go_enter Try.func94, Try.ntmps94
      go_wp2_with fail
      refine wp_region_ext (by kernel_rfl) (by kernel_rfl) ?_
      repeat (go_big_quiet_step ((fail)))
      refine wpQuiet_nil ?_
      intro w1 he
      go_wp2_with fail
      go_ret2
      exact ⟨by rw [H.out]; exact answer_none, (by repeat' first | exact Ext.refl _ | assumption | apply Ext.alloc | apply Ext.drew | apply Ext.drewN | (refine Ext.trans ?_ (by assumption)))⟩
  · clear hO'
    have H := Lib.hid (show operT o 0 ts = none by
      unfold operT
      rw [if_neg (by simp), if_neg (by omega), if_neg (by omega), if_neg (by omega), if_neg (by omega), if_neg (by omega), if_neg (by omega), if_neg (by omega), if_neg (by omega)])
    rcases hC with hC | hC
    all_goals
      go_enter Try.func94, Try.ntmps94
      go_wp2_with fail
      go_ret2
      exact ⟨by rw [H.out]; exact answer_none, (by repeat' first | exact Ext.refl _ | assumption | apply Ext.alloc | apply Ext.drew | apply Ext.drewN | (refine Ext.trans ?_ (by assumption)))⟩

end Go.Proofs.Ytmhelkhmgbbfhaa
