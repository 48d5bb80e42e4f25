/- Walks: types of operations, as the program finds them. -/
import Derived.Test.YtnkimlkoijfcpaaDoorRows
import Derived.Test.YtnkimlkoijfcpaaDoorGd1
import Derived.Test.YtnkimlkoijfcpaaDoorGd2
set_option linter.unusedSimpArgs false
set_option linter.unusedVariables false
namespace Go.Proofs.YtnkimlkoijfcpaaDoor
open Go.RowKit Go.Lib
theorem len3 {l : List Int} (h : l.length = 3) : ∃ a b c, l = [a, b, c] := by
  match l, h with | [a, b, c], _ => exact ⟨a, b, c, rfl⟩
theorem allAre_one (ts : List Int) (t : Int) : allAre ts t 1 = decide (ts = [t]) := by
  unfold allAre
  match ts with
  | [] => simp
  | [a] => by_cases h : a = t <;> simp [h]
  | a :: b :: l => simp; omega
theorem allAre_two (ts : List Int) (t : Int) : allAre ts t 2 = decide (ts = [t, t]) := by
  unfold allAre
  match ts with
  | [] => simp
  | [a] => simp
  | [a, b] => by_cases h : a = t <;> by_cases h2 : b = t <;> simp [h, h2]
  | a :: b :: c :: l => simp; omega
theorem answer_dec {p : Prop} [Decidable p] {x : Int} {t : Option Int} (h : t = if p then some x else none) : qcm t (.returned (.tuple #[.int .i64 x, .bool (decide p)])) := by
  refine qbl ?_
  rw [h]; by_cases hp : p <;> simp [hp]
set_option maxRecDepth 10000 in
set_option maxHeartbeats 4000000 in
theorem operation_any (e : Ex) (ts : List Int) (S S2 : Nat → Prop) (cs : List Value) (v : Value) (w : World) (hr : Rd w S e.d cs) (hts : Rd w S2 (.sl (ts.map D.int)) [v]) (hne : ts ≠ []) :
    Calls Tryd.prog 74 #[.agg cs.toArray, v] w fun r w' => qcm (operT e.op e.n ts) r ∧ Ext w w' := by
  obtain ⟨A, cap, b, off, rfl, hl1, hl2, hl3, hm⟩ := Ex.open hr
  obtain ⟨o, m, s, l⟩ := e
  simp only [Ex.args, Ex.op, Ex.n, Ex.s] at *
  obtain ⟨A9, cap9, b9, off9, rfl, z1, z2, z3, z4⟩ := Rd.sl_open hts
  simp only [List.length_map] at *
  have hts' := Lib.hid hts
  have hpos : 0 < ts.length := by cases ts with | nil => exact absurd rfl hne | cons a r => simp
  obtain ⟨rfl, hSb⟩ := z3 hpos
  have hne' := Lib.hid hne
  have c0 := ints_at z4 hpos
  simp only [Nat.add_zero] at c0
  have z4' := Lib.hid z4; have hSb' := Lib.hid hSb
  clear hr hm hl3 hts z3 z4 hne hSb
  by_cases hm0 : m = 0
  case neg =>
    have H := Lib.hid (show operT o m ts = none by unfold operT; rw [if_pos hm0])
    go_enter Tryd.func74, Tryd.ntmps74
    go_wp2_with fail
    go_ret2
    exact ⟨by rw [H.out]; exact qbi, (by repeat' first | exact Ext.refl _ | assumption | apply Ext.alloc | apply Ext.drew | apply Ext.drewN | (refine Ext.trans ?_ (by assumption)))⟩
  subst hm0
  have hO : (o = 6 ∨ o = 7 ∨ o = 20) ∨ (o = 8 ∨ o = 9 ∨ o = 10 ∨ o = 11 ∨ o = 12) ∨ (o = 13 ∨ o = 14 ∨ o = 15 ∨ o = 16) ∨ (o = 17 ∨ o = 18 ∨ o = 19) ∨ o = 21 ∨ (o < 6 ∨ 21 < o) := by omega
  have hO' := Lib.hid hO; clear hO
  have hall := Lib.hid (fun (t n : Int) (b : Nat) (w' : World) (h : w'.cell? ⟨b, 0, none⟩ = some (.slice (some ⟨b9, off9, none⟩) ts.length cap9)) (hw : Ext w w') => all_any ts t n b S2 _ w' h (hts'.out.ext hw))
  rcases hO'.out with hC | hC | hC | hC | hC | hC
  · clear hO'
    rcases hC with rfl | rfl | rfl
    all_goals
      go_enter Tryd.func74, Tryd.ntmps74
      go_wp2_with fail
      refine (hall.out _ _ _ _ (by go_simp) (by repeat' first | exact Ext.refl _ | assumption | apply Ext.alloc | apply Ext.drew | apply Ext.drewN | (refine Ext.trans ?_ (by assumption)))).mono ?_
      rintro r w1 ⟨rfl, he⟩
      go_wp2_with fail
      go_ret2
      exact ⟨by rw [allAre_one]; exact answer_dec (by simp [operT]), (by repeat' first | exact Ext.refl _ | assumption | apply Ext.alloc | apply Ext.drew | apply Ext.drewN | (refine Ext.trans ?_ (by assumption)))⟩
  · clear hO'
    rcases hC with rfl | rfl | rfl | rfl | rfl
    all_goals
      go_enter Tryd.func74, Tryd.ntmps74
      go_wp2_with fail
      refine (hall.out _ _ _ _ (by go_simp) (by repeat' first | exact Ext.refl _ | assumption | apply Ext.alloc | apply Ext.drew | apply Ext.drewN | (refine Ext.trans ?_ (by assumption)))).mono ?_
      rintro r w1 ⟨rfl, he⟩
      go_wp2_with fail
      go_ret2
      exact ⟨by rw [allAre_two]; exact answer_dec (by simp [operT]), (by repeat' first | exact Ext.refl _ | assumption | apply Ext.alloc | apply Ext.drew | apply Ext.drewN | (refine Ext.trans ?_ (by assumption)))⟩
  · clear hO'
    have H := Lib.hid (show ∀ op : Int, 13 ≤ op ∧ op ≤ 16 → operT op 0 ts = if ts = [ts[0], ts[0]] then some 2 else none by
      intro op hop
      unfold operT
      rw [if_neg (by simp), if_neg (by omega), if_neg (by omega), if_neg (by omega), if_neg (by omega), if_pos hop]
      match ts with
      | [a] => simp
      | [a, b] => simp; by_cases hab : a = b <;> simp [hab]; exact fun h => hab h.symm
      | a :: b :: c :: r => simp)
    have hld : ∀ o1 o2, ((w.alloc o1).alloc o2).cell? ⟨b9, off9, none⟩ = some (.int .i64 ts[0]) := fun o1 o2 => (((Ext.refl w).alloc o1).alloc o2).at c0
    rcases hC with rfl | rfl | rfl | rfl
    all_goals
      go_enter Tryd.func74, Tryd.ntmps74
      go_wp2_with fail
      refine (hall.out _ _ _ _ (by go_simp) (by repeat' first | exact Ext.refl _ | assumption | apply Ext.alloc | apply Ext.drew | apply Ext.drewN | (refine Ext.trans ?_ (by assumption)))).mono ?_
      rintro r w1 ⟨rfl, he⟩
      go_wp2_with fail
      go_ret2
      exact ⟨by rw [allAre_two]; exact answer_dec (H.out _ (by decide)), (by repeat' first | exact Ext.refl _ | assumption | apply Ext.alloc | apply Ext.drew | apply Ext.drewN | (refine Ext.trans ?_ (by assumption)))⟩
  · clear hO'
    rcases hC with rfl | rfl | rfl
    all_goals
      go_enter Tryd.func74, Tryd.ntmps74
      go_wp2_with fail
      refine (hall.out _ _ _ _ (by go_simp) (by repeat' first | exact Ext.refl _ | assumption | apply Ext.alloc | apply Ext.drew | apply Ext.drewN | (refine Ext.trans ?_ (by assumption)))).mono ?_
      rintro r w1 ⟨rfl, he⟩
      go_wp2_with fail
      go_ret2
      exact ⟨by rw [allAre_two]; exact answer_dec (by simp [operT]), (by repeat' first | exact Ext.refl _ | assumption | apply Ext.alloc | apply Ext.drew | apply Ext.drewN | (refine Ext.trans ?_ (by assumption)))⟩
  · clear hO'
    subst hC
    have hbx : ∀ o1 (x : ExtW ((w.alloc o1).alloc (.cells #[.slice (some ⟨b9, off9, none⟩) ts.length cap9] 22))), x.val.cell? ⟨w.heap.size + 1, 0, none⟩ = some (.slice (some ⟨b9, off9, none⟩) ts.length cap9) := fun o1 x => x.ext.at (by go_simp)
    have hcl : ∀ (j : Nat) (hj : j < ts.length) o1 o2 (x : ExtW ((w.alloc o1).alloc o2)), x.val.cell? ⟨b9, off9 + j, none⟩ = some (.int .i64 ts[j]) := fun j hj o1 o2 x => x.ext.at ((((Ext.refl w).alloc o1).alloc o2).at (ints_at z4'.out hj))
    have hcl' := Lib.hid hcl; clear hcl
    by_cases hl : ts.length = 3
    · obtain ⟨t0, t1, t2, rfl⟩ := len3 hl
      have y0 := hcl'.out 0 (by simp)
      have y1 := hcl'.out 1 (by simp)
      have y2 := hcl'.out 2 (by simp)
      simp only [List.getElem_cons_zero, List.getElem_cons_succ, Nat.add_zero, List.length_cons, List.length_nil, Nat.zero_add, Nat.reduceAdd] at y0 y1 y2 hbx
      clear c0
      by_cases ht : t0 = 2
      · subst ht
        go_enter Tryd.func74, Tryd.ntmps74
        go_wp2_with fail
        refine qbe (by kernel_rfl) (by kernel_rfl) ?_
        repeat (go_big_quiet_step ((fail)))
        refine wpQuiet_nil ?_
        intro w1 he
        go_wp2_with fail
        go_ret2
        exact ⟨qbl (by by_cases hx : t1 = t2 <;> simp [operT, hx]), (by repeat' first | exact Ext.refl _ | assumption | apply Ext.alloc | apply Ext.drew | apply Ext.drewN | (refine Ext.trans ?_ (by assumption)))⟩
      · have ht2 : (t0 == 2) = false := by simp [ht]
        go_enter Tryd.func74, Tryd.ntmps74
        go_wp2_with fail
        refine qbe (by kernel_rfl) (by kernel_rfl) ?_
        repeat (go_big_quiet_step ((fail)))
        refine wpQuiet_nil ?_
        intro w1 he
        go_wp2_with fail
        go_ret2
        exact ⟨qbl (by simp [operT, ht]), (by repeat' first | exact Ext.refl _ | assumption | apply Ext.alloc | apply Ext.drew | apply Ext.drewN | (refine Ext.trans ?_ (by assumption)))⟩
    · have y0 := hcl'.out (ts.length - 1) (by omega)
      have hl2 : ¬ (ts.length : Int) = 3 := by omega
      have hl3 : ((ts.length : Int) == 3) = false := by simp; omega
      have hz : off9 + (ts.length - 1) = off9 + (ts.length - 1) := rfl
      clear hz
      have H := Lib.hid (show operT 21 0 ts = none by
        unfold operT
        rw [if_neg (by simp), if_neg (by omega), if_neg (by omega), if_neg (by omega), if_neg (by omega), if_neg (by omega), if_neg (by omega), if_neg (by omega), if_pos rfl]
        match ts, hl with
        | [], _ => rfl
        | [a], _ => rfl
        | [a, b], _ => rfl
        | [a, b, c], h => exact absurd rfl h
        | a :: b :: c :: d :: r, _ => rfl)
      go_enter Tryd.func74, Tryd.ntmps74
      go_wp2_with fail
      refine qbe (by kernel_rfl) (by kernel_rfl) ?_
      repeat (go_big_quiet_step ((fail)))
      refine wpQuiet_nil ?_
      intro w1 he
      go_wp2_with fail
      go_ret2
      exact ⟨by rw [H.out]; exact qbi, (by repeat' first | exact Ext.refl _ | assumption | apply Ext.alloc | apply Ext.drew | apply Ext.drewN | (refine Ext.trans ?_ (by assumption)))⟩
  · clear hO'
    have H := Lib.hid (show operT o 0 ts = none by
      unfold operT
      rw [if_neg (by simp), if_neg (by omega), if_neg (by omega), if_neg (by omega), if_neg (by omega), if_neg (by omega), if_neg (by omega), if_neg (by omega), if_neg (by omega)])
    rcases hC with hC | hC
    all_goals
      go_enter Tryd.func74, Tryd.ntmps74
      go_wp2_with fail
      go_ret2
      exact ⟨by rw [H.out]; exact qbi, (by repeat' first | exact Ext.refl _ | assumption | apply Ext.alloc | apply Ext.drew | apply Ext.drewN | (refine Ext.trans ?_ (by assumption)))⟩
end Go.Proofs.YtnkimlkoijfcpaaDoor

/- Walk: slices.Equal at ints. -/
namespace Go.Proofs.YtnkimlkoijfcpaaDoor
open Go.RowKit Go.Lib
set_option maxHeartbeats 1000000 in
theorem equal_any (xs ys : List Int) (S S2 : Nat → Prop) (v v2 : Value) (w : World) (hr : Rd w S (.sl (xs.map D.int)) [v]) (hr2 : Rd w S2 (.sl (ys.map D.int)) [v2]) :
    Calls Tryd.prog 73 #[v, v2] w fun r w' => r = .returned (.bool (decide (xs = ys))) ∧ Ext w w' := by
  obtain ⟨A, cap, b, off, rfl, hl1, hl2, hl3, hm⟩ := Rd.sl_open hr
  obtain ⟨A0, cap0, b0, off0, rfl, k1, k2, k3, km⟩ := Rd.sl_open hr2
  simp only [List.length_map] at *
  have hl3' := Lib.hid hl3; have hm' := Lib.hid hm; have k3' := Lib.hid k3; have km' := Lib.hid km
  clear hr hr2 hl3 hm k3 km
  by_cases hlen : xs.length = ys.length
  · have hlen' := Lib.hid hlen
    obtain ⟨n, hn⟩ : ∃ n, n = ys.length := ⟨_, rfl⟩
    rw [hlen, ← hn] at hl1 ⊢
    rw [← hn] at k1
    have hn' := Lib.hid hn
    clear hlen hn
    go_enter Tryd.func73, Tryd.ntmps73
    go_wp2_with fail
    go_loopw [13] (fun i wr => ∃ (k : Nat), k ≤ n ∧ i = .int .i64 k ∧ Hid (xs.take k = ys.take k) ∧ Ext w wr) (fun i _ => n - (RowKit.intOf i).toNat)
    case atStart => exact ⟨0, by omega, rfl, Lib.hid rfl, Ext.refl _⟩
    case round =>
      obtain ⟨k, hk, rfl, HH, hw⟩ := hrel
      by_cases hlt : k < n
      · have hx : k < xs.length := by rw [hlen'.out, ← hn'.out]; exact hlt
        have hy : k < ys.length := by rw [← hn'.out]; exact hlt
        obtain ⟨rfl, hSb⟩ := hl3'.out (by omega)
        obtain ⟨rfl, hSb2⟩ := k3'.out (by omega)
        have d0 := ints_at (hm'.out.ext (fun _ => hSb) hw) hx
        have d1 := ints_at (km'.out.ext (fun _ => hSb2) hw) hy
        have hSb' := Lib.hid hSb; have hSb2' := Lib.hid hSb2
        clear hSb hSb2
        have gd0 := ExtW.at d0
        have gd1 := ExtW.at d1
        by_cases he : xs[k] = ys[k]
        · have he1 : (xs[k] != ys[k]) = false := by simp [he]
          have he' := Lib.hid he; clear he
          go_wp2_with fail
          refine qbe (by kernel_rfl) (by kernel_rfl) ?_
          repeat (go_big_quiet_step ((fail)))
          refine wpQuiet_nil ?_
          intro w1 he1
          go_wp2_with fail
          go_roundw
          case rel => exact ⟨k + 1, by omega, by go_num, Lib.hid (by rw [List.take_succ_eq_append_getElem hx, List.take_succ_eq_append_getElem hy, HH.out, he'.out]), hw.trans he1⟩
          case measure => simp [RowKit.intOf]; omega
        · have he1 : (xs[k] != ys[k]) = true := by simp [he]
          have H := Lib.hid (show decide (xs = ys) = false by rw [decide_eq_false]; intro h; subst h; exact he rfl)
          clear he
          go_wp2_with fail
          refine qbe (by kernel_rfl) (by kernel_rfl) ?_
          repeat (go_big_quiet_step ((fail)))
          refine wpQuiet_nil ?_
          intro w1 he2
          go_wp2_with fail
          go_ret
          exact ⟨qck (by rw [H.out]), hw.trans he2⟩
      · have hkl : k = n := by omega
        subst hkl
        have H := Lib.hid (show decide (xs = ys) = true by
          rw [decide_eq_true]
          have h1 := HH.out
          rw [List.take_of_length_le (by rw [hlen'.out, ← hn'.out]; omega), List.take_of_length_le (by rw [← hn'.out]; omega)] at h1
          exact h1)
        go_wp2_with fail
        go_ret
        exact ⟨qck (by rw [H.out]), hw⟩
  · have H := Lib.hid (show decide (xs = ys) = false by rw [decide_eq_false]; intro h; subst h; exact hlen rfl)
    have hl4 : ¬ (xs.length : Int) = ys.length := by omega
    go_enter Tryd.func73, Tryd.ntmps73
    go_wp2_with fail
    go_ret
    exact ⟨qck (by rw [H.out]), Ext.refl _⟩
end Go.Proofs.YtnkimlkoijfcpaaDoor

/- Walks: the type of an expression, as the program finds it. -/
namespace Go.Proofs.YtnkimlkoijfcpaaDoor
open Go.RowKit Go.Lib
set_option maxRecDepth 10000 in
set_option maxHeartbeats 4000000 in
theorem leaf_any (c p : List Int) (e : Ex) (S S1 S2 : Nat → Prop) (vF vc vp : Value) (cs : List Value) (w : World) (hc : Rd w S1 (.sl (c.map D.int)) [vc]) (hp : Rd w S2 (.sl (p.map D.int)) [vp]) (hr : Rd w S e.d cs) :
    Calls Tryd.prog 72 #[.agg #[vF, vc, vp], .agg cs.toArray] w fun r w' => qcm (leafT c p e.op e.n e.s) r ∧ Ext w w' := by
  obtain ⟨A, cap, b, off, rfl, hl1, hl2, hl3, hm⟩ := Ex.open hr
  obtain ⟨o, m, s, l⟩ := e
  simp only [Ex.args, Ex.op, Ex.n, Ex.s] at *
  have hc' := Lib.hid hc; have hp' := Lib.hid hp
  clear hr hm hl3 hc hp
  have hO : o = 0 ∨ o = 1 ∨ o = 2 ∨ o = 3 ∨ o = 4 ∨ o = 5 ∨ (o < 0 ∨ 5 < o) := by omega
  have hO' := Lib.hid hO; clear hO
  have hbx : ∀ o1 (x : ExtW ((w.alloc o1).alloc (.cells #[.int .i64 o, .int .i64 m, .string s, .slice A l.length cap] 25))), x.val.cell? ⟨w.heap.size + 1, 1, none⟩ = some (.int .i64 m) := fun o1 x => x.ext.at (by go_simp)
  have hbx2 : ∀ o1 (x : ExtW ((w.alloc o1).alloc (.cells #[.int .i64 o, .int .i64 m, .string s, .slice A l.length cap] 25))), x.val.cell? ⟨w.heap.size + 1, 2, none⟩ = some (.string s) := fun o1 x => x.ext.at (by go_simp)
  rcases hO'.out with rfl | rfl | rfl | rfl | rfl | rfl | hC
  · go_enter Tryd.func72, Tryd.ntmps72
    go_wp2_with fail
    go_ret2
    exact ⟨by simp only [leafT]; exact answer_some, (by repeat' first | exact Ext.refl _ | assumption | apply Ext.alloc | apply Ext.drew | apply Ext.drewN | (refine Ext.trans ?_ (by assumption)))⟩
  · by_cases hm0 : m = 0
    · subst hm0
      go_enter Tryd.func72, Tryd.ntmps72
      go_wp2_with fail
      refine qbe (by kernel_rfl) (by kernel_rfl) ?_
      repeat (go_big_quiet_step ((fail)))
      refine wpQuiet_nil ?_
      intro w1 he
      go_wp2_with fail
      go_ret2
      exact ⟨qbl (by simp [leafT]), (by repeat' first | exact Ext.refl _ | assumption | apply Ext.alloc | apply Ext.drew | apply Ext.drewN | (refine Ext.trans ?_ (by assumption)))⟩
    · have hm1 : (m == 0) = false := by simp [hm0]
      go_enter Tryd.func72, Tryd.ntmps72
      go_wp2_with fail
      refine qbe (by kernel_rfl) (by kernel_rfl) ?_
      repeat (go_big_quiet_step ((fail)))
      refine wpQuiet_nil ?_
      intro w1 he
      go_wp2_with fail
      go_ret2
      exact ⟨qbl (by simp [leafT, hm0]), (by repeat' first | exact Ext.refl _ | assumption | apply Ext.alloc | apply Ext.drew | apply Ext.drewN | (refine Ext.trans ?_ (by assumption)))⟩
  · by_cases hm0 : m = 0
    · subst hm0
      go_enter Tryd.func72, Tryd.ntmps72
      go_wp2_with fail
      refine qbe (by kernel_rfl) (by kernel_rfl) ?_
      repeat (go_big_quiet_step ((fail)))
      refine wpQuiet_nil ?_
      intro w1 he
      go_wp2_with fail
      go_ret2
      exact ⟨qbl (by simp [leafT]), (by repeat' first | exact Ext.refl _ | assumption | apply Ext.alloc | apply Ext.drew | apply Ext.drewN | (refine Ext.trans ?_ (by assumption)))⟩
    · have hm1 : (m == 0) = false := by simp [hm0]
      go_enter Tryd.func72, Tryd.ntmps72
      go_wp2_with fail
      refine qbe (by kernel_rfl) (by kernel_rfl) ?_
      repeat (go_big_quiet_step ((fail)))
      refine wpQuiet_nil ?_
      intro w1 he
      go_wp2_with fail
      go_ret2
      exact ⟨qbl (by simp [leafT, hm0]), (by repeat' first | exact Ext.refl _ | assumption | apply Ext.alloc | apply Ext.drew | apply Ext.drewN | (refine Ext.trans ?_ (by assumption)))⟩
  · go_enter Tryd.func72, Tryd.ntmps72
    go_wp2_with fail
    refine (pick_any c m S1 vc _ (hc'.out.ext (by repeat' first | exact Ext.refl _ | assumption | apply Ext.alloc | apply Ext.drew | apply Ext.drewN | (refine Ext.trans ?_ (by assumption))))).mono ?_
    rintro r w1 ⟨⟨t, ok, rfl, hA⟩, he⟩
    have hA' := Lib.hid hA; clear hA
    go_wp2_with fail
    go_ret2
    exact ⟨qbl (by rw [hA'.out]; simp [leafT]), (by repeat' first | exact Ext.refl _ | assumption | apply Ext.alloc | apply Ext.drew | apply Ext.drewN | (refine Ext.trans ?_ (by assumption)))⟩
  · go_enter Tryd.func72, Tryd.ntmps72
    go_wp2_with fail
    refine (pick_any p m S2 vp _ (hp'.out.ext (by repeat' first | exact Ext.refl _ | assumption | apply Ext.alloc | apply Ext.drew | apply Ext.drewN | (refine Ext.trans ?_ (by assumption))))).mono ?_
    rintro r w1 ⟨⟨t, ok, rfl, hA⟩, he⟩
    have hA' := Lib.hid hA; clear hA
    go_wp2_with fail
    go_ret2
    exact ⟨qbl (by rw [hA'.out]; simp [leafT]), (by repeat' first | exact Ext.refl _ | assumption | apply Ext.alloc | apply Ext.drew | apply Ext.drewN | (refine Ext.trans ?_ (by assumption)))⟩
  · go_enter Tryd.func72, Tryd.ntmps72
    go_wp2_with fail
    refine qbe (by kernel_rfl) (by kernel_rfl) ?_
    repeat (go_big_quiet_step ((fail)))
    refine wpQuiet_nil ?_
    intro w1 he
    go_wp2_with fail
    go_ret2
    exact ⟨qbl (by simp [leafT]), (by repeat' first | exact Ext.refl _ | assumption | apply Ext.alloc | apply Ext.drew | apply Ext.drewN | (refine Ext.trans ?_ (by assumption)))⟩
  · have H := Lib.hid (show leafT c p o m s = none by
      unfold leafT
      rw [if_neg (by omega), if_neg (by omega), if_neg (by omega), if_neg (by omega), if_neg (by omega), if_neg (by omega)])
    clear hO'
    rcases hC with hC | hC
    all_goals
      go_enter Tryd.func72, Tryd.ntmps72
      go_wp2_with fail
      go_ret2
      exact ⟨by rw [H.out]; exact qbi, (by repeat' first | exact Ext.refl _ | assumption | apply Ext.alloc | apply Ext.drew | apply Ext.drewN | (refine Ext.trans ?_ (by assumption)))⟩
end Go.Proofs.YtnkimlkoijfcpaaDoor

/- Walk: the end of (scope).of, a theorem for each kind of operation. -/
namespace Go.Proofs.YtnkimlkoijfcpaaDoor
open Go.RowKit Go.Lib
noncomputable def ofTail : Code := restFrom 10 ((Tryd.f62.body).getD .skip)
theorem tail_oper2 {F : List Fn} {c p : List Int} {op n : Int} {s : ByteArray} {ts : List Int} (h : s.toList = [] ∨ op = 1) (h22 : ¬ op = 22) (hne : ts ≠ []) : tailT F c p op n s ts = operT op n ts := by
  unfold tailT; rw [if_neg (by rw [ne_eq, size_zero]; rintro ⟨a, b⟩; exact h.elim a b), if_neg h22, if_neg hne]
theorem callT_none {F : List Fn} {n : Int} {ts : List Int} (h : n < 0 ∨ (F.length : Int) ≤ n) : callT F n ts = none := by
  unfold callT
  by_cases h0 : n < 0
  · rw [if_pos h0]
  · rw [if_neg h0, List.getElem?_eq_none (by omega)]
def OfAt (F : List Fn) (c p : List Int) (o m : Int) (s : ByteArray) (l : List Ex) (A : Option Addr) (cap : Nat) (ts : List Int) (bs bx : Nat) (vF vc vp vts : Value) (w : World) : Prop :=
  w.cell? ⟨bs, 0, none⟩ = some vF ∧ w.cell? ⟨bs, 1, none⟩ = some vc ∧ w.cell? ⟨bs, 2, none⟩ = some vp ∧
  w.cell? ⟨bx, 0, none⟩ = some (.int .i64 o) ∧ w.cell? ⟨bx, 1, none⟩ = some (.int .i64 m) ∧ w.cell? ⟨bx, 2, none⟩ = some (.string s) ∧ w.cell? ⟨bx, 3, none⟩ = some (.slice A l.length cap) ∧
  Rd w Any (.sl (F.map Fn.d)) [vF] ∧ Rd w Any (.sl (c.map D.int)) [vc] ∧ Rd w Any (.sl (p.map D.int)) [vp] ∧ Rd w Any (.sl (ts.map D.int)) [vts] ∧
  Rd w Any (Ex.mk o m s l).d [.int .i64 o, .int .i64 m, .string s, .slice A l.length cap] ∧ l.length ≤ 1000000
set_option maxRecDepth 100000 in
set_option maxHeartbeats 1000000 in
theorem of_text (F : List Fn) (c p : List Int) (o m : Int) (s : ByteArray) (l : List Ex) (A : Option Addr) (cap : Nat) (ts : List Int) (bs bx : Nat) (vF vc vp vts : Value) (w : World) (h : OfAt F c p o m s l A cap ts bs bx vF vc vp vts w) (hs : ¬ s.toList = []) (ho : ¬ o = 1) (R : Ending → World → Prop) (hR : ∀ r w', qcm (tailT F c p o m s ts) r → Ext w w' → R r w')
    (u4 u5 u7 u8 u9 u10 u11 u12 u13 u14 u15 u16 u17 u18 u19 u20 u21 u22 u23 u24 u25 u26 u27 u28 u29 u30 u31 u32 u33 u34 u35 u36 u37 u38 u39 u40 u41 u42 u43 u44 u45 u46 u47 u48 u49 u50 u51 u52 u53 u54 u55 u56 u57 u58 u59 u60 u61 u62 u63 u64 u65 u66 u67 u68 u69 u70 u71 u72 u73 u74 u75 u76 u77 u78 u79 u80 u81 u82 u83 u84 u85 u86 u87 u88 u89 : Value) : Code.wp Tryd.prog ofTail (bodyPost Tryd.prog Tryd.f62 R) ⟨#[.agg #[vF, vc, vp], .agg #[.int .i64 o, .int .i64 m, .string s, .slice A l.length cap], .pointer (some ⟨bs, 0, none⟩), .pointer (some ⟨bx, 0, none⟩), u4, u5, vts, u7, u8, u9, u10, u11, u12, u13, u14, u15, u16, u17, u18, u19, u20, u21, u22, u23, u24, u25, u26, u27, u28, u29, u30, u31, u32, u33, u34, u35, u36, u37, u38, u39, u40, u41, u42, u43, u44, u45, u46, u47, u48, u49, u50, u51, u52, u53, u54, u55, u56, u57, u58, u59, u60, u61, u62, u63, u64, u65, u66, u67, u68, u69, u70, u71, u72, u73, u74, u75, u76, u77, u78, u79, u80, u81, u82, u83, u84, u85, u86, u87, u88, u89], []⟩ w := by
  obtain ⟨s0, s1, s2, e0, e1, e2, e3, hF, hc, hp, hts, hr, hll⟩ := h
  obtain ⟨A9, cap9, b9, off9, rfl, z1, z2, -, -⟩ := Rd.sl_open hts
  obtain ⟨AF, capF, bF, offF, rfl, F1, F2, F3, F4⟩ := Rd.sl_open hF
  simp only [List.length_map] at *
  have hF' := Lib.hid hF; have hc' := Lib.hid hc; have hp' := Lib.hid hp; have hR' := Lib.hid hR; have hr' := Lib.hid hr
  have F3' := Lib.hid F3; have F4' := Lib.hid F4
  clear hF hc hp hR hr F3 F4
  have hts' := Lib.hid hts
  clear hts
  have hs5 : (!s.toList.isEmpty) = true := by cases h : s.toList with | nil => exact absurd h hs | cons x y => rfl
  have hs4 : (o != 1) = true := by simp [ho]
  conv => arg 2; whnf
  go_wp2_with fail
  try go_ret2
  exact hR'.out _ _ (by rw [tail_text hs ho]; exact qbi) (Ext.refl _)
set_option maxRecDepth 100000 in
set_option maxHeartbeats 1000000 in
theorem of_call_lo_nil (F : List Fn) (c p : List Int) (o m : Int) (s : ByteArray) (l : List Ex) (A : Option Addr) (cap : Nat) (ts : List Int) (bs bx : Nat) (vF vc vp vts : Value) (w : World) (h : OfAt F c p o m s l A cap ts bs bx vF vc vp vts w) (hs : s.toList = []) (ho : o = 22) (hn : m < 0) (hl : ts.length = 0) (R : Ending → World → Prop) (hR : ∀ r w', qcm (tailT F c p o m s ts) r → Ext w w' → R r w')
    (u4 u5 u7 u8 u9 u10 u11 u12 u13 u14 u15 u16 u17 u18 u19 u20 u21 u22 u23 u24 u25 u26 u27 u28 u29 u30 u31 u32 u33 u34 u35 u36 u37 u38 u39 u40 u41 u42 u43 u44 u45 u46 u47 u48 u49 u50 u51 u52 u53 u54 u55 u56 u57 u58 u59 u60 u61 u62 u63 u64 u65 u66 u67 u68 u69 u70 u71 u72 u73 u74 u75 u76 u77 u78 u79 u80 u81 u82 u83 u84 u85 u86 u87 u88 u89 : Value) : Code.wp Tryd.prog ofTail (bodyPost Tryd.prog Tryd.f62 R) ⟨#[.agg #[vF, vc, vp], .agg #[.int .i64 o, .int .i64 m, .string s, .slice A l.length cap], .pointer (some ⟨bs, 0, none⟩), .pointer (some ⟨bx, 0, none⟩), u4, u5, vts, u7, u8, u9, u10, u11, u12, u13, u14, u15, u16, u17, u18, u19, u20, u21, u22, u23, u24, u25, u26, u27, u28, u29, u30, u31, u32, u33, u34, u35, u36, u37, u38, u39, u40, u41, u42, u43, u44, u45, u46, u47, u48, u49, u50, u51, u52, u53, u54, u55, u56, u57, u58, u59, u60, u61, u62, u63, u64, u65, u66, u67, u68, u69, u70, u71, u72, u73, u74, u75, u76, u77, u78, u79, u80, u81, u82, u83, u84, u85, u86, u87, u88, u89], []⟩ w := by
  obtain ⟨s0, s1, s2, e0, e1, e2, e3, hF, hc, hp, hts, hr, hll⟩ := h
  obtain ⟨A9, cap9, b9, off9, rfl, z1, z2, -, -⟩ := Rd.sl_open hts
  obtain ⟨AF, capF, bF, offF, rfl, F1, F2, F3, F4⟩ := Rd.sl_open hF
  simp only [List.length_map] at *
  have hF' := Lib.hid hF; have hc' := Lib.hid hc; have hp' := Lib.hid hp; have hR' := Lib.hid hR; have hr' := Lib.hid hr
  have F3' := Lib.hid F3; have F4' := Lib.hid F4
  clear hF hc hp hR hr F3 F4
  obtain rfl := List.eq_nil_of_length_eq_zero hl
  simp only [List.length_nil] at *
  have hts' := Lib.hid hts
  clear hts
  subst ho
  have H := Lib.hid ((qel (F := F) (c := c) (p := p) (n := m) (ts := []) hs).trans (callT_none (by omega)))
  conv => arg 2; whnf
  go_wp2_with fail
  try go_ret2
  exact hR'.out _ _ (by rw [H.out]; exact qbi) (Ext.refl _)
set_option maxRecDepth 100000 in
set_option maxHeartbeats 1000000 in
theorem of_call_hi_nil (F : List Fn) (c p : List Int) (o m : Int) (s : ByteArray) (l : List Ex) (A : Option Addr) (cap : Nat) (ts : List Int) (bs bx : Nat) (vF vc vp vts : Value) (w : World) (h : OfAt F c p o m s l A cap ts bs bx vF vc vp vts w) (hs : s.toList = []) (ho : o = 22) (hn : (F.length : Int) ≤ m) (hl : ts.length = 0) (R : Ending → World → Prop) (hR : ∀ r w', qcm (tailT F c p o m s ts) r → Ext w w' → R r w')
    (u4 u5 u7 u8 u9 u10 u11 u12 u13 u14 u15 u16 u17 u18 u19 u20 u21 u22 u23 u24 u25 u26 u27 u28 u29 u30 u31 u32 u33 u34 u35 u36 u37 u38 u39 u40 u41 u42 u43 u44 u45 u46 u47 u48 u49 u50 u51 u52 u53 u54 u55 u56 u57 u58 u59 u60 u61 u62 u63 u64 u65 u66 u67 u68 u69 u70 u71 u72 u73 u74 u75 u76 u77 u78 u79 u80 u81 u82 u83 u84 u85 u86 u87 u88 u89 : Value) : Code.wp Tryd.prog ofTail (bodyPost Tryd.prog Tryd.f62 R) ⟨#[.agg #[vF, vc, vp], .agg #[.int .i64 o, .int .i64 m, .string s, .slice A l.length cap], .pointer (some ⟨bs, 0, none⟩), .pointer (some ⟨bx, 0, none⟩), u4, u5, vts, u7, u8, u9, u10, u11, u12, u13, u14, u15, u16, u17, u18, u19, u20, u21, u22, u23, u24, u25, u26, u27, u28, u29, u30, u31, u32, u33, u34, u35, u36, u37, u38, u39, u40, u41, u42, u43, u44, u45, u46, u47, u48, u49, u50, u51, u52, u53, u54, u55, u56, u57, u58, u59, u60, u61, u62, u63, u64, u65, u66, u67, u68, u69, u70, u71, u72, u73, u74, u75, u76, u77, u78, u79, u80, u81, u82, u83, u84, u85, u86, u87, u88, u89], []⟩ w := by
  obtain ⟨s0, s1, s2, e0, e1, e2, e3, hF, hc, hp, hts, hr, hll⟩ := h
  obtain ⟨A9, cap9, b9, off9, rfl, z1, z2, -, -⟩ := Rd.sl_open hts
  obtain ⟨AF, capF, bF, offF, rfl, F1, F2, F3, F4⟩ := Rd.sl_open hF
  simp only [List.length_map] at *
  have hF' := Lib.hid hF; have hc' := Lib.hid hc; have hp' := Lib.hid hp; have hR' := Lib.hid hR; have hr' := Lib.hid hr
  have F3' := Lib.hid F3; have F4' := Lib.hid F4
  clear hF hc hp hR hr F3 F4
  obtain rfl := List.eq_nil_of_length_eq_zero hl
  simp only [List.length_nil] at *
  have hts' := Lib.hid hts
  clear hts
  subst ho
  have h0 : ¬ m < 0 := by omega
  have H := Lib.hid ((qel (F := F) (c := c) (p := p) (n := m) (ts := []) hs).trans (callT_none (by omega)))
  conv => arg 2; whnf
  go_wp2_with fail
  try go_ret2
  exact hR'.out _ _ (by rw [H.out]; exact qbi) (Ext.refl _)
set_option maxRecDepth 100000 in
set_option maxHeartbeats 1000000 in
theorem of_call_in_nil (F : List Fn) (c p : List Int) (o m : Int) (s : ByteArray) (l : List Ex) (A : Option Addr) (cap : Nat) (ts : List Int) (bs bx : Nat) (vF vc vp vts : Value) (w : World) (h : OfAt F c p o m s l A cap ts bs bx vF vc vp vts w) (hs : s.toList = []) (ho : o = 22) (hn : 0 ≤ m) (hn9 : m < F.length) (hl : ts.length = 0) (R : Ending → World → Prop) (hR : ∀ r w', qcm (tailT F c p o m s ts) r → Ext w w' → R r w')
    (u4 u5 u7 u8 u9 u10 u11 u12 u13 u14 u15 u16 u17 u18 u19 u20 u21 u22 u23 u24 u25 u26 u27 u28 u29 u30 u31 u32 u33 u34 u35 u36 u37 u38 u39 u40 u41 u42 u43 u44 u45 u46 u47 u48 u49 u50 u51 u52 u53 u54 u55 u56 u57 u58 u59 u60 u61 u62 u63 u64 u65 u66 u67 u68 u69 u70 u71 u72 u73 u74 u75 u76 u77 u78 u79 u80 u81 u82 u83 u84 u85 u86 u87 u88 u89 : Value) : Code.wp Tryd.prog ofTail (bodyPost Tryd.prog Tryd.f62 R) ⟨#[.agg #[vF, vc, vp], .agg #[.int .i64 o, .int .i64 m, .string s, .slice A l.length cap], .pointer (some ⟨bs, 0, none⟩), .pointer (some ⟨bx, 0, none⟩), u4, u5, vts, u7, u8, u9, u10, u11, u12, u13, u14, u15, u16, u17, u18, u19, u20, u21, u22, u23, u24, u25, u26, u27, u28, u29, u30, u31, u32, u33, u34, u35, u36, u37, u38, u39, u40, u41, u42, u43, u44, u45, u46, u47, u48, u49, u50, u51, u52, u53, u54, u55, u56, u57, u58, u59, u60, u61, u62, u63, u64, u65, u66, u67, u68, u69, u70, u71, u72, u73, u74, u75, u76, u77, u78, u79, u80, u81, u82, u83, u84, u85, u86, u87, u88, u89], []⟩ w := by
  obtain ⟨s0, s1, s2, e0, e1, e2, e3, hF, hc, hp, hts, hr, hll⟩ := h
  obtain ⟨A9, cap9, b9, off9, rfl, z1, z2, -, -⟩ := Rd.sl_open hts
  obtain ⟨AF, capF, bF, offF, rfl, F1, F2, F3, F4⟩ := Rd.sl_open hF
  simp only [List.length_map] at *
  have hF' := Lib.hid hF; have hc' := Lib.hid hc; have hp' := Lib.hid hp; have hR' := Lib.hid hR; have hr' := Lib.hid hr
  have F3' := Lib.hid F3; have F4' := Lib.hid F4
  clear hF hc hp hR hr F3 F4
  obtain rfl := List.eq_nil_of_length_eq_zero hl
  simp only [List.length_nil] at *
  have hts' := Lib.hid hts
  clear hts
  subst ho
  obtain ⟨k, rfl⟩ := Int.eq_ofNat_of_zero_le hn
  have hlt : k < F.length := by omega
  obtain ⟨rfl, hSF⟩ := F3'.out (by omega)
  obtain ⟨A1, cap1, b1, off1, A2, cap2, b2, off2, c0, c1, c2, c3, c4, c5, c6, hr9, q1, q2, q3, q4, -⟩ := Fn.at F4'.out hlt
  have hpar := Lib.hid (Rd.sl_mk (w := w) (S := Any) (n := F[k].params.length) (l := F[k].params.map D.int) (by simp) (by simpa using q1) q2 (by simpa using q3) q4)
  have H := Lib.hid ((qel (F := F) (c := c) (p := p) (n := (k : Int)) (ts := []) hs).trans (show callT F (k : Int) [] = if F[k].params = [] then some F[k].res else none by simp [callT, List.getElem?_eq_getElem hlt, show ¬ ((k : Int) < 0) by omega]))
  have hn1 : ¬ F.length ≤ k := by omega
  have hn2 : ¬ (k : Int) < 0 := by omega
  have hSF2 := Lib.hid hSF
  clear hr9 q3 q4 hn hSF
  have hcall := equal_any F[k].params [] Any Any _ _ w hpar.out hts'.out
  by_cases heq : F[k].params = []
  · rw [decide_eq_true heq] at hcall
    have hcall' := Lib.hid hcall
    have heq' := Lib.hid heq
    clear hcall heq
    conv => arg 2; whnf
    go_wp2_with fail
    refine (hcall'.out).mono ?_
    rintro r w1 ⟨rfl, he⟩
    have e0 := he.at e0
    have e1 := he.at e1
    have s0 := he.at s0
    have c1 := he.at c1
    have c2 := he.at c2
    go_wp2_with fail
    try go_ret2
    exact hR'.out _ _ (by rw [H.out, if_pos heq'.out]; exact answer_some) he
  · rw [decide_eq_false heq] at hcall
    have hcall' := Lib.hid hcall
    have heq' := Lib.hid heq
    clear hcall heq
    conv => arg 2; whnf
    go_wp2_with fail
    refine (hcall'.out).mono ?_
    rintro r w1 ⟨rfl, he⟩
    have e0 := he.at e0
    have e1 := he.at e1
    have s0 := he.at s0
    go_wp2_with fail
    try go_ret2
    exact hR'.out _ _ (by rw [H.out, if_neg heq'.out]; exact qbi) he
set_option maxRecDepth 100000 in
set_option maxHeartbeats 1000000 in
theorem of_call_lo_cons (F : List Fn) (c p : List Int) (o m : Int) (s : ByteArray) (l : List Ex) (A : Option Addr) (cap : Nat) (ts : List Int) (bs bx : Nat) (vF vc vp vts : Value) (w : World) (h : OfAt F c p o m s l A cap ts bs bx vF vc vp vts w) (hs : s.toList = []) (ho : o = 22) (hn : m < 0) (hl : ts ≠ []) (R : Ending → World → Prop) (hR : ∀ r w', qcm (tailT F c p o m s ts) r → Ext w w' → R r w')
    (u4 u5 u7 u8 u9 u10 u11 u12 u13 u14 u15 u16 u17 u18 u19 u20 u21 u22 u23 u24 u25 u26 u27 u28 u29 u30 u31 u32 u33 u34 u35 u36 u37 u38 u39 u40 u41 u42 u43 u44 u45 u46 u47 u48 u49 u50 u51 u52 u53 u54 u55 u56 u57 u58 u59 u60 u61 u62 u63 u64 u65 u66 u67 u68 u69 u70 u71 u72 u73 u74 u75 u76 u77 u78 u79 u80 u81 u82 u83 u84 u85 u86 u87 u88 u89 : Value) : Code.wp Tryd.prog ofTail (bodyPost Tryd.prog Tryd.f62 R) ⟨#[.agg #[vF, vc, vp], .agg #[.int .i64 o, .int .i64 m, .string s, .slice A l.length cap], .pointer (some ⟨bs, 0, none⟩), .pointer (some ⟨bx, 0, none⟩), u4, u5, vts, u7, u8, u9, u10, u11, u12, u13, u14, u15, u16, u17, u18, u19, u20, u21, u22, u23, u24, u25, u26, u27, u28, u29, u30, u31, u32, u33, u34, u35, u36, u37, u38, u39, u40, u41, u42, u43, u44, u45, u46, u47, u48, u49, u50, u51, u52, u53, u54, u55, u56, u57, u58, u59, u60, u61, u62, u63, u64, u65, u66, u67, u68, u69, u70, u71, u72, u73, u74, u75, u76, u77, u78, u79, u80, u81, u82, u83, u84, u85, u86, u87, u88, u89], []⟩ w := by
  obtain ⟨s0, s1, s2, e0, e1, e2, e3, hF, hc, hp, hts, hr, hll⟩ := h
  obtain ⟨A9, cap9, b9, off9, rfl, z1, z2, -, -⟩ := Rd.sl_open hts
  obtain ⟨AF, capF, bF, offF, rfl, F1, F2, F3, F4⟩ := Rd.sl_open hF
  simp only [List.length_map] at *
  have hF' := Lib.hid hF; have hc' := Lib.hid hc; have hp' := Lib.hid hp; have hR' := Lib.hid hR; have hr' := Lib.hid hr
  have F3' := Lib.hid F3; have F4' := Lib.hid F4
  clear hF hc hp hR hr F3 F4
  obtain ⟨t0, tr, rfl⟩ : ∃ t0 tr, ts = t0 :: tr := by cases ts with | nil => exact absurd rfl hl | cons a b => exact ⟨a, b, rfl⟩
  simp only [List.length_cons] at *
  have hts' := Lib.hid hts
  clear hts
  subst ho
  have H := Lib.hid ((qel (F := F) (c := c) (p := p) (n := m) (ts := t0 :: tr) hs).trans (callT_none (by omega)))
  conv => arg 2; whnf
  go_wp2_with fail
  try go_ret2
  exact hR'.out _ _ (by rw [H.out]; exact qbi) (Ext.refl _)
set_option maxRecDepth 100000 in
set_option maxHeartbeats 1000000 in
theorem of_call_hi_cons (F : List Fn) (c p : List Int) (o m : Int) (s : ByteArray) (l : List Ex) (A : Option Addr) (cap : Nat) (ts : List Int) (bs bx : Nat) (vF vc vp vts : Value) (w : World) (h : OfAt F c p o m s l A cap ts bs bx vF vc vp vts w) (hs : s.toList = []) (ho : o = 22) (hn : (F.length : Int) ≤ m) (hl : ts ≠ []) (R : Ending → World → Prop) (hR : ∀ r w', qcm (tailT F c p o m s ts) r → Ext w w' → R r w')
    (u4 u5 u7 u8 u9 u10 u11 u12 u13 u14 u15 u16 u17 u18 u19 u20 u21 u22 u23 u24 u25 u26 u27 u28 u29 u30 u31 u32 u33 u34 u35 u36 u37 u38 u39 u40 u41 u42 u43 u44 u45 u46 u47 u48 u49 u50 u51 u52 u53 u54 u55 u56 u57 u58 u59 u60 u61 u62 u63 u64 u65 u66 u67 u68 u69 u70 u71 u72 u73 u74 u75 u76 u77 u78 u79 u80 u81 u82 u83 u84 u85 u86 u87 u88 u89 : Value) : Code.wp Tryd.prog ofTail (bodyPost Tryd.prog Tryd.f62 R) ⟨#[.agg #[vF, vc, vp], .agg #[.int .i64 o, .int .i64 m, .string s, .slice A l.length cap], .pointer (some ⟨bs, 0, none⟩), .pointer (some ⟨bx, 0, none⟩), u4, u5, vts, u7, u8, u9, u10, u11, u12, u13, u14, u15, u16, u17, u18, u19, u20, u21, u22, u23, u24, u25, u26, u27, u28, u29, u30, u31, u32, u33, u34, u35, u36, u37, u38, u39, u40, u41, u42, u43, u44, u45, u46, u47, u48, u49, u50, u51, u52, u53, u54, u55, u56, u57, u58, u59, u60, u61, u62, u63, u64, u65, u66, u67, u68, u69, u70, u71, u72, u73, u74, u75, u76, u77, u78, u79, u80, u81, u82, u83, u84, u85, u86, u87, u88, u89], []⟩ w := by
  obtain ⟨s0, s1, s2, e0, e1, e2, e3, hF, hc, hp, hts, hr, hll⟩ := h
  obtain ⟨A9, cap9, b9, off9, rfl, z1, z2, -, -⟩ := Rd.sl_open hts
  obtain ⟨AF, capF, bF, offF, rfl, F1, F2, F3, F4⟩ := Rd.sl_open hF
  simp only [List.length_map] at *
  have hF' := Lib.hid hF; have hc' := Lib.hid hc; have hp' := Lib.hid hp; have hR' := Lib.hid hR; have hr' := Lib.hid hr
  have F3' := Lib.hid F3; have F4' := Lib.hid F4
  clear hF hc hp hR hr F3 F4
  obtain ⟨t0, tr, rfl⟩ : ∃ t0 tr, ts = t0 :: tr := by cases ts with | nil => exact absurd rfl hl | cons a b => exact ⟨a, b, rfl⟩
  simp only [List.length_cons] at *
  have hts' := Lib.hid hts
  clear hts
  subst ho
  have h0 : ¬ m < 0 := by omega
  have H := Lib.hid ((qel (F := F) (c := c) (p := p) (n := m) (ts := t0 :: tr) hs).trans (callT_none (by omega)))
  conv => arg 2; whnf
  go_wp2_with fail
  try go_ret2
  exact hR'.out _ _ (by rw [H.out]; exact qbi) (Ext.refl _)
set_option maxRecDepth 100000 in
set_option maxHeartbeats 1000000 in
theorem of_call_in_cons (F : List Fn) (c p : List Int) (o m : Int) (s : ByteArray) (l : List Ex) (A : Option Addr) (cap : Nat) (ts : List Int) (bs bx : Nat) (vF vc vp vts : Value) (w : World) (h : OfAt F c p o m s l A cap ts bs bx vF vc vp vts w) (hs : s.toList = []) (ho : o = 22) (hn : 0 ≤ m) (hn9 : m < F.length) (hl : ts ≠ []) (R : Ending → World → Prop) (hR : ∀ r w', qcm (tailT F c p o m s ts) r → Ext w w' → R r w')
    (u4 u5 u7 u8 u9 u10 u11 u12 u13 u14 u15 u16 u17 u18 u19 u20 u21 u22 u23 u24 u25 u26 u27 u28 u29 u30 u31 u32 u33 u34 u35 u36 u37 u38 u39 u40 u41 u42 u43 u44 u45 u46 u47 u48 u49 u50 u51 u52 u53 u54 u55 u56 u57 u58 u59 u60 u61 u62 u63 u64 u65 u66 u67 u68 u69 u70 u71 u72 u73 u74 u75 u76 u77 u78 u79 u80 u81 u82 u83 u84 u85 u86 u87 u88 u89 : Value) : Code.wp Tryd.prog ofTail (bodyPost Tryd.prog Tryd.f62 R) ⟨#[.agg #[vF, vc, vp], .agg #[.int .i64 o, .int .i64 m, .string s, .slice A l.length cap], .pointer (some ⟨bs, 0, none⟩), .pointer (some ⟨bx, 0, none⟩), u4, u5, vts, u7, u8, u9, u10, u11, u12, u13, u14, u15, u16, u17, u18, u19, u20, u21, u22, u23, u24, u25, u26, u27, u28, u29, u30, u31, u32, u33, u34, u35, u36, u37, u38, u39, u40, u41, u42, u43, u44, u45, u46, u47, u48, u49, u50, u51, u52, u53, u54, u55, u56, u57, u58, u59, u60, u61, u62, u63, u64, u65, u66, u67, u68, u69, u70, u71, u72, u73, u74, u75, u76, u77, u78, u79, u80, u81, u82, u83, u84, u85, u86, u87, u88, u89], []⟩ w := by
  obtain ⟨s0, s1, s2, e0, e1, e2, e3, hF, hc, hp, hts, hr, hll⟩ := h
  obtain ⟨A9, cap9, b9, off9, rfl, z1, z2, -, -⟩ := Rd.sl_open hts
  obtain ⟨AF, capF, bF, offF, rfl, F1, F2, F3, F4⟩ := Rd.sl_open hF
  simp only [List.length_map] at *
  have hF' := Lib.hid hF; have hc' := Lib.hid hc; have hp' := Lib.hid hp; have hR' := Lib.hid hR; have hr' := Lib.hid hr
  have F3' := Lib.hid F3; have F4' := Lib.hid F4
  clear hF hc hp hR hr F3 F4
  obtain ⟨t0, tr, rfl⟩ : ∃ t0 tr, ts = t0 :: tr := by cases ts with | nil => exact absurd rfl hl | cons a b => exact ⟨a, b, rfl⟩
  simp only [List.length_cons] at *
  have hts' := Lib.hid hts
  clear hts
  subst ho
  obtain ⟨k, rfl⟩ := Int.eq_ofNat_of_zero_le hn
  have hlt : k < F.length := by omega
  obtain ⟨rfl, hSF⟩ := F3'.out (by omega)
  obtain ⟨A1, cap1, b1, off1, A2, cap2, b2, off2, c0, c1, c2, c3, c4, c5, c6, hr9, q1, q2, q3, q4, -⟩ := Fn.at F4'.out hlt
  have hpar := Lib.hid (Rd.sl_mk (w := w) (S := Any) (n := F[k].params.length) (l := F[k].params.map D.int) (by simp) (by simpa using q1) q2 (by simpa using q3) q4)
  have H := Lib.hid ((qel (F := F) (c := c) (p := p) (n := (k : Int)) (ts := (t0 :: tr)) hs).trans (show callT F (k : Int) (t0 :: tr) = if F[k].params = (t0 :: tr) then some F[k].res else none by simp [callT, List.getElem?_eq_getElem hlt, show ¬ ((k : Int) < 0) by omega]))
  have hn1 : ¬ F.length ≤ k := by omega
  have hn2 : ¬ (k : Int) < 0 := by omega
  have hSF2 := Lib.hid hSF
  clear hr9 q3 q4 hn hSF
  have hcall := equal_any F[k].params (t0 :: tr) Any Any _ _ w hpar.out hts'.out
  by_cases heq : F[k].params = (t0 :: tr)
  · rw [decide_eq_true heq] at hcall
    have hcall' := Lib.hid hcall
    have heq' := Lib.hid heq
    clear hcall heq
    conv => arg 2; whnf
    go_wp2_with fail
    refine (hcall'.out).mono ?_
    rintro r w1 ⟨rfl, he⟩
    have e0 := he.at e0
    have e1 := he.at e1
    have s0 := he.at s0
    have c1 := he.at c1
    have c2 := he.at c2
    go_wp2_with fail
    try go_ret2
    exact hR'.out _ _ (by rw [H.out, if_pos heq'.out]; exact answer_some) he
  · rw [decide_eq_false heq] at hcall
    have hcall' := Lib.hid hcall
    have heq' := Lib.hid heq
    clear hcall heq
    conv => arg 2; whnf
    go_wp2_with fail
    refine (hcall'.out).mono ?_
    rintro r w1 ⟨rfl, he⟩
    have e0 := he.at e0
    have e1 := he.at e1
    have s0 := he.at s0
    go_wp2_with fail
    try go_ret2
    exact hR'.out _ _ (by rw [H.out, if_neg heq'.out]; exact qbi) he
set_option maxRecDepth 100000 in
set_option maxHeartbeats 1000000 in
theorem of_leafa (F : List Fn) (c p : List Int) (o m : Int) (s : ByteArray) (l : List Ex) (A : Option Addr) (cap : Nat) (ts : List Int) (bs bx : Nat) (vF vc vp vts : Value) (w : World) (h : OfAt F c p o m s l A cap ts bs bx vF vc vp vts w) (hs : s.toList = []) (h22 : ¬ o = 22) (hl : ts.length = 0) (R : Ending → World → Prop) (hR : ∀ r w', qcm (tailT F c p o m s ts) r → Ext w w' → R r w')
    (u4 u5 u7 u8 u9 u10 u11 u12 u13 u14 u15 u16 u17 u18 u19 u20 u21 u22 u23 u24 u25 u26 u27 u28 u29 u30 u31 u32 u33 u34 u35 u36 u37 u38 u39 u40 u41 u42 u43 u44 u45 u46 u47 u48 u49 u50 u51 u52 u53 u54 u55 u56 u57 u58 u59 u60 u61 u62 u63 u64 u65 u66 u67 u68 u69 u70 u71 u72 u73 u74 u75 u76 u77 u78 u79 u80 u81 u82 u83 u84 u85 u86 u87 u88 u89 : Value) : Code.wp Tryd.prog ofTail (bodyPost Tryd.prog Tryd.f62 R) ⟨#[.agg #[vF, vc, vp], .agg #[.int .i64 o, .int .i64 m, .string s, .slice A l.length cap], .pointer (some ⟨bs, 0, none⟩), .pointer (some ⟨bx, 0, none⟩), u4, u5, vts, u7, u8, u9, u10, u11, u12, u13, u14, u15, u16, u17, u18, u19, u20, u21, u22, u23, u24, u25, u26, u27, u28, u29, u30, u31, u32, u33, u34, u35, u36, u37, u38, u39, u40, u41, u42, u43, u44, u45, u46, u47, u48, u49, u50, u51, u52, u53, u54, u55, u56, u57, u58, u59, u60, u61, u62, u63, u64, u65, u66, u67, u68, u69, u70, u71, u72, u73, u74, u75, u76, u77, u78, u79, u80, u81, u82, u83, u84, u85, u86, u87, u88, u89], []⟩ w := by
  obtain ⟨s0, s1, s2, e0, e1, e2, e3, hF, hc, hp, hts, hr, hll⟩ := h
  obtain ⟨A9, cap9, b9, off9, rfl, z1, z2, -, -⟩ := Rd.sl_open hts
  obtain ⟨AF, capF, bF, offF, rfl, F1, F2, F3, F4⟩ := Rd.sl_open hF
  simp only [List.length_map] at *
  have hF' := Lib.hid hF; have hc' := Lib.hid hc; have hp' := Lib.hid hp; have hR' := Lib.hid hR; have hr' := Lib.hid hr
  have F3' := Lib.hid F3; have F4' := Lib.hid F4
  clear hF hc hp hR hr F3 F4
  obtain rfl := List.eq_nil_of_length_eq_zero hl
  simp only [List.length_nil] at *
  have hts' := Lib.hid hts
  clear hts
  have h22b : (o == 22) = false := by simp [h22]
  have h22c : (o != 22) = true := by simp [h22]
  have H := Lib.hid (tail_leaf (F := F) (c := c) (p := p) (n := m) (s := s) (.inl hs) h22)
  conv => arg 2; whnf
  go_wp2_with fail
  refine (leaf_any c p (.mk o m s l) Any Any Any _ vc vp _ w hc'.out hp'.out hr'.out).mono ?_
  rintro r w1 ⟨⟨t, ok, rfl, hA⟩, he⟩
  have hA' := Lib.hid hA; clear hA
  go_wp2_with fail
  try go_ret2
  exact hR'.out _ _ (qbl (by rw [hA'.out, H.out]; rfl)) he
set_option maxRecDepth 100000 in
set_option maxHeartbeats 1000000 in
theorem of_leafb (F : List Fn) (c p : List Int) (o m : Int) (s : ByteArray) (l : List Ex) (A : Option Addr) (cap : Nat) (ts : List Int) (bs bx : Nat) (vF vc vp vts : Value) (w : World) (h : OfAt F c p o m s l A cap ts bs bx vF vc vp vts w) (hs : ¬ s.toList = []) (h22 : ¬ o = 22) (ho : o = 1) (hl : ts.length = 0) (R : Ending → World → Prop) (hR : ∀ r w', qcm (tailT F c p o m s ts) r → Ext w w' → R r w')
    (u4 u5 u7 u8 u9 u10 u11 u12 u13 u14 u15 u16 u17 u18 u19 u20 u21 u22 u23 u24 u25 u26 u27 u28 u29 u30 u31 u32 u33 u34 u35 u36 u37 u38 u39 u40 u41 u42 u43 u44 u45 u46 u47 u48 u49 u50 u51 u52 u53 u54 u55 u56 u57 u58 u59 u60 u61 u62 u63 u64 u65 u66 u67 u68 u69 u70 u71 u72 u73 u74 u75 u76 u77 u78 u79 u80 u81 u82 u83 u84 u85 u86 u87 u88 u89 : Value) : Code.wp Tryd.prog ofTail (bodyPost Tryd.prog Tryd.f62 R) ⟨#[.agg #[vF, vc, vp], .agg #[.int .i64 o, .int .i64 m, .string s, .slice A l.length cap], .pointer (some ⟨bs, 0, none⟩), .pointer (some ⟨bx, 0, none⟩), u4, u5, vts, u7, u8, u9, u10, u11, u12, u13, u14, u15, u16, u17, u18, u19, u20, u21, u22, u23, u24, u25, u26, u27, u28, u29, u30, u31, u32, u33, u34, u35, u36, u37, u38, u39, u40, u41, u42, u43, u44, u45, u46, u47, u48, u49, u50, u51, u52, u53, u54, u55, u56, u57, u58, u59, u60, u61, u62, u63, u64, u65, u66, u67, u68, u69, u70, u71, u72, u73, u74, u75, u76, u77, u78, u79, u80, u81, u82, u83, u84, u85, u86, u87, u88, u89], []⟩ w := by
  obtain ⟨s0, s1, s2, e0, e1, e2, e3, hF, hc, hp, hts, hr, hll⟩ := h
  obtain ⟨A9, cap9, b9, off9, rfl, z1, z2, -, -⟩ := Rd.sl_open hts
  obtain ⟨AF, capF, bF, offF, rfl, F1, F2, F3, F4⟩ := Rd.sl_open hF
  simp only [List.length_map] at *
  have hF' := Lib.hid hF; have hc' := Lib.hid hc; have hp' := Lib.hid hp; have hR' := Lib.hid hR; have hr' := Lib.hid hr
  have F3' := Lib.hid F3; have F4' := Lib.hid F4
  clear hF hc hp hR hr F3 F4
  obtain rfl := List.eq_nil_of_length_eq_zero hl
  simp only [List.length_nil] at *
  have hts' := Lib.hid hts
  clear hts
  have h22b : (o == 22) = false := by simp [h22]
  have h22c : (o != 22) = true := by simp [h22]
  subst ho
  have H := Lib.hid (tail_leaf (F := F) (c := c) (p := p) (n := m) (s := s) (.inr rfl) h22)
  conv => arg 2; whnf
  go_wp2_with fail
  refine (leaf_any c p (.mk 1 m s l) Any Any Any _ vc vp _ w hc'.out hp'.out hr'.out).mono ?_
  rintro r w1 ⟨⟨t, ok, rfl, hA⟩, he⟩
  have hA' := Lib.hid hA; clear hA
  go_wp2_with fail
  try go_ret2
  exact hR'.out _ _ (qbl (by rw [hA'.out, H.out]; rfl)) he
set_option maxRecDepth 100000 in
set_option maxHeartbeats 1000000 in
theorem of_opera (F : List Fn) (c p : List Int) (o m : Int) (s : ByteArray) (l : List Ex) (A : Option Addr) (cap : Nat) (ts : List Int) (bs bx : Nat) (vF vc vp vts : Value) (w : World) (h : OfAt F c p o m s l A cap ts bs bx vF vc vp vts w) (hs : s.toList = []) (h22 : ¬ o = 22) (hl : ts ≠ []) (R : Ending → World → Prop) (hR : ∀ r w', qcm (tailT F c p o m s ts) r → Ext w w' → R r w')
    (u4 u5 u7 u8 u9 u10 u11 u12 u13 u14 u15 u16 u17 u18 u19 u20 u21 u22 u23 u24 u25 u26 u27 u28 u29 u30 u31 u32 u33 u34 u35 u36 u37 u38 u39 u40 u41 u42 u43 u44 u45 u46 u47 u48 u49 u50 u51 u52 u53 u54 u55 u56 u57 u58 u59 u60 u61 u62 u63 u64 u65 u66 u67 u68 u69 u70 u71 u72 u73 u74 u75 u76 u77 u78 u79 u80 u81 u82 u83 u84 u85 u86 u87 u88 u89 : Value) : Code.wp Tryd.prog ofTail (bodyPost Tryd.prog Tryd.f62 R) ⟨#[.agg #[vF, vc, vp], .agg #[.int .i64 o, .int .i64 m, .string s, .slice A l.length cap], .pointer (some ⟨bs, 0, none⟩), .pointer (some ⟨bx, 0, none⟩), u4, u5, vts, u7, u8, u9, u10, u11, u12, u13, u14, u15, u16, u17, u18, u19, u20, u21, u22, u23, u24, u25, u26, u27, u28, u29, u30, u31, u32, u33, u34, u35, u36, u37, u38, u39, u40, u41, u42, u43, u44, u45, u46, u47, u48, u49, u50, u51, u52, u53, u54, u55, u56, u57, u58, u59, u60, u61, u62, u63, u64, u65, u66, u67, u68, u69, u70, u71, u72, u73, u74, u75, u76, u77, u78, u79, u80, u81, u82, u83, u84, u85, u86, u87, u88, u89], []⟩ w := by
  obtain ⟨s0, s1, s2, e0, e1, e2, e3, hF, hc, hp, hts, hr, hll⟩ := h
  obtain ⟨A9, cap9, b9, off9, rfl, z1, z2, -, -⟩ := Rd.sl_open hts
  obtain ⟨AF, capF, bF, offF, rfl, F1, F2, F3, F4⟩ := Rd.sl_open hF
  simp only [List.length_map] at *
  have hF' := Lib.hid hF; have hc' := Lib.hid hc; have hp' := Lib.hid hp; have hR' := Lib.hid hR; have hr' := Lib.hid hr
  have F3' := Lib.hid F3; have F4' := Lib.hid F4
  clear hF hc hp hR hr F3 F4
  obtain ⟨t0, tr, rfl⟩ : ∃ t0 tr, ts = t0 :: tr := by cases ts with | nil => exact absurd rfl hl | cons a b => exact ⟨a, b, rfl⟩
  simp only [List.length_cons] at *
  have hts' := Lib.hid hts
  clear hts
  have h22b : (o == 22) = false := by simp [h22]
  have h22c : (o != 22) = true := by simp [h22]
  have H := Lib.hid (tail_oper2 (F := F) (c := c) (p := p) (n := m) (s := s) (ts := t0 :: tr) (.inl hs) h22 (by simp))
  conv => arg 2; whnf
  go_wp2_with fail
  refine (operation_any (.mk o m s l) (t0 :: tr) Any Any _ _ w hr'.out hts'.out (by simp)).mono ?_
  rintro r w1 ⟨⟨t, ok, rfl, hA⟩, he⟩
  have hA' := Lib.hid hA; clear hA
  go_wp2_with fail
  try go_ret2
  exact hR'.out _ _ (qbl (by rw [hA'.out, H.out]; rfl)) he
set_option maxRecDepth 100000 in
set_option maxHeartbeats 1000000 in
theorem of_operb (F : List Fn) (c p : List Int) (o m : Int) (s : ByteArray) (l : List Ex) (A : Option Addr) (cap : Nat) (ts : List Int) (bs bx : Nat) (vF vc vp vts : Value) (w : World) (h : OfAt F c p o m s l A cap ts bs bx vF vc vp vts w) (hs : ¬ s.toList = []) (h22 : ¬ o = 22) (ho : o = 1) (hl : ts ≠ []) (R : Ending → World → Prop) (hR : ∀ r w', qcm (tailT F c p o m s ts) r → Ext w w' → R r w')
    (u4 u5 u7 u8 u9 u10 u11 u12 u13 u14 u15 u16 u17 u18 u19 u20 u21 u22 u23 u24 u25 u26 u27 u28 u29 u30 u31 u32 u33 u34 u35 u36 u37 u38 u39 u40 u41 u42 u43 u44 u45 u46 u47 u48 u49 u50 u51 u52 u53 u54 u55 u56 u57 u58 u59 u60 u61 u62 u63 u64 u65 u66 u67 u68 u69 u70 u71 u72 u73 u74 u75 u76 u77 u78 u79 u80 u81 u82 u83 u84 u85 u86 u87 u88 u89 : Value) : Code.wp Tryd.prog ofTail (bodyPost Tryd.prog Tryd.f62 R) ⟨#[.agg #[vF, vc, vp], .agg #[.int .i64 o, .int .i64 m, .string s, .slice A l.length cap], .pointer (some ⟨bs, 0, none⟩), .pointer (some ⟨bx, 0, none⟩), u4, u5, vts, u7, u8, u9, u10, u11, u12, u13, u14, u15, u16, u17, u18, u19, u20, u21, u22, u23, u24, u25, u26, u27, u28, u29, u30, u31, u32, u33, u34, u35, u36, u37, u38, u39, u40, u41, u42, u43, u44, u45, u46, u47, u48, u49, u50, u51, u52, u53, u54, u55, u56, u57, u58, u59, u60, u61, u62, u63, u64, u65, u66, u67, u68, u69, u70, u71, u72, u73, u74, u75, u76, u77, u78, u79, u80, u81, u82, u83, u84, u85, u86, u87, u88, u89], []⟩ w := by
  obtain ⟨s0, s1, s2, e0, e1, e2, e3, hF, hc, hp, hts, hr, hll⟩ := h
  obtain ⟨A9, cap9, b9, off9, rfl, z1, z2, -, -⟩ := Rd.sl_open hts
  obtain ⟨AF, capF, bF, offF, rfl, F1, F2, F3, F4⟩ := Rd.sl_open hF
  simp only [List.length_map] at *
  have hF' := Lib.hid hF; have hc' := Lib.hid hc; have hp' := Lib.hid hp; have hR' := Lib.hid hR; have hr' := Lib.hid hr
  have F3' := Lib.hid F3; have F4' := Lib.hid F4
  clear hF hc hp hR hr F3 F4
  obtain ⟨t0, tr, rfl⟩ : ∃ t0 tr, ts = t0 :: tr := by cases ts with | nil => exact absurd rfl hl | cons a b => exact ⟨a, b, rfl⟩
  simp only [List.length_cons] at *
  have hts' := Lib.hid hts
  clear hts
  have h22b : (o == 22) = false := by simp [h22]
  have h22c : (o != 22) = true := by simp [h22]
  subst ho
  have H := Lib.hid (tail_oper2 (F := F) (c := c) (p := p) (n := m) (s := s) (ts := t0 :: tr) (.inr rfl) h22 (by simp))
  conv => arg 2; whnf
  go_wp2_with fail
  refine (operation_any (.mk 1 m s l) (t0 :: tr) Any Any _ _ w hr'.out hts'.out (by simp)).mono ?_
  rintro r w1 ⟨⟨t, ok, rfl, hA⟩, he⟩
  have hA' := Lib.hid hA; clear hA
  go_wp2_with fail
  try go_ret2
  exact hR'.out _ _ (qbl (by rw [hA'.out, H.out]; rfl)) he
set_option maxHeartbeats 1000000 in
theorem of_tail (F : List Fn) (c p : List Int) (o m : Int) (s : ByteArray) (l : List Ex) (A : Option Addr) (cap : Nat) (ts : List Int) (bs bx : Nat) (vF vc vp vts : Value) (w : World) (h : OfAt F c p o m s l A cap ts bs bx vF vc vp vts w) (R : Ending → World → Prop) (hR : ∀ r w', qcm (tailT F c p o m s ts) r → Ext w w' → R r w')
    (u4 u5 u7 u8 u9 u10 u11 u12 u13 u14 u15 u16 u17 u18 u19 u20 u21 u22 u23 u24 u25 u26 u27 u28 u29 u30 u31 u32 u33 u34 u35 u36 u37 u38 u39 u40 u41 u42 u43 u44 u45 u46 u47 u48 u49 u50 u51 u52 u53 u54 u55 u56 u57 u58 u59 u60 u61 u62 u63 u64 u65 u66 u67 u68 u69 u70 u71 u72 u73 u74 u75 u76 u77 u78 u79 u80 u81 u82 u83 u84 u85 u86 u87 u88 u89 : Value) : Code.wp Tryd.prog ofTail (bodyPost Tryd.prog Tryd.f62 R) ⟨#[.agg #[vF, vc, vp], .agg #[.int .i64 o, .int .i64 m, .string s, .slice A l.length cap], .pointer (some ⟨bs, 0, none⟩), .pointer (some ⟨bx, 0, none⟩), u4, u5, vts, u7, u8, u9, u10, u11, u12, u13, u14, u15, u16, u17, u18, u19, u20, u21, u22, u23, u24, u25, u26, u27, u28, u29, u30, u31, u32, u33, u34, u35, u36, u37, u38, u39, u40, u41, u42, u43, u44, u45, u46, u47, u48, u49, u50, u51, u52, u53, u54, u55, u56, u57, u58, u59, u60, u61, u62, u63, u64, u65, u66, u67, u68, u69, u70, u71, u72, u73, u74, u75, u76, u77, u78, u79, u80, u81, u82, u83, u84, u85, u86, u87, u88, u89], []⟩ w := by
  by_cases h22 : o = 22
  · by_cases hs : s.toList = []
    · by_cases hl : ts.length = 0
      · by_cases hn : m < 0
        · apply of_call_lo_nil <;> assumption
        · have hn0 : 0 ≤ m := by omega
          by_cases hn1 : (F.length : Int) ≤ m
          · apply of_call_hi_nil <;> assumption
          · have hn2 : m < F.length := by omega
            apply of_call_in_nil <;> assumption
      · have hl2 : ts ≠ [] := fun h => hl (by rw [h]; rfl)
        by_cases hn : m < 0
        · apply of_call_lo_cons <;> assumption
        · have hn0 : 0 ≤ m := by omega
          by_cases hn1 : (F.length : Int) ≤ m
          · apply of_call_hi_cons <;> assumption
          · have hn2 : m < F.length := by omega
            apply of_call_in_cons <;> assumption
    · have ho : ¬ o = 1 := by omega
      apply of_text <;> assumption
  · by_cases hs : s.toList = []
    · by_cases hl : ts.length = 0
      · apply of_leafa <;> assumption
      · have hl2 : ts ≠ [] := fun h => hl (by rw [h]; rfl)
        apply of_opera <;> assumption
    · by_cases ho : o = 1
      · by_cases hl : ts.length = 0
        · apply of_leafb <;> assumption
        · have hl2 : ts ≠ [] := fun h => hl (by rw [h]; rfl)
          apply of_operb <;> assumption
      · apply of_text <;> assumption
end Go.Proofs.YtnkimlkoijfcpaaDoor
