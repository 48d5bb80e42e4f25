/- Walks: types of expressions, as the program finds them: the small functions. -/
import Derived.Test.YtmhelkhmgbbfhaaGa1
import Derived.Test.YtmhelkhmgbbfhaaGa2
import Derived.Test.YtmhelkhmgbbfhaaGa3
namespace Go.Proofs.Ytmhelkhmgbbfhaa
open Go.RowKit Go.Lib

set_option maxHeartbeats 400000 in
theorem kind_any (n : Int) (w : World) : Calls Try.prog 60 #[.int .i64 n] w fun r w' => r = .returned (.bool (kindB n)) ∧ Ext w w' := by
  go_enter Try.func60, Try.ntmps60
  go_wp2_with fail
  all_goals
    go_ret
    exact ⟨ret_bool (by first | rfl | (unfold kindB; simp; omega)), Ext.refl _⟩

set_option maxHeartbeats 400000 in
theorem wrongKind_any (n : Int) (w : World) : Calls Try.prog 59 #[.int .i64 n] w fun r w' => r = .returned (.bool (!kindB n)) ∧ Ext w w' := by
  go_enter Try.func59, Try.ntmps59
  go_wp2_with fail
  refine (kind_any _ _).mono ?_
  rintro r w1 ⟨rfl, he⟩
  go_wp2_with fail
  go_ret
  exact ⟨rfl, he⟩

set_option maxHeartbeats 400000 in
theorem levels_any (e : Ex) : ∀ (S : Nat → Prop) (cs : List Value) (w : World), Rd w S e.d cs → levels e ≤ 1000000 →
    Calls Try.prog 46 #[.agg cs.toArray] w fun r w' => r = .returned (.int .i64 (levels e)) ∧ Ext w w' := by
  induction e using Ex.ind with | h o m s l ih => ?_
  intro S cs w hr hbd
  obtain ⟨A, cap, b, off, rfl, hl1, hl2, hl3, hm⟩ := Ex.open hr
  simp only [Ex.args, Ex.op, Ex.n, Ex.s] at *
  rw [levels] at hbd
  have H := Lib.hid (show levels (.mk o m s l) = levelsL l 0 + 1 by rw [levels])
  have hl3' := Lib.hid hl3; have hm' := Lib.hid hm
  clear hr hl3 hm
  go_enter Try.func46, Try.ntmps46
  go_wp2_with fail
  go_loopw [3, 9] (fun x i wr => ∃ (k : Nat) (q : Int), k ≤ l.length ∧ i = .int .i64 k ∧ x = .int .i64 q ∧ 0 ≤ q ∧ q ≤ 1000000 ∧ Hid (levelsL l 0 = levelsL (l.drop k) q) ∧ Ext (w.alloc (.cells #[.int .i64 o, .int .i64 m, .string s, .slice A l.length cap] 25)) wr) (fun _ i _ => l.length - (intOf i).toNat)
  case atStart => exact ⟨0, _, by omega, rfl, rfl, by omega, by omega, Lib.hid rfl, Ext.refl _⟩
  case round =>
    obtain ⟨k, q, hk, rfl, rfl, hq1, hq2, HH, hb⟩ := hrel
    have hw : Ext w wr := ((Ext.refl _).alloc _).trans hb
    by_cases hlt : k < l.length
    · obtain ⟨rfl, hSb⟩ := hl3'.out (by omega)
      obtain ⟨A1, cap1, b1, off1, c0, c1, c2, c3, hr', -⟩ := Ex.at (hm'.out.ext (fun _ => hSb) hw) hlt
      have hr2 := Lib.hid hr'
      have hSb' := Lib.hid hSb
      clear hr' hSb
      have hle := levelsL_mem l 0 l[k] (List.getElem_mem hlt)
      have hll := levels_le l[k]
      go_wp2_with fail
      refine (ih l[k] (List.getElem_mem hlt) S _ _ (hr2.out.ext (by repeat' first | exact Ext.refl _ | assumption | apply Ext.alloc | apply Ext.drew | apply Ext.drewN | (refine Ext.trans ?_ (by assumption)))) (by omega)).mono ?_
      rintro r w1 ⟨rfl, he⟩
      have HH2 := Lib.hid (HH.out.trans (by rw [List.drop_eq_getElem_cons hlt, levelsL]))
      clear HH
      go_wp2_with fail
      go_roundw
      case rel => exact ⟨k + 1, max q (levels l[k]), by omega, by go_num, by first | rfl | go_num | (simp [Int.max_def]), by omega, by omega, HH2, (by repeat' first | exact Ext.refl _ | assumption | apply Ext.alloc | apply Ext.drew | apply Ext.drewN | (refine Ext.trans ?_ (by assumption)))⟩
      case measure => simp [intOf]; omega
    · have hkl : k = l.length := by omega
      subst hkl
      have hq3 : levelsL l 0 = q := by rw [HH.out]; simp [levelsL]
      have hq4 := Lib.hid hq3
      have hq5 : q ≤ 999999 := by omega
      clear hq3
      go_wp2_with fail
      go_ret
      exact ⟨ret_int (by rw [H.out, hq4.out]), hw⟩

set_option maxHeartbeats 400000 in
theorem pick_any (l : List Int) (n : Int) (S : Nat → Prop) (v : Value) (w : World) (hr : Rd w S (.sl (l.map D.int)) [v]) :
    Calls Try.prog 102 #[v, .int .i64 n] w fun r w' => Answer (pickT l n) r ∧ Ext w w' := by
  obtain ⟨A, cap, b, off, rfl, hl1, hl2, hl3, hm⟩ := Rd.sl_open hr
  simp only [List.length_map] at *
  by_cases hn : n < 0 ∨ (l.length : Int) ≤ n
  · have H := Lib.hid (show pickT l n = none by
      unfold pickT; split
      · rfl
      · rw [List.getElem?_eq_none (by omega)])
    clear hr hm hl3
    rcases hn with hn | hn
    · go_enter Try.func102, Try.ntmps102
      go_wp2_with fail
      go_ret2
      exact ⟨by rw [H.out]; exact answer_none, Ext.refl _⟩
    · by_cases h0 : n < 0
      all_goals
        go_enter Try.func102, Try.ntmps102
        go_wp2_with fail
        go_ret2
        exact ⟨by rw [H.out]; exact answer_none, Ext.refl _⟩
  · obtain ⟨k, rfl⟩ := Int.eq_ofNat_of_zero_le (show 0 ≤ n by omega)
    have hlt : k < l.length := by omega
    obtain ⟨rfl, hSb⟩ := hl3 (by omega)
    have c0 := ints_at hm hlt
    have hn1 : ¬ l.length ≤ k := by omega
    have hn2 : ¬ (k : Int) < 0 := by omega
    have H := Lib.hid (show (if kindB l[k] then some l[k] else none) = pickT l (k : Int) by
      simp [pickT, List.getElem?_eq_getElem hlt, show ¬ ((k : Int) < 0) by omega])
    clear hm hSb hr hl3 hn
    have hc := kind_any l[k]
    cases hp : kindB l[k] with
    | true =>
      rw [hp] at hc H
      have hc' := Lib.hid hc; clear hc hp
      go_enter Try.func102, Try.ntmps102
      go_wp2_with fail
      refine (hc'.out _).mono ?_
      rintro r w1 ⟨rfl, he⟩
      have c0 := he.at c0
      go_wp2_with fail
      go_ret2
      exact ⟨answer_of H.out, he⟩
    | false =>
      rw [hp] at hc H
      have hc' := Lib.hid hc; clear hc hp
      go_enter Try.func102, Try.ntmps102
      go_wp2_with fail
      refine (hc'.out _).mono ?_
      rintro r w1 ⟨rfl, he⟩
      go_wp2_with fail
      go_ret2
      exact ⟨answer_of H.out, he⟩

set_option maxHeartbeats 400000 in
theorem other_any (t k : Int) (b : Nat) (w : World) (h : w.cell? ⟨b, 0, none⟩ = some (.int .i64 t)) :
    Calls Try.prog 104 #[.int .i64 k, .pointer (some ⟨b, 0, none⟩)] w fun r w' => r = .returned (.bool (k != t)) ∧ Ext w w' := by
  go_enter Try.func104, Try.ntmps104
  go_wp2_with fail
  go_ret
  exact ⟨rfl, Ext.refl _⟩

/-- all of a list are t, and there are n -/
def allAre (ts : List Int) (t : Int) (n : Int) : Bool := decide ((ts.length : Int) = n) && !ts.any (· != t)

set_option maxHeartbeats 1000000 in
theorem all_any (ts : List Int) (t n : Int) (b : Nat) (S : Nat → Prop) (v : Value) (w : World) (h : w.cell? ⟨b, 0, none⟩ = some v) (hr : Rd w S (.sl (ts.map D.int)) [v]) :
    Calls Try.prog 103 #[.int .i64 t, .int .i64 n, .pointer (some ⟨b, 0, none⟩)] w fun r w' => r = .returned (.bool (allAre ts t n)) ∧ Ext w w' := by
  obtain ⟨A, cap, b1, off, rfl, hl1, hl2, hl3, hm⟩ := Rd.sl_open hr
  simp only [List.length_map] at *
  have hr' := Lib.hid hr
  clear hr hl3 hm
  have hcs := World.block_lt_of_cell? w _ h
  by_cases hn : (ts.length : Int) = n
  · have H := Lib.hid (show allAre ts t n = !ts.any (· != t) by unfold allAre; rw [decide_eq_true hn]; rfl)
    subst hn
    have hc : ∀ w', Ext (w.alloc (.cells #[.int .i64 t] 3)) w' → Calls Try.prog 61 #[.slice A ts.length cap, .func (.func 104) #[] #[.pointer (some ⟨w.heap.size, 0, none⟩)]] w' fun r w'' => r = .returned (.bool (ts.any (· != t))) ∧ Ext w' w'' := fun w' hw' =>
      containsFunc_any ts (· != t) _ (fun a w => by kernel_rfl) _ S _ w' ((hr'.out.ext ((Ext.refl _).alloc _)).ext hw') (fun x w'' hw'' => other_any t x w.heap.size w'' ((hw'.trans hw'').at (by go_simp)))
    have hc' := Lib.hid hc; clear hc
    go_enter Try.func103, Try.ntmps103
    go_wp2_with fail
    refine (hc'.out _ (Ext.refl _)).mono ?_
    rintro r w1 ⟨rfl, he⟩
    go_wp2_with fail
    go_ret
    exact ⟨ret_bool (by rw [H.out]), (by repeat' first | exact Ext.refl _ | assumption | apply Ext.alloc | apply Ext.drew | apply Ext.drewN | (refine Ext.trans ?_ (by assumption)))⟩
  · have H := Lib.hid (show allAre ts t n = false by unfold allAre; rw [decide_eq_false hn]; rfl)
    have hn2 : ((ts.length : Int) == n) = false := by simp [hn]
    go_enter Try.func103, Try.ntmps103
    go_wp2_with fail
    go_ret
    exact ⟨ret_bool (by rw [H.out]), (by repeat' first | exact Ext.refl _ | assumption | apply Ext.alloc | apply Ext.drew | apply Ext.drewN | (refine Ext.trans ?_ (by assumption)))⟩

end Go.Proofs.Ytmhelkhmgbbfhaa

/- Walks: Replace. -/
namespace Go.Proofs.Ytmhelkhmgbbfhaa
open Go.RowKit Go.Lib

def replP (e : Ex) (L : List Ex) : Option Ex := match putP 3 L e with
  | some x => if 12 < levels x then none else some x
  | none => none

theorem levelsL_sup {K : Int} : ∀ (l : List Ex) (n : Int), (∀ e ∈ l, levels e ≤ K) → n ≤ K → levelsL l n ≤ K
  | [], n, _, h => by rw [levelsL]; exact h
  | e :: l, n, h, hn => by
    rw [levelsL]
    exact levelsL_sup l _ (fun x hx => h x (by simp [hx])) (by have := h e (by simp); omega)
theorem putPs_mem {op : Int} {L : List Ex} : ∀ (l : List Ex) {ys : List Ex}, putPs op L l = some ys → ∀ y ∈ ys, ∃ e ∈ l, putP op L e = some y
  | [], ys, h, y, hy => by rw [putPs] at h; cases h; cases hy
  | e :: l, ys, h, y, hy => by
    rw [putPs] at h
    cases he : putP op L e with
    | none => rw [he] at h; cases h
    | some x =>
      rw [he] at h
      cases hl : putPs op L l with
      | none => rw [hl] at h; cases h
      | some xs =>
        rw [hl] at h; cases h
        rcases List.mem_cons.1 hy with rfl | hy
        · exact ⟨e, by simp, he⟩
        · obtain ⟨e', h1, h2⟩ := putPs_mem l hl y hy
          exact ⟨e', by simp [h1], h2⟩
theorem putP_levels {op : Int} {L : List Ex} {K : Int} (hK : 0 ≤ K) (hL : ∀ y ∈ L, levels y ≤ K) (e : Ex) : ∀ {x : Ex}, putP op L e = some x → levels x ≤ levels e + K := by
  induction e using Ex.ind with
  | h o n s l ih =>
    intro x h
    rw [putP] at h
    split at h
    · split at h
      · cases h
      · have := hL x (List.mem_of_getElem? h)
        have := levels_le (.mk o n s l)
        omega
    · cases hl : putPs op L l with
      | none => rw [hl] at h; cases h
      | some ys =>
        rw [hl] at h; cases h
        have h0 := levelsL_le l 0 0 (by omega) (by omega)
        have := levelsL_sup (K := levelsL l 0 + K) ys 0 (fun y hy => by
          obtain ⟨e, he, hy2⟩ := putPs_mem l hl y hy
          have := ih e he hy2
          have := levelsL_mem l 0 e he
          omega) (by omega)
        rw [levels, levels]; omega

set_option maxRecDepth 10000 in
set_option maxHeartbeats 2000000 in
theorem repl_any (L : List Ex) (hLp : ∀ x ∈ L, parts x ≤ 400000) (e : Ex) (S : Nat → Prop) (cs : List Value) (vL : Value) (w : World) (hr : Rd w S e.d cs) (hL : Rd w S (.sl (L.map Ex.d)) [vL]) (hpb : parts e ≤ 400000) :
    Calls Try.prog 19 #[.agg cs.toArray, vL] w fun r w' => RetX w w' (replP e L) r ∧ Ext w w' := by
  have hlev : ∀ x, putP 3 L e = some x → levels x ≤ 1000000 := fun x hx => by
    have := putP_levels (K := 400000) (by omega) (fun y hy => by have := hLp y hy; have := levels_le y; omega) e hx
    have := levels_le e
    omega
  have hput := fun w' h1 h2 => put_any 3 L (fun x hx => by have := hLp x hx; omega) e S cs vL w' h1 h2 (by omega)
  obtain ⟨A, cap, b, off, rfl, hl1, hl2, hl3, hm⟩ := Ex.open hr
  obtain ⟨AL, capL, bL, offL, rfl, hL1, hL2, -, -⟩ := Rd.sl_open hL
  simp only [List.length_map] at *
  have hr' := Lib.hid hr; have hL' := Lib.hid hL
  clear hr hl3 hm hL hLp
  cases hp : putP 3 L e with
  | none =>
    have hP := Lib.hid (show replP e L = none by unfold replP; rw [hp])
    rw [hp] at hput
    have hput' := Lib.hid hput
    clear hput hp hlev
    go_enter Try.func19, Try.ntmps19
    go_wp2_with fail
    generalize hWe : World.alloc (World.alloc w _) _ = W
    have hR0 : OutAt W (w.heap.size + 1) 0 0 ByteArray.empty (.slice none 0 0) := by rw [← hWe]; clear hWe; refine ⟨?_, ?_, ?_, ?_, ?_, ?_, ?_, ?_⟩ <;> go_simp <;> rfl
    have hwW : Ext w W := by rw [← hWe]; exact (by repeat' first | exact Ext.refl _ | assumption | apply Ext.alloc | apply Ext.drew | apply Ext.drewN | (refine Ext.trans ?_ (by assumption)))
    clear hWe
    refine (RetX.no (hput'.out _ (hr'.out.ext hwW) (hL'.out.ext hwW))).mono ?_
    rintro r w2 ⟨⟨A2, cap2, rfl⟩, he⟩
    obtain ⟨f0, f1, f2, f3, z0, z1, z2, z3⟩ := hR0.ext he
    have hlt2 := World.block_lt_of_cell? w2 _ f0
    have hw2 : Ext w w2 := hwW.trans he
    clear hR0 he
    have q0 : ∀ o1, (w2.alloc o1).cell? _ = some _ := fun o1 => ((Ext.refl w2).alloc o1).at f0
    have q1 : ∀ o1, (w2.alloc o1).cell? _ = some _ := fun o1 => ((Ext.refl w2).alloc o1).at f1
    have q2 : ∀ o1, (w2.alloc o1).cell? _ = some _ := fun o1 => ((Ext.refl w2).alloc o1).at f2
    have q3 : ∀ o1, (w2.alloc o1).cell? _ = some _ := fun o1 => ((Ext.refl w2).alloc o1).at f3
    have y0 : ∀ o1, (w2.alloc o1).frozen? _ = false := fun o1 => (((Ext.refl w2).alloc o1).frozens _ _ hlt2).trans z0
    have y1 : ∀ o1, (w2.alloc o1).frozen? _ = false := fun o1 => (((Ext.refl w2).alloc o1).frozens _ _ hlt2).trans z1
    have y2 : ∀ o1, (w2.alloc o1).frozen? _ = false := fun o1 => (((Ext.refl w2).alloc o1).frozens _ _ hlt2).trans z2
    have y3 : ∀ o1, (w2.alloc o1).frozen? _ = false := fun o1 => (((Ext.refl w2).alloc o1).frozens _ _ hlt2).trans z3
    go_wp2_with fail
    refine bodyPost_ret (v := .tuple #[.agg #[.int .i64 0, .int .i64 0, .string ByteArray.empty, .slice none 0 0], .bool false]) (by simp [results, Try.results19, go_sem, f0, f1, f2, f3, q0, q1, q2, q3, hlt2, Nat.ne_of_lt hlt2]; rfl) rfl ⟨?_, ((((hw2.setCell (by dsimp only; omega) _).setCell (by dsimp only; omega) _).setCell (by dsimp only; omega) _).setCell (by dsimp only; omega) _).alloc _⟩
    rw [hP.out]
    exact ⟨none, 0, rfl, rd_leaf _ _ _ _ _⟩
  | some x =>
    rw [hp] at hput
    have hput' := Lib.hid hput
    have hlx := hlev x hp
    have hlvx := fun S cs w h => levels_any x S cs w h hlx
    have hlvx' := Lib.hid hlvx
    have hP0 := Lib.hid (show replP e L = if 12 < levels x then none else some x by unfold replP; rw [hp])
    have hl0 := levels_le x
    clear hput hp hlev hlvx
    generalize hLV : levels x = LV at *
    clear hLV
    go_enter Try.func19, Try.ntmps19
    go_wp2_with fail
    generalize hWe : World.alloc (World.alloc w _) _ = W
    have hR0 : OutAt W (w.heap.size + 1) 0 0 ByteArray.empty (.slice none 0 0) := by rw [← hWe]; clear hWe; refine ⟨?_, ?_, ?_, ?_, ?_, ?_, ?_, ?_⟩ <;> go_simp <;> rfl
    have hWs : W.heap.size = w.heap.size + 2 := by rw [← hWe]; clear hWe; go_simp
    have hwW : Ext w W := by rw [← hWe]; exact (by repeat' first | exact Ext.refl _ | assumption | apply Ext.alloc | apply Ext.drew | apply Ext.drewN | (refine Ext.trans ?_ (by assumption)))
    clear hWe
    refine (RetX.yes (hput'.out _ (hr'.out.ext hwW) (hL'.out.ext hwW))).mono ?_
    rintro r w2 ⟨⟨A2, cap2, rfl, hc⟩, he⟩
    have hc' := Lib.hid hc
    have hR2 := Lib.hid (hR0.ext he)
    have hw2 : Ext w w2 := hwW.trans he
    clear hR0 he hc
    go_wp2_with fail
    refine (hlvx'.out _ _ _ (hc'.out.up ((Ext.refl w2).alloc _))).mono ?_
    rintro r w3 ⟨rfl, he3⟩
    have he4 : Ext w2 w3 := ((Ext.refl w2).alloc _).trans he3
    have g0 : w3.cell? ⟨w2.heap.size, 0, none⟩ = some (.int .i64 x.op) := he3.at (by go_simp)
    have g1 : w3.cell? ⟨w2.heap.size, 1, none⟩ = some (.int .i64 x.n) := he3.at (by go_simp)
    have g2 : w3.cell? ⟨w2.heap.size, 2, none⟩ = some (.string x.s) := he3.at (by go_simp)
    have g3 : w3.cell? ⟨w2.heap.size, 3, none⟩ = some (.slice A2 x.args.length cap2) := he3.at (by go_simp)
    have hc3 := Lib.hid (hc'.out.up he4)
    obtain ⟨f0, f1, f2, f3, z0, z1, z2, z3⟩ := hR2.out.ext he4
    have hw3 : Ext w w3 := hw2.trans he4
    clear he3 he4
    by_cases h12 : 12 < LV
    · have hP := Lib.hid (hP0.out.trans (if_pos h12))
      go_wp2_with fail
      refine bodyPost_ret (v := .tuple #[.agg #[.int .i64 0, .int .i64 0, .string ByteArray.empty, .slice none 0 0], .bool false]) (by simp [results, Try.results19, go_sem, f0, f1, f2, f3]; rfl) rfl ⟨?_, (((hw3.setCell (by dsimp only; omega) _).setCell (by dsimp only; omega) _).setCell (by dsimp only; omega) _).setCell (by dsimp only; omega) _⟩
      rw [hP.out]
      exact ⟨none, 0, rfl, rd_leaf _ _ _ _ _⟩
    · have hP := Lib.hid (hP0.out.trans (if_neg h12))
      have h12' : LV ≤ 12 := by omega
      go_wp2_with fail
      refine bodyPost_ret (v := .tuple #[.agg #[.int .i64 x.op, .int .i64 x.n, .string x.s, .slice A2 x.args.length cap2], .bool true]) (by simp [results, Try.results19, go_sem, f0, f1, f2, f3]; done) rfl ⟨?_, (((hw3.setCell (by dsimp only; omega) _).setCell (by dsimp only; omega) _).setCell (by dsimp only; omega) _).setCell (by dsimp only; omega) _⟩
      rw [hP.out]
      exact ⟨A2, cap2, rfl, ((((hc3.out.set (by dsimp only; omega) _).set (by dsimp only; omega) _).set (by dsimp only; omega) _).set (by dsimp only; omega) _).low (by omega)⟩

set_option maxRecDepth 10000 in
set_option maxHeartbeats 2000000 in
theorem rrepl_any (L : List Ex) (hLp : ∀ x ∈ L, parts x ≤ 400000) (e : Ex) (S : Nat → Prop) (cs : List Value) (vL : Value) (w : World) (hr : Rd w S e.d cs) (hL : Rd w S (.sl (L.map Ex.d)) [vL]) (hpb : parts e ≤ 400000) :
    Calls Try.prog 20 #[.agg cs.toArray, vL] w fun r w' => RetX w w' (replP e L) r ∧ Ext w w' := by
  have hlev : ∀ x, putP 3 L e = some x → levels x ≤ 1000000 := fun x hx => by
    have := putP_levels (K := 400000) (by omega) (fun y hy => by have := hLp y hy; have := levels_le y; omega) e hx
    have := levels_le e
    omega
  have hput := fun w' h1 h2 => rput_any 3 L (fun x hx => by have := hLp x hx; omega) e S cs vL w' h1 h2 (by omega)
  obtain ⟨A, cap, b, off, rfl, hl1, hl2, hl3, hm⟩ := Ex.open hr
  obtain ⟨AL, capL, bL, offL, rfl, hL1, hL2, -, -⟩ := Rd.sl_open hL
  simp only [List.length_map] at *
  have hr' := Lib.hid hr; have hL' := Lib.hid hL
  clear hr hl3 hm hL hLp
  cases hp : putP 3 L e with
  | none =>
    have hP := Lib.hid (show replP e L = none by unfold replP; rw [hp])
    rw [hp] at hput
    have hput' := Lib.hid hput
    clear hput hp hlev
    go_enter Try.func20, Try.ntmps20
    go_wp2_with fail
    generalize hWe : World.alloc (World.alloc w _) _ = W
    have hR0 : OutAt W (w.heap.size + 1) 0 0 ByteArray.empty (.slice none 0 0) := by rw [← hWe]; clear hWe; refine ⟨?_, ?_, ?_, ?_, ?_, ?_, ?_, ?_⟩ <;> go_simp <;> rfl
    have hwW : Ext w W := by rw [← hWe]; exact (by repeat' first | exact Ext.refl _ | assumption | apply Ext.alloc | apply Ext.drew | apply Ext.drewN | (refine Ext.trans ?_ (by assumption)))
    clear hWe
    refine (RetX.no (hput'.out _ (hr'.out.ext hwW) (hL'.out.ext hwW))).mono ?_
    rintro r w2 ⟨⟨A2, cap2, rfl⟩, he⟩
    obtain ⟨f0, f1, f2, f3, z0, z1, z2, z3⟩ := hR0.ext he
    have hlt2 := World.block_lt_of_cell? w2 _ f0
    have hw2 : Ext w w2 := hwW.trans he
    clear hR0 he
    have q0 : ∀ o1, (w2.alloc o1).cell? _ = some _ := fun o1 => ((Ext.refl w2).alloc o1).at f0
    have q1 : ∀ o1, (w2.alloc o1).cell? _ = some _ := fun o1 => ((Ext.refl w2).alloc o1).at f1
    have q2 : ∀ o1, (w2.alloc o1).cell? _ = some _ := fun o1 => ((Ext.refl w2).alloc o1).at f2
    have q3 : ∀ o1, (w2.alloc o1).cell? _ = some _ := fun o1 => ((Ext.refl w2).alloc o1).at f3
    have y0 : ∀ o1, (w2.alloc o1).frozen? _ = false := fun o1 => (((Ext.refl w2).alloc o1).frozens _ _ hlt2).trans z0
    have y1 : ∀ o1, (w2.alloc o1).frozen? _ = false := fun o1 => (((Ext.refl w2).alloc o1).frozens _ _ hlt2).trans z1
    have y2 : ∀ o1, (w2.alloc o1).frozen? _ = false := fun o1 => (((Ext.refl w2).alloc o1).frozens _ _ hlt2).trans z2
    have y3 : ∀ o1, (w2.alloc o1).frozen? _ = false := fun o1 => (((Ext.refl w2).alloc o1).frozens _ _ hlt2).trans z3
    go_wp2_with fail
    refine bodyPost_ret (v := .tuple #[.agg #[.int .i64 0, .int .i64 0, .string ByteArray.empty, .slice none 0 0], .bool false]) (by simp [results, Try.results20, go_sem, f0, f1, f2, f3, q0, q1, q2, q3, hlt2, Nat.ne_of_lt hlt2]; rfl) rfl ⟨?_, ((((hw2.setCell (by dsimp only; omega) _).setCell (by dsimp only; omega) _).setCell (by dsimp only; omega) _).setCell (by dsimp only; omega) _).alloc _⟩
    rw [hP.out]
    exact ⟨none, 0, rfl, rd_leaf _ _ _ _ _⟩
  | some x =>
    rw [hp] at hput
    have hput' := Lib.hid hput
    have hlx := hlev x hp
    have hlvx := fun S cs w h => rlevels_any x S cs w h hlx
    have hlvx' := Lib.hid hlvx
    have hP0 := Lib.hid (show replP e L = if 12 < levels x then none else some x by unfold replP; rw [hp])
    have hl0 := levels_le x
    clear hput hp hlev hlvx
    generalize hLV : levels x = LV at *
    clear hLV
    go_enter Try.func20, Try.ntmps20
    go_wp2_with fail
    generalize hWe : World.alloc (World.alloc w _) _ = W
    have hR0 : OutAt W (w.heap.size + 1) 0 0 ByteArray.empty (.slice none 0 0) := by rw [← hWe]; clear hWe; refine ⟨?_, ?_, ?_, ?_, ?_, ?_, ?_, ?_⟩ <;> go_simp <;> rfl
    have hWs : W.heap.size = w.heap.size + 2 := by rw [← hWe]; clear hWe; go_simp
    have hwW : Ext w W := by rw [← hWe]; exact (by repeat' first | exact Ext.refl _ | assumption | apply Ext.alloc | apply Ext.drew | apply Ext.drewN | (refine Ext.trans ?_ (by assumption)))
    clear hWe
    refine (RetX.yes (hput'.out _ (hr'.out.ext hwW) (hL'.out.ext hwW))).mono ?_
    rintro r w2 ⟨⟨A2, cap2, rfl, hc⟩, he⟩
    have hc' := Lib.hid hc
    have hR2 := Lib.hid (hR0.ext he)
    have hw2 : Ext w w2 := hwW.trans he
    clear hR0 he hc
    go_wp2_with fail
    refine (hlvx'.out _ _ _ (hc'.out.up ((Ext.refl w2).alloc _))).mono ?_
    rintro r w3 ⟨rfl, he3⟩
    have he4 : Ext w2 w3 := ((Ext.refl w2).alloc _).trans he3
    have g0 : w3.cell? ⟨w2.heap.size, 0, none⟩ = some (.int .i64 x.op) := he3.at (by go_simp)
    have g1 : w3.cell? ⟨w2.heap.size, 1, none⟩ = some (.int .i64 x.n) := he3.at (by go_simp)
    have g2 : w3.cell? ⟨w2.heap.size, 2, none⟩ = some (.string x.s) := he3.at (by go_simp)
    have g3 : w3.cell? ⟨w2.heap.size, 3, none⟩ = some (.slice A2 x.args.length cap2) := he3.at (by go_simp)
    have hc3 := Lib.hid (hc'.out.up he4)
    obtain ⟨f0, f1, f2, f3, z0, z1, z2, z3⟩ := hR2.out.ext he4
    have hw3 : Ext w w3 := hw2.trans he4
    clear he3 he4
    by_cases h12 : 12 < LV
    · have hP := Lib.hid (hP0.out.trans (if_pos h12))
      go_wp2_with fail
      refine bodyPost_ret (v := .tuple #[.agg #[.int .i64 0, .int .i64 0, .string ByteArray.empty, .slice none 0 0], .bool false]) (by simp [results, Try.results20, go_sem, f0, f1, f2, f3]; rfl) rfl ⟨?_, (((hw3.setCell (by dsimp only; omega) _).setCell (by dsimp only; omega) _).setCell (by dsimp only; omega) _).setCell (by dsimp only; omega) _⟩
      rw [hP.out]
      exact ⟨none, 0, rfl, rd_leaf _ _ _ _ _⟩
    · have hP := Lib.hid (hP0.out.trans (if_neg h12))
      have h12' : LV ≤ 12 := by omega
      go_wp2_with fail
      refine bodyPost_ret (v := .tuple #[.agg #[.int .i64 x.op, .int .i64 x.n, .string x.s, .slice A2 x.args.length cap2], .bool true]) (by simp [results, Try.results20, go_sem, f0, f1, f2, f3]; done) rfl ⟨?_, (((hw3.setCell (by dsimp only; omega) _).setCell (by dsimp only; omega) _).setCell (by dsimp only; omega) _).setCell (by dsimp only; omega) _⟩
      rw [hP.out]
      exact ⟨A2, cap2, rfl, ((((hc3.out.set (by dsimp only; omega) _).set (by dsimp only; omega) _).set (by dsimp only; omega) _).set (by dsimp only; omega) _).low (by omega)⟩

end Go.Proofs.Ytmhelkhmgbbfhaa

/- Regions that draw their order: reads (also late ones) and operations that stand alone, in any sequence; then a tail in one order. -/
namespace Go.Proofs.Ytmhelkhmgbbfhaa
open Go.RowKit Go.Lib

section
variable {P : Program} {ops : Array Oper} {md : Region.Mode} {C : World → Prop} {Q : Exit → Act → World → Prop}

/-- true: a read; false: an operation that stands alone -/
def wpMix (P : Program) (ops : Array Oper) (C : World → Prop) (Q : Exit → Act → World → Prop) (fin : Act → World → Prop) : List Bool → List Oper → Act → World → Prop
  | true :: fl, o :: rest, a, w => ∃ v, YieldsIf P ops C o v a ∧ wpMix P ops C Q fin fl rest (a.put o.dst v) w
  | false :: fl, o :: rest, a, w => if Region.wanted o (yielded ops a.tmps) = true then Oper.wp P o a w (fun a' w' => C w' ∧ wpMix P ops C Q fin fl rest a' w') Q else C w ∧ wpMix P ops C Q fin fl rest (a.put o.dst undef) w
  | _, [], a, w => fin a w
  | [], _ :: _, _, _ => False
def mixB (md : Region.Mode) (ops : Array Oper) (g m : Nat) : List Bool → Nat → Array Bool → Bool
  | [], k, listed => decide (k = m) && Region.seqB md ops g m listed
  | true :: fl, k, listed => (Region.ready md ops listed).contains k && Region.free md ops listed k && mixB md ops g m fl (k + 1) (listed.setIfInBounds k true)
  | false :: fl, k, listed => decide (Region.ready md ops listed = [k]) && mixB md ops g m fl (k + 1) (listed.setIfInBounds k true)

theorem wpHeadW_mix {m g : Nat} {fin : Act → World → Prop} (hsel : Region.noSelect ops = true) (hs : Region.sinkB md ops m = true) (hc : Region.chainB md ops m = true) (hm : m < ops.size)
    (hQ : ∀ c a d u w, Q (.panic c) (Act.put a d u) w → Q (.panic c) a w) :
    ∀ (fl : List Bool) (l : List Oper) (k : Nat) (listed : Array Bool) (a : Act) (w : World), fl.length = l.length → (∀ j, j < l.length → l[j]? = ops[k + j]?) → k + l.length = m → HeadInv md ops m listed → C w →
    mixB md ops g m fl k listed = true → wpMix P ops C Q fin fl l a w →
    wpHeadW P md ops C Q m (fun listed' a' w' => Region.seqB md ops g m listed' = true ∧ fin a' w') l.length listed a w
  | [], [], k, listed, a, w, _, _, hk, _, _, hB, h => by
    simp only [mixB, Bool.and_eq_true, decide_eq_true_eq] at hB
    exact ⟨hB.2, by simpa [wpMix] using h⟩
  | [], _ :: _, _, _, _, _, hl, _, _, _, _, _, _ => by simp at hl
  | _ :: _, [], _, _, _, _, hl, _, _, _, _, _, _ => by simp at hl
  | true :: fl, o :: l, k, listed, a, w, hlen, hl, hk, inv, hC, hB, h => by
    have h0 : ops[k]? = some o := by simpa using (hl 0 (by simp)).symm
    simp only [mixB, Bool.and_eq_true] at hB
    obtain ⟨⟨hr, hf⟩, hB'⟩ := hB
    have hkm : k < m := by simp only [List.length_cons] at hk; omega
    have hr' : k ∈ Region.ready md ops listed := by simpa using hr
    rw [wpMix] at h
    obtain ⟨v, hy, hK⟩ := h
    exact wpHeadW_first h0 (Region.noSelect_spec hsel) hs hc hm hkm hQ (fun listed' a' w' hL => seqB_ready hL.1) l.length listed a w inv (Region.free_spec h0 hf) hr' hy hC
      (wpHeadW_mix hsel hs hc hm hQ fl l (k + 1) _ _ w (by simpa using hlen) (fun j hj => by have := hl (j + 1) (by simp; omega); simpa [Nat.add_assoc, Nat.add_comm 1 j] using this) (by simp only [List.length_cons] at hk; omega) (inv.set hr' hkm) hC hB' hK)
  | false :: fl, o :: l, k, listed, a, w, hlen, hl, hk, inv, hC, hB, h => by
    have h0 : ops[k]? = some o := by simpa using (hl 0 (by simp)).symm
    simp only [mixB, Bool.and_eq_true, decide_eq_true_eq] at hB
    have hkm : k < m := by simp only [List.length_cons] at hk; omega
    have hr' : k ∈ Region.ready md ops listed := by rw [hB.1]; simp
    have hnext := fun a' w' (hC' : C w') h4 => wpHeadW_mix (g := g) (fin := fin) hsel hs hc hm hQ fl l (k + 1) (listed.setIfInBounds k true) a' w' (by simpa using hlen) (fun j hj => by have := hl (j + 1) (by simp; omega); simpa [Nat.add_assoc, Nat.add_comm 1 j] using this) (by simp only [List.length_cons] at hk; omega) (inv.set hr' hkm) hC' hB.2 h4
    refine ⟨fun h1 => (by rw [hB.1] at h1; cases h1), fun i hi => ?_⟩
    rw [hB.1] at hi
    obtain rfl : i = k := by simpa using hi
    refine ⟨hkm, wpOp_step h0 fun K' hK => ?_⟩
    rw [wpMix] at h
    by_cases hw : Region.wanted o (yielded ops a.tmps) = true
    · rw [if_pos hw] at h ⊢
      refine Oper.wp_mono (fun a1 w1 h1 => hK a1 w1 ⟨h1.1, hnext a1 w1 h1.1 h1.2⟩) h
    · rw [if_neg hw] at h ⊢
      exact hK _ _ ⟨h.1, hnext _ _ h.1 h.2⟩

theorem wp_region_mix {id : Nat} {a : Act} {w : World} {l : List Oper} (fl : List Bool) (hfl : fl.length ≤ l.length) (hf : P.follows .mixedOrders = true) (hB : Region.lexTailB .any l.toArray fl.length = true)
    (hB2 : mixB .any l.toArray (l.length - fl.length) fl.length fl 0 (Array.replicate l.toArray.size false) = true)
    (h : wpMix P l.toArray (fun w' => ∃ x : ExtW w, w' = x.val) (NoPanic Q) (fun a'' w'' => wpList P l.toArray (NoPanic Q) (l.drop fl.length) a'' w'') fl (l.take fl.length) a w.drew) : (Code.region id l.toArray true).wp P Q a w := by
  refine wp_region_noPanic ?_
  simp only [Region.lexTailB, Bool.and_eq_true, decide_eq_true_eq] at hB
  obtain ⟨⟨⟨⟨hsel, hm⟩, hs⟩, hc⟩, -⟩ := hB
  have htl : (l.take fl.length).length = fl.length := by simp; omega
  have inv0 : HeadInv .any l.toArray fl.length (Array.replicate l.toArray.size false) :=
    ⟨by simp, fun j oj _ hl => (by rw [getD_replicate_false] at hl; cases hl), fun t _ ht => getD_in (by simpa using ht) (getD_replicate_false _ _)⟩
  have H := wpHeadW_mix (P := P) (Q := NoPanic Q) (C := fun w' => ∃ x : ExtW w, w' = x.val) (md := .any) (m := fl.length) (g := l.length - fl.length) (fin := fun a'' w'' => wpList P l.toArray (NoPanic Q) (l.drop fl.length) a'' w'') hsel hs hc hm (fun _ _ _ _ _ h => h)
    fl (l.take fl.length) 0 _ a w.drew htl.symm (fun j hj => by rw [htl] at hj; simp [hj]) (by simpa using htl) inv0 ⟨⟨w.drew, (Ext.refl w).drew⟩, rfl⟩ hB2 h
  refine wp_region_any hf ?_
  have := wpAny_of_headW (Q := NoPanic Q) (g := l.length - fl.length) (fun listed a' w' hL => by
    have := wpAny_of_seq (md := .any) (Q' := NoPanic Q) (l.drop fl.length) fl.length listed a' w' (fun j => by simp [List.getElem?_drop]) (by simpa using hL.1) hL.2
    simpa using this) _ _ _ _ H
  rw [htl, show fl.length + (l.length - fl.length) = l.toArray.size by simp; omega] at this
  exact this
theorem wpMix_read {fin : Act → World → Prop} {fl : List Bool} {a : Act} {w : World} {o : Oper} {rest : List Oper} {v : Value} (hw : Region.wanted o (yielded ops a.tmps) = true)
    (hy : ∀ w, C w → (execOp a.eval o).run P w = .ok (.value v) w) (h : wpMix P ops C Q fin fl rest (a.put o.dst v) w) : wpMix P ops C Q fin (true :: fl) (o :: rest) a w := by
  rw [wpMix]; exact ⟨v, .inl ⟨hw, hy⟩, h⟩
theorem wpMix_do {fin : Act → World → Prop} {fl : List Bool} {a : Act} {w : World} {o : Oper} {rest : List Oper} (hw : Region.wanted o (yielded ops a.tmps) = true)
    (h : ∀ K' : Act → World → Prop, Shut (∀ a w, C w → wpMix P ops C Q fin fl rest a w → K' a w) → Oper.wp P o a w K' Q) : wpMix P ops C Q fin (false :: fl) (o :: rest) a w := by
  rw [wpMix, if_pos hw]
  exact h _ (fun a w h1 h2 => ⟨h1, h2⟩)
theorem wpMix_end {fin : Act → World → Prop} {a : Act} {w : World} (h : fin a w) : wpMix P ops C Q fin [] [] a w := by rw [wpMix]; exact h
end
end Go.Proofs.Ytmhelkhmgbbfhaa

/- Walks: the number of parts, of the reference; inlining, on plain data. -/
namespace Go.Proofs.Ytmhelkhmgbbfhaa
open Go.RowKit Go.Lib

theorem partsL_take (l : List Ex) (k : Nat) (h : k < l.length) : partsL (l.take (k + 1)) = partsL (l.take k) + parts l[k] := by
  induction l generalizing k with
  | nil => simp at h
  | cons e l ih =>
    cases k with
    | zero => simp [partsL]
    | succ k => rw [List.take_succ_cons, List.take_succ_cons, partsL, partsL, ih k (by simpa using h)]; simp; omega
theorem partsL_take_le (l : List Ex) (k : Nat) : partsL (l.take k) ≤ partsL l := by
  induction l generalizing k with
  | nil => simp
  | cons e l ih =>
    cases k with
    | zero => simp [partsL]
    | succ k => rw [List.take_succ_cons, partsL, partsL]; have := ih k; omega

set_option maxRecDepth 10000 in
set_option maxHeartbeats 2000000 in
theorem rparts_any (e : Ex) : ∀ (S : Nat → Prop) (cs : List Value) (w : World), Rd w S e.d cs → parts e ≤ 1000000 →
    Calls Try.prog 86 #[.agg cs.toArray] w fun r w' => r = .returned (.int .i64 (parts e)) ∧ Ext w w' := by
  induction e using Ex.ind with | h o n s l ih => ?_
  intro S cs w hr hpb
  obtain ⟨A, cap, b, off, rfl, hl1, hl2, hl3, hm⟩ := Ex.open hr
  have ih' := Lib.hid ih
  clear ih
  simp only [Ex.args, Ex.op, Ex.n, Ex.s] at hl1 hl2 hl3 hm ⊢
  rw [parts] at hpb
  have hll : l.length ≤ 1000000 := by have := partsL_len l; omega
  have hl3' := Lib.hid hl3; have hm' := Lib.hid hm
  have H := Lib.hid (show parts (.mk o n s l) = partsL l + 1 by rw [parts])
  clear hr hl3 hm
  go_enter Try.func86, Try.ntmps86
  go_wp2_with fail
  go_loopw [3, 4] (fun x i wr => ∃ (k q : Nat), k ≤ l.length ∧ i = .int .i64 k ∧ x = .int .i64 q ∧ q ≤ 1000000 ∧ Hid (q = partsL (l.take k) + 1) ∧ Ext (w.alloc (.cells #[.int .i64 o, .int .i64 n, .string s, .slice A l.length cap] 25)) wr) (fun _ i _ => l.length - (intOf i).toNat)
  case atStart => exact ⟨0, 1, by omega, rfl, rfl, by omega, Lib.hid (by simp [partsL]), Ext.refl _⟩
  case round =>
    obtain ⟨k, q, hk, rfl, rfl, hq, HH, hb⟩ := hrel
    have e3 : wr.cell? ⟨w.heap.size, 3, none⟩ = some (.slice A l.length cap) := hb.at (by go_simp)
    have hw : Ext w wr := ((Ext.refl _).alloc _).trans hb
    by_cases hlt : k < l.length
    · obtain ⟨rfl, hSb⟩ := hl3'.out (by omega)
      obtain ⟨A1, cap1, b1, off1, c0, c1, c2, c3, hr', -⟩ := Ex.at (hm'.out.ext (fun _ => hSb) hw) hlt
      have hr2 := Lib.hid hr'
      have hSb' := Lib.hid hSb
      have hpk : parts l[k] ≤ 1000000 := by have := partsL_mem l l[k] (List.getElem_mem hlt); omega
      have hqn : q + parts l[k] ≤ 1000000 := by
        have h1 := partsL_take l k hlt; have h2 := partsL_take_le l (k + 1); have h3 := HH.out; omega
      have HH2 := Lib.hid (show q + parts l[k] = partsL (l.take (k + 1)) + 1 by have h1 := partsL_take l k hlt; have h3 := HH.out; omega)
      have hcall := Lib.hid (ih'.out l[k] (List.getElem_mem hlt) S _ wr hr' hpk)
      clear hr' hSb HH
      generalize parts l[k] = NP at *
      go_wp2_with fail
      refine (hcall.out).mono ?_
      rintro r w1 ⟨rfl, he⟩
      go_wp2_with fail
      go_roundw
      case rel => exact ⟨k + 1, q + NP, by omega, by go_num, by go_num, hqn, HH2, hb.trans he⟩
      case measure => simp [intOf]; omega
    · have hkl : k = l.length := by omega
      subst hkl
      go_wp2_with fail
      go_ret
      exact ⟨ret_int (by rw [H.out]; have := HH.out; rw [List.take_length] at this; omega), hw⟩

/- inlining: bodies that could be inlined, the first ones first -/
def fitX (x : Ex) : Option Ex := if 1000 < parts x then none else some x
mutual
def inlE (bs : List (Option Ex)) : Ex → Option Ex
  | .mk o n s l => match inlL bs l with
    | none => none
    | some ys => if o = 22 ∧ 0 ≤ n ∧ n < bs.length then (match bs.getD n.toNat none with
        | none => none
        | some b => fitX ((putP 4 ys b).getD zeroE))
      else fitX (.mk o n s ys)
def inlL (bs : List (Option Ex)) : List Ex → Option (List Ex)
  | [] => some []
  | e :: l => match inlE bs e with
    | none => none
    | some x => match inlL bs l with
      | none => none
      | some xs => some (x :: xs)
end
def inlB : List (Option Ex) → List Fn → List (Option Ex)
  | bs, [] => bs
  | bs, f :: F => inlB (bs ++ [inlE bs f.body]) F
def inlineP (F : List Fn) (e : Ex) : Option Ex := match inlE (inlB [] F) e with
  | some x => if 12 < levels x then none else some x
  | none => none
end Go.Proofs.Ytmhelkhmgbbfhaa

/- Walks: Same, of the reference. -/
namespace Go.Proofs.Ytmhelkhmgbbfhaa
open Go.RowKit Go.Lib

mutual
def sameB : Ex → Ex → Bool
  | .mk o n s l, .mk o2 n2 s2 l2 => decide (o = o2) && (decide (n = n2) && (decide (s.toList = s2.toList) && sameBs l l2))
def sameBs : List Ex → List Ex → Bool
  | [], [] => true
  | e :: l, e2 :: l2 => sameB e e2 && sameBs l l2
  | _, _ => false
end
mutual
theorem sameB_self : ∀ e : Ex, sameB e e = true
  | .mk o n s l => by rw [sameB, sameBs_self l]; simp
theorem sameBs_self : ∀ l : List Ex, sameBs l l = true
  | [] => by rw [sameBs]
  | e :: l => by rw [sameBs, sameB_self e, sameBs_self l]; rfl
end
theorem sameBs_len : ∀ (l l2 : List Ex), l.length ≠ l2.length → sameBs l l2 = false
  | [], [], h => absurd rfl h
  | [], _ :: _, _ => by rw [sameBs]; all_goals simp
  | _ :: _, [], _ => by rw [sameBs]; all_goals simp
  | e :: l, e2 :: l2, h => by rw [sameBs, sameBs_len l l2 (by simpa using h)]; simp
theorem sameBs_at : ∀ (l l2 : List Ex) (k : Nat) (h : k < l.length) (h2 : k < l2.length), sameB l[k] l2[k] = false → sameBs l l2 = false
  | e :: l, e2 :: l2, 0, _, _, hk => by rw [sameBs, show sameB e e2 = false from hk]; rfl
  | e :: l, e2 :: l2, k + 1, h, h2, hk => by rw [sameBs, sameBs_at l l2 k (by simpa using h) (by simpa using h2) (by simpa using hk)]; simp
theorem sameBs_all : ∀ (l l2 : List Ex), l.length = l2.length → (∀ (k : Nat) (h : k < l.length) (h2 : k < l2.length), sameB l[k] l2[k] = true) → sameBs l l2 = true
  | [], [], _, _ => by rw [sameBs]
  | [], _ :: _, h, _ => by simp at h
  | _ :: _, [], h, _ => by simp at h
  | e :: l, e2 :: l2, h, hk => by
    rw [sameBs, show sameB e e2 = true from hk 0 (by simp) (by simp), sameBs_all l l2 (by simpa using h) (fun k h1 h2 => hk (k + 1) (by simpa using h1) (by simpa using h2))]; rfl

set_option maxRecDepth 10000 in
set_option maxHeartbeats 4000000 in
theorem rsame_any (a : Ex) : ∀ (e : Ex) (S S1 : Nat → Prop) (cs cs1 : List Value) (w : World), Rd w S a.d cs → Rd w S1 e.d cs1 → parts a ≤ 1000000 →
    Calls Try.prog 23 #[.agg cs.toArray, .agg cs1.toArray] w fun r w' => r = .returned (.bool (sameB a e)) ∧ Ext w w' := by
  induction a using Ex.ind with | h o n s l ih => ?_
  intro e S S1 cs cs1 w hr hr1 hpb
  obtain ⟨o2, n2, s2, l2⟩ := e
  obtain ⟨A, cap, b, off, rfl, hl1, hl2, hl3, hm⟩ := Ex.open hr
  obtain ⟨B, cap1, b1, off1, rfl, k1, k2, k3, km⟩ := Ex.open hr1
  have ih' := Lib.hid ih
  clear ih
  simp only [Ex.args, Ex.op, Ex.n, Ex.s] at hl1 hl2 hl3 hm k1 k2 k3 km ⊢
  have hll : l.length ≤ 1000000 := by rw [parts] at hpb; have := partsL_len l; omega
  have hl3' := Lib.hid hl3; have hm' := Lib.hid hm; have k3' := Lib.hid k3; have km' := Lib.hid km
  clear hr hr1 hl3 hm k3 km
  by_cases ho : o = o2
  · subst ho
    by_cases hn : n = n2
    · subst hn
      by_cases hs : s.toList = s2.toList
      · have hsb : (s.toList == s2.toList) = true := by simp [hs]
        by_cases hlen : l.length = l2.length
        · have H := Lib.hid (show sameB (.mk o n s l) (.mk o n s2 l2) = sameBs l l2 by rw [sameB]; simp [hs])
          have hlen' := Lib.hid hlen
          have hs' := Lib.hid hs
          have hbnd : l2.length ≤ 1000000 := by omega
          have hlb : ((l.length : Int) != (l2.length : Int)) = false := by simp [hlen]
          clear hs
          go_enter Try.func23, Try.ntmps23
          go_wp2_with fail
          generalize hWe : World.alloc (World.alloc w _) _ = W
          have e3 : W.cell? ⟨w.heap.size, 3, none⟩ = some (.slice A l.length cap) := by rw [← hWe]; clear hWe; go_simp
          have d3 : W.cell? ⟨w.heap.size + 1, 3, none⟩ = some (.slice B l2.length cap1) := by rw [← hWe]; clear hWe; go_simp
          have hwW : Ext w W := by rw [← hWe]; exact (by repeat' first | exact Ext.refl _ | assumption | apply Ext.alloc | apply Ext.drew | apply Ext.drewN | (refine Ext.trans ?_ (by assumption)))
          clear hWe hlb hlen
          go_loopw [5] (fun i wr => ∃ (k : Nat), k ≤ l.length ∧ i = .int .i64 k ∧ Hid (∀ (j : Nat) (h : j < l.length) (h2 : j < l2.length), j < k → sameB l[j] l2[j] = true) ∧ Ext W wr) (fun i _ => l.length - (intOf i).toNat)
          case atStart => exact ⟨0, by omega, rfl, Lib.hid (fun j _ _ h => by omega), Ext.refl _⟩
          case round =>
            obtain ⟨k, hk, rfl, HH, hb⟩ := hrel
            replace e3 := hb.at e3
            replace d3 := hb.at d3
            have hw : Ext w wr := hwW.trans hb
            by_cases hk2 : k < l.length
            · have hk3 : k < l2.length := by have := hlen'.out; omega
              obtain ⟨rfl, hSb⟩ := hl3'.out (by omega)
              obtain ⟨rfl, hSb1⟩ := k3'.out (by omega)
              obtain ⟨A1, cp1, bb1, of1, c0, c1, c2, c3, hr', -⟩ := Ex.at (hm'.out.ext (fun _ => hSb) hw) hk2
              obtain ⟨A2, cp2, bb2, of2, q0, q1, q2, q3, hr2', -⟩ := Ex.at (km'.out.ext (fun _ => hSb1) hw) hk3
              have hpk : parts l[k] ≤ 1000000 := by rw [parts] at hpb; have := partsL_mem l l[k] (List.getElem_mem hk2); omega
              have hcall := fun (w' : World) (h1 : Rd w' S l[k].d [.int .i64 l[k].op, .int .i64 l[k].n, .string l[k].s, .slice A1 l[k].args.length cp1]) (h2 : Rd w' S1 l2[k].d [.int .i64 l2[k].op, .int .i64 l2[k].n, .string l2[k].s, .slice A2 l2[k].args.length cp2]) => ih'.out l[k] (List.getElem_mem hk2) l2[k] S S1 _ _ w' h1 h2 hpk
              have hcall' := Lib.hid (fun (w' : World) (he : Ext wr w') => hcall w' (hr'.ext he) (hr2'.ext he))
              have hki : (k : Int) < (l.length : Int) := by omega
              have hki2 : (k : Int) < (l2.length : Int) := by omega
              clear hr' hr2' hSb hSb1 hcall
              cases hsk : sameB l[k] l2[k] with
              | false =>
                have H2 := Lib.hid (H.out.trans (sameBs_at l l2 k hk2 hk3 hsk))
                rw [hsk] at hcall'
                clear hsk H
                go_wp2_with fail
                have ge3 := ExtW.at e3
                have gd3 := ExtW.at d3
                have gc0 := ExtW.at c0
                have gc1 := ExtW.at c1
                have gc2 := ExtW.at c2
                have gc3 := ExtW.at c3
                have gq0 := ExtW.at q0
                have gq1 := ExtW.at q1
                have gq2 := ExtW.at q2
                have gq3 := ExtW.at q3
                refine wp_region_ext (by kernel_rfl) (by kernel_rfl) ?_
                repeat (go_big_quiet_step (((go_at_call 23; exact Calls.ext_of (hcall'.out _ (ExtW.ext _))))))
                refine wpQuiet_nil ?_
                intro w2 he
                go_wp2_with fail
                go_ret
                exact ⟨ret_bool (by rw [H2.out]), hw.trans he⟩
              | true =>
                have HH2 := Lib.hid (show ∀ (j : Nat) (h : j < l.length) (h2 : j < l2.length), j < k + 1 → sameB l[j] l2[j] = true from fun j h h2 hj => by
                  by_cases hjk : j < k
                  · exact HH.out j h h2 hjk
                  · obtain rfl : j = k := by omega
                    exact hsk)
                rw [hsk] at hcall'
                clear hsk
                go_wp2_with fail
                have ge3 := ExtW.at e3
                have gd3 := ExtW.at d3
                have gc0 := ExtW.at c0
                have gc1 := ExtW.at c1
                have gc2 := ExtW.at c2
                have gc3 := ExtW.at c3
                have gq0 := ExtW.at q0
                have gq1 := ExtW.at q1
                have gq2 := ExtW.at q2
                have gq3 := ExtW.at q3
                refine wp_region_ext (by kernel_rfl) (by kernel_rfl) ?_
                repeat (go_big_quiet_step (((go_at_call 23; exact Calls.ext_of (hcall'.out _ (ExtW.ext _))))))
                refine wpQuiet_nil ?_
                intro w2 he
                go_wp2_with fail
                go_roundw
                case rel => exact ⟨k + 1, by omega, by go_num, HH2, hb.trans he⟩
                case measure => simp [intOf]; omega
            · have hkl : k = l.length := by omega
              subst hkl
              have H2 := Lib.hid (H.out.trans (sameBs_all l l2 hlen'.out (fun k h h2 => HH.out k h h2 h)))
              clear H
              go_wp2_with fail
              go_ret
              exact ⟨ret_bool (by rw [H2.out]), hw⟩
        · have H := Lib.hid (show sameB (.mk o n s l) (.mk o n s2 l2) = false by rw [sameB, sameBs_len l l2 hlen]; simp)
          have hlb : ((l.length : Int) != (l2.length : Int)) = true := by simp; omega
          have hlb2 : ¬ (l.length : Int) = (l2.length : Int) := by omega
          clear hlen hs
          go_enter Try.func23, Try.ntmps23
          go_wp2_with fail
          go_ret
          exact ⟨ret_bool (by rw [H.out]), (by repeat' first | exact Ext.refl _ | assumption | apply Ext.alloc | apply Ext.drew | apply Ext.drewN | (refine Ext.trans ?_ (by assumption)))⟩
      · have hsb : (s.toList == s2.toList) = false := by simp [hs]
        have H := Lib.hid (show sameB (.mk o n s l) (.mk o n s2 l2) = false by rw [sameB]; simp [hs])
        clear hs
        go_enter Try.func23, Try.ntmps23
        go_wp2_with fail
        go_ret
        exact ⟨ret_bool (by rw [H.out]), (by repeat' first | exact Ext.refl _ | assumption | apply Ext.alloc | apply Ext.drew | apply Ext.drewN | (refine Ext.trans ?_ (by assumption)))⟩
    · have H := Lib.hid (show sameB (.mk o n s l) (.mk o n2 s2 l2) = false by rw [sameB]; simp [hn])
      have hb2 : (n != n2) = true := by simp [hn]
      go_enter Try.func23, Try.ntmps23
      go_wp2_with fail
      go_ret
      exact ⟨ret_bool (by rw [H.out]), (by repeat' first | exact Ext.refl _ | assumption | apply Ext.alloc | apply Ext.drew | apply Ext.drewN | (refine Ext.trans ?_ (by assumption)))⟩
  · have H := Lib.hid (show sameB (.mk o n s l) (.mk o2 n2 s2 l2) = false by rw [sameB]; simp [ho])
    have hb2 : (o != o2) = true := by simp [ho]
    go_enter Try.func23, Try.ntmps23
    go_wp2_with fail
    go_ret
    exact ⟨ret_bool (by rw [H.out]), (by repeat' first | exact Ext.refl _ | assumption | apply Ext.alloc | apply Ext.drew | apply Ext.drewN | (refine Ext.trans ?_ (by assumption)))⟩
end Go.Proofs.Ytmhelkhmgbbfhaa

/- Inlining on plain data: facts. -/
namespace Go.Proofs.Ytmhelkhmgbbfhaa
open Go.RowKit Go.Lib

theorem inlL_snoc {bs : List (Option Ex)} {e x : Ex} (hx : inlE bs e = some x) : ∀ (l : List Ex) {ys : List Ex}, inlL bs l = some ys → inlL bs (l ++ [e]) = some (ys ++ [x])
  | [], ys, h => by rw [inlL] at h; cases h; simp only [List.nil_append, inlL, hx]
  | a :: l, ys, h => by
    rw [inlL] at h
    cases he : inlE bs a with
    | none => rw [he] at h; cases h
    | some z =>
      rw [he] at h
      cases hl : inlL bs l with
      | none => rw [hl] at h; cases h
      | some xs =>
        rw [hl] at h; cases h
        rw [List.cons_append, inlL, he, inlL_snoc hx l hl]; rfl
theorem inlL_none {bs : List (Option Ex)} : ∀ (l : List Ex) {e : Ex}, e ∈ l → inlE bs e = none → inlL bs l = none
  | [], _, h, _ => by cases h
  | a :: l, e, h, hn => by
    rw [inlL]
    rcases List.mem_cons.1 h with rfl | h
    · rw [hn]
    · rw [inlL_none l h hn]
      cases inlE bs a <;> rfl
theorem inlL_mem {bs : List (Option Ex)} : ∀ (l : List Ex) {ys : List Ex}, inlL bs l = some ys → ∀ y ∈ ys, ∃ e ∈ l, inlE bs e = some y
  | [], ys, h, y, hy => by rw [inlL] at h; cases h; cases hy
  | e :: l, ys, h, y, hy => by
    rw [inlL] at h
    cases he : inlE bs e with
    | none => rw [he] at h; cases h
    | some x =>
      rw [he] at h
      cases hl : inlL bs l with
      | none => rw [hl] at h; cases h
      | some xs =>
        rw [hl] at h; cases h
        rcases List.mem_cons.1 hy with rfl | hy
        · exact ⟨e, by simp, he⟩
        · obtain ⟨e', h1, h2⟩ := inlL_mem l hl y hy
          exact ⟨e', by simp [h1], h2⟩
theorem fitX_parts {x y : Ex} (h : fitX x = some y) : x = y ∧ parts y ≤ 1000 := by
  unfold fitX at h
  split at h
  · cases h
  · cases h; exact ⟨rfl, by omega⟩
theorem inlE_parts {bs : List (Option Ex)} {e y : Ex} (h : inlE bs e = some y) : parts y ≤ 1000 := by
  obtain ⟨o, n, s, l⟩ := e
  rw [inlE] at h
  cases hl : inlL bs l with
  | none => rw [hl] at h; cases h
  | some ys =>
    rw [hl] at h
    dsimp only at h
    split at h
    · cases hb : bs.getD n.toNat none with
      | none => rw [hb] at h; cases h
      | some b => rw [hb] at h; exact (fitX_parts h).2
    · exact (fitX_parts h).2
theorem partsL_bound {K : Nat} : ∀ (l : List Ex), (∀ e ∈ l, parts e ≤ K) → partsL l ≤ l.length * K
  | [], _ => by simp [partsL]
  | e :: l, h => by
    have h1 := h e (by simp)
    have h2 := partsL_bound l (fun x hx => h x (by simp [hx]))
    rw [partsL, List.length_cons, Nat.succ_mul]; omega
mutual
theorem putP_parts {op : Int} {L : List Ex} {K : Nat} (hK : 1 ≤ K) (hL : ∀ y ∈ L, parts y ≤ K) : ∀ (e : Ex) {x : Ex}, putP op L e = some x → parts x ≤ parts e * K
  | .mk o n s l, x, h => by
    rw [putP] at h
    split at h
    · split at h
      · cases h
      · have := hL x (List.mem_of_getElem? h)
        rw [parts, Nat.succ_mul]; omega
    · cases hl : putPs op L l with
      | none => rw [hl] at h; cases h
      | some ys =>
        rw [hl] at h; cases h
        have := putPs_parts hK hL l hl
        rw [parts, parts, Nat.succ_mul]; omega
theorem putPs_parts {op : Int} {L : List Ex} {K : Nat} (hK : 1 ≤ K) (hL : ∀ y ∈ L, parts y ≤ K) : ∀ (l : List Ex) {ys : List Ex}, putPs op L l = some ys → partsL ys ≤ partsL l * K
  | [], ys, h => by rw [putPs] at h; cases h; simp [partsL]
  | e :: l, ys, h => by
    rw [putPs] at h
    cases he : putP op L e with
    | none => rw [he] at h; cases h
    | some x =>
      rw [he] at h
      cases hl : putPs op L l with
      | none => rw [hl] at h; cases h
      | some xs =>
        rw [hl] at h; cases h
        have h1 := putP_parts hK hL e he
        have h2 := putPs_parts hK hL l hl
        rw [partsL, partsL, Nat.add_mul]; omega
end

end Go.Proofs.Ytmhelkhmgbbfhaa

/- Steps of expressions, on plain data. -/
namespace Go.Proofs.Ytmhelkhmgbbfhaa
open Go.RowKit Go.Lib

def capS (n : Int) : Int := min n 1099511627776
/-- the sum of numbers, cut at each addition -/
def sumS (n : Int) : List Int → Int
  | [] => n
  | k :: l => sumS (capS (n + k)) l
def stepsOf (B : List Int) (op n : Int) (ks : List Int) : Int :=
  match (if op = 21 then ks else []) with
  | [a, b, c] => capS (1 + a + max b c)
  | _ => if op = 22 ∧ 0 ≤ n ∧ n < B.length then capS (sumS 1 ks + B.getD n.toNat 0) else sumS 1 ks
mutual
def countE (B : List Int) : Ex → Int
  | .mk op n _ l => stepsOf B op n (countL B l)
def countL (B : List Int) : List Ex → List Int
  | [] => []
  | e :: l => countE B e :: countL B l
end
theorem countL_map (B : List Int) : ∀ l, countL B l = l.map (countE B)
  | [] => rfl
  | e :: l => by rw [countL, countL_map B l, List.map_cons]
/-- numbers of steps -/
def GoodS (l : List Int) : Prop := ∀ k ∈ l, 0 ≤ k ∧ k ≤ 1099511627776
theorem capS_bd {n : Int} (h : 0 ≤ n) : 0 ≤ capS n ∧ capS n ≤ 1099511627776 := by unfold capS; omega
theorem sumS_bd : ∀ (l : List Int) (n : Int), GoodS l → 0 ≤ n → n ≤ 1099511627776 → 0 ≤ sumS n l ∧ sumS n l ≤ 1099511627776
  | [], n, _, h1, h2 => ⟨h1, h2⟩
  | k :: l, n, hg, h1, h2 => by
    have hk := hg k (by simp)
    have := capS_bd (n := n + k) (by omega)
    exact sumS_bd l _ (fun x hx => hg x (by simp [hx])) this.1 this.2
theorem goodS_getD {l : List Int} (h : GoodS l) (i : Nat) : 0 ≤ l.getD i 0 ∧ l.getD i 0 ≤ 1099511627776 := by
  rw [List.getD_eq_getElem?_getD]
  by_cases hi : i < l.length
  · rw [List.getElem?_eq_getElem hi]; exact h _ (List.getElem_mem hi)
  · rw [List.getElem?_eq_none (by omega)]; simp
theorem stepsOf_bd {B ks : List Int} (op n : Int) (hB : GoodS B) (hk : GoodS ks) : 0 ≤ stepsOf B op n ks ∧ stepsOf B op n ks ≤ 1099511627776 := by
  have h1 := sumS_bd ks 1 hk (by omega) (by omega)
  unfold stepsOf
  split
  · rename_i a b c h
    have h3 : ks = [a, b, c] := by by_cases ho : op = 21 <;> simp [ho] at h; exact h
    subst h3
    have ha := hk a (by simp); have hb := hk b (by simp); have hc := hk c (by simp)
    exact capS_bd (by omega)
  · split
    · have := goodS_getD hB n.toNat
      exact capS_bd (by omega)
    · exact h1
mutual
theorem countE_bd (B : List Int) (hB : GoodS B) : ∀ e, 0 ≤ countE B e ∧ countE B e ≤ 1099511627776
  | .mk op n _ l => by rw [countE]; exact stepsOf_bd op n hB (countL_good B hB l)
theorem countL_good (B : List Int) (hB : GoodS B) : ∀ l, GoodS (countL B l)
  | [] => by rw [countL]; intro k hk; simp at hk
  | e :: l => by
    rw [countL]; intro k hk
    rcases List.mem_cons.1 hk with rfl | hk
    · exact countE_bd B hB e
    · exact countL_good B hB l k hk
end
/-- steps of the bodies of functions, the first ones first -/
def bodiesS : List Int → List Fn → List Int
  | B, [] => B
  | B, f :: F => bodiesS (B ++ [countE B f.body]) F
theorem bodiesS_good : ∀ (F : List Fn) (B : List Int), GoodS B → GoodS (bodiesS B F)
  | [], _, h => h
  | f :: F, B, h => bodiesS_good F _ (fun k hk => by
      rcases List.mem_append.1 hk with hk | hk
      · exact h k hk
      · simp at hk; subst hk; exact countE_bd B h f.body)
def stepsP (F : List Fn) (e : Ex) : Int := countE (bodiesS [] F) e

end Go.Proofs.Ytmhelkhmgbbfhaa
