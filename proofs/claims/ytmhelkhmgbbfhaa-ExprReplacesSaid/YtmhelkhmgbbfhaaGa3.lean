/- Walks: Same, of the reference. -/
import Derived.Test.YtmhelkhmgbbfhaaShelf
import Derived.Deep.RegionHeld3
import Derived.Test.YtmhelkhmgbbfhaaGa1
import Derived.Test.YtmhelkhmgbbfhaaGa2
set_option linter.unusedSimpArgs false
set_option linter.unusedVariables false
namespace Go.Proofs.Ytmhelkhmgbbfhaa
open Go.RowKit Go.Lib

mutual
def sameB : Ex → Ex → Bool
  | .mk o n s l, .mk o2 n2 s2 l2 => decide (o = o2) && (decide (n = n2) && (decide (s.toList = s2.toList) && sameBs l l2))
def sameBs : List Ex → List Ex → Bool
  | [], [] => true
  | e :: l, e2 :: l2 => sameB e e2 && sameBs l l2
  | _, _ => false
end
mutual
theorem sameB_self : ∀ e : Ex, sameB e e = true
  | .mk o n s l => by rw [sameB, sameBs_self l]; simp
theorem sameBs_self : ∀ l : List Ex, sameBs l l = true
  | [] => by rw [sameBs]
  | e :: l => by rw [sameBs, sameB_self e, sameBs_self l]; rfl
end
theorem sameBs_len : ∀ (l l2 : List Ex), l.length ≠ l2.length → sameBs l l2 = false
  | [], [], h => absurd rfl h
  | [], _ :: _, _ => by rw [sameBs]; all_goals simp
  | _ :: _, [], _ => by rw [sameBs]; all_goals simp
  | e :: l, e2 :: l2, h => by rw [sameBs, sameBs_len l l2 (by simpa using h)]; simp
theorem sameBs_at : ∀ (l l2 : List Ex) (k : Nat) (h : k < l.length) (h2 : k < l2.length), sameB l[k] l2[k] = false → sameBs l l2 = false
  | e :: l, e2 :: l2, 0, _, _, hk => by rw [sameBs, show sameB e e2 = false from hk]; rfl
  | e :: l, e2 :: l2, k + 1, h, h2, hk => by rw [sameBs, sameBs_at l l2 k (by simpa using h) (by simpa using h2) (by simpa using hk)]; simp
theorem sameBs_all : ∀ (l l2 : List Ex), l.length = l2.length → (∀ (k : Nat) (h : k < l.length) (h2 : k < l2.length), sameB l[k] l2[k] = true) → sameBs l l2 = true
  | [], [], _, _ => by rw [sameBs]
  | [], _ :: _, h, _ => by simp at h
  | _ :: _, [], h, _ => by simp at h
  | e :: l, e2 :: l2, h, hk => by
    rw [sameBs, show sameB e e2 = true from hk 0 (by simp) (by simp), sameBs_all l l2 (by simpa using h) (fun k h1 h2 => hk (k + 1) (by simpa using h1) (by simpa using h2))]; rfl

set_option maxRecDepth 10000 in
set_option maxHeartbeats 4000000 in
theorem rsame_any (a : Ex) : ∀ (e : Ex) (S S1 : Nat → Prop) (cs cs1 : List Value) (w : World), Rd w S a.d cs → Rd w S1 e.d cs1 → parts a ≤ 1000000 →
    Calls Try.prog 23 #[.agg cs.toArray, .agg cs1.toArray] w fun r w' => r = .returned (.bool (sameB a e)) ∧ Ext w w' := by
  induction a using Ex.ind with | h o n s l ih => ?_
  intro e S S1 cs cs1 w hr hr1 hpb
  obtain ⟨o2, n2, s2, l2⟩ := e
  obtain ⟨A, cap, b, off, rfl, hl1, hl2, hl3, hm⟩ := Ex.open hr
  obtain ⟨B, cap1, b1, off1, rfl, k1, k2, k3, km⟩ := Ex.open hr1
  have ih' := Lib.hid ih
  clear ih
  simp only [Ex.args, Ex.op, Ex.n, Ex.s] at hl1 hl2 hl3 hm k1 k2 k3 km ⊢
  have hll : l.length ≤ 1000000 := by rw [parts] at hpb; have := partsL_len l; omega
  have hl3' := Lib.hid hl3; have hm' := Lib.hid hm; have k3' := Lib.hid k3; have km' := Lib.hid km
  clear hr hr1 hl3 hm k3 km
  by_cases ho : o = o2
  · subst ho
    by_cases hn : n = n2
    · subst hn
      by_cases hs : s.toList = s2.toList
      · have hsb : (s.toList == s2.toList) = true := by simp [hs]
        by_cases hlen : l.length = l2.length
        · have H := Lib.hid (show sameB (.mk o n s l) (.mk o n s2 l2) = sameBs l l2 by rw [sameB]; simp [hs])
          have hlen' := Lib.hid hlen
          have hs' := Lib.hid hs
          have hbnd : l2.length ≤ 1000000 := by omega
          have hlb : ((l.length : Int) != (l2.length : Int)) = false := by simp [hlen]
          clear hs
          go_enter Try.func23, Try.ntmps23
          go_wp2_with fail
          generalize hWe : World.alloc (World.alloc w _) _ = W
          have e3 : W.cell? ⟨w.heap.size, 3, none⟩ = some (.slice A l.length cap) := by rw [← hWe]; clear hWe; go_simp
          have d3 : W.cell? ⟨w.heap.size + 1, 3, none⟩ = some (.slice B l2.length cap1) := by rw [← hWe]; clear hWe; go_simp
          have hwW : Ext w W := by rw [← hWe]; exact (by repeat' first | exact Ext.refl _ | assumption | apply Ext.alloc | apply Ext.drew | apply Ext.drewN | (refine Ext.trans ?_ (by assumption)))
          clear hWe hlb hlen
          go_loopw [5] (fun i wr => ∃ (k : Nat), k ≤ l.length ∧ i = .int .i64 k ∧ Hid (∀ (j : Nat) (h : j < l.length) (h2 : j < l2.length), j < k → sameB l[j] l2[j] = true) ∧ Ext W wr) (fun i _ => l.length - (intOf i).toNat)
          case atStart => exact ⟨0, by omega, rfl, Lib.hid (fun j _ _ h => by omega), Ext.refl _⟩
          case round =>
            obtain ⟨k, hk, rfl, HH, hb⟩ := hrel
            replace e3 := hb.at e3
            replace d3 := hb.at d3
            have hw : Ext w wr := hwW.trans hb
            by_cases hk2 : k < l.length
            · have hk3 : k < l2.length := by have := hlen'.out; omega
              obtain ⟨rfl, hSb⟩ := hl3'.out (by omega)
              obtain ⟨rfl, hSb1⟩ := k3'.out (by omega)
              obtain ⟨A1, cp1, bb1, of1, c0, c1, c2, c3, hr', -⟩ := Ex.at (hm'.out.ext (fun _ => hSb) hw) hk2
              obtain ⟨A2, cp2, bb2, of2, q0, q1, q2, q3, hr2', -⟩ := Ex.at (km'.out.ext (fun _ => hSb1) hw) hk3
              have hpk : parts l[k] ≤ 1000000 := by rw [parts] at hpb; have := partsL_mem l l[k] (List.getElem_mem hk2); omega
              have hcall := fun (w' : World) (h1 : Rd w' S l[k].d [.int .i64 l[k].op, .int .i64 l[k].n, .string l[k].s, .slice A1 l[k].args.length cp1]) (h2 : Rd w' S1 l2[k].d [.int .i64 l2[k].op, .int .i64 l2[k].n, .string l2[k].s, .slice A2 l2[k].args.length cp2]) => ih'.out l[k] (List.getElem_mem hk2) l2[k] S S1 _ _ w' h1 h2 hpk
              have hcall' := Lib.hid (fun (w' : World) (he : Ext wr w') => hcall w' (hr'.ext he) (hr2'.ext he))
              have hki : (k : Int) < (l.length : Int) := by omega
              have hki2 : (k : Int) < (l2.length : Int) := by omega
              clear hr' hr2' hSb hSb1 hcall
              cases hsk : sameB l[k] l2[k] with
              | false =>
                have H2 := Lib.hid (H.out.trans (sameBs_at l l2 k hk2 hk3 hsk))
                rw [hsk] at hcall'
                clear hsk H
                go_wp2_with fail
                have ge3 := ExtW.at e3
                have gd3 := ExtW.at d3
                have gc0 := ExtW.at c0
                have gc1 := ExtW.at c1
                have gc2 := ExtW.at c2
                have gc3 := ExtW.at c3
                have gq0 := ExtW.at q0
                have gq1 := ExtW.at q1
                have gq2 := ExtW.at q2
                have gq3 := ExtW.at q3
                refine wp_region_ext (by kernel_rfl) (by kernel_rfl) ?_
                repeat (go_big_quiet_step (((go_at_call 23; exact Calls.ext_of (hcall'.out _ (ExtW.ext _))))))
                refine wpQuiet_nil ?_
                intro w2 he
                go_wp2_with fail
                go_ret
                exact ⟨ret_bool (by rw [H2.out]), hw.trans he⟩
              | true =>
                have HH2 := Lib.hid (show ∀ (j : Nat) (h : j < l.length) (h2 : j < l2.length), j < k + 1 → sameB l[j] l2[j] = true from fun j h h2 hj => by
                  by_cases hjk : j < k
                  · exact HH.out j h h2 hjk
                  · obtain rfl : j = k := by omega
                    exact hsk)
                rw [hsk] at hcall'
                clear hsk
                go_wp2_with fail
                have ge3 := ExtW.at e3
                have gd3 := ExtW.at d3
                have gc0 := ExtW.at c0
                have gc1 := ExtW.at c1
                have gc2 := ExtW.at c2
                have gc3 := ExtW.at c3
                have gq0 := ExtW.at q0
                have gq1 := ExtW.at q1
                have gq2 := ExtW.at q2
                have gq3 := ExtW.at q3
                refine wp_region_ext (by kernel_rfl) (by kernel_rfl) ?_
                repeat (go_big_quiet_step (((go_at_call 23; exact Calls.ext_of (hcall'.out _ (ExtW.ext _))))))
                refine wpQuiet_nil ?_
                intro w2 he
                go_wp2_with fail
                go_roundw
                case rel => exact ⟨k + 1, by omega, by go_num, HH2, hb.trans he⟩
                case measure => simp [intOf]; omega
            · have hkl : k = l.length := by omega
              subst hkl
              have H2 := Lib.hid (H.out.trans (sameBs_all l l2 hlen'.out (fun k h h2 => HH.out k h h2 h)))
              clear H
              go_wp2_with fail
              go_ret
              exact ⟨ret_bool (by rw [H2.out]), hw⟩
        · have H := Lib.hid (show sameB (.mk o n s l) (.mk o n s2 l2) = false by rw [sameB, sameBs_len l l2 hlen]; simp)
          have hlb : ((l.length : Int) != (l2.length : Int)) = true := by simp; omega
          have hlb2 : ¬ (l.length : Int) = (l2.length : Int) := by omega
          clear hlen hs
          go_enter Try.func23, Try.ntmps23
          go_wp2_with fail
          go_ret
          exact ⟨ret_bool (by rw [H.out]), (by repeat' first | exact Ext.refl _ | assumption | apply Ext.alloc | apply Ext.drew | apply Ext.drewN | (refine Ext.trans ?_ (by assumption)))⟩
      · have hsb : (s.toList == s2.toList) = false := by simp [hs]
        have H := Lib.hid (show sameB (.mk o n s l) (.mk o n s2 l2) = false by rw [sameB]; simp [hs])
        clear hs
        go_enter Try.func23, Try.ntmps23
        go_wp2_with fail
        go_ret
        exact ⟨ret_bool (by rw [H.out]), (by repeat' first | exact Ext.refl _ | assumption | apply Ext.alloc | apply Ext.drew | apply Ext.drewN | (refine Ext.trans ?_ (by assumption)))⟩
    · have H := Lib.hid (show sameB (.mk o n s l) (.mk o n2 s2 l2) = false by rw [sameB]; simp [hn])
      have hb2 : (n != n2) = true := by simp [hn]
      go_enter Try.func23, Try.ntmps23
      go_wp2_with fail
      go_ret
      exact ⟨ret_bool (by rw [H.out]), (by repeat' first | exact Ext.refl _ | assumption | apply Ext.alloc | apply Ext.drew | apply Ext.drewN | (refine Ext.trans ?_ (by assumption)))⟩
  · have H := Lib.hid (show sameB (.mk o n s l) (.mk o2 n2 s2 l2) = false by rw [sameB]; simp [ho])
    have hb2 : (o != o2) = true := by simp [ho]
    go_enter Try.func23, Try.ntmps23
    go_wp2_with fail
    go_ret
    exact ⟨ret_bool (by rw [H.out]), (by repeat' first | exact Ext.refl _ | assumption | apply Ext.alloc | apply Ext.drew | apply Ext.drewN | (refine Ext.trans ?_ (by assumption)))⟩
end Go.Proofs.Ytmhelkhmgbbfhaa

/- Facts of tailT for the walks. -/
namespace Go.Proofs.Ytmhelkhmgbbfhaa
open Go.RowKit Go.Lib

theorem size_zero (s : ByteArray) : s.size = 0 ↔ s.toList = [] := by
  have h : s.size = s.data.toList.length := by rw [Array.length_toList]; rfl
  have e : s.toList = s.data.toList := ByteArray.toList_eq s
  rw [e, h]
  exact List.length_eq_zero_iff
theorem len_1 {l : List Int} (h : l.length = 1) : ∃ a, l = [a] := by
  match l, h with | [a], _ => exact ⟨a, rfl⟩
theorem len_2 {l : List Int} (h : l.length = 2) : ∃ a b, l = [a, b] := by
  match l, h with | [a, b], _ => exact ⟨a, b, rfl⟩
theorem len_3 {l : List Int} (h : l.length = 3) : ∃ a b c, l = [a, b, c] := by
  match l, h with | [a, b, c], _ => exact ⟨a, b, c, rfl⟩
/-- how many operands an operation has, -1 for none -/
theorem tail_text {F : List Fn} {c p : List Int} {op n : Int} {s : ByteArray} {ts : List Int} (h : ¬ s.toList = []) (h1 : ¬ op = 1) : tailT F c p op n s ts = none := by
  unfold tailT; rw [if_pos ⟨by rw [ne_eq, size_zero]; exact h, h1⟩]
theorem tail_leaf {F : List Fn} {c p : List Int} {op n : Int} {s : ByteArray} (h : s.toList = [] ∨ op = 1) (h22 : ¬ op = 22) : tailT F c p op n s [] = leafT c p op n s := by
  unfold tailT; rw [if_neg (by rw [ne_eq, size_zero]; rintro ⟨a, b⟩; exact h.elim a b), if_neg h22, if_pos rfl]
theorem tail_call {F : List Fn} {c p : List Int} {n : Int} {s : ByteArray} {ts : List Int} (h : s.toList = []) : tailT F c p 22 n s ts = callT F n ts := by
  unfold tailT; rw [if_neg (by rw [ne_eq, size_zero]; rintro ⟨a, b⟩; exact a h), if_pos rfl]
theorem tail_oper {F : List Fn} {c p : List Int} {op n t : Int} {s : ByteArray} {ts : List Int} (h : s.toList = []) (h22 : ¬ op = 22) : tailT F c p op n s (t :: ts) = operT op n (t :: ts) := by
  unfold tailT; rw [if_neg (by rw [ne_eq, size_zero]; rintro ⟨a, b⟩; exact a h), if_neg h22, if_neg (by simp)]

end Go.Proofs.Ytmhelkhmgbbfhaa

/- Walks: right values, and what fits a row. -/
namespace Go.Proofs.Ytmhelkhmgbbfhaa
open Go.RowKit Go.Lib

/-- a right value (chapter 3) -/
def okV (v : Val) : Bool :=
  if v.k = 0 then decide (v.s.toList = [])
  else if v.k = 1 then decide (v.n = 0) && decide ((v.s.size : Int) ≤ 200)
  else decide (v.k = 2) && (decide (v.n = 0) || decide (v.n = 1)) && decide (v.s.toList = [])

set_option maxRecDepth 10000 in
set_option maxHeartbeats 1000000 in
theorem rightV_any (v : Val) (w : World) : Calls Try.prog 14 #[v.v] w fun r w' => r = .returned (.bool (okV v)) ∧ Ext w w' := by
  obtain ⟨k, n, s⟩ := v
  simp only [Val.v]
  have hS : s.toList = [] ∨ ¬ s.toList = [] := Decidable.em _
  by_cases h0 : k = 0
  · subst h0
    rcases hS with hs | hs
    all_goals
      have H := Lib.hid (show okV ⟨0, n, s⟩ = decide (s.toList = []) by simp [okV])
      go_enter Try.func14, Try.ntmps14
      go_wp2_with fail
      go_ret
      exact ⟨ret_bool (by rw [H.out]; simp [hs]), (by repeat' first | exact Ext.refl _ | assumption | apply Ext.alloc | apply Ext.drew | apply Ext.drewN | (refine Ext.trans ?_ (by assumption)))⟩
  by_cases h1 : k = 1
  · subst h1
    have H := Lib.hid (show okV ⟨1, n, s⟩ = (decide (n = 0) && decide ((s.size : Int) ≤ 200)) by simp [okV])
    clear h0
    by_cases hn : n = 0
    · subst hn
      go_enter Try.func14, Try.ntmps14
      go_wp2_with fail
      go_ret
      exact ⟨ret_bool (by rw [H.out]; simp), (by repeat' first | exact Ext.refl _ | assumption | apply Ext.alloc | apply Ext.drew | apply Ext.drewN | (refine Ext.trans ?_ (by assumption)))⟩
    · have hn1 : (n == 0) = false := by simp [hn]
      go_enter Try.func14, Try.ntmps14
      go_wp2_with fail
      go_ret
      exact ⟨ret_bool (by rw [H.out]; simp [hn]), (by repeat' first | exact Ext.refl _ | assumption | apply Ext.alloc | apply Ext.drew | apply Ext.drewN | (refine Ext.trans ?_ (by assumption)))⟩
  have H := Lib.hid (show okV ⟨k, n, s⟩ = (decide (k = 2) && (decide (n = 0) || decide (n = 1)) && decide (s.toList = [])) by simp [okV, h0, h1])
  have h0b : (k == 0) = false := by simp [h0]
  have h1b : (k == 1) = false := by simp [h1]
  by_cases h2 : k = 2
  · subst h2
    clear h0 h1 h0b h1b
    rcases hS with hs | hs
    all_goals
      by_cases hn : n = 0
      · subst hn
        go_enter Try.func14, Try.ntmps14
        go_wp2_with fail
        go_ret
        exact ⟨ret_bool (by rw [H.out]; simp [hs]), (by repeat' first | exact Ext.refl _ | assumption | apply Ext.alloc | apply Ext.drew | apply Ext.drewN | (refine Ext.trans ?_ (by assumption)))⟩
      · have hn1 : (n == 0) = false := by simp [hn]
        by_cases hm : n = 1
        · subst hm
          go_enter Try.func14, Try.ntmps14
          go_wp2_with fail
          go_ret
          exact ⟨ret_bool (by rw [H.out]; simp [hs]), (by repeat' first | exact Ext.refl _ | assumption | apply Ext.alloc | apply Ext.drew | apply Ext.drewN | (refine Ext.trans ?_ (by assumption)))⟩
        · have hm1 : (n == 1) = false := by simp [hm]
          go_enter Try.func14, Try.ntmps14
          go_wp2_with fail
          go_ret
          exact ⟨ret_bool (by rw [H.out]; simp [hn, hm]), (by repeat' first | exact Ext.refl _ | assumption | apply Ext.alloc | apply Ext.drew | apply Ext.drewN | (refine Ext.trans ?_ (by assumption)))⟩
  · have h2b : (k == 2) = false := by simp [h2]
    go_enter Try.func14, Try.ntmps14
    go_wp2_with fail
    go_ret
    exact ⟨ret_bool (by rw [H.out]; simp [h2]), (by repeat' first | exact Ext.refl _ | assumption | apply Ext.alloc | apply Ext.drew | apply Ext.drewN | (refine Ext.trans ?_ (by assumption)))⟩

def fitB (v : Val) : Bool := okV v && decide ((v.s.size : Int) ≤ 200)
def fitsR (R : List Val) : Bool := R.all fitB && decide ((R.length : Int) ≤ 20)

set_option maxHeartbeats 1000000 in
theorem fits_any (R : List Val) (S : Nat → Prop) (v : Value) (w : World) (hr : Rd w S (.sl (R.map Val.d)) [v]) :
    Calls Try.prog 28 #[v] w fun r w' => r = .returned (.bool (fitsR R)) ∧ Ext w w' := by
  obtain ⟨A, cap, b, off, rfl, hl1, hl2, hl3, hm⟩ := Rd.sl_open hr
  simp only [List.length_map] at *
  have hl3' := Lib.hid hl3; have hm' := Lib.hid hm
  clear hr hl3 hm
  go_enter Try.func28, Try.ntmps28
  go_wp2_with fail
  go_loopw [3] (fun i wr => ∃ (k : Nat), k ≤ R.length ∧ i = .int .i64 k ∧ Hid (∀ i (hi : i < R.length), i < k → fitB R[i] = true) ∧ Ext w wr) (fun i _ => R.length - (intOf i).toNat)
  case atStart => exact ⟨0, by omega, rfl, Lib.hid (fun j _ h => absurd h (by omega)), Ext.refl _⟩
  case round =>
    obtain ⟨k, hk, rfl, HH, hw⟩ := hrel
    by_cases hlt : k < R.length
    · obtain ⟨rfl, hSb⟩ := hl3'.out (by omega)
      obtain ⟨c0, c1, c2, hr'⟩ := Val.at (hm'.out.ext (fun _ => hSb) hw) hlt
      have hSb' := Lib.hid hSb
      clear hr' hSb
      have hc := rightV_any R[k]
      cases hok : okV R[k] with
      | false =>
        rw [hok] at hc
        have hc' := Lib.hid hc
        have H := Lib.hid (show fitsR R = false by unfold fitsR; rw [all_at_false hlt (by unfold fitB; rw [hok]; rfl)]; rfl)
        clear hc hok
        go_wp2_with fail
        refine (hc'.out _).mono ?_
        rintro r w1 ⟨rfl, he⟩
        go_wp2_with fail
        go_ret
        exact ⟨ret_bool (by rw [H.out]), hw.trans he⟩
      | true =>
        rw [hok] at hc
        have hc' := Lib.hid hc
        by_cases hz : (R[k].s.size : Int) ≤ 200
        · have H := Lib.hid (show fitB R[k] = true by unfold fitB; rw [hok, decide_eq_true hz]; rfl)
          clear hc hok
          go_wp2_with fail
          refine (hc'.out _).mono ?_
          rintro r w1 ⟨rfl, he⟩
          have c2 := he.at c2
          go_wp2_with fail
          go_roundw
          case rel => exact ⟨k + 1, by omega, by go_num, Lib.hid (fun i hi h => by rcases Nat.lt_succ_iff_lt_or_eq.1 h with h | rfl; exact HH.out i hi h; exact H.out), hw.trans he⟩
          case measure => simp [intOf]; omega
        · have H := Lib.hid (show fitsR R = false by unfold fitsR; rw [all_at_false hlt (by unfold fitB; rw [hok, decide_eq_false hz]; rfl)]; rfl)
          clear hc hok
          go_wp2_with fail
          refine (hc'.out _).mono ?_
          rintro r w1 ⟨rfl, he⟩
          have c2 := he.at c2
          go_wp2_with fail
          go_ret
          exact ⟨ret_bool (by rw [H.out]), hw.trans he⟩
    · have hkl : k = R.length := by omega
      subst hkl
      have H := Lib.hid (show fitsR R = decide ((R.length : Int) ≤ 20) by unfold fitsR; rw [all_at_true (fun i hi => HH.out i hi hi)]; rfl)
      go_wp2_with fail
      go_ret
      exact ⟨ret_bool (by rw [H.out]), hw⟩

end Go.Proofs.Ytmhelkhmgbbfhaa

/- A literal slice: a new block read as a list. -/
namespace Go.Proofs.Ytmhelkhmgbbfhaa
open Go.RowKit Go.Lib

theorem rd_new {X : World} {S : Nat → Prop} {l : List D} {cs : Array Value} {t : TypeId} {g n c : Nat} (hg : g = X.heap.size) (hn : n = l.length) (hr : RdS (X.alloc (.cells cs t)) S l cs.toList) (hS : S g) (hc : l.length ≤ c) (hc2 : c ≤ 9223372036854775807) :
    Rd (X.alloc (.cells cs t)) S (.sl l) [.slice (some ⟨g, 0, none⟩) n c] := by
  subst hg
  refine Rd.sl_mk (b := X.heap.size) (off := 0) hn hc hc2 (fun _ => ⟨rfl, hS⟩) (rdM_of l cs.toList 0 hr ?_)
  intro j u hu
  have := cells_new X cs t j u hu
  have e2 : ((⟨X.heap.size, 0, none⟩ : Addr).add j) = ⟨X.heap.size, 0 + j, none⟩ := by
    unfold Addr.add; split
    · rename_i h; subst h; rfl
    · rfl
  rwa [e2] at this
theorem rd_new_ints {X : World} {l : List Int} {cs : Array Value} {t : TypeId} {g n : Nat} (hg : g = X.heap.size) (hn : n = l.length) (h : cs.toList = l.map (Value.int .i64)) (hc2 : l.length ≤ 9223372036854775807) :
    Rd (X.alloc (.cells cs t)) Any (.sl (l.map D.int)) [.slice (some ⟨g, 0, none⟩) n n] :=
  rd_new hg (by simpa using hn) (by rw [h]; exact rdS_ints _ _ l) trivial (by simp; omega) (by omega)

end Go.Proofs.Ytmhelkhmgbbfhaa

/- Walks: operations on values. -/
namespace Go.Proofs.Ytmhelkhmgbbfhaa
open Go.RowKit Go.Lib

set_option maxHeartbeats 400000 in
theorem number_any (n : Int) (w : World) : Calls Try.prog 66 #[.int .i64 n] w fun r w' => r = .returned (numV n).v ∧ Ext w w' := by
  go_enter Try.func66, Try.ntmps66
  go_wp2_with fail
  exact bodyPost_ret (v := .agg #[.int .i64 0, .int .i64 n, .string ByteArray.empty]) (by simp [results, Try.results66, go_sem]; rfl) rfl ⟨rfl, (by repeat' first | exact Ext.refl _ | assumption | apply Ext.alloc | apply Ext.drew | apply Ext.drewN | (refine Ext.trans ?_ (by assumption)))⟩

set_option maxHeartbeats 400000 in
theorem truth_any (b : Bool) (w : World) : Calls Try.prog 67 #[.bool b] w fun r w' => r = .returned (boolV b).v ∧ Ext w w' := by
  cases b
  · go_enter Try.func67, Try.ntmps67
    go_wp2_with fail
    exact bodyPost_ret (v := .agg #[.int .i64 2, .int .i64 0, .string ByteArray.empty]) (by simp [results, Try.results67, go_sem]; rfl) rfl ⟨rfl, (by repeat' first | exact Ext.refl _ | assumption | apply Ext.alloc | apply Ext.drew | apply Ext.drewN | (refine Ext.trans ?_ (by assumption)))⟩
  · go_enter Try.func67, Try.ntmps67
    go_wp2_with fail
    exact bodyPost_ret (v := .agg #[.int .i64 2, .int .i64 1, .string ByteArray.empty]) (by simp [results, Try.results67, go_sem]; rfl) rfl ⟨rfl, (by repeat' first | exact Ext.refl _ | assumption | apply Ext.alloc | apply Ext.drew | apply Ext.drewN | (refine Ext.trans ?_ (by assumption)))⟩

/-- the first number that is not 0 -/
def orI : List Int → Int
  | [] => 0
  | x :: l => if x ≠ 0 then x else orI l

set_option maxHeartbeats 1000000 in
theorem or_any (l : List Int) (S : Nat → Prop) (v : Value) (w : World) (hr : Rd w S (.sl (l.map D.int)) [v]) :
    Calls Try.prog 105 #[v] w fun r w' => r = .returned (.int .i64 (orI l)) ∧ Ext w w' := by
  obtain ⟨A, cap, b, off, rfl, hl1, hl2, hl3, hm⟩ := Rd.sl_open hr
  simp only [List.length_map] at *
  have hl3' := Lib.hid hl3; have hm' := Lib.hid hm
  clear hr hl3 hm
  go_enter Try.func105, Try.ntmps105
  go_wp2_with fail
  go_loopw [8] (fun i wr => ∃ (k : Nat), k ≤ l.length ∧ i = .int .i64 k ∧ Hid (orI l = orI (l.drop k)) ∧ Ext w wr) (fun i _ => l.length - (intOf i).toNat)
  case atStart => exact ⟨0, by omega, rfl, Lib.hid rfl, Ext.refl _⟩
  case round =>
    obtain ⟨k, hk, rfl, HH, hw⟩ := hrel
    by_cases hlt : k < l.length
    · obtain ⟨rfl, hSb⟩ := hl3'.out (by omega)
      have d0 := ints_at (hm'.out.ext (fun _ => hSb) hw) hlt
      have hSb' := Lib.hid hSb; clear hSb
      have hd := Lib.hid (show orI l = if l[k] ≠ 0 then l[k] else orI (l.drop (k + 1)) by rw [HH.out, List.drop_eq_getElem_cons hlt, orI])
      clear HH
      by_cases h0 : l[k] = 0
      · have hz : (l[k] != 0) = false := by simp [h0]
        have h0' := Lib.hid h0; clear h0
        go_wp2_with fail
        go_roundw
        case rel => exact ⟨k + 1, by omega, by go_num, Lib.hid (by rw [hd.out, if_neg (by rw [h0'.out]; simp)]), hw⟩
        case measure => simp [intOf]; omega
      · have hz : (l[k] != 0) = true := by simp [h0]
        have h0' := Lib.hid h0; clear h0
        go_wp2_with fail
        go_ret
        exact ⟨ret_int (by rw [hd.out, if_pos h0'.out]), hw⟩
    · have hkl : k = l.length := by omega
      subst hkl
      go_wp2_with fail
      go_ret
      exact ⟨ret_int (by rw [HH.out]; simp [orI]), hw⟩

def cmpV (a b : Val) : Int := orI [compareInt a.k b.k, compareInt a.n b.n, compareBytes a.s.data.toList b.s.data.toList]

set_option maxHeartbeats 1000000 in
theorem compare_any (a b : Val) (w : World) : Calls Try.prog 95 #[a.v, b.v] w fun r w' => r = .returned (.int .i64 (cmpV a b)) ∧ Ext w w' := by
  obtain ⟨k, n, s⟩ := a
  obtain ⟨k2, n2, s2⟩ := b
  simp only [Val.v]
  go_enter Try.func95, Try.ntmps95
  go_wp2_with fail
  generalize hWe : World.alloc (World.alloc w _) _ = W
  have a0 : W.cell? ⟨w.heap.size, 0, none⟩ = some (.int .i64 k) := by rw [← hWe]; clear hWe; go_simp
  have a1 : W.cell? ⟨w.heap.size, 1, none⟩ = some (.int .i64 n) := by rw [← hWe]; clear hWe; go_simp
  have a2 : W.cell? ⟨w.heap.size, 2, none⟩ = some (.string s) := by rw [← hWe]; clear hWe; go_simp
  have a3 : W.cell? ⟨w.heap.size + 1, 0, none⟩ = some (.int .i64 k2) := by rw [← hWe]; clear hWe; go_simp
  have a4 : W.cell? ⟨w.heap.size + 1, 1, none⟩ = some (.int .i64 n2) := by rw [← hWe]; clear hWe; go_simp
  have a5 : W.cell? ⟨w.heap.size + 1, 2, none⟩ = some (.string s2) := by rw [← hWe]; clear hWe; go_simp
  have hw : Ext w W := by rw [← hWe]; exact (by repeat' first | exact Ext.refl _ | assumption | apply Ext.alloc | apply Ext.drew | apply Ext.drewN | (refine Ext.trans ?_ (by assumption)))
  clear hWe
  go_region_held3 (fun w' => w'.cell? ⟨w.heap.size, 0, none⟩ = some (.int .i64 k) ∧ w'.cell? ⟨w.heap.size, 1, none⟩ = some (.int .i64 n) ∧ w'.cell? ⟨w.heap.size, 2, none⟩ = some (.string s) ∧ w'.cell? ⟨w.heap.size + 1, 0, none⟩ = some (.int .i64 k2) ∧ w'.cell? ⟨w.heap.size + 1, 1, none⟩ = some (.int .i64 n2) ∧ w'.cell? ⟨w.heap.size + 1, 2, none⟩ = some (.string s2))
    (first
      | exact ⟨a0, a1, a2, a3, a4, a5⟩
      | go_keep
      | exact ⟨he5.at ((((Ext.refl _).alloc _).drew).at a0), he5.at ((((Ext.refl _).alloc _).drew).at a1), he5.at ((((Ext.refl _).alloc _).drew).at a2), he5.at ((((Ext.refl _).alloc _).drew).at a3), he5.at ((((Ext.refl _).alloc _).drew).at a4), he5.at ((((Ext.refl _).alloc _).drew).at a5)⟩)
    ((first
      | (go_at_call 106; refine (Try.cmp_Compare_int _ _ _).mono ?_; rintro r w4 ⟨rfl, rfl⟩)
      | (go_at_call 107; refine (Try.strings_Compare _ _ _).mono ?_; rintro r w4 ⟨rfl, rfl⟩)
      | (go_at_call 105; refine (or_any [compareInt k k2, compareInt n n2, compareBytes s.data.toList s2.data.toList] Any _ _ (Rd.ext (rd_new_ints (by simp) (by rfl) (by rfl) (by simp)) (Ext.refl _).drew)).mono ?_; rintro r w5 ⟨rfl, he5⟩)))
  all_goals
    go_wp2_with fail
    go_ret
    exact ⟨rfl, hw.trans ((((Ext.refl _).alloc _).drew).trans he5)⟩
end Go.Proofs.Ytmhelkhmgbbfhaa

/- Walks: the operations on pairs of values. (written by gen_arith.py) -/
namespace Go.Proofs.Ytmhelkhmgbbfhaa
open Go.RowKit Go.Lib

/-- a pair of values, as the methods take it -/
def pairV (a b : Val) : Value := .agg #[.int .i64 a.k, .int .i64 a.n, .string a.s, .int .i64 b.k, .int .i64 b.n, .string b.s]

theorem ext_three {w w1 : World} (hw : Ext w w1) (B : Nat) (hB : w.heap.size ≤ B) (x y z : Value) : Ext w (((w1.setCell ⟨B, 0, none⟩ x).setCell ⟨B, 1, none⟩ y).setCell ⟨B, 2, none⟩ z) :=
  ((hw.setCell hB x).setCell hB y).setCell hB z

def divI (a b : Int) : Int := if b = 0 then 0 else wrap64 (a.tdiv b)
def modI (a b : Int) : Int := if b = 0 then 0 else a.tmod b

set_option maxHeartbeats 1000000 in
theorem add_any (a b : Val) (w : World) : Calls Try.prog 68 #[pairV a b] w fun r w' => r = .returned (numV (wrap64 (a.n + b.n))).v ∧ Ext w w' := by
  simp only [pairV]
  go_enter Try.func68, Try.ntmps68
  go_wp2_with fail
  refine (number_any _ _).mono ?_
  rintro r w1 ⟨rfl, he⟩
  have f0 : w1.cell? ⟨w.heap.size + 1, 0, none⟩ = some (.int .i64 0) := he.at (by go_simp)
  have f1 : w1.cell? ⟨w.heap.size + 1, 1, none⟩ = some (.int .i64 0) := he.at (by go_simp)
  have f2 : w1.cell? ⟨w.heap.size + 1, 2, none⟩ = some (.string ByteArray.empty) := he.at (by go_simp; rfl)
  have z0 : w1.frozen? ⟨w.heap.size + 1, 0, none⟩ = false := (he.frozens _ _ (by go_simp)).trans (by go_simp)
  have z1 : w1.frozen? ⟨w.heap.size + 1, 1, none⟩ = false := (he.frozens _ _ (by go_simp)).trans (by go_simp)
  have z2 : w1.frozen? ⟨w.heap.size + 1, 2, none⟩ = false := (he.frozens _ _ (by go_simp)).trans (by go_simp)
  have hw : Ext w w1 := ((Ext.refl w).alloc _ |>.alloc _).trans he
  clear he
  simp only [numV, Val.v]
  go_wp2_with fail
  exact bodyPost_ret (v := .agg #[.int .i64 0, .int .i64 (wrap64 (a.n + b.n)), .string ByteArray.empty]) (by simp [results, Try.results68, go_sem, f0, f1, f2]; done) rfl ⟨rfl, ext_three hw _ (by omega) _ _ _⟩

set_option maxHeartbeats 1000000 in
theorem sub_any (a b : Val) (w : World) : Calls Try.prog 69 #[pairV a b] w fun r w' => r = .returned (numV (wrap64 (a.n - b.n))).v ∧ Ext w w' := by
  simp only [pairV]
  go_enter Try.func69, Try.ntmps69
  go_wp2_with fail
  refine (number_any _ _).mono ?_
  rintro r w1 ⟨rfl, he⟩
  have f0 : w1.cell? ⟨w.heap.size + 1, 0, none⟩ = some (.int .i64 0) := he.at (by go_simp)
  have f1 : w1.cell? ⟨w.heap.size + 1, 1, none⟩ = some (.int .i64 0) := he.at (by go_simp)
  have f2 : w1.cell? ⟨w.heap.size + 1, 2, none⟩ = some (.string ByteArray.empty) := he.at (by go_simp; rfl)
  have z0 : w1.frozen? ⟨w.heap.size + 1, 0, none⟩ = false := (he.frozens _ _ (by go_simp)).trans (by go_simp)
  have z1 : w1.frozen? ⟨w.heap.size + 1, 1, none⟩ = false := (he.frozens _ _ (by go_simp)).trans (by go_simp)
  have z2 : w1.frozen? ⟨w.heap.size + 1, 2, none⟩ = false := (he.frozens _ _ (by go_simp)).trans (by go_simp)
  have hw : Ext w w1 := ((Ext.refl w).alloc _ |>.alloc _).trans he
  clear he
  simp only [numV, Val.v]
  go_wp2_with fail
  exact bodyPost_ret (v := .agg #[.int .i64 0, .int .i64 (wrap64 (a.n - b.n)), .string ByteArray.empty]) (by simp [results, Try.results69, go_sem, f0, f1, f2]; done) rfl ⟨rfl, ext_three hw _ (by omega) _ _ _⟩

set_option maxHeartbeats 1000000 in
theorem mul_any (a b : Val) (w : World) : Calls Try.prog 70 #[pairV a b] w fun r w' => r = .returned (numV (wrap64 (a.n * b.n))).v ∧ Ext w w' := by
  simp only [pairV]
  go_enter Try.func70, Try.ntmps70
  go_wp2_with fail
  refine (number_any _ _).mono ?_
  rintro r w1 ⟨rfl, he⟩
  have f0 : w1.cell? ⟨w.heap.size + 1, 0, none⟩ = some (.int .i64 0) := he.at (by go_simp)
  have f1 : w1.cell? ⟨w.heap.size + 1, 1, none⟩ = some (.int .i64 0) := he.at (by go_simp)
  have f2 : w1.cell? ⟨w.heap.size + 1, 2, none⟩ = some (.string ByteArray.empty) := he.at (by go_simp; rfl)
  have z0 : w1.frozen? ⟨w.heap.size + 1, 0, none⟩ = false := (he.frozens _ _ (by go_simp)).trans (by go_simp)
  have z1 : w1.frozen? ⟨w.heap.size + 1, 1, none⟩ = false := (he.frozens _ _ (by go_simp)).trans (by go_simp)
  have z2 : w1.frozen? ⟨w.heap.size + 1, 2, none⟩ = false := (he.frozens _ _ (by go_simp)).trans (by go_simp)
  have hw : Ext w w1 := ((Ext.refl w).alloc _ |>.alloc _).trans he
  clear he
  simp only [numV, Val.v]
  go_wp2_with fail
  exact bodyPost_ret (v := .agg #[.int .i64 0, .int .i64 (wrap64 (a.n * b.n)), .string ByteArray.empty]) (by simp [results, Try.results70, go_sem, f0, f1, f2]; done) rfl ⟨rfl, ext_three hw _ (by omega) _ _ _⟩

set_option maxHeartbeats 1000000 in
theorem div_any (a b : Val) (w : World) : Calls Try.prog 71 #[pairV a b] w fun r w' => r = .returned (numV (divI a.n b.n)).v ∧ Ext w w' := by
  simp only [pairV]
  by_cases hb : b.n = 0
  · have hd : (b.n == 0) = true := by simp [hb]
    have hr : divI a.n b.n = 0 := by simp [divI, hb]
    rw [hr]
    clear hb hr
    go_enter Try.func71, Try.ntmps71
    go_wp2_with fail
    refine (number_any _ _).mono ?_
    rintro r w1 ⟨rfl, he⟩
    have f0 : w1.cell? ⟨w.heap.size + 1, 0, none⟩ = some (.int .i64 0) := he.at (by go_simp)
    have f1 : w1.cell? ⟨w.heap.size + 1, 1, none⟩ = some (.int .i64 0) := he.at (by go_simp)
    have f2 : w1.cell? ⟨w.heap.size + 1, 2, none⟩ = some (.string ByteArray.empty) := he.at (by go_simp; rfl)
    have z0 : w1.frozen? ⟨w.heap.size + 1, 0, none⟩ = false := (he.frozens _ _ (by go_simp)).trans (by go_simp)
    have z1 : w1.frozen? ⟨w.heap.size + 1, 1, none⟩ = false := (he.frozens _ _ (by go_simp)).trans (by go_simp)
    have z2 : w1.frozen? ⟨w.heap.size + 1, 2, none⟩ = false := (he.frozens _ _ (by go_simp)).trans (by go_simp)
    have hw : Ext w w1 := ((Ext.refl w).alloc _ |>.alloc _).trans he
    clear he
    simp only [numV, Val.v]
    go_wp2_with fail
    exact bodyPost_ret (v := .agg #[.int .i64 0, .int .i64 0, .string ByteArray.empty]) (by simp [results, Try.results71, go_sem, f0, f1, f2]; done) rfl ⟨rfl, ext_three hw _ (by omega) _ _ _⟩
  · have hd : (b.n == 0) = false := by simp [hb]
    have hr : divI a.n b.n = wrap64 (a.n.tdiv b.n) := by simp [divI, hb]
    rw [hr]
    clear hr
    go_enter Try.func71, Try.ntmps71
    go_wp2_with fail
    refine (number_any _ _).mono ?_
    rintro r w1 ⟨rfl, he⟩
    have f0 : w1.cell? ⟨w.heap.size + 1, 0, none⟩ = some (.int .i64 0) := he.at (by go_simp)
    have f1 : w1.cell? ⟨w.heap.size + 1, 1, none⟩ = some (.int .i64 0) := he.at (by go_simp)
    have f2 : w1.cell? ⟨w.heap.size + 1, 2, none⟩ = some (.string ByteArray.empty) := he.at (by go_simp; rfl)
    have z0 : w1.frozen? ⟨w.heap.size + 1, 0, none⟩ = false := (he.frozens _ _ (by go_simp)).trans (by go_simp)
    have z1 : w1.frozen? ⟨w.heap.size + 1, 1, none⟩ = false := (he.frozens _ _ (by go_simp)).trans (by go_simp)
    have z2 : w1.frozen? ⟨w.heap.size + 1, 2, none⟩ = false := (he.frozens _ _ (by go_simp)).trans (by go_simp)
    have hw : Ext w w1 := ((Ext.refl w).alloc _ |>.alloc _).trans he
    clear he
    simp only [numV, Val.v]
    go_wp2_with fail
    exact bodyPost_ret (v := .agg #[.int .i64 0, .int .i64 (wrap64 (a.n.tdiv b.n)), .string ByteArray.empty]) (by simp [results, Try.results71, go_sem, f0, f1, f2]; done) rfl ⟨rfl, ext_three hw _ (by omega) _ _ _⟩

set_option maxHeartbeats 1000000 in
theorem mod_any (a b : Val) (w : World) : Calls Try.prog 72 #[pairV a b] w fun r w' => r = .returned (numV (modI a.n b.n)).v ∧ Ext w w' := by
  simp only [pairV]
  by_cases hb : b.n = 0
  · have hd : (b.n == 0) = true := by simp [hb]
    have hr : modI a.n b.n = 0 := by simp [modI, hb]
    rw [hr]
    clear hb hr
    go_enter Try.func72, Try.ntmps72
    go_wp2_with fail
    refine (number_any _ _).mono ?_
    rintro r w1 ⟨rfl, he⟩
    have f0 : w1.cell? ⟨w.heap.size + 1, 0, none⟩ = some (.int .i64 0) := he.at (by go_simp)
    have f1 : w1.cell? ⟨w.heap.size + 1, 1, none⟩ = some (.int .i64 0) := he.at (by go_simp)
    have f2 : w1.cell? ⟨w.heap.size + 1, 2, none⟩ = some (.string ByteArray.empty) := he.at (by go_simp; rfl)
    have z0 : w1.frozen? ⟨w.heap.size + 1, 0, none⟩ = false := (he.frozens _ _ (by go_simp)).trans (by go_simp)
    have z1 : w1.frozen? ⟨w.heap.size + 1, 1, none⟩ = false := (he.frozens _ _ (by go_simp)).trans (by go_simp)
    have z2 : w1.frozen? ⟨w.heap.size + 1, 2, none⟩ = false := (he.frozens _ _ (by go_simp)).trans (by go_simp)
    have hw : Ext w w1 := ((Ext.refl w).alloc _ |>.alloc _).trans he
    clear he
    simp only [numV, Val.v]
    go_wp2_with fail
    exact bodyPost_ret (v := .agg #[.int .i64 0, .int .i64 0, .string ByteArray.empty]) (by simp [results, Try.results72, go_sem, f0, f1, f2]; done) rfl ⟨rfl, ext_three hw _ (by omega) _ _ _⟩
  · have hd : (b.n == 0) = false := by simp [hb]
    have hr : modI a.n b.n = a.n.tmod b.n := by simp [modI, hb]
    rw [hr]
    clear hr
    go_enter Try.func72, Try.ntmps72
    go_wp2_with fail
    refine (number_any _ _).mono ?_
    rintro r w1 ⟨rfl, he⟩
    have f0 : w1.cell? ⟨w.heap.size + 1, 0, none⟩ = some (.int .i64 0) := he.at (by go_simp)
    have f1 : w1.cell? ⟨w.heap.size + 1, 1, none⟩ = some (.int .i64 0) := he.at (by go_simp)
    have f2 : w1.cell? ⟨w.heap.size + 1, 2, none⟩ = some (.string ByteArray.empty) := he.at (by go_simp; rfl)
    have z0 : w1.frozen? ⟨w.heap.size + 1, 0, none⟩ = false := (he.frozens _ _ (by go_simp)).trans (by go_simp)
    have z1 : w1.frozen? ⟨w.heap.size + 1, 1, none⟩ = false := (he.frozens _ _ (by go_simp)).trans (by go_simp)
    have z2 : w1.frozen? ⟨w.heap.size + 1, 2, none⟩ = false := (he.frozens _ _ (by go_simp)).trans (by go_simp)
    have hw : Ext w w1 := ((Ext.refl w).alloc _ |>.alloc _).trans he
    clear he
    simp only [numV, Val.v]
    go_wp2_with fail
    exact bodyPost_ret (v := .agg #[.int .i64 0, .int .i64 (a.n.tmod b.n), .string ByteArray.empty]) (by simp [results, Try.results72, go_sem, f0, f1, f2]; done) rfl ⟨rfl, ext_three hw _ (by omega) _ _ _⟩

def eqV (a b : Val) : Bool := decide (a.k = b.k ∧ a.n = b.n ∧ a.s.toList = b.s.toList)

set_option maxHeartbeats 1000000 in
theorem eq_any (a b : Val) (w : World) : Calls Try.prog 73 #[pairV a b] w fun r w' => r = .returned (boolV (eqV a b)).v ∧ Ext w w' := by
  simp only [pairV]
  go_enter Try.func73, Try.ntmps73
  go_wp2_with fail
  all_goals
    refine (truth_any _ _).mono ?_
    rintro r w1 ⟨rfl, he⟩
    have f0 : w1.cell? ⟨w.heap.size + 1, 0, none⟩ = some (.int .i64 0) := he.at (by go_simp)
    have f1 : w1.cell? ⟨w.heap.size + 1, 1, none⟩ = some (.int .i64 0) := he.at (by go_simp)
    have f2 : w1.cell? ⟨w.heap.size + 1, 2, none⟩ = some (.string ByteArray.empty) := he.at (by go_simp; rfl)
    have z0 : w1.frozen? ⟨w.heap.size + 1, 0, none⟩ = false := (he.frozens _ _ (by go_simp)).trans (by go_simp)
    have z1 : w1.frozen? ⟨w.heap.size + 1, 1, none⟩ = false := (he.frozens _ _ (by go_simp)).trans (by go_simp)
    have z2 : w1.frozen? ⟨w.heap.size + 1, 2, none⟩ = false := (he.frozens _ _ (by go_simp)).trans (by go_simp)
    have hw : Ext w w1 := ((Ext.refl w).alloc _ |>.alloc _).trans he
    clear he
    simp only [boolV, Val.v]
    go_wp2_with fail
    first
      | (refine bodyPost_ret (v := .agg #[.int .i64 2, .int .i64 1, .string ByteArray.empty]) ?_ rfl ⟨?_, ext_three hw _ (by omega) _ _ _⟩
         · simp [results, Try.results73, go_sem, f0, f1, f2]
         · simp [boolV, Val.v, eqV, *])
      | (refine bodyPost_ret (v := .agg #[.int .i64 2, .int .i64 0, .string ByteArray.empty]) ?_ rfl ⟨?_, ext_three hw _ (by omega) _ _ _⟩
         · simp [results, Try.results73, go_sem, f0, f1, f2]
         · simp [boolV, Val.v, eqV, *])

set_option maxHeartbeats 1000000 in
theorem ne_any (a b : Val) (w : World) : Calls Try.prog 74 #[pairV a b] w fun r w' => r = .returned (boolV (!eqV a b)).v ∧ Ext w w' := by
  simp only [pairV]
  go_enter Try.func74, Try.ntmps74
  go_wp2_with fail
  all_goals
    refine (truth_any _ _).mono ?_
    rintro r w1 ⟨rfl, he⟩
    have f0 : w1.cell? ⟨w.heap.size + 1, 0, none⟩ = some (.int .i64 0) := he.at (by go_simp)
    have f1 : w1.cell? ⟨w.heap.size + 1, 1, none⟩ = some (.int .i64 0) := he.at (by go_simp)
    have f2 : w1.cell? ⟨w.heap.size + 1, 2, none⟩ = some (.string ByteArray.empty) := he.at (by go_simp; rfl)
    have z0 : w1.frozen? ⟨w.heap.size + 1, 0, none⟩ = false := (he.frozens _ _ (by go_simp)).trans (by go_simp)
    have z1 : w1.frozen? ⟨w.heap.size + 1, 1, none⟩ = false := (he.frozens _ _ (by go_simp)).trans (by go_simp)
    have z2 : w1.frozen? ⟨w.heap.size + 1, 2, none⟩ = false := (he.frozens _ _ (by go_simp)).trans (by go_simp)
    have hw : Ext w w1 := ((Ext.refl w).alloc _ |>.alloc _).trans he
    clear he
    simp only [boolV, Val.v]
    go_wp2_with fail
    first
      | (refine bodyPost_ret (v := .agg #[.int .i64 2, .int .i64 1, .string ByteArray.empty]) ?_ rfl ⟨?_, ext_three hw _ (by omega) _ _ _⟩
         · simp [results, Try.results74, go_sem, f0, f1, f2]
         · simp [boolV, Val.v, eqV, *])
      | (refine bodyPost_ret (v := .agg #[.int .i64 2, .int .i64 0, .string ByteArray.empty]) ?_ rfl ⟨?_, ext_three hw _ (by omega) _ _ _⟩
         · simp [results, Try.results74, go_sem, f0, f1, f2]
         · simp [boolV, Val.v, eqV, *])

set_option maxHeartbeats 1000000 in
theorem lt_any (a b : Val) (w : World) : Calls Try.prog 75 #[pairV a b] w fun r w' => r = .returned (boolV (decide (cmpV a b < 0))).v ∧ Ext w w' := by
  simp only [pairV]
  go_enter Try.func75, Try.ntmps75
  go_wp2_with fail
  have hc := compare_any a b
  simp only [Val.v] at hc
  refine (hc _).mono ?_
  rintro r w0 ⟨rfl, he0⟩
  clear hc
  go_wp2_with fail
  refine (truth_any _ _).mono ?_
  rintro r w1 ⟨rfl, he⟩
  replace he := he0.trans he
  clear he0
  have f0 : w1.cell? ⟨w.heap.size + 1, 0, none⟩ = some (.int .i64 0) := he.at (by go_simp)
  have f1 : w1.cell? ⟨w.heap.size + 1, 1, none⟩ = some (.int .i64 0) := he.at (by go_simp)
  have f2 : w1.cell? ⟨w.heap.size + 1, 2, none⟩ = some (.string ByteArray.empty) := he.at (by go_simp; rfl)
  have z0 : w1.frozen? ⟨w.heap.size + 1, 0, none⟩ = false := (he.frozens _ _ (by go_simp)).trans (by go_simp)
  have z1 : w1.frozen? ⟨w.heap.size + 1, 1, none⟩ = false := (he.frozens _ _ (by go_simp)).trans (by go_simp)
  have z2 : w1.frozen? ⟨w.heap.size + 1, 2, none⟩ = false := (he.frozens _ _ (by go_simp)).trans (by go_simp)
  have hw : Ext w w1 := ((Ext.refl w).alloc _ |>.alloc _).trans he
  clear he
  cases hcc : decide (cmpV a b < 0)
  all_goals
    simp only [boolV, Val.v]
    go_wp2_with fail
    first
      | (refine bodyPost_ret (v := .agg #[.int .i64 2, .int .i64 1, .string ByteArray.empty]) ?_ rfl ⟨?_, ext_three hw _ (by omega) _ _ _⟩
         · simp [results, Try.results75, go_sem, f0, f1, f2]
         · simp [boolV, Val.v, hcc])
      | (refine bodyPost_ret (v := .agg #[.int .i64 2, .int .i64 0, .string ByteArray.empty]) ?_ rfl ⟨?_, ext_three hw _ (by omega) _ _ _⟩
         · simp [results, Try.results75, go_sem, f0, f1, f2]
         · simp [boolV, Val.v, hcc])

set_option maxHeartbeats 1000000 in
theorem le_any (a b : Val) (w : World) : Calls Try.prog 76 #[pairV a b] w fun r w' => r = .returned (boolV (decide (cmpV a b ≤ 0))).v ∧ Ext w w' := by
  simp only [pairV]
  go_enter Try.func76, Try.ntmps76
  go_wp2_with fail
  have hc := compare_any a b
  simp only [Val.v] at hc
  refine (hc _).mono ?_
  rintro r w0 ⟨rfl, he0⟩
  clear hc
  go_wp2_with fail
  refine (truth_any _ _).mono ?_
  rintro r w1 ⟨rfl, he⟩
  replace he := he0.trans he
  clear he0
  have f0 : w1.cell? ⟨w.heap.size + 1, 0, none⟩ = some (.int .i64 0) := he.at (by go_simp)
  have f1 : w1.cell? ⟨w.heap.size + 1, 1, none⟩ = some (.int .i64 0) := he.at (by go_simp)
  have f2 : w1.cell? ⟨w.heap.size + 1, 2, none⟩ = some (.string ByteArray.empty) := he.at (by go_simp; rfl)
  have z0 : w1.frozen? ⟨w.heap.size + 1, 0, none⟩ = false := (he.frozens _ _ (by go_simp)).trans (by go_simp)
  have z1 : w1.frozen? ⟨w.heap.size + 1, 1, none⟩ = false := (he.frozens _ _ (by go_simp)).trans (by go_simp)
  have z2 : w1.frozen? ⟨w.heap.size + 1, 2, none⟩ = false := (he.frozens _ _ (by go_simp)).trans (by go_simp)
  have hw : Ext w w1 := ((Ext.refl w).alloc _ |>.alloc _).trans he
  clear he
  cases hcc : decide (cmpV a b ≤ 0)
  all_goals
    simp only [boolV, Val.v]
    go_wp2_with fail
    first
      | (refine bodyPost_ret (v := .agg #[.int .i64 2, .int .i64 1, .string ByteArray.empty]) ?_ rfl ⟨?_, ext_three hw _ (by omega) _ _ _⟩
         · simp [results, Try.results76, go_sem, f0, f1, f2]
         · simp [boolV, Val.v, hcc])
      | (refine bodyPost_ret (v := .agg #[.int .i64 2, .int .i64 0, .string ByteArray.empty]) ?_ rfl ⟨?_, ext_three hw _ (by omega) _ _ _⟩
         · simp [results, Try.results76, go_sem, f0, f1, f2]
         · simp [boolV, Val.v, hcc])

set_option maxHeartbeats 1000000 in
theorem both_any (a b : Val) (w : World) : Calls Try.prog 77 #[pairV a b] w fun r w' => r = .returned (boolV (decide (a.n = 1) && decide (b.n = 1))).v ∧ Ext w w' := by
  simp only [pairV]
  by_cases h1 : a.n = 1 <;> by_cases h2 : b.n = 1
  all_goals
    have g1 : (a.n == 1) = decide (a.n = 1) := rfl
    have g2 : (b.n == 1) = decide (b.n = 1) := rfl
    simp only [h1, h2, decide_true, decide_false] at g1 g2
    simp only [h1, h2, decide_true, decide_false]
    go_enter Try.func77, Try.ntmps77
    go_wp2_with fail
    refine (truth_any _ _).mono ?_
    rintro r w1 ⟨rfl, he⟩
    have f0 : w1.cell? ⟨w.heap.size + 1, 0, none⟩ = some (.int .i64 0) := he.at (by go_simp)
    have f1 : w1.cell? ⟨w.heap.size + 1, 1, none⟩ = some (.int .i64 0) := he.at (by go_simp)
    have f2 : w1.cell? ⟨w.heap.size + 1, 2, none⟩ = some (.string ByteArray.empty) := he.at (by go_simp; rfl)
    have z0 : w1.frozen? ⟨w.heap.size + 1, 0, none⟩ = false := (he.frozens _ _ (by go_simp)).trans (by go_simp)
    have z1 : w1.frozen? ⟨w.heap.size + 1, 1, none⟩ = false := (he.frozens _ _ (by go_simp)).trans (by go_simp)
    have z2 : w1.frozen? ⟨w.heap.size + 1, 2, none⟩ = false := (he.frozens _ _ (by go_simp)).trans (by go_simp)
    have hw : Ext w w1 := ((Ext.refl w).alloc _ |>.alloc _).trans he
    clear he
    simp only [boolV, Val.v]
    go_wp2_with fail
    first
      | (refine bodyPost_ret (v := .agg #[.int .i64 2, .int .i64 1, .string ByteArray.empty]) ?_ rfl ⟨?_, ext_three hw _ (by omega) _ _ _⟩
         · simp [results, Try.results77, go_sem, f0, f1, f2]
         · simp [boolV, Val.v, eqV, *])
      | (refine bodyPost_ret (v := .agg #[.int .i64 2, .int .i64 0, .string ByteArray.empty]) ?_ rfl ⟨?_, ext_three hw _ (by omega) _ _ _⟩
         · simp [results, Try.results77, go_sem, f0, f1, f2]
         · simp [boolV, Val.v, eqV, *])

set_option maxHeartbeats 1000000 in
theorem any_any (a b : Val) (w : World) : Calls Try.prog 78 #[pairV a b] w fun r w' => r = .returned (boolV (decide (a.n = 1) || decide (b.n = 1))).v ∧ Ext w w' := by
  simp only [pairV]
  by_cases h1 : a.n = 1 <;> by_cases h2 : b.n = 1
  all_goals
    have g1 : (a.n == 1) = decide (a.n = 1) := rfl
    have g2 : (b.n == 1) = decide (b.n = 1) := rfl
    simp only [h1, h2, decide_true, decide_false] at g1 g2
    simp only [h1, h2, decide_true, decide_false]
    go_enter Try.func78, Try.ntmps78
    go_wp2_with fail
    refine (truth_any _ _).mono ?_
    rintro r w1 ⟨rfl, he⟩
    have f0 : w1.cell? ⟨w.heap.size + 1, 0, none⟩ = some (.int .i64 0) := he.at (by go_simp)
    have f1 : w1.cell? ⟨w.heap.size + 1, 1, none⟩ = some (.int .i64 0) := he.at (by go_simp)
    have f2 : w1.cell? ⟨w.heap.size + 1, 2, none⟩ = some (.string ByteArray.empty) := he.at (by go_simp; rfl)
    have z0 : w1.frozen? ⟨w.heap.size + 1, 0, none⟩ = false := (he.frozens _ _ (by go_simp)).trans (by go_simp)
    have z1 : w1.frozen? ⟨w.heap.size + 1, 1, none⟩ = false := (he.frozens _ _ (by go_simp)).trans (by go_simp)
    have z2 : w1.frozen? ⟨w.heap.size + 1, 2, none⟩ = false := (he.frozens _ _ (by go_simp)).trans (by go_simp)
    have hw : Ext w w1 := ((Ext.refl w).alloc _ |>.alloc _).trans he
    clear he
    simp only [boolV, Val.v]
    go_wp2_with fail
    first
      | (refine bodyPost_ret (v := .agg #[.int .i64 2, .int .i64 1, .string ByteArray.empty]) ?_ rfl ⟨?_, ext_three hw _ (by omega) _ _ _⟩
         · simp [results, Try.results78, go_sem, f0, f1, f2]
         · simp [boolV, Val.v, eqV, *])
      | (refine bodyPost_ret (v := .agg #[.int .i64 2, .int .i64 0, .string ByteArray.empty]) ?_ rfl ⟨?_, ext_three hw _ (by omega) _ _ _⟩
         · simp [results, Try.results78, go_sem, f0, f1, f2]
         · simp [boolV, Val.v, eqV, *])

/-- two texts in one, of at most 200 bytes -/
def joinS (a b : ByteArray) : ByteArray := (a ++ b).extract 0 (min (a.size + b.size) 200)

set_option maxHeartbeats 1000000 in
theorem join_any (a b : Val) (hz : ¬9223372036854775807 < a.s.size + b.s.size) (w : World) : Calls Try.prog 79 #[pairV a b] w fun r w' => r = .returned (textV (joinS a.s b.s)).v ∧ Ext w w' := by
  simp only [pairV]
  have hj := Lib.hid (show joinS a.s b.s = (a.s ++ b.s).extract 0 (min ((a.s.size : Int) + b.s.size) 200).toNat by
    have : (min ((a.s.size : Int) + b.s.size) 200).toNat = min (a.s.size + b.s.size) 200 := by omega
    rw [this]; rfl)
  go_enter Try.func79, Try.ntmps79
  go_wp2_with fail
  exact bodyPost_ret (v := .agg #[.int .i64 1, .int .i64 0, .string ((a.s ++ b.s).extract 0 (min ((a.s.size : Int) + b.s.size) 200).toNat)]) (by simp [results, Try.results79, go_sem]) rfl ⟨by simp only [textV, Val.v, hj.out], (by repeat' first | exact Ext.refl _ | assumption | apply Ext.alloc | apply Ext.drew | apply Ext.drewN | (refine Ext.trans ?_ (by assumption)))⟩
end Go.Proofs.Ytmhelkhmgbbfhaa

/- Walks: types of operations, as the program finds them. -/
namespace Go.Proofs.Ytmhelkhmgbbfhaa
open Go.RowKit Go.Lib

theorem len3 {l : List Int} (h : l.length = 3) : ∃ a b c, l = [a, b, c] := by
  match l, h with | [a, b, c], _ => exact ⟨a, b, c, rfl⟩
theorem allAre_one (ts : List Int) (t : Int) : allAre ts t 1 = decide (ts = [t]) := by
  unfold allAre
  match ts with
  | [] => simp
  | [a] => by_cases h : a = t <;> simp [h]
  | a :: b :: l => simp; omega
theorem allAre_two (ts : List Int) (t : Int) : allAre ts t 2 = decide (ts = [t, t]) := by
  unfold allAre
  match ts with
  | [] => simp
  | [a] => simp
  | [a, b] => by_cases h : a = t <;> by_cases h2 : b = t <;> simp [h, h2]
  | a :: b :: c :: l => simp; omega
theorem answer_dec {p : Prop} [Decidable p] {x : Int} {t : Option Int} (h : t = if p then some x else none) : Answer t (.returned (.tuple #[.int .i64 x, .bool (decide p)])) := by
  refine answer_of ?_
  rw [h]; by_cases hp : p <;> simp [hp]

set_option maxRecDepth 10000 in
set_option maxHeartbeats 4000000 in
theorem operation_any (e : Ex) (ts : List Int) (S S2 : Nat → Prop) (cs : List Value) (v : Value) (w : World) (hr : Rd w S e.d cs) (hts : Rd w S2 (.sl (ts.map D.int)) [v]) (hne : ts ≠ []) :
    Calls Try.prog 94 #[.agg cs.toArray, v] w fun r w' => Answer (operT e.op e.n ts) r ∧ Ext w w' := by
  obtain ⟨A, cap, b, off, rfl, hl1, hl2, hl3, hm⟩ := Ex.open hr
  obtain ⟨o, m, s, l⟩ := e
  simp only [Ex.args, Ex.op, Ex.n, Ex.s] at *
  obtain ⟨A9, cap9, b9, off9, rfl, z1, z2, z3, z4⟩ := Rd.sl_open hts
  simp only [List.length_map] at *
  have hts' := Lib.hid hts
  have hpos : 0 < ts.length := by cases ts with | nil => exact absurd rfl hne | cons a r => simp
  obtain ⟨rfl, hSb⟩ := z3 hpos
  have hne' := Lib.hid hne
  have c0 := ints_at z4 hpos
  simp only [Nat.add_zero] at c0
  have z4' := Lib.hid z4; have hSb' := Lib.hid hSb
  clear hr hm hl3 hts z3 z4 hne hSb
  by_cases hm0 : m = 0
  case neg =>
    have H := Lib.hid (show operT o m ts = none by unfold operT; rw [if_pos hm0])
    go_enter Try.func94, Try.ntmps94
    go_wp2_with fail
    go_ret2
    exact ⟨by rw [H.out]; exact answer_none, (by repeat' first | exact Ext.refl _ | assumption | apply Ext.alloc | apply Ext.drew | apply Ext.drewN | (refine Ext.trans ?_ (by assumption)))⟩
  subst hm0
  have hO : (o = 6 ∨ o = 7 ∨ o = 20) ∨ (o = 8 ∨ o = 9 ∨ o = 10 ∨ o = 11 ∨ o = 12) ∨ (o = 13 ∨ o = 14 ∨ o = 15 ∨ o = 16) ∨ (o = 17 ∨ o = 18 ∨ o = 19) ∨ o = 21 ∨ (o < 6 ∨ 21 < o) := by omega
  have hO' := Lib.hid hO; clear hO
  have hall := Lib.hid (fun (t n : Int) (b : Nat) (w' : World) (h : w'.cell? ⟨b, 0, none⟩ = some (.slice (some ⟨b9, off9, none⟩) ts.length cap9)) (hw : Ext w w') => all_any ts t n b S2 _ w' h (hts'.out.ext hw))
  rcases hO'.out with hC | hC | hC | hC | hC | hC
  · clear hO'
    rcases hC with rfl | rfl | rfl
    all_goals
      go_enter Try.func94, Try.ntmps94
      go_wp2_with fail
      refine (hall.out _ _ _ _ (by go_simp) (by repeat' first | exact Ext.refl _ | assumption | apply Ext.alloc | apply Ext.drew | apply Ext.drewN | (refine Ext.trans ?_ (by assumption)))).mono ?_
      rintro r w1 ⟨rfl, he⟩
      go_wp2_with fail
      go_ret2
      exact ⟨by rw [allAre_one]; exact answer_dec (by simp [operT]), (by repeat' first | exact Ext.refl _ | assumption | apply Ext.alloc | apply Ext.drew | apply Ext.drewN | (refine Ext.trans ?_ (by assumption)))⟩
  · clear hO'
    rcases hC with rfl | rfl | rfl | rfl | rfl
    all_goals
      go_enter Try.func94, Try.ntmps94
      go_wp2_with fail
      refine (hall.out _ _ _ _ (by go_simp) (by repeat' first | exact Ext.refl _ | assumption | apply Ext.alloc | apply Ext.drew | apply Ext.drewN | (refine Ext.trans ?_ (by assumption)))).mono ?_
      rintro r w1 ⟨rfl, he⟩
      go_wp2_with fail
      go_ret2
      exact ⟨by rw [allAre_two]; exact answer_dec (by simp [operT]), (by repeat' first | exact Ext.refl _ | assumption | apply Ext.alloc | apply Ext.drew | apply Ext.drewN | (refine Ext.trans ?_ (by assumption)))⟩
  · clear hO'
    have H := Lib.hid (show ∀ op : Int, 13 ≤ op ∧ op ≤ 16 → operT op 0 ts = if ts = [ts[0], ts[0]] then some 2 else none by
      intro op hop
      unfold operT
      rw [if_neg (by simp), if_neg (by omega), if_neg (by omega), if_neg (by omega), if_neg (by omega), if_pos hop]
      match ts with
      | [a] => simp
      | [a, b] => simp; by_cases hab : a = b <;> simp [hab]; exact fun h => hab h.symm
      | a :: b :: c :: r => simp)
    have hld : ∀ o1 o2, ((w.alloc o1).alloc o2).cell? ⟨b9, off9, none⟩ = some (.int .i64 ts[0]) := fun o1 o2 => (((Ext.refl w).alloc o1).alloc o2).at c0
    rcases hC with rfl | rfl | rfl | rfl
    all_goals
      go_enter Try.func94, Try.ntmps94
      go_wp2_with fail
      refine (hall.out _ _ _ _ (by go_simp) (by repeat' first | exact Ext.refl _ | assumption | apply Ext.alloc | apply Ext.drew | apply Ext.drewN | (refine Ext.trans ?_ (by assumption)))).mono ?_
      rintro r w1 ⟨rfl, he⟩
      go_wp2_with fail
      go_ret2
      exact ⟨by rw [allAre_two]; exact answer_dec (H.out _ (by decide)), (by repeat' first | exact Ext.refl _ | assumption | apply Ext.alloc | apply Ext.drew | apply Ext.drewN | (refine Ext.trans ?_ (by assumption)))⟩
  · clear hO'
    rcases hC with rfl | rfl | rfl
    all_goals
      go_enter Try.func94, Try.ntmps94
      go_wp2_with fail
      refine (hall.out _ _ _ _ (by go_simp) (by repeat' first | exact Ext.refl _ | assumption | apply Ext.alloc | apply Ext.drew | apply Ext.drewN | (refine Ext.trans ?_ (by assumption)))).mono ?_
      rintro r w1 ⟨rfl, he⟩
      go_wp2_with fail
      go_ret2
      exact ⟨by rw [allAre_two]; exact answer_dec (by simp [operT]), (by repeat' first | exact Ext.refl _ | assumption | apply Ext.alloc | apply Ext.drew | apply Ext.drewN | (refine Ext.trans ?_ (by assumption)))⟩
  · clear hO'
    subst hC
    have hbx : ∀ o1 (x : ExtW ((w.alloc o1).alloc (.cells #[.slice (some ⟨b9, off9, none⟩) ts.length cap9] 31))), x.val.cell? ⟨w.heap.size + 1, 0, none⟩ = some (.slice (some ⟨b9, off9, none⟩) ts.length cap9) := fun o1 x => x.ext.at (by go_simp)
    have hcl : ∀ (j : Nat) (hj : j < ts.length) o1 o2 (x : ExtW ((w.alloc o1).alloc o2)), x.val.cell? ⟨b9, off9 + j, none⟩ = some (.int .i64 ts[j]) := fun j hj o1 o2 x => x.ext.at ((((Ext.refl w).alloc o1).alloc o2).at (ints_at z4'.out hj))
    have hcl' := Lib.hid hcl; clear hcl
    by_cases hl : ts.length = 3
    · obtain ⟨t0, t1, t2, rfl⟩ := len3 hl
      have y0 := hcl'.out 0 (by simp)
      have y1 := hcl'.out 1 (by simp)
      have y2 := hcl'.out 2 (by simp)
      simp only [List.getElem_cons_zero, List.getElem_cons_succ, Nat.add_zero, List.length_cons, List.length_nil, Nat.zero_add, Nat.reduceAdd] at y0 y1 y2 hbx
      clear c0
      by_cases ht : t0 = 2
      · subst ht
        go_enter Try.func94, Try.ntmps94
        go_wp2_with fail
        refine wp_region_ext (by kernel_rfl) (by kernel_rfl) ?_
        repeat (go_big_quiet_step ((fail)))
        refine wpQuiet_nil ?_
        intro w1 he
        go_wp2_with fail
        go_ret2
        exact ⟨answer_of (by by_cases hx : t1 = t2 <;> simp [operT, hx]), (by repeat' first | exact Ext.refl _ | assumption | apply Ext.alloc | apply Ext.drew | apply Ext.drewN | (refine Ext.trans ?_ (by assumption)))⟩
      · have ht2 : (t0 == 2) = false := by simp [ht]
        go_enter Try.func94, Try.ntmps94
        go_wp2_with fail
        refine wp_region_ext (by kernel_rfl) (by kernel_rfl) ?_
        repeat (go_big_quiet_step ((fail)))
        refine wpQuiet_nil ?_
        intro w1 he
        go_wp2_with fail
        go_ret2
        exact ⟨answer_of (by simp [operT, ht]), (by repeat' first | exact Ext.refl _ | assumption | apply Ext.alloc | apply Ext.drew | apply Ext.drewN | (refine Ext.trans ?_ (by assumption)))⟩
    · have y0 := hcl'.out (ts.length - 1) (by omega)
      have hl2 : ¬ (ts.length : Int) = 3 := by omega
      have hl3 : ((ts.length : Int) == 3) = false := by simp; omega
      have hz : off9 + (ts.length - 1) = off9 + (ts.length - 1) := rfl
      clear hz
      have H := Lib.hid (show operT 21 0 ts = none by
        unfold operT
        rw [if_neg (by simp), if_neg (by omega), if_neg (by omega), if_neg (by omega), if_neg (by omega), if_neg (by omega), if_neg (by omega), if_neg (by omega), if_pos rfl]
        match ts, hl with
        | [], _ => rfl
        | [a], _ => rfl
        | [a, b], _ => rfl
        | [a, b, c], h => exact absurd rfl h
        | a :: b :: c :: d :: r, _ => rfl)
      go_enter Try.func94, Try.ntmps94
      go_wp2_with fail
      refine wp_region_ext (by kernel_rfl) (by kernel_rfl) ?_
      repeat (go_big_quiet_step ((fail)))
      refine wpQuiet_nil ?_
      intro w1 he
      go_wp2_with fail
      go_ret2
      exact ⟨by rw [H.out]; exact answer_none, (by repeat' first | exact Ext.refl _ | assumption | apply Ext.alloc | apply Ext.drew | apply Ext.drewN | (refine Ext.trans ?_ (by assumption)))⟩
  · clear hO'
    have H := Lib.hid (show operT o 0 ts = none by
      unfold operT
      rw [if_neg (by simp), if_neg (by omega), if_neg (by omega), if_neg (by omega), if_neg (by omega), if_neg (by omega), if_neg (by omega), if_neg (by omega), if_neg (by omega)])
    rcases hC with hC | hC
    all_goals
      go_enter Try.func94, Try.ntmps94
      go_wp2_with fail
      go_ret2
      exact ⟨by rw [H.out]; exact answer_none, (by repeat' first | exact Ext.refl _ | assumption | apply Ext.alloc | apply Ext.drew | apply Ext.drewN | (refine Ext.trans ?_ (by assumption)))⟩

end Go.Proofs.Ytmhelkhmgbbfhaa
