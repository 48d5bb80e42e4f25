/- Walks: whether an expression reads the time, of the reference. -/
import Derived.Shelf.SlIterI.Nil
import Derived.Shelf.SortM.Plain
import Derived.Shelf.SortM.SortNone
import Derived.Ground.GgzProg
import Derived.Ground.SlgmProg
import Derived.Test.YtmhelkhmgbbfhaaProg
import Derived.Test.YtmhelkhmgbbfhaaGa1
import Derived.Test.YtmhelkhmgbbfhaaGa2
import Derived.Test.YtmhelkhmgbbfhaaGa5
import Derived.Test.YtmhelkhmgbbfhaaGa9
set_option linter.unusedSimpArgs false
set_option linter.unusedVariables false
namespace Go.Proofs.Ytmhelkhmgbbfhaa
open Go.RowKit Go.Lib

mutual
def timE (B : List Bool) : Ex → Bool
  | .mk o n _ l => decide (o = 5) || (if o = 22 ∧ 0 ≤ n ∧ n < B.length then B.getD n.toNat false else false) || timL B l
def timL (B : List Bool) : List Ex → Bool
  | [] => false
  | e :: l => timE B e || timL B l
end
theorem timL_any (B : List Bool) : ∀ l, timL B l = l.any (timE B)
  | [] => by rw [timL]; rfl
  | e :: l => by rw [timL, timL_any B l]; rfl
def bodiesT : List Bool → List Fn → List Bool
  | B, [] => B
  | B, f :: F => bodiesT (B ++ [timE B f.body]) F
def timedP (F : List Fn) (e : Ex) : Bool := timE (bodiesT [] F) e

theorem bools_at {w : World} {S : Nat → Prop} {l : List Bool} {b off : Nat} (hm : RdM w S (l.map D.bool) b off) {k : Nat} (hk : k < l.length) : w.cell? ⟨b, off + k, none⟩ = some (.bool l[k]) := by
  obtain ⟨cs, hc, hr⟩ := RdM.get (sz := 1) _ b off hm (fun d hd => by obtain ⟨x, -, rfl⟩ := List.mem_map.1 hd; rfl) k (by simpa using hk)
  rw [List.getElem_map, Rd] at hr
  subst hr
  simp only [CellsAt, and_true] at hc
  simpa using hc
theorem rdS_bools (w : World) (S : Nat → Prop) : ∀ l : List Bool, RdS w S (l.map D.bool) (l.map Value.bool)
  | [] => by rw [List.map_nil, List.map_nil, RdS]
  | x :: l => by
    rw [List.map_cons, List.map_cons, RdS]
    exact ⟨[.bool x], _, rfl, by rw [Rd], rdS_bools w S l⟩
theorem own_bools {w : World} {S : Nat → Prop} {B : Nat} {v : Value} {l : List Bool} (h : w.ownsRow B 4 1 v l.length (l.map Value.bool)) (hS : ∀ b, v.ownBlock = some b → S b) : Rd w S (.sl (l.map D.bool)) [v] :=
  own_rd (l := l.map D.bool) (S := S) (by simpa using h) (rdS_bools w S l) (fun _ h => h) hS

set_option maxRecDepth 100000 in
set_option maxHeartbeats 4000000 in
theorem rtimed_any (B : List Bool) (e : Ex) : ∀ (S S1 : Nat → Prop) (vB : Value) (cs : List Value) (w : World), Rd w S1 (.sl (B.map D.bool)) [vB] → Rd w S e.d cs → parts e ≤ 1000000 →
    Calls Try.prog 54 #[vB, .agg cs.toArray] w fun r w' => r = .returned (.bool (timE B e)) ∧ Ext w w' := by
  induction e using Ex.ind with | h o m s l ih => ?_
  intro S S1 vB cs w hvB hr hbd
  obtain ⟨A, cap, b, off, rfl, hl1, hl2, hl3, hm⟩ := Ex.open hr
  obtain ⟨AB, capB, bB, offB, rfl, B1, B2, B3, B4⟩ := Rd.sl_open hvB
  have ih' := Lib.hid ih
  clear ih
  simp only [Ex.args, Ex.op, Ex.n, Ex.s, List.length_map] at hl1 hl2 hl3 hm B1 B2 B3 B4 hvB ⊢
  have hll : l.length ≤ 1000000 := by rw [parts] at hbd; have := partsL_len l; omega
  have hvB' := Lib.hid hvB; have hl3' := Lib.hid hl3; have hm' := Lib.hid hm
  clear hr hl3 hm hvB
  by_cases h5 : o = 5
  · subst h5
    have H := Lib.hid (show timE B (.mk 5 m s l) = true by rw [timE]; simp)
    go_enter Try.func54, Try.ntmps54
    go_wp2_with fail
    go_ret
    exact ⟨ret_bool (by rw [H.out]), (by repeat' first | exact Ext.refl _ | assumption | apply Ext.alloc | apply Ext.drew | apply Ext.drewN | (refine Ext.trans ?_ (by assumption)))⟩
  have h5b : (o == 5) = false := by simp [h5]
  by_cases hc : o = 22 ∧ 0 ≤ m ∧ m < B.length
  · obtain ⟨rfl, hm1, hm2⟩ := hc
    obtain ⟨j, rfl⟩ := Int.eq_ofNat_of_zero_le hm1
    have hjB : j < B.length := by omega
    obtain ⟨rfl, hSB⟩ := B3 (by omega)
    have y0 := bools_at B4 hjB
    have y0' : ∀ o1, (w.alloc o1).cell? _ = some _ := fun o1 => ((Ext.refl w).alloc o1).at y0
    have H4 : B.getD (j : Int).toNat false = B[j] := by simp [List.getD_eq_getElem?_getD, List.getElem?_eq_getElem hjB]
    have H0 := Lib.hid (show timE B (.mk 22 j s l) = (B[j] || timL B l) by rw [timE, if_pos ⟨rfl, hm1, hm2⟩, H4, decide_eq_false (show ¬ ((22 : Int) = 5) by decide), Bool.false_or])
    clear B3 B4 H4 hm1
    cases hbj : B[j] with
    | true =>
      rw [hbj] at y0 y0'
      have H := Lib.hid (show timE B (.mk 22 j s l) = true by rw [H0.out, hbj]; rfl)
      clear hbj
      go_enter Try.func54, Try.ntmps54
      go_wp2_with fail
      go_ret
      exact ⟨ret_bool (by rw [H.out]), (by repeat' first | exact Ext.refl _ | assumption | apply Ext.alloc | apply Ext.drew | apply Ext.drewN | (refine Ext.trans ?_ (by assumption)))⟩
    | false =>
      rw [hbj] at y0 y0'
      have H := Lib.hid (show timE B (.mk 22 j s l) = timL B l by rw [H0.out, hbj]; rfl)
      clear hbj
      go_enter Try.func54, Try.ntmps54
      go_wp2_with fail
      generalize hWe : World.alloc w _ = W
      have e3 : W.cell? ⟨w.heap.size, 3, none⟩ = some (.slice A l.length cap) := by rw [← hWe]; clear hWe; go_simp
      have hwW : Ext w W := by rw [← hWe]; exact (by repeat' first | exact Ext.refl _ | assumption | apply Ext.alloc | apply Ext.drew | apply Ext.drewN | (refine Ext.trans ?_ (by assumption)))
      clear hWe
      go_loopw [5] (fun i wr => ∃ (k : Nat), k ≤ l.length ∧ i = .int .i64 k ∧ Hid (timL B (l.take k) = false) ∧ Ext W wr) (fun i _ => l.length - (intOf i).toNat)
      case atStart => exact ⟨0, by omega, rfl, Lib.hid (by rw [List.take_zero, timL]), Ext.refl _⟩
      case round =>
        obtain ⟨k, hk, rfl, HH, hb⟩ := hrel
        replace e3 := hb.at e3
        have hw : Ext w wr := hwW.trans hb
        by_cases hk2 : k < l.length
        · obtain ⟨rfl, hSb⟩ := hl3'.out (by omega)
          obtain ⟨A1, cp1, bb1, of1, c0, c1, c2, c3, hr', -⟩ := Ex.at (hm'.out.ext (fun _ => hSb) hw) hk2
          have hpk : parts l[k] ≤ 1000000 := by rw [parts] at hbd; have := partsL_mem l l[k] (List.getElem_mem hk2); omega
          have hcall := ih'.out l[k] (List.getElem_mem hk2) S S1 _ _ wr (hvB'.out.ext hw) hr' hpk
          have hcall' := Lib.hid hcall
          have hki : (k : Int) < (l.length : Int) := by omega
          clear hr' hSb hcall
          cases hsk : timE B l[k] with
          | true =>
            have H2 := Lib.hid (H.out.trans (show timL B l = true by rw [timL_any, List.any_eq_true]; exact ⟨l[k], List.getElem_mem hk2, hsk⟩))
            rw [hsk] at hcall'
            clear hsk H
            go_wp2_with fail
            refine (hcall'.out).mono ?_
            rintro r w2 ⟨rfl, he⟩
            go_wp2_with fail
            go_ret
            exact ⟨ret_bool (by rw [H2.out]), hw.trans he⟩
          | false =>
            have HH2 := Lib.hid (show timL B (l.take (k + 1)) = false by rw [timL_any, List.take_succ_eq_append_getElem hk2, List.any_append, ← timL_any, HH.out]; simp [hsk])
            rw [hsk] at hcall'
            clear hsk
            go_wp2_with fail
            refine (hcall'.out).mono ?_
            rintro r w2 ⟨rfl, he⟩
            go_wp2_with fail
            go_roundw
            case rel => exact ⟨k + 1, by omega, by go_num, HH2, hb.trans he⟩
            case measure => simp [intOf]; omega
        · have hkl : k = l.length := by omega
          subst hkl
          have H2 := Lib.hid (H.out.trans (show timL B l = false by have := HH.out; rwa [List.take_length] at this))
          clear H
          go_wp2_with fail
          go_ret
          exact ⟨ret_bool (by rw [H2.out]), hw⟩
  · have H := Lib.hid (show timE B (.mk o m s l) = timL B l by rw [timE, if_neg hc]; simp [h5])
    by_cases h22 : o = 22
    · subst h22
      by_cases hm0 : 0 ≤ m
      · have hm1 : ¬ m < (B.length : Int) := by omega
        clear hc B3 B4
        go_enter Try.func54, Try.ntmps54
        go_wp2_with fail
        generalize hWe : World.alloc w _ = W
        have e3 : W.cell? ⟨w.heap.size, 3, none⟩ = some (.slice A l.length cap) := by rw [← hWe]; clear hWe; go_simp
        have hwW : Ext w W := by rw [← hWe]; exact (by repeat' first | exact Ext.refl _ | assumption | apply Ext.alloc | apply Ext.drew | apply Ext.drewN | (refine Ext.trans ?_ (by assumption)))
        clear hWe
        go_loopw [5] (fun i wr => ∃ (k : Nat), k ≤ l.length ∧ i = .int .i64 k ∧ Hid (timL B (l.take k) = false) ∧ Ext W wr) (fun i _ => l.length - (intOf i).toNat)
        case atStart => exact ⟨0, by omega, rfl, Lib.hid (by rw [List.take_zero, timL]), Ext.refl _⟩
        case round =>
          obtain ⟨k, hk, rfl, HH, hb⟩ := hrel
          replace e3 := hb.at e3
          have hw : Ext w wr := hwW.trans hb
          by_cases hk2 : k < l.length
          · obtain ⟨rfl, hSb⟩ := hl3'.out (by omega)
            obtain ⟨A1, cp1, bb1, of1, c0, c1, c2, c3, hr', -⟩ := Ex.at (hm'.out.ext (fun _ => hSb) hw) hk2
            have hpk : parts l[k] ≤ 1000000 := by rw [parts] at hbd; have := partsL_mem l l[k] (List.getElem_mem hk2); omega
            have hcall := ih'.out l[k] (List.getElem_mem hk2) S S1 _ _ wr (hvB'.out.ext hw) hr' hpk
            have hcall' := Lib.hid hcall
            have hki : (k : Int) < (l.length : Int) := by omega
            clear hr' hSb hcall
            cases hsk : timE B l[k] with
            | true =>
              have H2 := Lib.hid (H.out.trans (show timL B l = true by rw [timL_any, List.any_eq_true]; exact ⟨l[k], List.getElem_mem hk2, hsk⟩))
              rw [hsk] at hcall'
              clear hsk H
              go_wp2_with fail
              refine (hcall'.out).mono ?_
              rintro r w2 ⟨rfl, he⟩
              go_wp2_with fail
              go_ret
              exact ⟨ret_bool (by rw [H2.out]), hw.trans he⟩
            | false =>
              have HH2 := Lib.hid (show timL B (l.take (k + 1)) = false by rw [timL_any, List.take_succ_eq_append_getElem hk2, List.any_append, ← timL_any, HH.out]; simp [hsk])
              rw [hsk] at hcall'
              clear hsk
              go_wp2_with fail
              refine (hcall'.out).mono ?_
              rintro r w2 ⟨rfl, he⟩
              go_wp2_with fail
              go_roundw
              case rel => exact ⟨k + 1, by omega, by go_num, HH2, hb.trans he⟩
              case measure => simp [intOf]; omega
          · have hkl : k = l.length := by omega
            subst hkl
            have H2 := Lib.hid (H.out.trans (show timL B l = false by have := HH.out; rwa [List.take_length] at this))
            clear H
            go_wp2_with fail
            go_ret
            exact ⟨ret_bool (by rw [H2.out]), hw⟩
      · clear hc B3 B4
        go_enter Try.func54, Try.ntmps54
        go_wp2_with fail
        generalize hWe : World.alloc w _ = W
        have e3 : W.cell? ⟨w.heap.size, 3, none⟩ = some (.slice A l.length cap) := by rw [← hWe]; clear hWe; go_simp
        have hwW : Ext w W := by rw [← hWe]; exact (by repeat' first | exact Ext.refl _ | assumption | apply Ext.alloc | apply Ext.drew | apply Ext.drewN | (refine Ext.trans ?_ (by assumption)))
        clear hWe
        go_loopw [5] (fun i wr => ∃ (k : Nat), k ≤ l.length ∧ i = .int .i64 k ∧ Hid (timL B (l.take k) = false) ∧ Ext W wr) (fun i _ => l.length - (intOf i).toNat)
        case atStart => exact ⟨0, by omega, rfl, Lib.hid (by rw [List.take_zero, timL]), Ext.refl _⟩
        case round =>
          obtain ⟨k, hk, rfl, HH, hb⟩ := hrel
          replace e3 := hb.at e3
          have hw : Ext w wr := hwW.trans hb
          by_cases hk2 : k < l.length
          · obtain ⟨rfl, hSb⟩ := hl3'.out (by omega)
            obtain ⟨A1, cp1, bb1, of1, c0, c1, c2, c3, hr', -⟩ := Ex.at (hm'.out.ext (fun _ => hSb) hw) hk2
            have hpk : parts l[k] ≤ 1000000 := by rw [parts] at hbd; have := partsL_mem l l[k] (List.getElem_mem hk2); omega
            have hcall := ih'.out l[k] (List.getElem_mem hk2) S S1 _ _ wr (hvB'.out.ext hw) hr' hpk
            have hcall' := Lib.hid hcall
            have hki : (k : Int) < (l.length : Int) := by omega
            clear hr' hSb hcall
            cases hsk : timE B l[k] with
            | true =>
              have H2 := Lib.hid (H.out.trans (show timL B l = true by rw [timL_any, List.any_eq_true]; exact ⟨l[k], List.getElem_mem hk2, hsk⟩))
              rw [hsk] at hcall'
              clear hsk H
              go_wp2_with fail
              refine (hcall'.out).mono ?_
              rintro r w2 ⟨rfl, he⟩
              go_wp2_with fail
              go_ret
              exact ⟨ret_bool (by rw [H2.out]), hw.trans he⟩
            | false =>
              have HH2 := Lib.hid (show timL B (l.take (k + 1)) = false by rw [timL_any, List.take_succ_eq_append_getElem hk2, List.any_append, ← timL_any, HH.out]; simp [hsk])
              rw [hsk] at hcall'
              clear hsk
              go_wp2_with fail
              refine (hcall'.out).mono ?_
              rintro r w2 ⟨rfl, he⟩
              go_wp2_with fail
              go_roundw
              case rel => exact ⟨k + 1, by omega, by go_num, HH2, hb.trans he⟩
              case measure => simp [intOf]; omega
          · have hkl : k = l.length := by omega
            subst hkl
            have H2 := Lib.hid (H.out.trans (show timL B l = false by have := HH.out; rwa [List.take_length] at this))
            clear H
            go_wp2_with fail
            go_ret
            exact ⟨ret_bool (by rw [H2.out]), hw⟩
    · have h22b : (o == 22) = false := by simp [h22]
      clear hc B3 B4
      go_enter Try.func54, Try.ntmps54
      go_wp2_with fail
      generalize hWe : World.alloc w _ = W
      have e3 : W.cell? ⟨w.heap.size, 3, none⟩ = some (.slice A l.length cap) := by rw [← hWe]; clear hWe; go_simp
      have hwW : Ext w W := by rw [← hWe]; exact (by repeat' first | exact Ext.refl _ | assumption | apply Ext.alloc | apply Ext.drew | apply Ext.drewN | (refine Ext.trans ?_ (by assumption)))
      clear hWe
      go_loopw [5] (fun i wr => ∃ (k : Nat), k ≤ l.length ∧ i = .int .i64 k ∧ Hid (timL B (l.take k) = false) ∧ Ext W wr) (fun i _ => l.length - (intOf i).toNat)
      case atStart => exact ⟨0, by omega, rfl, Lib.hid (by rw [List.take_zero, timL]), Ext.refl _⟩
      case round =>
        obtain ⟨k, hk, rfl, HH, hb⟩ := hrel
        replace e3 := hb.at e3
        have hw : Ext w wr := hwW.trans hb
        by_cases hk2 : k < l.length
        · obtain ⟨rfl, hSb⟩ := hl3'.out (by omega)
          obtain ⟨A1, cp1, bb1, of1, c0, c1, c2, c3, hr', -⟩ := Ex.at (hm'.out.ext (fun _ => hSb) hw) hk2
          have hpk : parts l[k] ≤ 1000000 := by rw [parts] at hbd; have := partsL_mem l l[k] (List.getElem_mem hk2); omega
          have hcall := ih'.out l[k] (List.getElem_mem hk2) S S1 _ _ wr (hvB'.out.ext hw) hr' hpk
          have hcall' := Lib.hid hcall
          have hki : (k : Int) < (l.length : Int) := by omega
          clear hr' hSb hcall
          cases hsk : timE B l[k] with
          | true =>
            have H2 := Lib.hid (H.out.trans (show timL B l = true by rw [timL_any, List.any_eq_true]; exact ⟨l[k], List.getElem_mem hk2, hsk⟩))
            rw [hsk] at hcall'
            clear hsk H
            go_wp2_with fail
            refine (hcall'.out).mono ?_
            rintro r w2 ⟨rfl, he⟩
            go_wp2_with fail
            go_ret
            exact ⟨ret_bool (by rw [H2.out]), hw.trans he⟩
          | false =>
            have HH2 := Lib.hid (show timL B (l.take (k + 1)) = false by rw [timL_any, List.take_succ_eq_append_getElem hk2, List.any_append, ← timL_any, HH.out]; simp [hsk])
            rw [hsk] at hcall'
            clear hsk
            go_wp2_with fail
            refine (hcall'.out).mono ?_
            rintro r w2 ⟨rfl, he⟩
            go_wp2_with fail
            go_roundw
            case rel => exact ⟨k + 1, by omega, by go_num, HH2, hb.trans he⟩
            case measure => simp [intOf]; omega
        · have hkl : k = l.length := by omega
          subst hkl
          have H2 := Lib.hid (H.out.trans (show timL B l = false by have := HH.out; rwa [List.take_length] at this))
          clear H
          go_wp2_with fail
          go_ret
          exact ⟨ret_bool (by rw [H2.out]), hw⟩
theorem infoBool : (Try.prog.info? 4).map (fun i => (i.zero, i.size, i.bytes)) = some (some (.bool false), 1, 1) := by kernel_rfl

set_option maxRecDepth 10000 in
set_option maxHeartbeats 2000000 in
theorem rTimed_any (F : List Fn) (e : Ex) (S S1 : Nat → Prop) (vF : Value) (cs : List Value) (w : World) (hF : Rd w S1 (.sl (F.map Fn.d)) [vF]) (hr : Rd w S e.d cs) (hbd : parts e ≤ 1000000) (hp : ∀ f ∈ F, parts f.body ≤ 1000000) (hlen : F.length ≤ 1000000) :
    Calls Try.prog 27 #[vF, .agg cs.toArray] w fun r w' => r = .returned (.bool (timedP F e)) ∧ Ext w w' := by
  obtain ⟨A, cap, b, off, rfl, hl1, hl2, hl3, hm⟩ := Ex.open hr
  obtain ⟨AF, capF, bF, offF, rfl, F1, F2, F3, F4⟩ := Rd.sl_open hF
  simp only [List.length_map] at *
  have hr' := Lib.hid hr; have F3' := Lib.hid F3; have F4' := Lib.hid F4; have hp' := Lib.hid hp
  clear hF hr hm hl3 F3 F4 hp
  go_enter Try.func27, Try.ntmps27
  go_wp2_with fail
  go_loopw [5, 6] (fun x i wr => ∃ (k : Nat) (B : List Bool), k ≤ F.length ∧ i = .int .i64 k ∧ B.length = k ∧ wr.ownsRow (w.heap.size + 1) 4 1 x k (B.map Value.bool) ∧ Hid (bodiesT [] F = bodiesT B (F.drop k)) ∧ Ext (w.alloc (.cells #[.int .i64 e.op, .int .i64 e.n, .string e.s, .slice A e.args.length cap] 25)) wr) (fun _ i _ => F.length - (intOf i).toNat)
  case atStart => exact ⟨0, [], by omega, rfl, rfl, World.ownsRow_nil _ _ _ _, Lib.hid rfl, Ext.refl _⟩
  case round =>
    obtain ⟨k, B, hk, rfl, hBk, hown, HH, hb⟩ := hrel
    have e0 : wr.cell? ⟨w.heap.size, 0, none⟩ = some (.int .i64 e.op) := hb.at (by go_simp)
    have e1 : wr.cell? ⟨w.heap.size, 1, none⟩ = some (.int .i64 e.n) := hb.at (by go_simp)
    have e2 : wr.cell? ⟨w.heap.size, 2, none⟩ = some (.string e.s) := hb.at (by go_simp)
    have e3 : wr.cell? ⟨w.heap.size, 3, none⟩ = some (.slice A e.args.length cap) := hb.at (by go_simp)
    have hw : Ext w wr := ((Ext.refl _).alloc _).trans hb
    subst hBk
    have hR := own_bools (S := Any) hown (fun _ _ => trivial)
    have hR' := Lib.hid hR
    clear hR
    by_cases hlt : B.length < F.length
    · obtain ⟨rfl, hSb⟩ := F3'.out (by omega)
      obtain ⟨A1, cap1, b1, off1, A2, cap2, b2, off2, c0, c1, c2, c3, c4, c5, c6, hr0, q1, q2, q3, q4, q5, q6, q7, q8⟩ := Fn.at (F4'.out.ext (fun _ => hSb) hw) hlt
      have hbod := Lib.hid (Ex.mk_rd q5 q6 q7 q8)
      have hpb := hp'.out F[B.length] (List.getElem_mem hlt)
      have hSb' := Lib.hid hSb
      clear hr0 q3 q4 q5 q7 q8 hSb
      go_wp2_with fail
      refine (rtimed_any B F[B.length].body _ Any _ _ wr hR'.out hbod.out hpb).mono ?_
      rintro r w1 ⟨rfl, he⟩
      have hown1 := own_ext hown he
      have hsz := (hb.trans he).size
      go_wp2_with (at_builtin; refine wp_append1 _ _ _ rfl _ _ _ rfl (w.heap.size + 1) 4 1 1 _ Try.underlying75 infoBool rfl (by decide) (by decide) _ _ _ rfl hown1 rfl rfl (by intro u hu; simp at hu; subst hu; rfl) (by omega) (by simpa using hsz) ?_; intro v' w2 hown2 hg2 hn2)
      have HH2 := Lib.hid (show bodiesT [] F = bodiesT (B ++ [timE B F[B.length].body]) (F.drop (B.length + 1)) by rw [HH.out, List.drop_eq_getElem_cons hlt, bodiesT])
      go_roundw
      case rel => exact ⟨B.length + 1, B ++ [timE B F[B.length].body], by omega, by go_num, by simp, by simpa using hown2, HH2, (hb.trans he).grown hown1 (by simp) hg2⟩
      case measure => simp [intOf]; omega
    · have hkl : F.drop B.length = [] := List.drop_eq_nil_of_le (by omega)
      have H := Lib.hid (show timedP F e = timE B e by unfold timedP; rw [HH.out, hkl, bodiesT])
      clear hkl
      go_wp2_with fail
      refine (rtimed_any B e S Any _ _ wr hR'.out (hr'.out.ext hw) hbd).mono ?_
      rintro r w1 ⟨rfl, he⟩
      go_wp2_with fail
      go_ret
      exact ⟨ret_bool (by rw [H.out]), hw.trans he⟩
end Go.Proofs.Ytmhelkhmgbbfhaa

/- Walk: expr.walk calls a function for each part, the expression first. -/
namespace Go.Proofs.Ytmhelkhmgbbfhaa
open Go.RowKit Go.Lib

mutual
/-- the parts, each before its Args -/
def pre : Ex → List Ex
  | .mk o n s l => .mk o n s l :: preL l
def preL : List Ex → List Ex
  | [] => []
  | e :: l => pre e ++ preL l
end
theorem preL_snoc : ∀ (l : List Ex) (e : Ex), preL (l ++ [e]) = preL l ++ pre e
  | [], e => by rw [List.nil_append, preL, preL, preL]; simp
  | x :: l, e => by rw [List.cons_append, preL, preL, preL_snoc l e]; simp

theorem grown_of_ext {w w' : World} (h : Ext w w') (row : Option Nat) : w.grownBy w' row := ⟨h.os, h.tape, h.output, h.size, fun k hk _ => h.block k hk⟩
theorem keeps_of_grown {w w' : World} {m : Nat} {S : Nat → Prop} (h : w.grownBy w' (some m)) (hS : ∀ b, S b → b ≠ m) : Keeps S w w' := fun b hb hlt => h.block b hlt (fun e => hS b hb (by simpa using e))
theorem gcell {w w' : World} {m : Nat} (h : w.grownBy w' (some m)) {p : Addr} {v : Value} (hc : w.cell? p = some v) (hne : p.block ≠ m) : w'.cell? p = some v := grown_cell h hc (fun e => hne (by simpa using e))

/-- what the function does with a part -/
def Steps1 (fid : FuncId) (caps : Array Value) (m : Nat) (S : Nat → Prop) (Inv : List Ex → World → Prop) (ok : Ex → Prop) : Prop :=
  ∀ (L : List Ex) (x : Ex) (cs : List Value) (w : World), ok x → Inv L w → Rd w S x.d cs → m < w.heap.size →
    Calls Try.prog fid (#[.agg cs.toArray] ++ caps) w fun r w' => (∃ v, r = .returned v) ∧ Inv (L ++ [x]) w' ∧ w.grownBy w' (some m)

set_option maxRecDepth 10000 in
set_option maxHeartbeats 2000000 in
theorem walk_timed (caps : Array Value) (m : Nat) (S : Nat → Prop) (hS : ∀ b, S b → b ≠ m) (Inv : List Ex → World → Prop) (ok : Ex → Prop) (hok : ∀ o n s l, ok (.mk o n s l) → ∀ x ∈ l, ok x) (hstep : Steps1 53 caps m S Inv ok) (hal : ∀ L w o, Inv L w → Inv L (w.alloc o)) (e : Ex) :
    ∀ (L : List Ex) (cs : List Value) (w : World), ok e → Inv L w → Rd w S e.d cs → m < w.heap.size →
    Calls Try.prog 52 #[.agg cs.toArray, .func (.func 53) #[] caps] w fun r w' => (∃ v, r = .returned v) ∧ Inv (L ++ pre e) w' ∧ w.grownBy w' (some m) := by
  induction e using Ex.ind with | h o n s l ih => ?_
  intro L cs w hoke hI hr hm0
  have hr0 := hr
  obtain ⟨A, cap, b, off, rfl, hl1, hl2, hl3, hm⟩ := Ex.open hr
  have ih' := Lib.hid ih
  clear ih
  simp only [Ex.args, Ex.op, Ex.n, Ex.s] at hl1 hl2 hl3 hm hr0 ⊢
  have hl3' := Lib.hid hl3; have hm' := Lib.hid hm; have hst' := Lib.hid hstep; have hok' := Lib.hid hok; have hoke' := Lib.hid hoke; have hal' := Lib.hid hal; have hI' := Lib.hid hI; have hr' := Lib.hid hr0; have hS' := Lib.hid hS
  clear hr hr0 hl3 hm hstep hok hoke hal hI hS
  go_enter Try.func52, Try.ntmps52
  go_wp2_with fail
  generalize hWe : World.alloc w _ = W
  have e0 : W.cell? ⟨w.heap.size, 0, none⟩ = some (.int .i64 o) := by rw [← hWe]; clear hWe; go_simp
  have e1 : W.cell? ⟨w.heap.size, 1, none⟩ = some (.int .i64 n) := by rw [← hWe]; clear hWe; go_simp
  have e2 : W.cell? ⟨w.heap.size, 2, none⟩ = some (.string s) := by rw [← hWe]; clear hWe; go_simp
  have e3 : W.cell? ⟨w.heap.size, 3, none⟩ = some (.slice A l.length cap) := by rw [← hWe]; clear hWe; go_simp
  have hI1 : Inv L W := by rw [← hWe]; exact hal'.out _ _ _ hI'.out
  have hwW : Ext w W := by rw [← hWe]; exact (by repeat' first | exact Ext.refl _ | assumption | apply Ext.alloc | apply Ext.drew | apply Ext.drewN | (refine Ext.trans ?_ (by assumption)))
  clear hWe
  refine (hst'.out L (.mk o n s l) _ W hoke'.out hI1 (hr'.out.ext hwW) (Nat.lt_of_lt_of_le hm0 hwW.size)).mono ?_
  rintro r w1 ⟨⟨v, rfl⟩, hI2, hg⟩
  have f3 : w1.cell? ⟨w.heap.size, 3, none⟩ = some (.slice A l.length cap) := gcell hg e3 (by dsimp only; omega)
  have hg1 : w.grownBy w1 (some m) := (grown_of_ext hwW _).trans hg
  have hI3 := Lib.hid hI2
  clear e0 e1 e2 e3 hI1 hI2 hg hwW
  go_wp2_with fail
  go_loopw [12] (fun i wr => ∃ (k : Nat), k ≤ l.length ∧ i = .int .i64 k ∧ Inv (L ++ .mk o n s l :: preL (l.take k)) wr ∧ w.grownBy wr (some m)) (fun i _ => l.length - (intOf i).toNat)
  case atStart => exact ⟨0, by omega, rfl, by rw [List.take_zero, preL]; exact hI3.out, hg1⟩
  case round =>
    obtain ⟨k, hk, rfl, hIk, hgk⟩ := hrel
    have hIk' := Lib.hid hIk
    clear hIk
    by_cases hk2 : k < l.length
    · obtain ⟨rfl, hSb⟩ := hl3'.out (by omega)
      have hmk := RdM.keep (keeps_of_grown hgk hS'.out) (fun _ h => h) _ _ _ hSb hm'.out
      obtain ⟨A1, cap1, b1, off1, c0, c1, c2, c3, hr1, -⟩ := Ex.at hmk hk2
      have hr2 := Lib.hid hr1
      have hSb' := Lib.hid hSb
      clear hr1 hmk hSb
      go_wp2_with fail
      generalize hWe : World.alloc wr _ = W1
      have hw1 : Ext wr W1 := by rw [← hWe]; exact (by repeat' first | exact Ext.refl _ | assumption | apply Ext.alloc | apply Ext.drew | apply Ext.drewN | (refine Ext.trans ?_ (by assumption)))
      have hI4 : Inv (L ++ .mk o n s l :: preL (l.take k)) W1 := by rw [← hWe]; exact hal'.out _ _ _ hIk'.out
      clear hWe
      refine (ih'.out l[k] (List.getElem_mem hk2) (L ++ .mk o n s l :: preL (l.take k)) _ W1 (hok'.out _ _ _ _ hoke'.out _ (List.getElem_mem hk2)) hI4 (hr2.out.ext hw1) (Nat.lt_of_lt_of_le (Nat.lt_of_lt_of_le hm0 hgk.size) hw1.size)).mono ?_
      rintro r w2 ⟨⟨v2, rfl⟩, hI5, hg2⟩
      have hI6 := Lib.hid (show Inv (L ++ .mk o n s l :: preL (l.take (k + 1))) w2 by
        rw [List.take_succ_eq_append_getElem hk2, preL_snoc]
        simpa using hI5)
      have hg3 : w.grownBy w2 (some m) := (hgk.trans (grown_of_ext hw1 _)).trans hg2
      clear hI4 hI5 hg2 hw1
      go_wp2_with fail
      go_roundw
      case rel => exact ⟨k + 1, by omega, by go_num, hI6.out, hg3⟩
      case measure => simp [intOf]; omega
    · have hkl : k = l.length := by omega
      subst hkl
      go_wp2_with fail
      refine bodyPost_end (v := .tuple #[]) (by simp [results, Try.results52, go_sem]; done) rfl ⟨⟨_, rfl⟩, ?_, hgk⟩
      have := hIk'.out
      rw [List.take_length] at this
      rw [pre]
      exact this

set_option maxRecDepth 10000 in
set_option maxHeartbeats 2000000 in
theorem walk_reads (caps : Array Value) (m : Nat) (S : Nat → Prop) (hS : ∀ b, S b → b ≠ m) (Inv : List Ex → World → Prop) (ok : Ex → Prop) (hok : ∀ o n s l, ok (.mk o n s l) → ∀ x ∈ l, ok x) (hstep : Steps1 55 caps m S Inv ok) (hal : ∀ L w o, Inv L w → Inv L (w.alloc o)) (e : Ex) :
    ∀ (L : List Ex) (cs : List Value) (w : World), ok e → Inv L w → Rd w S e.d cs → m < w.heap.size →
    Calls Try.prog 52 #[.agg cs.toArray, .func (.func 55) #[] caps] w fun r w' => (∃ v, r = .returned v) ∧ Inv (L ++ pre e) w' ∧ w.grownBy w' (some m) := by
  induction e using Ex.ind with | h o n s l ih => ?_
  intro L cs w hoke hI hr hm0
  have hr0 := hr
  obtain ⟨A, cap, b, off, rfl, hl1, hl2, hl3, hm⟩ := Ex.open hr
  have ih' := Lib.hid ih
  clear ih
  simp only [Ex.args, Ex.op, Ex.n, Ex.s] at hl1 hl2 hl3 hm hr0 ⊢
  have hl3' := Lib.hid hl3; have hm' := Lib.hid hm; have hst' := Lib.hid hstep; have hok' := Lib.hid hok; have hoke' := Lib.hid hoke; have hal' := Lib.hid hal; have hI' := Lib.hid hI; have hr' := Lib.hid hr0; have hS' := Lib.hid hS
  clear hr hr0 hl3 hm hstep hok hoke hal hI hS
  go_enter Try.func52, Try.ntmps52
  go_wp2_with fail
  generalize hWe : World.alloc w _ = W
  have e0 : W.cell? ⟨w.heap.size, 0, none⟩ = some (.int .i64 o) := by rw [← hWe]; clear hWe; go_simp
  have e1 : W.cell? ⟨w.heap.size, 1, none⟩ = some (.int .i64 n) := by rw [← hWe]; clear hWe; go_simp
  have e2 : W.cell? ⟨w.heap.size, 2, none⟩ = some (.string s) := by rw [← hWe]; clear hWe; go_simp
  have e3 : W.cell? ⟨w.heap.size, 3, none⟩ = some (.slice A l.length cap) := by rw [← hWe]; clear hWe; go_simp
  have hI1 : Inv L W := by rw [← hWe]; exact hal'.out _ _ _ hI'.out
  have hwW : Ext w W := by rw [← hWe]; exact (by repeat' first | exact Ext.refl _ | assumption | apply Ext.alloc | apply Ext.drew | apply Ext.drewN | (refine Ext.trans ?_ (by assumption)))
  clear hWe
  refine (hst'.out L (.mk o n s l) _ W hoke'.out hI1 (hr'.out.ext hwW) (Nat.lt_of_lt_of_le hm0 hwW.size)).mono ?_
  rintro r w1 ⟨⟨v, rfl⟩, hI2, hg⟩
  have f3 : w1.cell? ⟨w.heap.size, 3, none⟩ = some (.slice A l.length cap) := gcell hg e3 (by dsimp only; omega)
  have hg1 : w.grownBy w1 (some m) := (grown_of_ext hwW _).trans hg
  have hI3 := Lib.hid hI2
  clear e0 e1 e2 e3 hI1 hI2 hg hwW
  go_wp2_with fail
  go_loopw [12] (fun i wr => ∃ (k : Nat), k ≤ l.length ∧ i = .int .i64 k ∧ Inv (L ++ .mk o n s l :: preL (l.take k)) wr ∧ w.grownBy wr (some m)) (fun i _ => l.length - (intOf i).toNat)
  case atStart => exact ⟨0, by omega, rfl, by rw [List.take_zero, preL]; exact hI3.out, hg1⟩
  case round =>
    obtain ⟨k, hk, rfl, hIk, hgk⟩ := hrel
    have hIk' := Lib.hid hIk
    clear hIk
    by_cases hk2 : k < l.length
    · obtain ⟨rfl, hSb⟩ := hl3'.out (by omega)
      have hmk := RdM.keep (keeps_of_grown hgk hS'.out) (fun _ h => h) _ _ _ hSb hm'.out
      obtain ⟨A1, cap1, b1, off1, c0, c1, c2, c3, hr1, -⟩ := Ex.at hmk hk2
      have hr2 := Lib.hid hr1
      have hSb' := Lib.hid hSb
      clear hr1 hmk hSb
      go_wp2_with fail
      generalize hWe : World.alloc wr _ = W1
      have hw1 : Ext wr W1 := by rw [← hWe]; exact (by repeat' first | exact Ext.refl _ | assumption | apply Ext.alloc | apply Ext.drew | apply Ext.drewN | (refine Ext.trans ?_ (by assumption)))
      have hI4 : Inv (L ++ .mk o n s l :: preL (l.take k)) W1 := by rw [← hWe]; exact hal'.out _ _ _ hIk'.out
      clear hWe
      refine (ih'.out l[k] (List.getElem_mem hk2) (L ++ .mk o n s l :: preL (l.take k)) _ W1 (hok'.out _ _ _ _ hoke'.out _ (List.getElem_mem hk2)) hI4 (hr2.out.ext hw1) (Nat.lt_of_lt_of_le (Nat.lt_of_lt_of_le hm0 hgk.size) hw1.size)).mono ?_
      rintro r w2 ⟨⟨v2, rfl⟩, hI5, hg2⟩
      have hI6 := Lib.hid (show Inv (L ++ .mk o n s l :: preL (l.take (k + 1))) w2 by
        rw [List.take_succ_eq_append_getElem hk2, preL_snoc]
        simpa using hI5)
      have hg3 : w.grownBy w2 (some m) := (hgk.trans (grown_of_ext hw1 _)).trans hg2
      clear hI4 hI5 hg2 hw1
      go_wp2_with fail
      go_roundw
      case rel => exact ⟨k + 1, by omega, by go_num, hI6.out, hg3⟩
      case measure => simp [intOf]; omega
    · have hkl : k = l.length := by omega
      subst hkl
      go_wp2_with fail
      refine bodyPost_end (v := .tuple #[]) (by simp [results, Try.results52, go_sem]; done) rfl ⟨⟨_, rfl⟩, ?_, hgk⟩
      have := hIk'.out
      rw [List.take_length] at this
      rw [pre]
      exact this

set_option maxRecDepth 10000 in
set_option maxHeartbeats 2000000 in
theorem walk_inline (caps : Array Value) (m : Nat) (S : Nat → Prop) (hS : ∀ b, S b → b ≠ m) (Inv : List Ex → World → Prop) (ok : Ex → Prop) (hok : ∀ o n s l, ok (.mk o n s l) → ∀ x ∈ l, ok x) (hstep : Steps1 85 caps m S Inv ok) (hal : ∀ L w o, Inv L w → Inv L (w.alloc o)) (e : Ex) :
    ∀ (L : List Ex) (cs : List Value) (w : World), ok e → Inv L w → Rd w S e.d cs → m < w.heap.size →
    Calls Try.prog 52 #[.agg cs.toArray, .func (.func 85) #[] caps] w fun r w' => (∃ v, r = .returned v) ∧ Inv (L ++ pre e) w' ∧ w.grownBy w' (some m) := by
  induction e using Ex.ind with | h o n s l ih => ?_
  intro L cs w hoke hI hr hm0
  have hr0 := hr
  obtain ⟨A, cap, b, off, rfl, hl1, hl2, hl3, hm⟩ := Ex.open hr
  have ih' := Lib.hid ih
  clear ih
  simp only [Ex.args, Ex.op, Ex.n, Ex.s] at hl1 hl2 hl3 hm hr0 ⊢
  have hl3' := Lib.hid hl3; have hm' := Lib.hid hm; have hst' := Lib.hid hstep; have hok' := Lib.hid hok; have hoke' := Lib.hid hoke; have hal' := Lib.hid hal; have hI' := Lib.hid hI; have hr' := Lib.hid hr0; have hS' := Lib.hid hS
  clear hr hr0 hl3 hm hstep hok hoke hal hI hS
  go_enter Try.func52, Try.ntmps52
  go_wp2_with fail
  generalize hWe : World.alloc w _ = W
  have e0 : W.cell? ⟨w.heap.size, 0, none⟩ = some (.int .i64 o) := by rw [← hWe]; clear hWe; go_simp
  have e1 : W.cell? ⟨w.heap.size, 1, none⟩ = some (.int .i64 n) := by rw [← hWe]; clear hWe; go_simp
  have e2 : W.cell? ⟨w.heap.size, 2, none⟩ = some (.string s) := by rw [← hWe]; clear hWe; go_simp
  have e3 : W.cell? ⟨w.heap.size, 3, none⟩ = some (.slice A l.length cap) := by rw [← hWe]; clear hWe; go_simp
  have hI1 : Inv L W := by rw [← hWe]; exact hal'.out _ _ _ hI'.out
  have hwW : Ext w W := by rw [← hWe]; exact (by repeat' first | exact Ext.refl _ | assumption | apply Ext.alloc | apply Ext.drew | apply Ext.drewN | (refine Ext.trans ?_ (by assumption)))
  clear hWe
  refine (hst'.out L (.mk o n s l) _ W hoke'.out hI1 (hr'.out.ext hwW) (Nat.lt_of_lt_of_le hm0 hwW.size)).mono ?_
  rintro r w1 ⟨⟨v, rfl⟩, hI2, hg⟩
  have f3 : w1.cell? ⟨w.heap.size, 3, none⟩ = some (.slice A l.length cap) := gcell hg e3 (by dsimp only; omega)
  have hg1 : w.grownBy w1 (some m) := (grown_of_ext hwW _).trans hg
  have hI3 := Lib.hid hI2
  clear e0 e1 e2 e3 hI1 hI2 hg hwW
  go_wp2_with fail
  go_loopw [12] (fun i wr => ∃ (k : Nat), k ≤ l.length ∧ i = .int .i64 k ∧ Inv (L ++ .mk o n s l :: preL (l.take k)) wr ∧ w.grownBy wr (some m)) (fun i _ => l.length - (intOf i).toNat)
  case atStart => exact ⟨0, by omega, rfl, by rw [List.take_zero, preL]; exact hI3.out, hg1⟩
  case round =>
    obtain ⟨k, hk, rfl, hIk, hgk⟩ := hrel
    have hIk' := Lib.hid hIk
    clear hIk
    by_cases hk2 : k < l.length
    · obtain ⟨rfl, hSb⟩ := hl3'.out (by omega)
      have hmk := RdM.keep (keeps_of_grown hgk hS'.out) (fun _ h => h) _ _ _ hSb hm'.out
      obtain ⟨A1, cap1, b1, off1, c0, c1, c2, c3, hr1, -⟩ := Ex.at hmk hk2
      have hr2 := Lib.hid hr1
      have hSb' := Lib.hid hSb
      clear hr1 hmk hSb
      go_wp2_with fail
      generalize hWe : World.alloc wr _ = W1
      have hw1 : Ext wr W1 := by rw [← hWe]; exact (by repeat' first | exact Ext.refl _ | assumption | apply Ext.alloc | apply Ext.drew | apply Ext.drewN | (refine Ext.trans ?_ (by assumption)))
      have hI4 : Inv (L ++ .mk o n s l :: preL (l.take k)) W1 := by rw [← hWe]; exact hal'.out _ _ _ hIk'.out
      clear hWe
      refine (ih'.out l[k] (List.getElem_mem hk2) (L ++ .mk o n s l :: preL (l.take k)) _ W1 (hok'.out _ _ _ _ hoke'.out _ (List.getElem_mem hk2)) hI4 (hr2.out.ext hw1) (Nat.lt_of_lt_of_le (Nat.lt_of_lt_of_le hm0 hgk.size) hw1.size)).mono ?_
      rintro r w2 ⟨⟨v2, rfl⟩, hI5, hg2⟩
      have hI6 := Lib.hid (show Inv (L ++ .mk o n s l :: preL (l.take (k + 1))) w2 by
        rw [List.take_succ_eq_append_getElem hk2, preL_snoc]
        simpa using hI5)
      have hg3 : w.grownBy w2 (some m) := (hgk.trans (grown_of_ext hw1 _)).trans hg2
      clear hI4 hI5 hg2 hw1
      go_wp2_with fail
      go_roundw
      case rel => exact ⟨k + 1, by omega, by go_num, hI6.out, hg3⟩
      case measure => simp [intOf]; omega
    · have hkl : k = l.length := by omega
      subst hkl
      go_wp2_with fail
      refine bodyPost_end (v := .tuple #[]) (by simp [results, Try.results52, go_sem]; done) rfl ⟨⟨_, rfl⟩, ?_, hgk⟩
      have := hIk'.out
      rw [List.take_length] at this
      rw [pre]
      exact this

end Go.Proofs.Ytmhelkhmgbbfhaa

/-
  DERIVED: THE SHELF's CONTRACTS AT THIS DUMP, IN PLAIN WORDS (tools/lay-plain.mjs out of 'TrySrt.lean', which tools/lay-shelf.mjs wrote): THE SAME DECLARATIONS UNDER THE SAME NAMES: 'import', 'namespace', 'open', 'def', 'theorem' AND NOTHING ELSE: no command of the shelf's: FOR A HAND-IN. Each laying: the table of numbers ('.._ren') and one theorem, a field a fact of the dump's own or the kernel's comparison; each contract: ONE APPLICATION.
-/
namespace Go.Proofs
open Go.Shelf
def Try.keysA_ren : Go.Shelf.Ren := ⟨fun | 7 => 57 | 10 => 89 | n => n, fun | 23 => 81 | 26 => 3 | 3 => 4 | 28 => 84 | 0 => 0 | 27 => 83 | 33 => 86 | 4 => 4 | n => n, fun | n => n⟩
theorem Try.keysA : Go.Proofs.SlLaysZI.n7 Try.prog Try.keysA_ren := {
  mixed := by kernel_rfl
  f7 := ⟨Try.f57.name, by decide, Try.func57.trans (congrArg some (by kernel_rfl))⟩
  f10 := ⟨Try.f89.name, by decide, Try.func89.trans (congrArg some (by kernel_rfl))⟩
  t0 := Try.underlying0
  a0 := Try.isAgg0
  z0 := Try.sizeOf0
  v0 := Try.zeroValue0
  t4 := Try.underlying4
  a4 := Try.isAgg4
  z4 := Try.sizeOf4
  v4 := Try.zeroValue4
  t23 := Try.underlying81
  a23 := Try.isAgg81
  z23 := Try.sizeOf81
  v23 := Try.zeroValue81
  t26 := Try.underlying3
  a26 := Try.isAgg3
  z26 := Try.sizeOf3
  v26 := Try.zeroValue3
  t27 := Try.underlying83
  a27 := Try.isAgg83
  z27 := Try.sizeOf83
  v27 := Try.zeroValue83
  t28 := Try.underlying84
  a28 := Try.isAgg84
  z28 := Try.sizeOf84
  v28 := Try.zeroValue84
  t33 := Try.underlying86
  a33 := Try.isAgg86
  z33 := Try.sizeOf86
  v33 := Try.zeroValue86 }
def Try.sortedA_ren : Go.Shelf.Ren := ⟨fun | 6 => 56 | 8 => 87 | 9 => 88 | 11 => 96 | 13 => 98 | 12 => 97 | 23 => 117 | 24 => 118 | 14 => 108 | 15 => 109 | 16 => 110 | 17 => 111 | 18 => 112 | 19 => 113 | 20 => 114 | 21 => 115 | 22 => 116 | 25 => 121 | 26 => 122 | 27 => 123 | 28 => 124 | 29 => 125 | 30 => 119 | 31 => 127 | n => n, fun | 26 => 3 | 28 => 84 | 24 => 31 | 0 => 0 | 3 => 3 | 37 => 107 | 48 => 122 | 50 => 124 | 4 => 4 | 40 => 116 | 39 => 115 | 45 => 29 | 5 => 5 | 9 => 9 | 51 => 125 | 55 => 129 | 57 => 131 | 58 => 132 | 33 => 86 | n => n, fun | n => n⟩
theorem Try.sortedA : Go.Proofs.SlLaysZI.n6 Try.prog Try.sortedA_ren := {
  mixed := by kernel_rfl
  f6 := ⟨Try.f56.name, by decide, Try.func56.trans (congrArg some (by kernel_rfl))⟩
  f8 := ⟨Try.f87.name, by decide, Try.func87.trans (congrArg some (by kernel_rfl))⟩
  f11 := ⟨Try.f96.name, by decide, Try.func96.trans (congrArg some (by kernel_rfl))⟩
  t0 := Try.underlying0
  a0 := Try.isAgg0
  z0 := Try.sizeOf0
  v0 := Try.zeroValue0
  t24 := Try.underlying31
  a24 := Try.isAgg31
  z24 := Try.sizeOf31
  v24 := Try.zeroValue31
  t26 := Try.underlying3
  a26 := Try.isAgg3
  z26 := Try.sizeOf3
  v26 := Try.zeroValue3
  t28 := Try.underlying84
  a28 := Try.isAgg84
  z28 := Try.sizeOf84
  v28 := Try.zeroValue84
  i26 := by kernel_rfl }
def Try.sortA_ren : Go.Shelf.Ren := ⟨fun | 5 => 88 | 8 => 98 | 7 => 97 | 19 => 117 | 20 => 118 | 10 => 108 | 11 => 109 | 12 => 110 | 13 => 111 | 14 => 112 | 15 => 113 | 16 => 114 | 17 => 115 | 18 => 116 | 30 => 121 | 31 => 122 | 32 => 123 | 33 => 124 | 34 => 125 | 35 => 119 | 40 => 127 | n => n, fun | 23 => 31 | 25 => 3 | 3 => 3 | 32 => 107 | 22 => 31 | 0 => 0 | 44 => 122 | 46 => 124 | 4 => 4 | 36 => 116 | 35 => 115 | 41 => 29 | 5 => 5 | 9 => 9 | 53 => 125 | 57 => 129 | 63 => 131 | 64 => 132 | n => n, fun | n => n⟩
theorem Try.sortA : Go.Proofs.SlLaysM.n5 Try.prog Try.sortA_ren := {
  mixed := by kernel_rfl
  f5 := ⟨Try.f88.name, by decide, Try.func88.trans (congrArg some (by kernel_rfl))⟩
  f7 := ⟨Try.f97.name, by decide, Try.func97.trans (congrArg some (by kernel_rfl))⟩
  f8 := Try.func98.trans (congrArg some (by kernel_rfl))
  f10 := ⟨Try.f108.name, by decide, Try.func108.trans (congrArg some (by kernel_rfl))⟩
  f11 := ⟨Try.f109.name, by decide, Try.func109.trans (congrArg some (by kernel_rfl))⟩
  f12 := ⟨Try.f110.name, by decide, Try.func110.trans (congrArg some (by kernel_rfl))⟩
  f13 := ⟨Try.f111.name, by decide, Try.func111.trans (congrArg some (by kernel_rfl))⟩
  f14 := ⟨Try.f112.name, by decide, Try.func112.trans (congrArg some (by kernel_rfl))⟩
  f15 := ⟨Try.f113.name, by decide, Try.func113.trans (congrArg some (by kernel_rfl))⟩
  f16 := ⟨Try.f114.name, by decide, Try.func114.trans (congrArg some (by kernel_rfl))⟩
  f17 := ⟨Try.f115.name, by decide, Try.func115.trans (congrArg some (by kernel_rfl))⟩
  f18 := ⟨Try.f116.name, by decide, Try.func116.trans (congrArg some (by kernel_rfl))⟩
  f19 := Try.func117.trans (congrArg some (by kernel_rfl))
  f20 := Try.func118.trans (congrArg some (by kernel_rfl))
  f30 := ⟨Try.f121.name, by decide, Try.func121.trans (congrArg some (by kernel_rfl))⟩
  f31 := Try.func122.trans (congrArg some (by kernel_rfl))
  f32 := Try.func123.trans (congrArg some (by kernel_rfl))
  f33 := ⟨Try.f124.name, by decide, Try.func124.trans (congrArg some (by kernel_rfl))⟩
  f34 := ⟨Try.f125.name, by decide, Try.func125.trans (congrArg some (by kernel_rfl))⟩
  f35 := ⟨Try.f119.name, by decide, Try.func119.trans (congrArg some (by kernel_rfl))⟩
  f40 := ⟨Try.f127.name, by decide, Try.func127.trans (congrArg some (by kernel_rfl))⟩
  t0 := Try.underlying0
  a0 := Try.isAgg0
  z0 := Try.sizeOf0
  v0 := Try.zeroValue0
  t3 := Try.underlying3
  a3 := Try.isAgg3
  z3 := Try.sizeOf3
  v3 := Try.zeroValue3
  t4 := Try.underlying4
  a4 := Try.isAgg4
  z4 := Try.sizeOf4
  v4 := Try.zeroValue4
  t5 := Try.underlying5
  a5 := Try.isAgg5
  z5 := Try.sizeOf5
  v5 := Try.zeroValue5
  t9 := Try.underlying9
  a9 := Try.isAgg9
  z9 := Try.sizeOf9
  v9 := Try.zeroValue9
  t22 := Try.underlying31
  a22 := Try.isAgg31
  z22 := Try.sizeOf31
  v22 := Try.zeroValue31
  t23 := Try.underlying31
  a23 := Try.isAgg31
  z23 := Try.sizeOf31
  v23 := Try.zeroValue31
  t25 := Try.underlying3
  a25 := Try.isAgg3
  z25 := Try.sizeOf3
  v25 := Try.zeroValue3
  t32 := Try.underlying107
  a32 := Try.isAgg107
  z32 := Try.sizeOf107
  v32 := Try.zeroValue107
  t35 := Try.underlying115
  a35 := Try.isAgg115
  z35 := Try.sizeOf115
  v35 := Try.zeroValue115
  t36 := Try.underlying116
  a36 := Try.isAgg116
  z36 := Try.sizeOf116
  v36 := Try.zeroValue116
  t41 := Try.underlying29
  a41 := Try.isAgg29
  z41 := Try.sizeOf29
  v41 := Try.zeroValue29
  t44 := Try.underlying122
  a44 := Try.isAgg122
  z44 := Try.sizeOf122
  v44 := Try.zeroValue122
  t46 := Try.underlying124
  a46 := Try.isAgg124
  z46 := Try.sizeOf124
  v46 := Try.zeroValue124
  t53 := Try.underlying125
  a53 := Try.isAgg125
  z53 := Try.sizeOf125
  v53 := Try.zeroValue125
  t57 := Try.underlying129
  a57 := Try.isAgg129
  z57 := Try.sizeOf129
  v57 := Try.zeroValue129
  t63 := Try.underlying131
  a63 := Try.isAgg131
  z63 := Try.sizeOf131
  v63 := Try.zeroValue131
  t64 := Try.underlying132
  a64 := Try.isAgg132
  z64 := Try.sizeOf132
  v64 := Try.zeroValue132 }
end Go.Proofs

/- Pure: steps of typed expressions; what is evaluated. -/
namespace Go.Proofs.Ytmhelkhmgbbfhaa
open Go.RowKit Go.Lib

mutual
/-- an ExIf has three Args, a call one of the first m functions -/
def wfS (m : Nat) : Ex → Bool
  | .mk op n _ l => (!decide (op = 21) || decide (l.length = 3)) && (!decide (op = 22) || (decide (0 ≤ n) && decide (n < m))) && wfSL m l
def wfSL (m : Nat) : List Ex → Bool
  | [] => true
  | e :: l => wfS m e && wfSL m l
end
theorem wfSL_all (m : Nat) : ∀ l, wfSL m l = l.all (wfS m)
  | [] => by rw [wfSL]; rfl
  | e :: l => by rw [wfSL, wfSL_all m l]; rfl

theorem tys_len {F : List Fn} {c p : List Int} : ∀ (l : List Ex) {ts : List Int}, tys F c p l = some ts → ts.length = l.length
  | [], ts, h => by rw [tys] at h; cases h; rfl
  | e :: l, ts, h => by
    rw [tys] at h
    cases he : ty F c p e with
    | none => rw [he] at h; cases h
    | some t =>
      rw [he] at h
      cases hl : tys F c p l with
      | none => rw [hl] at h; cases h
      | some us => rw [hl] at h; cases h; simp [tys_len l hl]
theorem tail_ifW {F : List Fn} {c p : List Int} {n r : Int} {s : ByteArray} {ts : List Int} (h : tailT F c p 21 n s ts = some r) : ts.length = 3 := by
  unfold tailT at h
  split at h
  · cases h
  · rw [if_neg (by decide)] at h
    split at h
    · unfold leafT at h; simp at h
    · unfold operT at h
      split at h
      · cases h
      · simp at h
        split at h
        · rfl
        · cases h
theorem tail_callW {F : List Fn} {c p : List Int} {n r : Int} {s : ByteArray} {ts : List Int} (h : tailT F c p 22 n s ts = some r) : 0 ≤ n ∧ n < F.length := by
  unfold tailT at h
  split at h
  · cases h
  · rw [if_pos rfl] at h
    unfold callT at h
    split at h
    · cases h
    · split at h
      · rename_i hf
        have := (List.getElem?_eq_some_iff.1 hf).1
        omega
      · cases h
theorem wfS_of_ty {F : List Fn} {c p : List Int} (e : Ex) : ∀ {t : Int}, ty F c p e = some t → wfS F.length e = true := by
  induction e using Ex.ind with
  | h op n s l ih =>
    intro t ht
    rw [ty] at ht
    cases hl : tys F c p l with
    | none => rw [hl] at ht; cases ht
    | some ts =>
      rw [hl] at ht
      dsimp only at ht
      rw [wfS, wfSL_all]
      simp only [Bool.and_eq_true, List.all_eq_true, Bool.or_eq_true, Bool.not_eq_true', decide_eq_false_iff_not, decide_eq_true_eq]
      refine ⟨⟨?_, ?_⟩, fun e he => ?_⟩
      · by_cases ho : op = 21
        · subst ho; right; rw [← tys_len l hl]; exact tail_ifW ht
        · left; exact ho
      · by_cases ho : op = 22
        · subst ho; right; exact tail_callW ht
        · left; exact ho
      · obtain ⟨u, hu⟩ := tys_mem l hl e he
        exact ih e he hu

/-- the sum of numbers, cut at each addition, is the sum, cut -/
def sumI : List Int → Int
  | [] => 0
  | k :: l => k + sumI l
theorem sumI_nonneg : ∀ {l : List Int}, GoodS l → 0 ≤ sumI l
  | [], _ => by simp [sumI]
  | k :: l, h => by have := h k (by simp); have := sumI_nonneg (l := l) (fun x hx => h x (by simp [hx])); rw [sumI]; omega
theorem sumS_eq : ∀ (l : List Int) (n : Int), GoodS l → 0 ≤ n → n ≤ 1099511627776 → sumS n l = capS (n + sumI l)
  | [], n, _, h1, h2 => by rw [sumS, sumI]; unfold capS; omega
  | k :: l, n, hg, h1, h2 => by
    have hk := hg k (by simp)
    have hl : GoodS l := fun x hx => hg x (by simp [hx])
    have := capS_bd (n := n + k) (by omega)
    have h0 := sumI_nonneg hl
    rw [sumS, sumS_eq l _ hl this.1 this.2, sumI]
    unfold capS; omega
/-- the program adds the body of a call first -/
theorem sumS_swap {l : List Int} {b : Int} (h : GoodS l) (hb : 0 ≤ b) (hb2 : b ≤ 1099511627776) : sumS (capS (1 + b)) l = capS (sumS 1 l + b) := by
  have := capS_bd (n := 1 + b) (by omega)
  have h0 := sumI_nonneg h
  rw [sumS_eq l _ h this.1 this.2, sumS_eq l 1 h (by omega) (by omega)]
  unfold capS; omega
end Go.Proofs.Ytmhelkhmgbbfhaa
