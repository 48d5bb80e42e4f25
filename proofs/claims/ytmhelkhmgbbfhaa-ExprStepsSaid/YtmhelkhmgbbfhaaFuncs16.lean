/- Walks: slices.IndexFunc and ContainsFunc at ints, over any function that answers by a predicate. -/
import Derived.Test.YtmhelkhmgbbfhaaMore
import Derived.Test.YtmhelkhmgbbfhaaRows
namespace Go.Proofs.Ytmhelkhmgbbfhaa
open Go.RowKit Go.Lib

/-- the place of the first that the predicate takes, or -1 -/
def idxOf (p : Int → Bool) : List Int → Int
  | [] => -1
  | x :: l => if p x then 0 else (if idxOf p l < 0 then -1 else idxOf p l + 1)
theorem idxOf_bd (p : Int → Bool) : ∀ l, -1 ≤ idxOf p l ∧ (0 ≤ idxOf p l ↔ l.any p = true)
  | [] => by simp [idxOf]
  | x :: l => by
    have := idxOf_bd p l
    rw [idxOf, List.any_cons]
    by_cases h : p x = true
    · simp [h]
    · rw [if_neg h]
      have h2 : p x = false := by simpa using h
      rw [h2, Bool.false_or]
      by_cases h0 : 0 ≤ idxOf p l
      · rw [if_neg (by omega)]; exact ⟨by omega, ⟨fun _ => this.2.1 h0, fun _ => by omega⟩⟩
      · rw [if_pos (by omega)]; exact ⟨by omega, ⟨fun h => absurd h (by omega), fun h => absurd (this.2.2 h) h0⟩⟩
theorem idxOf_none {p : Int → Bool} {l : List Int} (h : ∀ i (hi : i < l.length), p l[i] = false) : idxOf p l = -1 := by
  have h1 := idxOf_bd p l
  have h2 : l.any p = false := by
    rw [List.any_eq_false]; intro x hx; obtain ⟨i, hi, rfl⟩ := List.getElem_of_mem hx; rw [h i hi]; simp
  have h3 : ¬ 0 ≤ idxOf p l := fun h => by rw [h1.2.1 h] at h2; cases h2
  omega
theorem idxOf_at {p : Int → Bool} : ∀ {l : List Int} {k : Nat} (hk : k < l.length), p l[k] = true → (∀ i (hi : i < l.length), i < k → p l[i] = false) → idxOf p l = k
  | x :: l, 0, _, h, _ => by simp only [List.getElem_cons_zero] at h; rw [idxOf, if_pos h]; rfl
  | x :: l, k + 1, hk, h, hb => by
    have h0 : p x = false := by have := hb 0 (by simp) (by omega); simp only [List.getElem_cons_zero] at this; exact this
    have h1 := idxOf_at (l := l) (k := k) (by simpa using hk) (by simpa using h) (fun i hi hik => by have := hb (i + 1) (by simpa using hi) (by omega); simp only [List.getElem_cons_succ] at this; exact this)
    rw [idxOf, h0, h1]
    simp only [Bool.false_eq_true, if_false]
    rw [if_neg (by omega)]; omega

set_option maxRecDepth 10000 in
set_option maxHeartbeats 1000000 in
theorem indexFunc_any (l : List Int) (p : Int → Bool) (q : Nat) (hq : ∀ (a : Array Value) (w : World), (callFunc q a).run Try.prog w = .ok (.enter q a) w) (caps : Array Value) (S : Nat → Prop) (v : Value) (w : World) (hr : Rd w S (.sl (l.map D.int)) [v])
    (hf : ∀ (x : Int) (w' : World), Ext w w' → Calls Try.prog q (#[.int .i64 x] ++ caps) w' fun r w'' => r = .returned (.bool (p x)) ∧ Ext w' w'') :
    Calls Try.prog 91 #[v, .func (.func q) #[] caps] w fun r w' => r = .returned (.int .i64 (idxOf p l)) ∧ Ext w w' := by
  obtain ⟨A, cap, b, off, rfl, hl1, hl2, hl3, hm⟩ := Rd.sl_open hr
  simp only [List.length_map] at *
  have hl3' := Lib.hid hl3; have hm' := Lib.hid hm; have hf' := Lib.hid hf
  clear hr hl3 hm hf
  go_enter Try.func91, Try.ntmps91
  go_wp2_with fail
  go_loopw [8] (fun i wr => ∃ (k : Nat), k ≤ l.length ∧ i = .int .i64 k ∧ Hid (∀ i (hi : i < l.length), i < k → p l[i] = false) ∧ Ext w wr) (fun i _ => l.length - (intOf i).toNat)
  case atStart => exact ⟨0, by omega, rfl, Lib.hid (fun j _ h => absurd h (by omega)), Ext.refl _⟩
  case round =>
    obtain ⟨k, hk, rfl, HH, hw⟩ := hrel
    by_cases hlt : k < l.length
    · obtain ⟨rfl, hSb⟩ := hl3'.out (by omega)
      have d0 := ints_at (hm'.out.ext (fun _ => hSb) hw) hlt
      have hSb' := Lib.hid hSb; clear hSb
      have hc := hf'.out l[k] wr hw
      cases hp : p l[k] with
      | true =>
        rw [hp] at hc
        have hc' := Lib.hid hc
        have hp' := Lib.hid hp
        have H := Lib.hid (idxOf_at hlt hp HH.out)
        clear hc hp
        go_wp2_with fail
        refine (hc'.out).mono ?_
        rintro r w1 ⟨rfl, he⟩
        go_wp2_with fail
        go_ret
        exact ⟨ret_int (by rw [H.out]), hw.trans he⟩
      | false =>
        rw [hp] at hc
        have hc' := Lib.hid hc
        have hp' := Lib.hid hp
        clear hc hp
        go_wp2_with fail
        refine (hc'.out).mono ?_
        rintro r w1 ⟨rfl, he⟩
        go_wp2_with fail
        go_roundw
        case rel => exact ⟨k + 1, by omega, by go_num, Lib.hid (fun i hi h => by rcases Nat.lt_succ_iff_lt_or_eq.1 h with h | rfl; exact HH.out i hi h; exact hp'.out), hw.trans he⟩
        case measure => simp [intOf]; omega
    · have hkl : k = l.length := by omega
      subst hkl
      have H := Lib.hid (idxOf_none (fun i hi => HH.out i hi hi))
      go_wp2_with fail
      go_ret
      exact ⟨ret_int (by rw [H.out]), hw⟩

set_option maxRecDepth 10000 in
set_option maxHeartbeats 1000000 in
theorem containsFunc_any (l : List Int) (p : Int → Bool) (q : Nat) (hq : ∀ (a : Array Value) (w : World), (callFunc q a).run Try.prog w = .ok (.enter q a) w) (caps : Array Value) (S : Nat → Prop) (v : Value) (w : World) (hr : Rd w S (.sl (l.map D.int)) [v])
    (hf : ∀ (x : Int) (w' : World), Ext w w' → Calls Try.prog q (#[.int .i64 x] ++ caps) w' fun r w'' => r = .returned (.bool (p x)) ∧ Ext w' w'') :
    Calls Try.prog 61 #[v, .func (.func q) #[] caps] w fun r w' => r = .returned (.bool (l.any p)) ∧ Ext w w' := by
  have hr' := Lib.hid hr; have hf' := Lib.hid hf
  have H := Lib.hid (show decide (0 ≤ idxOf p l) = l.any p by
    have := idxOf_bd p l
    by_cases h : 0 ≤ idxOf p l
    · rw [decide_eq_true h, this.2.1 h]
    · rw [decide_eq_false h]; cases hx : l.any p with | false => rfl | true => exact absurd (this.2.2 hx) h)
  clear hr hf
  go_enter Try.func61, Try.ntmps61
  go_wp2_with fail
  refine (indexFunc_any l p q hq caps S v w hr'.out hf'.out).mono ?_
  rintro r w1 ⟨rfl, he⟩
  go_wp2_with fail
  go_ret
  exact ⟨ret_bool (by rw [← H.out]), he⟩

end Go.Proofs.Ytmhelkhmgbbfhaa
