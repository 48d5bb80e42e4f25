/- More on readings: a slice's beginning, the empty slice, all of a list. -/
import Derived.Test.YtmhelkhmgbbfhaaRows
import Derived.Maps.AppendAt
import Derived.Test.YtmhelkhmgbbfhaaGa1
set_option linter.unusedSimpArgs false
set_option linter.unusedVariables false
namespace Go.Proofs.Ytmhelkhmgbbfhaa
open Go.RowKit Go.Lib

theorem RdM.take {w : World} {S : Nat → Prop} : ∀ (l : List D) (b off k : Nat), RdM w S l b off → RdM w S (l.take k) b off
  | [], _, _, _, _ => by rw [List.take_nil, RdM]; trivial
  | d :: l, b, off, 0, _ => by rw [List.take_zero, RdM]; trivial
  | d :: l, b, off, k + 1, h => by
    rw [RdM] at h
    rw [List.take_succ_cons, RdM]
    exact ⟨h.1, RdM.take l b _ k h.2⟩
theorem RdM.drop {w : World} {S : Nat → Prop} {sz : Nat} : ∀ (l : List D) (b off k : Nat), RdM w S l b off → (∀ d ∈ l, d.width = sz) → RdM w S (l.drop k) b (off + k * sz)
  | [], _, _, _, _, _ => by rw [List.drop_nil, RdM]; trivial
  | d :: l, b, off, 0, h, _ => by simpa using h
  | d :: l, b, off, k + 1, h, hw => by
    rw [RdM] at h
    rw [List.drop_succ_cons]
    have hd : d.width = sz := hw d (by simp)
    have := RdM.drop l b (off + d.width) k h.2 (fun x hx => hw x (by simp [hx]))
    rw [hd] at this
    rwa [show off + (k + 1) * sz = off + sz + k * sz by rw [Nat.succ_mul]; omega]
/-- 'x[:k]' -/
theorem Rd.cut {w : World} {S : Nat → Prop} {l : List D} {b off cap k : Nat} (hk : k ≤ l.length) (h1 : l.length ≤ cap) (h2 : cap ≤ 9223372036854775807) (hS : S b) (h : RdM w S l b off) : Rd w S (.sl (l.take k)) [.slice (some ⟨b, off, none⟩) k cap] :=
  Rd.sl_mk (by rw [List.length_take]; omega) (by rw [List.length_take]; omega) h2 (fun _ => ⟨rfl, hS⟩) (RdM.take l b off k h)
theorem Rd.nil {w : World} {S : Nat → Prop} {cap : Nat} (A : Option Addr) (h : cap ≤ 9223372036854775807) : Rd w S (.sl []) [.slice A 0 cap] :=
  Rd.sl_mk (b := 0) (off := 0) rfl (by simp) h (by simp) (by rw [RdM]; trivial)

theorem all_range_false {n k : Nat} {p : Nat → Bool} (h : k < n) (hp : p k = false) : (List.range n).all p = false := by
  rw [List.all_eq_false]; exact ⟨k, List.mem_range.2 h, by rw [hp]; simp⟩
theorem all_range_true {n : Nat} {p : Nat → Bool} (h : ∀ i, i < n → p i = true) : (List.range n).all p = true := by
  rw [List.all_eq_true]; exact fun i hi => h i (List.mem_range.1 hi)
theorem all_at_false {α : Type} {l : List α} {k : Nat} {p : α → Bool} (h : k < l.length) (hp : p l[k] = false) : l.all p = false := by
  rw [List.all_eq_false]; exact ⟨l[k], List.getElem_mem h, by rw [hp]; simp⟩
theorem all_at_true {α : Type} {l : List α} {p : α → Bool} (h : ∀ i (hi : i < l.length), p l[i] = true) : l.all p = true := by
  rw [List.all_eq_true]; intro x hx; obtain ⟨i, hi, rfl⟩ := List.getElem_of_mem hx; exact h i hi

end Go.Proofs.Ytmhelkhmgbbfhaa

/- Types and rightness on plain data: what the walks need. -/
namespace Go.Proofs.Ytmhelkhmgbbfhaa
open Go.RowKit Go.Lib

theorem answer_none {x : Int} : Answer none (.returned (.tuple #[.int .i64 x, .bool false])) := ⟨x, false, rfl, rfl⟩
theorem answer_some {x : Int} : Answer (some x) (.returned (.tuple #[.int .i64 x, .bool true])) := ⟨x, true, rfl, rfl⟩
theorem answer_of {x : Int} {b : Bool} {t : Option Int} (h : (if b then some x else none) = t) : Answer t (.returned (.tuple #[.int .i64 x, .bool b])) := ⟨x, b, rfl, h⟩
theorem levelsL_mem : ∀ (l : List Ex) (n : Int) (e : Ex), e ∈ l → levels e ≤ levelsL l n
  | [], _, _, h => by simp at h
  | x :: l, n, e, h => by
    rw [levelsL]
    rcases List.mem_cons.1 h with rfl | h
    · have : ∀ (l : List Ex) (n : Int), n ≤ levelsL l n := fun l => by
        induction l with
        | nil => intro n; rw [levelsL]; omega
        | cons a l ih => intro n; rw [levelsL]; have := ih (max n (levels a)); omega
      have := this l (max n (levels e)); omega
    · exact levelsL_mem l _ e h
theorem levelsL_snoc : ∀ (l : List Ex) (e : Ex) (n : Int), levelsL (l ++ [e]) n = max (levelsL l n) (levels e)
  | [], e, n => by simp only [List.nil_append, levelsL]
  | x :: l, e, n => by rw [List.cons_append, levelsL, levelsL, levelsL_snoc l e]
theorem take_ne {l m : List Int} {k : Nat} (h1 : k < l.length) (h2 : k < m.length) (h : l[k] ≠ m[k]) : m ≠ l := by
  rintro rfl; exact h rfl

set_option maxHeartbeats 400000 in
theorem tys_cons (F : List Fn) (c p : List Int) (e : Ex) (l : List Ex) : tys F c p (e :: l) = (match ty F c p e with | some t => (tys F c p l).map (t :: ·) | none => none) := by
  rw [tys]; cases ty F c p e <;> simp
  cases tys F c p l <;> rfl

/-- what has been collected before place k, and what is to come -/
def TysAt (F : List Fn) (c p : List Int) (l : List Ex) (ts : List Int) (k : Nat) : Prop := tys F c p l = (tys F c p (l.drop k)).map (ts ++ ·)
theorem TysAt.start (F : List Fn) (c p : List Int) (l : List Ex) : TysAt F c p l [] 0 := by simp [TysAt]
theorem TysAt.next {F : List Fn} {c p : List Int} {l : List Ex} {ts : List Int} {k : Nat} (h : TysAt F c p l ts k) (hk : k < l.length) {t : Int} (ht : ty F c p l[k] = some t) : TysAt F c p l (ts ++ [t]) (k + 1) := by
  unfold TysAt at *
  rw [h, List.drop_eq_getElem_cons hk, tys_cons, ht]
  cases tys F c p (l.drop (k + 1)) <;> simp
theorem TysAt.none {F : List Fn} {c p : List Int} {l : List Ex} {ts : List Int} {k : Nat} (h : TysAt F c p l ts k) (hk : k < l.length) (ht : ty F c p l[k] = .none) : tys F c p l = .none := by
  unfold TysAt at h
  rw [h, List.drop_eq_getElem_cons hk, tys_cons, ht]; rfl
theorem TysAt.done {F : List Fn} {c p : List Int} {l : List Ex} {ts : List Int} (h : TysAt F c p l ts l.length) : tys F c p l = some ts := by
  unfold TysAt at h
  rw [h]; simp [tys]

theorem levels_bd {e : Ex} (h : parts e ≤ 1000000) : levels e ≤ 1000000 := by have := levels_le e; omega
theorem okF_at {F : List Fn} {k : Nat} (h : k < F.length) : okF F k = (F[k].params.all kindB && decide (tyD (F.take k) [] F[k].params F[k].body = some F[k].res) && decide ((F[k].params.length : Int) ≤ 6)) := by
  unfold okF; rw [List.getElem?_eq_getElem h]
theorem rightF_false {F : List Fn} {k : Nat} (h : k < F.length) (hk : okF F k = false) : rightF F = false := by
  unfold rightF
  rw [all_range_false h hk]; simp
theorem rightF_end {F : List Fn} (h : ∀ i, i < F.length → okF F i = true) : rightF F = decide ((F.length : Int) ≤ 20) := by
  unfold rightF
  rw [all_range_true h]; simp
end Go.Proofs.Ytmhelkhmgbbfhaa

/- Walks: slices.IndexFunc and ContainsFunc at ints, over any function that answers by a predicate. -/
namespace Go.Proofs.Ytmhelkhmgbbfhaa
open Go.RowKit Go.Lib

/-- the place of the first that the predicate takes, or -1 -/
def idxOf (p : Int → Bool) : List Int → Int
  | [] => -1
  | x :: l => if p x then 0 else (if idxOf p l < 0 then -1 else idxOf p l + 1)
theorem idxOf_bd (p : Int → Bool) : ∀ l, -1 ≤ idxOf p l ∧ (0 ≤ idxOf p l ↔ l.any p = true)
  | [] => by simp [idxOf]
  | x :: l => by
    have := idxOf_bd p l
    rw [idxOf, List.any_cons]
    by_cases h : p x = true
    · simp [h]
    · rw [if_neg h]
      have h2 : p x = false := by simpa using h
      rw [h2, Bool.false_or]
      by_cases h0 : 0 ≤ idxOf p l
      · rw [if_neg (by omega)]; exact ⟨by omega, ⟨fun _ => this.2.1 h0, fun _ => by omega⟩⟩
      · rw [if_pos (by omega)]; exact ⟨by omega, ⟨fun h => absurd h (by omega), fun h => absurd (this.2.2 h) h0⟩⟩
theorem idxOf_none {p : Int → Bool} {l : List Int} (h : ∀ i (hi : i < l.length), p l[i] = false) : idxOf p l = -1 := by
  have h1 := idxOf_bd p l
  have h2 : l.any p = false := by
    rw [List.any_eq_false]; intro x hx; obtain ⟨i, hi, rfl⟩ := List.getElem_of_mem hx; rw [h i hi]; simp
  have h3 : ¬ 0 ≤ idxOf p l := fun h => by rw [h1.2.1 h] at h2; cases h2
  omega
theorem idxOf_at {p : Int → Bool} : ∀ {l : List Int} {k : Nat} (hk : k < l.length), p l[k] = true → (∀ i (hi : i < l.length), i < k → p l[i] = false) → idxOf p l = k
  | x :: l, 0, _, h, _ => by simp only [List.getElem_cons_zero] at h; rw [idxOf, if_pos h]; rfl
  | x :: l, k + 1, hk, h, hb => by
    have h0 : p x = false := by have := hb 0 (by simp) (by omega); simp only [List.getElem_cons_zero] at this; exact this
    have h1 := idxOf_at (l := l) (k := k) (by simpa using hk) (by simpa using h) (fun i hi hik => by have := hb (i + 1) (by simpa using hi) (by omega); simp only [List.getElem_cons_succ] at this; exact this)
    rw [idxOf, h0, h1]
    simp only [Bool.false_eq_true, if_false]
    rw [if_neg (by omega)]; omega

set_option maxRecDepth 10000 in
set_option maxHeartbeats 1000000 in
theorem indexFunc_any (l : List Int) (p : Int → Bool) (q : Nat) (hq : ∀ (a : Array Value) (w : World), (callFunc q a).run Try.prog w = .ok (.enter q a) w) (caps : Array Value) (S : Nat → Prop) (v : Value) (w : World) (hr : Rd w S (.sl (l.map D.int)) [v])
    (hf : ∀ (x : Int) (w' : World), Ext w w' → Calls Try.prog q (#[.int .i64 x] ++ caps) w' fun r w'' => r = .returned (.bool (p x)) ∧ Ext w' w'') :
    Calls Try.prog 91 #[v, .func (.func q) #[] caps] w fun r w' => r = .returned (.int .i64 (idxOf p l)) ∧ Ext w w' := by
  obtain ⟨A, cap, b, off, rfl, hl1, hl2, hl3, hm⟩ := Rd.sl_open hr
  simp only [List.length_map] at *
  have hl3' := Lib.hid hl3; have hm' := Lib.hid hm; have hf' := Lib.hid hf
  clear hr hl3 hm hf
  go_enter Try.func91, Try.ntmps91
  go_wp2_with fail
  go_loopw [8] (fun i wr => ∃ (k : Nat), k ≤ l.length ∧ i = .int .i64 k ∧ Hid (∀ i (hi : i < l.length), i < k → p l[i] = false) ∧ Ext w wr) (fun i _ => l.length - (intOf i).toNat)
  case atStart => exact ⟨0, by omega, rfl, Lib.hid (fun j _ h => absurd h (by omega)), Ext.refl _⟩
  case round =>
    obtain ⟨k, hk, rfl, HH, hw⟩ := hrel
    by_cases hlt : k < l.length
    · obtain ⟨rfl, hSb⟩ := hl3'.out (by omega)
      have d0 := ints_at (hm'.out.ext (fun _ => hSb) hw) hlt
      have hSb' := Lib.hid hSb; clear hSb
      have hc := hf'.out l[k] wr hw
      cases hp : p l[k] with
      | true =>
        rw [hp] at hc
        have hc' := Lib.hid hc
        have hp' := Lib.hid hp
        have H := Lib.hid (idxOf_at hlt hp HH.out)
        clear hc hp
        go_wp2_with fail
        refine (hc'.out).mono ?_
        rintro r w1 ⟨rfl, he⟩
        go_wp2_with fail
        go_ret
        exact ⟨ret_int (by rw [H.out]), hw.trans he⟩
      | false =>
        rw [hp] at hc
        have hc' := Lib.hid hc
        have hp' := Lib.hid hp
        clear hc hp
        go_wp2_with fail
        refine (hc'.out).mono ?_
        rintro r w1 ⟨rfl, he⟩
        go_wp2_with fail
        go_roundw
        case rel => exact ⟨k + 1, by omega, by go_num, Lib.hid (fun i hi h => by rcases Nat.lt_succ_iff_lt_or_eq.1 h with h | rfl; exact HH.out i hi h; exact hp'.out), hw.trans he⟩
        case measure => simp [intOf]; omega
    · have hkl : k = l.length := by omega
      subst hkl
      have H := Lib.hid (idxOf_none (fun i hi => HH.out i hi hi))
      go_wp2_with fail
      go_ret
      exact ⟨ret_int (by rw [H.out]), hw⟩

set_option maxRecDepth 10000 in
set_option maxHeartbeats 1000000 in
theorem containsFunc_any (l : List Int) (p : Int → Bool) (q : Nat) (hq : ∀ (a : Array Value) (w : World), (callFunc q a).run Try.prog w = .ok (.enter q a) w) (caps : Array Value) (S : Nat → Prop) (v : Value) (w : World) (hr : Rd w S (.sl (l.map D.int)) [v])
    (hf : ∀ (x : Int) (w' : World), Ext w w' → Calls Try.prog q (#[.int .i64 x] ++ caps) w' fun r w'' => r = .returned (.bool (p x)) ∧ Ext w' w'') :
    Calls Try.prog 61 #[v, .func (.func q) #[] caps] w fun r w' => r = .returned (.bool (l.any p)) ∧ Ext w w' := by
  have hr' := Lib.hid hr; have hf' := Lib.hid hf
  have H := Lib.hid (show decide (0 ≤ idxOf p l) = l.any p by
    have := idxOf_bd p l
    by_cases h : 0 ≤ idxOf p l
    · rw [decide_eq_true h, this.2.1 h]
    · rw [decide_eq_false h]; cases hx : l.any p with | false => rfl | true => exact absurd (this.2.2 hx) h)
  clear hr hf
  go_enter Try.func61, Try.ntmps61
  go_wp2_with fail
  refine (indexFunc_any l p q hq caps S v w hr'.out hf'.out).mono ?_
  rintro r w1 ⟨rfl, he⟩
  go_wp2_with fail
  go_ret
  exact ⟨ret_bool (by rw [← H.out]), he⟩

end Go.Proofs.Ytmhelkhmgbbfhaa

/- Walks: types of expressions, as the program finds them: the small functions. -/
namespace Go.Proofs.Ytmhelkhmgbbfhaa
open Go.RowKit Go.Lib

set_option maxHeartbeats 400000 in
theorem kind_any (n : Int) (w : World) : Calls Try.prog 60 #[.int .i64 n] w fun r w' => r = .returned (.bool (kindB n)) ∧ Ext w w' := by
  go_enter Try.func60, Try.ntmps60
  go_wp2_with fail
  all_goals
    go_ret
    exact ⟨ret_bool (by first | rfl | (unfold kindB; simp; omega)), Ext.refl _⟩

set_option maxHeartbeats 400000 in
theorem wrongKind_any (n : Int) (w : World) : Calls Try.prog 59 #[.int .i64 n] w fun r w' => r = .returned (.bool (!kindB n)) ∧ Ext w w' := by
  go_enter Try.func59, Try.ntmps59
  go_wp2_with fail
  refine (kind_any _ _).mono ?_
  rintro r w1 ⟨rfl, he⟩
  go_wp2_with fail
  go_ret
  exact ⟨rfl, he⟩

set_option maxHeartbeats 400000 in
theorem levels_any (e : Ex) : ∀ (S : Nat → Prop) (cs : List Value) (w : World), Rd w S e.d cs → levels e ≤ 1000000 →
    Calls Try.prog 46 #[.agg cs.toArray] w fun r w' => r = .returned (.int .i64 (levels e)) ∧ Ext w w' := by
  induction e using Ex.ind with | h o m s l ih => ?_
  intro S cs w hr hbd
  obtain ⟨A, cap, b, off, rfl, hl1, hl2, hl3, hm⟩ := Ex.open hr
  simp only [Ex.args, Ex.op, Ex.n, Ex.s] at *
  rw [levels] at hbd
  have H := Lib.hid (show levels (.mk o m s l) = levelsL l 0 + 1 by rw [levels])
  have hl3' := Lib.hid hl3; have hm' := Lib.hid hm
  clear hr hl3 hm
  go_enter Try.func46, Try.ntmps46
  go_wp2_with fail
  go_loopw [3, 9] (fun x i wr => ∃ (k : Nat) (q : Int), k ≤ l.length ∧ i = .int .i64 k ∧ x = .int .i64 q ∧ 0 ≤ q ∧ q ≤ 1000000 ∧ Hid (levelsL l 0 = levelsL (l.drop k) q) ∧ Ext (w.alloc (.cells #[.int .i64 o, .int .i64 m, .string s, .slice A l.length cap] 25)) wr) (fun _ i _ => l.length - (intOf i).toNat)
  case atStart => exact ⟨0, _, by omega, rfl, rfl, by omega, by omega, Lib.hid rfl, Ext.refl _⟩
  case round =>
    obtain ⟨k, q, hk, rfl, rfl, hq1, hq2, HH, hb⟩ := hrel
    have hw : Ext w wr := ((Ext.refl _).alloc _).trans hb
    by_cases hlt : k < l.length
    · obtain ⟨rfl, hSb⟩ := hl3'.out (by omega)
      obtain ⟨A1, cap1, b1, off1, c0, c1, c2, c3, hr', -⟩ := Ex.at (hm'.out.ext (fun _ => hSb) hw) hlt
      have hr2 := Lib.hid hr'
      have hSb' := Lib.hid hSb
      clear hr' hSb
      have hle := levelsL_mem l 0 l[k] (List.getElem_mem hlt)
      have hll := levels_le l[k]
      go_wp2_with fail
      refine (ih l[k] (List.getElem_mem hlt) S _ _ (hr2.out.ext (by repeat' first | exact Ext.refl _ | assumption | apply Ext.alloc | apply Ext.drew | apply Ext.drewN | (refine Ext.trans ?_ (by assumption)))) (by omega)).mono ?_
      rintro r w1 ⟨rfl, he⟩
      have HH2 := Lib.hid (HH.out.trans (by rw [List.drop_eq_getElem_cons hlt, levelsL]))
      clear HH
      go_wp2_with fail
      go_roundw
      case rel => exact ⟨k + 1, max q (levels l[k]), by omega, by go_num, by first | rfl | go_num | (simp [Int.max_def]), by omega, by omega, HH2, (by repeat' first | exact Ext.refl _ | assumption | apply Ext.alloc | apply Ext.drew | apply Ext.drewN | (refine Ext.trans ?_ (by assumption)))⟩
      case measure => simp [intOf]; omega
    · have hkl : k = l.length := by omega
      subst hkl
      have hq3 : levelsL l 0 = q := by rw [HH.out]; simp [levelsL]
      have hq4 := Lib.hid hq3
      have hq5 : q ≤ 999999 := by omega
      clear hq3
      go_wp2_with fail
      go_ret
      exact ⟨ret_int (by rw [H.out, hq4.out]), hw⟩

set_option maxHeartbeats 400000 in
theorem pick_any (l : List Int) (n : Int) (S : Nat → Prop) (v : Value) (w : World) (hr : Rd w S (.sl (l.map D.int)) [v]) :
    Calls Try.prog 102 #[v, .int .i64 n] w fun r w' => Answer (pickT l n) r ∧ Ext w w' := by
  obtain ⟨A, cap, b, off, rfl, hl1, hl2, hl3, hm⟩ := Rd.sl_open hr
  simp only [List.length_map] at *
  by_cases hn : n < 0 ∨ (l.length : Int) ≤ n
  · have H := Lib.hid (show pickT l n = none by
      unfold pickT; split
      · rfl
      · rw [List.getElem?_eq_none (by omega)])
    clear hr hm hl3
    rcases hn with hn | hn
    · go_enter Try.func102, Try.ntmps102
      go_wp2_with fail
      go_ret2
      exact ⟨by rw [H.out]; exact answer_none, Ext.refl _⟩
    · by_cases h0 : n < 0
      all_goals
        go_enter Try.func102, Try.ntmps102
        go_wp2_with fail
        go_ret2
        exact ⟨by rw [H.out]; exact answer_none, Ext.refl _⟩
  · obtain ⟨k, rfl⟩ := Int.eq_ofNat_of_zero_le (show 0 ≤ n by omega)
    have hlt : k < l.length := by omega
    obtain ⟨rfl, hSb⟩ := hl3 (by omega)
    have c0 := ints_at hm hlt
    have hn1 : ¬ l.length ≤ k := by omega
    have hn2 : ¬ (k : Int) < 0 := by omega
    have H := Lib.hid (show (if kindB l[k] then some l[k] else none) = pickT l (k : Int) by
      simp [pickT, List.getElem?_eq_getElem hlt, show ¬ ((k : Int) < 0) by omega])
    clear hm hSb hr hl3 hn
    have hc := kind_any l[k]
    cases hp : kindB l[k] with
    | true =>
      rw [hp] at hc H
      have hc' := Lib.hid hc; clear hc hp
      go_enter Try.func102, Try.ntmps102
      go_wp2_with fail
      refine (hc'.out _).mono ?_
      rintro r w1 ⟨rfl, he⟩
      have c0 := he.at c0
      go_wp2_with fail
      go_ret2
      exact ⟨answer_of H.out, he⟩
    | false =>
      rw [hp] at hc H
      have hc' := Lib.hid hc; clear hc hp
      go_enter Try.func102, Try.ntmps102
      go_wp2_with fail
      refine (hc'.out _).mono ?_
      rintro r w1 ⟨rfl, he⟩
      go_wp2_with fail
      go_ret2
      exact ⟨answer_of H.out, he⟩

set_option maxHeartbeats 400000 in
theorem other_any (t k : Int) (b : Nat) (w : World) (h : w.cell? ⟨b, 0, none⟩ = some (.int .i64 t)) :
    Calls Try.prog 104 #[.int .i64 k, .pointer (some ⟨b, 0, none⟩)] w fun r w' => r = .returned (.bool (k != t)) ∧ Ext w w' := by
  go_enter Try.func104, Try.ntmps104
  go_wp2_with fail
  go_ret
  exact ⟨rfl, Ext.refl _⟩

/-- all of a list are t, and there are n -/
def allAre (ts : List Int) (t : Int) (n : Int) : Bool := decide ((ts.length : Int) = n) && !ts.any (· != t)

set_option maxHeartbeats 1000000 in
theorem all_any (ts : List Int) (t n : Int) (b : Nat) (S : Nat → Prop) (v : Value) (w : World) (h : w.cell? ⟨b, 0, none⟩ = some v) (hr : Rd w S (.sl (ts.map D.int)) [v]) :
    Calls Try.prog 103 #[.int .i64 t, .int .i64 n, .pointer (some ⟨b, 0, none⟩)] w fun r w' => r = .returned (.bool (allAre ts t n)) ∧ Ext w w' := by
  obtain ⟨A, cap, b1, off, rfl, hl1, hl2, hl3, hm⟩ := Rd.sl_open hr
  simp only [List.length_map] at *
  have hr' := Lib.hid hr
  clear hr hl3 hm
  have hcs := World.block_lt_of_cell? w _ h
  by_cases hn : (ts.length : Int) = n
  · have H := Lib.hid (show allAre ts t n = !ts.any (· != t) by unfold allAre; rw [decide_eq_true hn]; rfl)
    subst hn
    have hc : ∀ w', Ext (w.alloc (.cells #[.int .i64 t] 3)) w' → Calls Try.prog 61 #[.slice A ts.length cap, .func (.func 104) #[] #[.pointer (some ⟨w.heap.size, 0, none⟩)]] w' fun r w'' => r = .returned (.bool (ts.any (· != t))) ∧ Ext w' w'' := fun w' hw' =>
      containsFunc_any ts (· != t) _ (fun a w => by kernel_rfl) _ S _ w' ((hr'.out.ext ((Ext.refl _).alloc _)).ext hw') (fun x w'' hw'' => other_any t x w.heap.size w'' ((hw'.trans hw'').at (by go_simp)))
    have hc' := Lib.hid hc; clear hc
    go_enter Try.func103, Try.ntmps103
    go_wp2_with fail
    refine (hc'.out _ (Ext.refl _)).mono ?_
    rintro r w1 ⟨rfl, he⟩
    go_wp2_with fail
    go_ret
    exact ⟨ret_bool (by rw [H.out]), (by repeat' first | exact Ext.refl _ | assumption | apply Ext.alloc | apply Ext.drew | apply Ext.drewN | (refine Ext.trans ?_ (by assumption)))⟩
  · have H := Lib.hid (show allAre ts t n = false by unfold allAre; rw [decide_eq_false hn]; rfl)
    have hn2 : ((ts.length : Int) == n) = false := by simp [hn]
    go_enter Try.func103, Try.ntmps103
    go_wp2_with fail
    go_ret
    exact ⟨ret_bool (by rw [H.out]), (by repeat' first | exact Ext.refl _ | assumption | apply Ext.alloc | apply Ext.drew | apply Ext.drewN | (refine Ext.trans ?_ (by assumption)))⟩

end Go.Proofs.Ytmhelkhmgbbfhaa

/- Replacing and inlining, on plain data. -/
namespace Go.Proofs.Ytmhelkhmgbbfhaa
open Go.RowKit Go.Lib

def zeroE : Ex := .mk 0 0 ByteArray.empty []
mutual
def putP (op : Int) (L : List Ex) : Ex → Option Ex
  | .mk o n s l => if o = op then (if n < 0 then none else L[n.toNat]?) else match putPs op L l with
    | some l' => some (.mk o n s l')
    | none => none
def putPs (op : Int) (L : List Ex) : List Ex → Option (List Ex)
  | [] => some []
  | e :: l => match putP op L e with
    | some x => match putPs op L l with
      | some xs => some (x :: xs)
      | none => none
    | none => none
end
theorem putPs_len {op : Int} {L : List Ex} : ∀ (l : List Ex) {ys : List Ex}, putPs op L l = some ys → ys.length = l.length
  | [], ys, h => by rw [putPs] at h; cases h; rfl
  | e :: l, ys, h => by
    rw [putPs] at h
    cases he : putP op L e with
    | none => rw [he] at h; cases h
    | some x =>
      rw [he] at h
      cases hl : putPs op L l with
      | none => rw [hl] at h; cases h
      | some xs => rw [hl] at h; cases h; simp [putPs_len l hl]
theorem putPs_snoc {op : Int} {L : List Ex} {e x : Ex} (hx : putP op L e = some x) : ∀ (l : List Ex) {ys : List Ex}, putPs op L l = some ys → putPs op L (l ++ [e]) = some (ys ++ [x])
  | [], ys, h => by rw [putPs] at h; cases h; simp only [List.nil_append, putPs, hx]
  | a :: l, ys, h => by
    rw [putPs] at h
    cases he : putP op L a with
    | none => rw [he] at h; cases h
    | some z =>
      rw [he] at h
      cases hl : putPs op L l with
      | none => rw [hl] at h; cases h
      | some xs =>
        rw [hl] at h; cases h
        rw [List.cons_append, putPs, he, putPs_snoc hx l hl]; rfl
theorem putPs_none {op : Int} {L : List Ex} : ∀ (l : List Ex) {e : Ex}, e ∈ l → putP op L e = none → putPs op L l = none
  | [], _, h, _ => by cases h
  | a :: l, e, h, hn => by
    rw [putPs]
    rcases List.mem_cons.1 h with rfl | h
    · rw [hn]
    · rw [putPs_none l h hn]
      cases putP op L a <;> rfl

def replP (e : Ex) (L : List Ex) : Option Ex := match putP 3 L e with
  | some x => if 12 < levels x then none else some x
  | none => none

theorem levelsL_sup {K : Int} : ∀ (l : List Ex) (n : Int), (∀ e ∈ l, levels e ≤ K) → n ≤ K → levelsL l n ≤ K
  | [], n, _, h => by rw [levelsL]; exact h
  | e :: l, n, h, hn => by
    rw [levelsL]
    exact levelsL_sup l _ (fun x hx => h x (by simp [hx])) (by have := h e (by simp); omega)
theorem putPs_mem {op : Int} {L : List Ex} : ∀ (l : List Ex) {ys : List Ex}, putPs op L l = some ys → ∀ y ∈ ys, ∃ e ∈ l, putP op L e = some y
  | [], ys, h, y, hy => by rw [putPs] at h; cases h; cases hy
  | e :: l, ys, h, y, hy => by
    rw [putPs] at h
    cases he : putP op L e with
    | none => rw [he] at h; cases h
    | some x =>
      rw [he] at h
      cases hl : putPs op L l with
      | none => rw [hl] at h; cases h
      | some xs =>
        rw [hl] at h; cases h
        rcases List.mem_cons.1 hy with rfl | hy
        · exact ⟨e, by simp, he⟩
        · obtain ⟨e', h1, h2⟩ := putPs_mem l hl y hy
          exact ⟨e', by simp [h1], h2⟩
theorem putP_levels {op : Int} {L : List Ex} {K : Int} (hK : 0 ≤ K) (hL : ∀ y ∈ L, levels y ≤ K) (e : Ex) : ∀ {x : Ex}, putP op L e = some x → levels x ≤ levels e + K := by
  induction e using Ex.ind with
  | h o n s l ih =>
    intro x h
    rw [putP] at h
    split at h
    · split at h
      · cases h
      · have := hL x (List.mem_of_getElem? h)
        have := levels_le (.mk o n s l)
        omega
    · cases hl : putPs op L l with
      | none => rw [hl] at h; cases h
      | some ys =>
        rw [hl] at h; cases h
        have h0 := levelsL_le l 0 0 (by omega) (by omega)
        have := levelsL_sup (K := levelsL l 0 + K) ys 0 (fun y hy => by
          obtain ⟨e, he, hy2⟩ := putPs_mem l hl y hy
          have := ih e he hy2
          have := levelsL_mem l 0 e he
          omega) (by omega)
        rw [levels, levels]; omega

theorem partsL_take (l : List Ex) (k : Nat) (h : k < l.length) : partsL (l.take (k + 1)) = partsL (l.take k) + parts l[k] := by
  induction l generalizing k with
  | nil => simp at h
  | cons e l ih =>
    cases k with
    | zero => simp [partsL]
    | succ k => rw [List.take_succ_cons, List.take_succ_cons, partsL, partsL, ih k (by simpa using h)]; simp; omega
theorem partsL_take_le (l : List Ex) (k : Nat) : partsL (l.take k) ≤ partsL l := by
  induction l generalizing k with
  | nil => simp
  | cons e l ih =>
    cases k with
    | zero => simp [partsL]
    | succ k => rw [List.take_succ_cons, partsL, partsL]; have := ih k; omega

/- inlining: bodies that could be inlined, the first ones first -/
def fitX (x : Ex) : Option Ex := if 1000 < parts x then none else some x
mutual
def inlE (bs : List (Option Ex)) : Ex → Option Ex
  | .mk o n s l => match inlL bs l with
    | none => none
    | some ys => if o = 22 ∧ 0 ≤ n ∧ n < bs.length then (match bs.getD n.toNat none with
        | none => none
        | some b => fitX ((putP 4 ys b).getD zeroE))
      else fitX (.mk o n s ys)
def inlL (bs : List (Option Ex)) : List Ex → Option (List Ex)
  | [] => some []
  | e :: l => match inlE bs e with
    | none => none
    | some x => match inlL bs l with
      | none => none
      | some xs => some (x :: xs)
end
def inlB : List (Option Ex) → List Fn → List (Option Ex)
  | bs, [] => bs
  | bs, f :: F => inlB (bs ++ [inlE bs f.body]) F
def inlineP (F : List Fn) (e : Ex) : Option Ex := match inlE (inlB [] F) e with
  | some x => if 12 < levels x then none else some x
  | none => none
end Go.Proofs.Ytmhelkhmgbbfhaa

/- Walks of the law's own helpers of layer 16. -/
namespace Go.Proofs.Ytmhelkhmgbbfhaa
open Go.RowKit Go.Lib

set_option maxHeartbeats 400000 in
theorem light_any (e : Ex) : ∀ (S : Nat → Prop) (cs : List Value) (n lv : Int) (w : World), Rd w S e.d cs → 0 ≤ n → n ≤ 1000 → -10 ≤ lv → lv ≤ 20 →
    Calls Try.prog 18 #[.agg cs.toArray, .int .i64 n, .int .i64 lv] w fun r w' => r = .returned (.int .i64 (light e n lv)) ∧ Ext w w' := by
  induction e using Ex.ind with | h o m s l ih => ?_
  intro S cs n lv w hr h1 h2 h3 h4
  obtain ⟨A, cap, b, off, rfl, hl1, hl2, hl3, hm⟩ := Ex.open hr
  simp only [Ex.args, Ex.op, Ex.n, Ex.s] at *
  by_cases hc : n - 1 < 0 ∨ lv < 1 ∨ (s.size : Int) > 300
  · have H := Lib.hid (show light (.mk o m s l) n lv = -1 by rw [light, if_pos hc])
    go_enter Try.func18, Try.ntmps18
    go_wp2_with fail
    all_goals
      go_ret
      exact ⟨ret_int H.out.symm, (Below.refl _ _).alloc (Nat.le_refl _) _⟩
  · have H := Lib.hid (show light (.mk o m s l) n lv = lightL l (n - 1) (lv - 1) by rw [light, if_neg hc])
    have g1 : ¬ n - 1 < 0 := by omega
    have g2 : ¬ lv < 1 := by omega
    have g3 : ¬ (s.size : Int) > 300 := by omega
    clear hc
    go_enter Try.func18, Try.ntmps18
    go_wp2_with fail
    go_loopw [1, 7] (fun x i wr => ∃ (k : Nat) (q : Int), k ≤ l.length ∧ i = .int .i64 k ∧ x = .int .i64 q ∧ -1 ≤ q ∧ q ≤ 1000 ∧ Hid (lightL l (n - 1) (lv - 1) = lightL (l.drop k) q (lv - 1)) ∧ Ext (w.alloc (.cells #[.int .i64 o, .int .i64 m, .string s, .slice A l.length cap] 25)) wr) (fun _ i _ => l.length - (intOf i).toNat)
    case atStart => exact ⟨0, _, by omega, rfl, rfl, by omega, by omega, Lib.hid rfl, Ext.refl _⟩
    case round =>
      obtain ⟨k, q, hk, rfl, rfl, hq1, hq2, HH, hb⟩ := hrel
      have hbox : wr.cell? ⟨w.heap.size, 3, none⟩ = some (.slice A l.length cap) := by rw [hb.cell (by simp)]; go_simp
      have hw : Ext w wr := ((Ext.refl _).alloc _).trans hb
      have hm' := Lib.hid (hm.ext (fun h => (hl3 (by simpa using h)).2) hw)
      clear hr hm
      by_cases hlt : k < l.length
      · obtain ⟨rfl, hSb⟩ := hl3 (by omega)
        obtain ⟨A1, cap1, b1, off1, c0, c1, c2, c3, hr', -⟩ := Ex.at hm'.out hlt
        have hr2 := Lib.hid hr'
        have hSb' := Lib.hid hSb
        clear hr' hSb hl3
        go_wp2_with fail
        · have hq0 : 0 ≤ q := by assumption
          refine (ih l[k] (List.getElem_mem hlt) S _ q (lv - 1) _ hr2.out hq0 (by omega) (by omega) (by omega)).mono ?_
          rintro r w1 ⟨rfl, he⟩
          have hle := light_le l[k] q (lv - 1) hq0
          have HH2 := Lib.hid (HH.out.trans (by rw [List.drop_eq_getElem_cons hlt, lightL, if_pos hq0]))
          clear HH
          go_wp2_with fail
          go_roundw
          case rel => exact ⟨k + 1, _, by omega, by go_num, rfl, by omega, by omega, HH2, hb.trans he⟩
          case measure => simp [intOf]; omega
        · have hq0 : q < 0 := by assumption
          go_ret
          exact ⟨ret_int (by rw [H.out, HH.out]; cases hd : l.drop k with | nil => rw [lightL] | cons x xs => rw [lightL, if_neg (by omega)]), hw⟩
      · have hkl : k = l.length := by omega
        subst hkl
        go_wp2_with fail
        go_ret
        exact ⟨ret_int (by rw [H.out, HH.out]; simp [lightL]), hw⟩

def fairB (f : Fn) : Bool := decide (0 ≤ light f.body 60 20) && decide ((f.params.length : Int) ≤ 8)
def fair (F : List Fn) : Bool := F.all fairB && decide ((F.length : Int) ≤ 22)

set_option maxHeartbeats 400000 in
theorem fair_any (F : List Fn) (S : Nat → Prop) (v : Value) (w : World) (hr : Rd w S (.sl (F.map Fn.d)) [v]) :
    Calls Try.prog 30 #[v] w fun r w' => r = .returned (.bool (fair F)) ∧ Ext w w' := by
  obtain ⟨A, cap, b, off, rfl, hl1, hl2, hl3, hm⟩ := Rd.sl_open hr
  simp only [List.length_map] at *
  go_enter Try.func30, Try.ntmps30
  go_wp2_with fail
  go_loopw [3] (fun i wr => ∃ (k : Nat), k ≤ F.length ∧ i = .int .i64 k ∧ Hid (F.all fairB = (F.drop k).all fairB) ∧ Ext w wr) (fun i _ => F.length - (intOf i).toNat)
  case atStart => exact ⟨0, by omega, rfl, Lib.hid rfl, Ext.refl _⟩
  case round =>
    obtain ⟨k, hk, rfl, HH, hw⟩ := hrel
    by_cases hlt : k < F.length
    · obtain ⟨rfl, hSb⟩ := hl3 (by omega)
      obtain ⟨A1, cap1, b1, off1, A2, cap2, b2, off2, c0, c1, c2, c3, c4, c5, c6, hr', q1, q2, q3, q4, q5, q6, q7, q8⟩ := Fn.at (hm.ext (fun _ => hSb) hw) hlt
      have hb := Ex.mk_rd q5 q6 q7 q8
      have H1 := Lib.hid hr'; have H2 := Lib.hid q3; have H3 := Lib.hid q4; have H4 := Lib.hid hb; have H5 := Lib.hid hSb; have H6 := Lib.hid hm
      have hd := Lib.hid (List.drop_eq_getElem_cons hlt)
      clear hr' q3 q4 q7 q8 hb hSb hr hm hl3
      by_cases h1 : light F[k].body 60 20 < 0
      · have hp := Lib.hid (show fairB F[k] = false by unfold fairB; rw [decide_eq_false (by omega)]; rfl)
        go_wp2_with fail
        refine (light_any F[k].body S _ 60 20 _ H4.out (by omega) (by omega) (by omega) (by omega)).mono ?_
        rintro r w1 ⟨rfl, he⟩
        go_wp2_with fail
        go_ret
        exact ⟨ret_bool (by unfold fair; rw [HH.out, hd.out, List.all_cons, hp.out]; rfl), hw.trans he⟩
      · by_cases h2 : 8 < F[k].params.length
        · have hp := Lib.hid (show fairB F[k] = false by unfold fairB; rw [decide_eq_false (p := (F[k].params.length : Int) ≤ 8) (by omega)]; simp)
          go_wp2_with fail
          refine (light_any F[k].body S _ 60 20 _ H4.out (by omega) (by omega) (by omega) (by omega)).mono ?_
          rintro r w1 ⟨rfl, he⟩
          have d1 := he.at c1
          go_wp2_with fail
          go_ret
          exact ⟨ret_bool (by unfold fair; rw [HH.out, hd.out, List.all_cons, hp.out]; rfl), hw.trans he⟩
        · have hp := Lib.hid (show fairB F[k] = true by unfold fairB; rw [decide_eq_true (by omega), decide_eq_true (by omega)]; rfl)
          go_wp2_with fail
          refine (light_any F[k].body S _ 60 20 _ H4.out (by omega) (by omega) (by omega) (by omega)).mono ?_
          rintro r w1 ⟨rfl, he⟩
          have d1 := he.at c1
          go_wp2_with fail
          go_roundw
          case rel => exact ⟨k + 1, by omega, by go_num, Lib.hid (by rw [HH.out, hd.out, List.all_cons, hp.out]; rfl), hw.trans he⟩
          case measure => simp [intOf]; omega
    · have hkl : k = F.length := by omega
      subst hkl
      go_wp2_with fail
      go_ret
      exact ⟨ret_bool (by unfold fair; rw [HH.out]; simp), hw⟩

theorem Try.info3 : (Try.prog.info? 3).map (fun i => (i.zero, i.size, i.bytes)) = some (some (.int .i64 0), 1, 8) := by kernel_rfl

set_option maxHeartbeats 400000 in
theorem kinds_any (R : List Val) (S : Nat → Prop) (v : Value) (w : World) (hr : Rd w S (.sl (R.map Val.d)) [v]) (hlen : R.length ≤ 1000000) :
    Calls Try.prog 12 #[v] w fun r w' => (∃ v', r = .returned v' ∧ w'.ownsRow w.heap.size 3 1 v' (R.map Val.k).length ((R.map Val.k).map (Value.int .i64))) ∧ Ext w w' := by
  obtain ⟨A, cap, b, off, rfl, hl1, hl2, hl3, hm⟩ := Rd.sl_open hr
  simp only [List.length_map] at *
  go_enter Try.func12, Try.ntmps12
  go_wp2_with fail
  go_loopw [3, 4] (fun x i wr => ∃ (k : Nat), k ≤ R.length ∧ i = .int .i64 k ∧ wr.ownsRow w.heap.size 3 1 x k (((R.map Val.k).take k).map (Value.int .i64)) ∧ Ext w wr) (fun _ i _ => R.length - (intOf i).toNat)
  case atStart => exact ⟨0, by omega, rfl, World.ownsRow_nil _ _ _ _, Ext.refl _⟩
  case round =>
    obtain ⟨k, hk, rfl, hown, hw⟩ := hrel
    by_cases hlt : k < R.length
    · obtain ⟨rfl, hSb⟩ := hl3 (by omega)
      obtain ⟨c0, c1, c2, hr'⟩ := Val.at (hm.ext (fun _ => hSb) hw) hlt
      have H5 := Lib.hid hSb; have H6 := Lib.hid hm
      have hd := Lib.hid (show (((R.map Val.k).take (k + 1)).map (Value.int .i64)) = (((R.map Val.k).take k).map (Value.int .i64)) ++ [Value.int .i64 R[k].k] by rw [List.take_succ_eq_append_getElem (by simpa using hlt)]; simp)
      clear hr' hSb hr hm hl3
      go_wp2_with (at_builtin; refine wp_append1 _ _ _ rfl _ _ _ rfl w.heap.size 3 1 8 _ Try.underlying31 Try.info3 rfl (by decide) (by decide) _ _ _ rfl hown rfl rfl (by intro u hu; simp at hu; subst hu; rfl) (by omega) hw.size ?_; intro v' w1 hown1 hg1 hn1)
      go_roundw
      case rel => exact ⟨k + 1, by omega, by go_num, by rw [hd.out]; exact hown1, hw.grown hown (Nat.le_refl _) hg1⟩
      case measure => simp [intOf]; omega
    · have hkl : k = R.length := by omega
      subst hkl
      go_wp2_with fail
      go_ret
      exact ⟨⟨_, rfl, by simpa [← List.map_take] using hown⟩, hw⟩
end Go.Proofs.Ytmhelkhmgbbfhaa

/- Slices of trees that the call itself makes: appending an element whose memory is new. -/
namespace Go.Proofs.Ytmhelkhmgbbfhaa
open Go.RowKit Go.Lib

theorem grown_cell {W w' : World} {own : Option Nat} (hg : W.grownBy w' own) {p : Addr} {v : Value} (hc : W.cell? p = some v) (hne : some p.block ≠ own) : w'.cell? p = some v :=
  (World.cell?_of_block (hg.block p.block (World.block_lt_of_cell? W p hc) hne)).trans hc
theorem grown_frozen {W w' : World} {own : Option Nat} (hg : W.grownBy w' own) {p : Addr} (hlt : p.block < W.heap.size) (hne : some p.block ≠ own) : w'.frozen? p = W.frozen? p :=
  World.frozen?_of_block (hg.block p.block hlt hne)
theorem own_ne {w : World} {B : Nat} {e : TypeId} {size n : Nat} {v : Value} {xs : List Value} (h : w.ownsRow B e size v n xs) : some w.heap.size ≠ v.ownBlock := fun e => by
  have := (h.lt _ e.symm).2; omega

/-- the slice is the call's own, and its elements lie in memory that is new since B -/
def OwnE (w : World) (B : Nat) (e : TypeId) (size : Nat) (v : Value) (ds : List D) : Prop :=
  ∃ xs, w.ownsRow B e size v ds.length xs ∧ RdS w (fun b => B ≤ b ∧ b < w.heap.size ∧ some b ≠ v.ownBlock) ds xs

theorem OwnE.nil (w : World) (B : Nat) (e : TypeId) (size : Nat) : OwnE w B e size (.slice none 0 0) [] := ⟨[], World.ownsRow_nil _ _ _ _, by rw [RdS]⟩
theorem OwnE.ext {w w' : World} {B : Nat} {e : TypeId} {size : Nat} {v : Value} {ds : List D} (h : OwnE w B e size v ds) (he : Ext w w') : OwnE w' B e size v ds := by
  obtain ⟨xs, h1, h2⟩ := h
  exact ⟨xs, own_ext h1 he, RdS.keep (fun b hb _ => he.block b hb.2.1) (fun b hb => ⟨hb.1, Nat.lt_of_lt_of_le hb.2.1 he.size, hb.2.2⟩) ds xs h2⟩
theorem OwnE.set {w : World} {B : Nat} {e : TypeId} {size : Nat} {v : Value} {ds : List D} (h : OwnE w B e size v ds) {p : Addr} (hp : p.block < B) (u : Value) : OwnE (w.setCell p u) B e size v ds := by
  obtain ⟨xs, h1, h2⟩ := h
  have hb : ∀ b, B ≤ b → (w.setCell p u).heap[b]? = w.heap[b]? := fun b hb => by
    exact Below.heap_setCell w p u b (by omega)
  have hs : (w.setCell p u).heap.size = w.heap.size := by simp
  refine ⟨xs, ⟨h1.1, ?_⟩, RdS.keep (fun b hx _ => hb b hx.1) (fun b hx => by rw [hs]; exact hx) ds xs h2⟩
  rcases h1.2 with h3 | ⟨g, cap, cur, hv, hg, hh, r⟩
  · exact Or.inl h3
  · exact Or.inr ⟨g, cap, cur, hv, hg, (hb g hg).trans hh, r⟩
theorem OwnE.rd {w : World} {B : Nat} {e : TypeId} {size : Nat} {v : Value} {ds : List D} (h : OwnE w B e size v ds) : Rd w (fun b => B ≤ b ∧ b < w.heap.size) (.sl ds) [v] := by
  obtain ⟨xs, h1, h2⟩ := h
  exact own_rd h1 h2 (fun b hb => ⟨hb.1, hb.2.1⟩) (fun b hb => by have := h1.lt b hb; exact this)
theorem OwnE.own {w : World} {B : Nat} {e : TypeId} {size : Nat} {v : Value} {ds : List D} (h : OwnE w B e size v ds) : ∀ b, v.ownBlock = some b → B ≤ b ∧ b < w.heap.size := by
  obtain ⟨xs, h1, h2⟩ := h
  exact fun b hb => h1.lt b hb
theorem OwnE.ne {w : World} {B : Nat} {e : TypeId} {size : Nat} {v : Value} {ds : List D} (h : OwnE w B e size v ds) {b : Nat} (hb : b < B) : some b ≠ v.ownBlock := fun hx => by
  have := h.own b hx.symm; omega

theorem OwnE.form {w : World} {B : Nat} {e : TypeId} {size : Nat} {v : Value} {ds : List D} (h : OwnE w B e size v ds) {n : Nat} (hn : ds.length = n) : ∃ A cap, v = .slice A n cap ∧ n ≤ cap ∧ cap ≤ 9223372036854775807 := by
  subst hn
  obtain ⟨A, cap, b, off, h1, h2, h3, -⟩ := Rd.sl_open h.rd
  exact ⟨A, cap, h1, h2, h3⟩

theorem RdS.snoc {w : World} {S : Nat → Prop} {d : D} {c2 : List Value} (hd : Rd w S d c2) : ∀ (l : List D) (c1 : List Value), RdS w S l c1 → RdS w S (l ++ [d]) (c1 ++ c2)
  | [], c1, h => by
    rw [RdS] at h; subst h
    rw [List.nil_append, List.nil_append, RdS]
    exact ⟨c2, [], by simp, hd, by rw [RdS]⟩
  | x :: l, c1, h => by
    rw [RdS] at h
    obtain ⟨a, b, rfl, h1, h2⟩ := h
    rw [List.cons_append, RdS]
    exact ⟨a, b ++ c2, by simp, h1, RdS.snoc hd l b h2⟩

theorem wp_append_e {P : Program} {ops : Array Oper} {rest : List Oper} {o : Oper} {a : Act} {Q : Exit → Act → World → Prop} (W : World) (cs : Array Value) (et : TypeId)
    (hgd : o.guard = none) (s x : Operand) (t : TypeId) (ho : o.op = .call { callee := .builtin .append, args := #[s, x], argTypes := #[t, t] })
    (B : Nat) (e : TypeId) (size bytes : Nat) (z : Value) (ht : P.underlying t = some (.slice e)) (hinfo : (P.info? e).map (fun i => (i.zero, i.size, i.bytes)) = some (some z, size, bytes))
    (hz : z.cells.size = size) (hsz : 0 < size) (hby : 0 < bytes)
    (v : Value) (ds : List D) (hs : a.eval s = v) (hown : OwnE W B e size v ds) (g : Nat) (hx : a.eval x = .slice (some ⟨g, 0, none⟩) 1 1) (hg : g = W.heap.size) (hcs : cs.size = size) (h1 : ∀ u ∈ cs.toList, u.oneCell' = true)
    (d : D) (hd : Rd W (fun b => B ≤ b ∧ b < W.heap.size ∧ some b ≠ v.ownBlock) d cs.toList)
    (hb : (ds.length + 1) * bytes ≤ 140737488355328) (hB : B ≤ W.heap.size)
    (h : ∀ v' w', OwnE w' B e size v' (ds ++ [d]) → W.grownBy w' v.ownBlock → v' ≠ .slice none 0 0 → wpList P ops Q rest (a.put o.dst v') w') : wpList P ops Q (o :: rest) a (W.alloc (.cells cs et)) := by
  subst hg
  obtain ⟨i, hi, hz0, hz1, hz2⟩ := info_parts hinfo
  obtain ⟨xs, hrow, hrd⟩ := hown
  have hbb : ds.length + 1 ≤ 140737488355328 := Nat.le_trans (Nat.le_mul_of_pos_right _ hby) hb
  refine wpList_append_own_at (w := W.alloc (.cells cs et)) hgd s x t ho B e i z size bytes ht hi hz0 hz1 hz2 hz hsz v ds.length xs hs (hrow.alloc _) ⟨W.heap.size, 0, none⟩ 1 1 cs.toList hx (by simpa using hcs) (cells_new W cs et) h1
    (by unfold maxLen; omega) hb (by simp; omega) ?_
  intro v' w' h2 h3 h4 h5
  have h6 := World.grownBy_alloc W (.cells cs et) v.ownBlock
  have hgr : W.grownBy w' v.ownBlock := ⟨h3.os.trans h6.os, h3.tape.trans h6.tape, h3.output.trans h6.output, Nat.le_trans h6.size h3.size, fun k hk hne => (h3.block k (Nat.lt_of_lt_of_le hk h6.size) hne).trans (h6.block k hk hne)⟩
  refine h v' w' ⟨xs ++ cs.toList, by simpa using h2, ?_⟩ hgr (fun e => by have := h4.1 e; omega)
  refine RdS.snoc ?_ ds xs ?_
  · refine Rd.keep (fun b hb hlt => hgr.block b hlt hb.2.2) (fun b hb => ⟨hb.1, Nat.lt_of_lt_of_le hb.2.1 hgr.size, fun hx => ?_⟩) d _ hd
    rcases h5 with h5 | h5
    · rw [h5] at hx; exact hb.2.2 hx
    · rw [h5] at hx
      have : b = (W.alloc (.cells cs et)).heap.size := by simpa using hx
      have hh : (W.alloc (.cells cs et)).heap.size = W.heap.size + 1 := by simp
      omega
  · refine RdS.keep (fun b hb hlt => hgr.block b hlt hb.2.2) (fun b hb => ⟨hb.1, Nat.lt_of_lt_of_le hb.2.1 hgr.size, fun hx => ?_⟩) ds _ hrd
    rcases h5 with h5 | h5
    · rw [h5] at hx; exact hb.2.2 hx
    · rw [h5] at hx
      have : b = (W.alloc (.cells cs et)).heap.size := by simpa using hx
      have hh : (W.alloc (.cells cs et)).heap.size = W.heap.size + 1 := by simp
      omega

/-- the steps of a mixed region -/
theorem wpReads_nil {P : Program} {ops : Array Oper} {C : World → Prop} {Q : Act → Prop} {a : Act} (h : Q a) : wpReads P ops C Q [] a := h
theorem wpReads_cons {P : Program} {ops : Array Oper} {C : World → Prop} {Q : Act → Prop} {a : Act} {o : Oper} {rest : List Oper} {v : Value} (hw : Region.wanted o (yielded ops a.tmps) = true)
    (hy : ∀ w, C w → (execOp a.eval o).run P w = .ok (.value v) w) (h : wpReads P ops C Q rest (a.put o.dst v)) : wpReads P ops C Q (o :: rest) a := ⟨v, .inl ⟨hw, hy⟩, h⟩
theorem wpSpec_nil {P : Program} {ops : Array Oper} {C : World → Prop} {Q : Exit → Act → World → Prop} {fin : Act → World → Prop} {a : Act} {w : World} (h : fin a w) : wpSpec P ops C Q fin [] a w := h
theorem wpSpec_cons {P : Program} {ops : Array Oper} {C : World → Prop} {Q : Exit → Act → World → Prop} {fin : Act → World → Prop} {a : Act} {w : World} {o : Oper} {rest : List Oper} (hw : Region.wanted o (yielded ops a.tmps) = true)
    (h : ∀ K' : Act → World → Prop, Shut (∀ a w, C w → wpSpec P ops C Q fin rest a w → K' a w) → Oper.wp P o a w K' Q) : wpSpec P ops C Q fin (o :: rest) a w := by
  rw [wpSpec, if_pos hw]
  exact h _ (fun a w h1 h2 => ⟨h1, h2⟩)
theorem wp_region_mixed_ext {P : Program} {id : Nat} {Q : Exit → Act → World → Prop} {a : Act} {w : World} {l : List Oper} (n m : Nat) (hnm : n ≤ m) (hf : P.follows .mixedOrders = true) (hB : Region.lexTailB .any l.toArray m = true)
    (hB2 : Region.lexHead .any l.toArray (l.length - n) n 0 (Array.replicate l.toArray.size false) = true)
    (h : wpReads P l.toArray (fun w' => ∃ x : ExtW w, w' = x.val) (fun a' => wpSpec P l.toArray (fun w' => ∃ x : ExtW w, w' = x.val) (NoPanic Q) (fun a'' w'' => wpList P l.toArray (NoPanic Q) (l.drop m) a'' w'') ((l.take m).drop n) a' w.drew) (l.take n) a) : (Code.region id l.toArray true).wp P Q a w :=
  wp_region_noPanic (wp_region_mixed n m hnm hf hB hB2 (fun _ _ _ _ _ h => h) ⟨⟨w.drew, (Ext.refl w).drew⟩, rfl⟩ h)
theorem ext_in {w w' : World} (h : Ext w w') : ∃ x : ExtW w, w' = x.val := ⟨⟨w', h⟩, rfl⟩
end Go.Proofs.Ytmhelkhmgbbfhaa

/- Regions that draw their order: reads (also late ones) and operations that stand alone, in any sequence; then a tail in one order. -/
namespace Go.Proofs.Ytmhelkhmgbbfhaa
open Go.RowKit Go.Lib

section
variable {P : Program} {ops : Array Oper} {md : Region.Mode} {C : World → Prop} {Q : Exit → Act → World → Prop}

/-- true: a read; false: an operation that stands alone -/
def wpMix (P : Program) (ops : Array Oper) (C : World → Prop) (Q : Exit → Act → World → Prop) (fin : Act → World → Prop) : List Bool → List Oper → Act → World → Prop
  | true :: fl, o :: rest, a, w => ∃ v, YieldsIf P ops C o v a ∧ wpMix P ops C Q fin fl rest (a.put o.dst v) w
  | false :: fl, o :: rest, a, w => if Region.wanted o (yielded ops a.tmps) = true then Oper.wp P o a w (fun a' w' => C w' ∧ wpMix P ops C Q fin fl rest a' w') Q else C w ∧ wpMix P ops C Q fin fl rest (a.put o.dst undef) w
  | _, [], a, w => fin a w
  | [], _ :: _, _, _ => False
def mixB (md : Region.Mode) (ops : Array Oper) (g m : Nat) : List Bool → Nat → Array Bool → Bool
  | [], k, listed => decide (k = m) && Region.seqB md ops g m listed
  | true :: fl, k, listed => (Region.ready md ops listed).contains k && Region.free md ops listed k && mixB md ops g m fl (k + 1) (listed.setIfInBounds k true)
  | false :: fl, k, listed => decide (Region.ready md ops listed = [k]) && mixB md ops g m fl (k + 1) (listed.setIfInBounds k true)

theorem wpHeadW_mix {m g : Nat} {fin : Act → World → Prop} (hsel : Region.noSelect ops = true) (hs : Region.sinkB md ops m = true) (hc : Region.chainB md ops m = true) (hm : m < ops.size)
    (hQ : ∀ c a d u w, Q (.panic c) (Act.put a d u) w → Q (.panic c) a w) :
    ∀ (fl : List Bool) (l : List Oper) (k : Nat) (listed : Array Bool) (a : Act) (w : World), fl.length = l.length → (∀ j, j < l.length → l[j]? = ops[k + j]?) → k + l.length = m → HeadInv md ops m listed → C w →
    mixB md ops g m fl k listed = true → wpMix P ops C Q fin fl l a w →
    wpHeadW P md ops C Q m (fun listed' a' w' => Region.seqB md ops g m listed' = true ∧ fin a' w') l.length listed a w
  | [], [], k, listed, a, w, _, _, hk, _, _, hB, h => by
    simp only [mixB, Bool.and_eq_true, decide_eq_true_eq] at hB
    exact ⟨hB.2, by simpa [wpMix] using h⟩
  | [], _ :: _, _, _, _, _, hl, _, _, _, _, _, _ => by simp at hl
  | _ :: _, [], _, _, _, _, hl, _, _, _, _, _, _ => by simp at hl
  | true :: fl, o :: l, k, listed, a, w, hlen, hl, hk, inv, hC, hB, h => by
    have h0 : ops[k]? = some o := by simpa using (hl 0 (by simp)).symm
    simp only [mixB, Bool.and_eq_true] at hB
    obtain ⟨⟨hr, hf⟩, hB'⟩ := hB
    have hkm : k < m := by simp only [List.length_cons] at hk; omega
    have hr' : k ∈ Region.ready md ops listed := by simpa using hr
    rw [wpMix] at h
    obtain ⟨v, hy, hK⟩ := h
    exact wpHeadW_first h0 (Region.noSelect_spec hsel) hs hc hm hkm hQ (fun listed' a' w' hL => seqB_ready hL.1) l.length listed a w inv (Region.free_spec h0 hf) hr' hy hC
      (wpHeadW_mix hsel hs hc hm hQ fl l (k + 1) _ _ w (by simpa using hlen) (fun j hj => by have := hl (j + 1) (by simp; omega); simpa [Nat.add_assoc, Nat.add_comm 1 j] using this) (by simp only [List.length_cons] at hk; omega) (inv.set hr' hkm) hC hB' hK)
  | false :: fl, o :: l, k, listed, a, w, hlen, hl, hk, inv, hC, hB, h => by
    have h0 : ops[k]? = some o := by simpa using (hl 0 (by simp)).symm
    simp only [mixB, Bool.and_eq_true, decide_eq_true_eq] at hB
    have hkm : k < m := by simp only [List.length_cons] at hk; omega
    have hr' : k ∈ Region.ready md ops listed := by rw [hB.1]; simp
    have hnext := fun a' w' (hC' : C w') h4 => wpHeadW_mix (g := g) (fin := fin) hsel hs hc hm hQ fl l (k + 1) (listed.setIfInBounds k true) a' w' (by simpa using hlen) (fun j hj => by have := hl (j + 1) (by simp; omega); simpa [Nat.add_assoc, Nat.add_comm 1 j] using this) (by simp only [List.length_cons] at hk; omega) (inv.set hr' hkm) hC' hB.2 h4
    refine ⟨fun h1 => (by rw [hB.1] at h1; cases h1), fun i hi => ?_⟩
    rw [hB.1] at hi
    obtain rfl : i = k := by simpa using hi
    refine ⟨hkm, wpOp_step h0 fun K' hK => ?_⟩
    rw [wpMix] at h
    by_cases hw : Region.wanted o (yielded ops a.tmps) = true
    · rw [if_pos hw] at h ⊢
      refine Oper.wp_mono (fun a1 w1 h1 => hK a1 w1 ⟨h1.1, hnext a1 w1 h1.1 h1.2⟩) h
    · rw [if_neg hw] at h ⊢
      exact hK _ _ ⟨h.1, hnext _ _ h.1 h.2⟩

theorem wp_region_mix {id : Nat} {a : Act} {w : World} {l : List Oper} (fl : List Bool) (hfl : fl.length ≤ l.length) (hf : P.follows .mixedOrders = true) (hB : Region.lexTailB .any l.toArray fl.length = true)
    (hB2 : mixB .any l.toArray (l.length - fl.length) fl.length fl 0 (Array.replicate l.toArray.size false) = true)
    (h : wpMix P l.toArray (fun w' => ∃ x : ExtW w, w' = x.val) (NoPanic Q) (fun a'' w'' => wpList P l.toArray (NoPanic Q) (l.drop fl.length) a'' w'') fl (l.take fl.length) a w.drew) : (Code.region id l.toArray true).wp P Q a w := by
  refine wp_region_noPanic ?_
  simp only [Region.lexTailB, Bool.and_eq_true, decide_eq_true_eq] at hB
  obtain ⟨⟨⟨⟨hsel, hm⟩, hs⟩, hc⟩, -⟩ := hB
  have htl : (l.take fl.length).length = fl.length := by simp; omega
  have inv0 : HeadInv .any l.toArray fl.length (Array.replicate l.toArray.size false) :=
    ⟨by simp, fun j oj _ hl => (by rw [getD_replicate_false] at hl; cases hl), fun t _ ht => getD_in (by simpa using ht) (getD_replicate_false _ _)⟩
  have H := wpHeadW_mix (P := P) (Q := NoPanic Q) (C := fun w' => ∃ x : ExtW w, w' = x.val) (md := .any) (m := fl.length) (g := l.length - fl.length) (fin := fun a'' w'' => wpList P l.toArray (NoPanic Q) (l.drop fl.length) a'' w'') hsel hs hc hm (fun _ _ _ _ _ h => h)
    fl (l.take fl.length) 0 _ a w.drew htl.symm (fun j hj => by rw [htl] at hj; simp [hj]) (by simpa using htl) inv0 ⟨⟨w.drew, (Ext.refl w).drew⟩, rfl⟩ hB2 h
  refine wp_region_any hf ?_
  have := wpAny_of_headW (Q := NoPanic Q) (g := l.length - fl.length) (fun listed a' w' hL => by
    have := wpAny_of_seq (md := .any) (Q' := NoPanic Q) (l.drop fl.length) fl.length listed a' w' (fun j => by simp [List.getElem?_drop]) (by simpa using hL.1) hL.2
    simpa using this) _ _ _ _ H
  rw [htl, show fl.length + (l.length - fl.length) = l.toArray.size by simp; omega] at this
  exact this
theorem wpMix_read {fin : Act → World → Prop} {fl : List Bool} {a : Act} {w : World} {o : Oper} {rest : List Oper} {v : Value} (hw : Region.wanted o (yielded ops a.tmps) = true)
    (hy : ∀ w, C w → (execOp a.eval o).run P w = .ok (.value v) w) (h : wpMix P ops C Q fin fl rest (a.put o.dst v) w) : wpMix P ops C Q fin (true :: fl) (o :: rest) a w := by
  rw [wpMix]; exact ⟨v, .inl ⟨hw, hy⟩, h⟩
theorem wpMix_do {fin : Act → World → Prop} {fl : List Bool} {a : Act} {w : World} {o : Oper} {rest : List Oper} (hw : Region.wanted o (yielded ops a.tmps) = true)
    (h : ∀ K' : Act → World → Prop, Shut (∀ a w, C w → wpMix P ops C Q fin fl rest a w → K' a w) → Oper.wp P o a w K' Q) : wpMix P ops C Q fin (false :: fl) (o :: rest) a w := by
  rw [wpMix, if_pos hw]
  exact h _ (fun a w h1 h2 => ⟨h1, h2⟩)
theorem wpMix_end {fin : Act → World → Prop} {a : Act} {w : World} (h : fin a w) : wpMix P ops C Q fin [] [] a w := by rw [wpMix]; exact h
end
end Go.Proofs.Ytmhelkhmgbbfhaa

/- Walks: the number of parts, of the reference. -/
namespace Go.Proofs.Ytmhelkhmgbbfhaa
open Go.RowKit Go.Lib

set_option maxRecDepth 10000 in
set_option maxHeartbeats 2000000 in
theorem rparts_any (e : Ex) : ∀ (S : Nat → Prop) (cs : List Value) (w : World), Rd w S e.d cs → parts e ≤ 1000000 →
    Calls Try.prog 86 #[.agg cs.toArray] w fun r w' => r = .returned (.int .i64 (parts e)) ∧ Ext w w' := by
  induction e using Ex.ind with | h o n s l ih => ?_
  intro S cs w hr hpb
  obtain ⟨A, cap, b, off, rfl, hl1, hl2, hl3, hm⟩ := Ex.open hr
  have ih' := Lib.hid ih
  clear ih
  simp only [Ex.args, Ex.op, Ex.n, Ex.s] at hl1 hl2 hl3 hm ⊢
  rw [parts] at hpb
  have hll : l.length ≤ 1000000 := by have := partsL_len l; omega
  have hl3' := Lib.hid hl3; have hm' := Lib.hid hm
  have H := Lib.hid (show parts (.mk o n s l) = partsL l + 1 by rw [parts])
  clear hr hl3 hm
  go_enter Try.func86, Try.ntmps86
  go_wp2_with fail
  go_loopw [3, 4] (fun x i wr => ∃ (k q : Nat), k ≤ l.length ∧ i = .int .i64 k ∧ x = .int .i64 q ∧ q ≤ 1000000 ∧ Hid (q = partsL (l.take k) + 1) ∧ Ext (w.alloc (.cells #[.int .i64 o, .int .i64 n, .string s, .slice A l.length cap] 25)) wr) (fun _ i _ => l.length - (intOf i).toNat)
  case atStart => exact ⟨0, 1, by omega, rfl, rfl, by omega, Lib.hid (by simp [partsL]), Ext.refl _⟩
  case round =>
    obtain ⟨k, q, hk, rfl, rfl, hq, HH, hb⟩ := hrel
    have e3 : wr.cell? ⟨w.heap.size, 3, none⟩ = some (.slice A l.length cap) := hb.at (by go_simp)
    have hw : Ext w wr := ((Ext.refl _).alloc _).trans hb
    by_cases hlt : k < l.length
    · obtain ⟨rfl, hSb⟩ := hl3'.out (by omega)
      obtain ⟨A1, cap1, b1, off1, c0, c1, c2, c3, hr', -⟩ := Ex.at (hm'.out.ext (fun _ => hSb) hw) hlt
      have hr2 := Lib.hid hr'
      have hSb' := Lib.hid hSb
      have hpk : parts l[k] ≤ 1000000 := by have := partsL_mem l l[k] (List.getElem_mem hlt); omega
      have hqn : q + parts l[k] ≤ 1000000 := by
        have h1 := partsL_take l k hlt; have h2 := partsL_take_le l (k + 1); have h3 := HH.out; omega
      have HH2 := Lib.hid (show q + parts l[k] = partsL (l.take (k + 1)) + 1 by have h1 := partsL_take l k hlt; have h3 := HH.out; omega)
      have hcall := Lib.hid (ih'.out l[k] (List.getElem_mem hlt) S _ wr hr' hpk)
      clear hr' hSb HH
      generalize parts l[k] = NP at *
      go_wp2_with fail
      refine (hcall.out).mono ?_
      rintro r w1 ⟨rfl, he⟩
      go_wp2_with fail
      go_roundw
      case rel => exact ⟨k + 1, q + NP, by omega, by go_num, by go_num, hqn, HH2, hb.trans he⟩
      case measure => simp [intOf]; omega
    · have hkl : k = l.length := by omega
      subst hkl
      go_wp2_with fail
      go_ret
      exact ⟨ret_int (by rw [H.out]; have := HH.out; rw [List.take_length] at this; omega), hw⟩

end Go.Proofs.Ytmhelkhmgbbfhaa
