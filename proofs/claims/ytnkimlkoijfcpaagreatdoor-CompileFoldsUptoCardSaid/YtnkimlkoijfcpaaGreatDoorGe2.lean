/- More on readings: a slice's beginning, the empty slice, all of a list. -/
import Derived.Test.YtnkimlkoijfcpaaGreatDoorRows
import Derived.Maps.AppendAt
import Derived.ChangeArms
import Derived.Lib.LaidU8
import Derived.Test.YtnkimlkoijfcpaaGreatDoorShelf
import Derived.Deep.RegionHeld3
import Derived.Test.YtnkimlkoijfcpaaGreatDoorGe1
set_option linter.unusedSimpArgs false
set_option linter.unusedVariables false
namespace Go.Proofs.YtnkimlkoijfcpaaGreatDoor
open Go.RowKit Go.Lib
theorem RdM.take {w : World} {S : Nat → Prop} : ∀ (l : List D) (b off k : Nat), RdM w S l b off → RdM w S (l.take k) b off
  | [], _, _, _, _ => by rw [List.take_nil, RdM]; trivial
  | d :: l, b, off, 0, _ => by rw [List.take_zero, RdM]; trivial
  | d :: l, b, off, k + 1, h => by
    rw [RdM] at h
    rw [List.take_succ_cons, RdM]
    exact ⟨h.1, RdM.take l b _ k h.2⟩
theorem RdM.drop {w : World} {S : Nat → Prop} {sz : Nat} : ∀ (l : List D) (b off k : Nat), RdM w S l b off → (∀ d ∈ l, d.width = sz) → RdM w S (l.drop k) b (off + k * sz)
  | [], _, _, _, _, _ => by rw [List.drop_nil, RdM]; trivial
  | d :: l, b, off, 0, h, _ => by simpa using h
  | d :: l, b, off, k + 1, h, hw => by
    rw [RdM] at h
    rw [List.drop_succ_cons]
    have hd : d.width = sz := hw d (by simp)
    have := RdM.drop l b (off + d.width) k h.2 (fun x hx => hw x (by simp [hx]))
    rw [hd] at this
    rwa [show off + (k + 1) * sz = off + sz + k * sz by rw [Nat.succ_mul]; omega]
theorem Rd.cut {w : World} {S : Nat → Prop} {l : List D} {b off cap k : Nat} (hk : k ≤ l.length) (h1 : l.length ≤ cap) (h2 : cap ≤ 9223372036854775807) (hS : S b) (h : RdM w S l b off) : Rd w S (.sl (l.take k)) [.slice (some ⟨b, off, none⟩) k cap] :=
  Rd.sl_mk (by rw [List.length_take]; omega) (by rw [List.length_take]; omega) h2 (fun _ => ⟨rfl, hS⟩) (RdM.take l b off k h)
theorem Rd.nil {w : World} {S : Nat → Prop} {cap : Nat} (A : Option Addr) (h : cap ≤ 9223372036854775807) : Rd w S (.sl []) [.slice A 0 cap] :=
  Rd.sl_mk (b := 0) (off := 0) rfl (by simp) h (by simp) (by rw [RdM]; trivial)
theorem all_range_false {n k : Nat} {p : Nat → Bool} (h : k < n) (hp : p k = false) : (List.range n).all p = false := by
  rw [List.all_eq_false]; exact ⟨k, List.mem_range.2 h, by rw [hp]; simp⟩
theorem all_range_true {n : Nat} {p : Nat → Bool} (h : ∀ i, i < n → p i = true) : (List.range n).all p = true := by
  rw [List.all_eq_true]; exact fun i hi => h i (List.mem_range.1 hi)
end Go.Proofs.YtnkimlkoijfcpaaGreatDoor

/- Types and rightness on plain data: what the walks need. -/
namespace Go.Proofs.YtnkimlkoijfcpaaGreatDoor
open Go.RowKit Go.Lib
theorem qbf {x : Int} : qci none (.returned (.tuple #[.int .i64 x, .bool false])) := ⟨x, false, rfl, rfl⟩
theorem answer_some {x : Int} : qci (some x) (.returned (.tuple #[.int .i64 x, .bool true])) := ⟨x, true, rfl, rfl⟩
theorem qbl {x : Int} {b : Bool} {t : Option Int} (h : (if b then some x else none) = t) : qci t (.returned (.tuple #[.int .i64 x, .bool b])) := ⟨x, b, rfl, h⟩
theorem qdk : ∀ (l : List Ex) (n : Int) (e : Ex), e ∈ l → levels e ≤ qw l n
  | [], _, _, h => by simp at h
  | x :: l, n, e, h => by
    rw [qw]
    rcases List.mem_cons.1 h with rfl | h
    · have : ∀ (l : List Ex) (n : Int), n ≤ qw l n := fun l => by
        induction l with
        | nil => intro n; rw [qw]; omega
        | cons a l ih => intro n; rw [qw]; have := ih (max n (levels a)); omega
      have := this l (max n (levels e)); omega
    · exact qdk l _ e h
theorem levelsL_snoc : ∀ (l : List Ex) (e : Ex) (n : Int), qw (l ++ [e]) n = max (qw l n) (levels e)
  | [], e, n => by simp only [List.nil_append, qw]
  | x :: l, e, n => by rw [List.cons_append, qw, qw, levelsL_snoc l e]
set_option maxHeartbeats 400000 in
theorem tys_cons (F : List Fn) (c p : List Int) (e : Ex) (l : List Ex) : tys F c p (e :: l) = (match ty F c p e with | some t => (tys F c p l).map (t :: ·) | none => none) := by
  rw [tys]; cases ty F c p e <;> simp
  cases tys F c p l <;> rfl
def TysAt (F : List Fn) (c p : List Int) (l : List Ex) (ts : List Int) (k : Nat) : Prop := tys F c p l = (tys F c p (l.drop k)).map (ts ++ ·)
theorem TysAt.start (F : List Fn) (c p : List Int) (l : List Ex) : TysAt F c p l [] 0 := by simp [TysAt]
theorem TysAt.next {F : List Fn} {c p : List Int} {l : List Ex} {ts : List Int} {k : Nat} (h : TysAt F c p l ts k) (hk : k < l.length) {t : Int} (ht : ty F c p l[k] = some t) : TysAt F c p l (ts ++ [t]) (k + 1) := by
  unfold TysAt at *
  rw [h, List.drop_eq_getElem_cons hk, tys_cons, ht]
  cases tys F c p (l.drop (k + 1)) <;> simp
theorem TysAt.none {F : List Fn} {c p : List Int} {l : List Ex} {ts : List Int} {k : Nat} (h : TysAt F c p l ts k) (hk : k < l.length) (ht : ty F c p l[k] = .none) : tys F c p l = .none := by
  unfold TysAt at h
  rw [h, List.drop_eq_getElem_cons hk, tys_cons, ht]; rfl
theorem TysAt.done {F : List Fn} {c p : List Int} {l : List Ex} {ts : List Int} (h : TysAt F c p l ts l.length) : tys F c p l = some ts := by
  unfold TysAt at h
  rw [h]; simp [tys]
theorem levels_bd {e : Ex} (h : parts e ≤ 1000000) : levels e ≤ 1000000 := by have := qdl e; omega
theorem okF_at {F : List Fn} {k : Nat} (h : k < F.length) : okF F k = (F[k].params.all kindB && decide (tyD (F.take k) [] F[k].params F[k].body = some F[k].res) && decide ((F[k].params.length : Int) ≤ 6)) := by
  unfold okF; rw [List.getElem?_eq_getElem h]
theorem qdt {F : List Fn} {k : Nat} (h : k < F.length) (hk : okF F k = false) : qei F = false := by
  unfold qei
  rw [all_range_false h hk]; simp
theorem rightF_end {F : List Fn} (h : ∀ i, i < F.length → okF F i = true) : qei F = decide ((F.length : Int) ≤ 20) := by
  unfold qei
  rw [all_range_true h]; simp
end Go.Proofs.YtnkimlkoijfcpaaGreatDoor

/- Walks: slices.IndexFunc and ContainsFunc at ints, over any function that answers by a predicate. -/
namespace Go.Proofs.YtnkimlkoijfcpaaGreatDoor
open Go.RowKit Go.Lib
def idxOf (p : Int → Bool) : List Int → Int
  | [] => -1
  | x :: l => if p x then 0 else (if idxOf p l < 0 then -1 else idxOf p l + 1)
theorem idxOf_bd (p : Int → Bool) : ∀ l, -1 ≤ idxOf p l ∧ (0 ≤ idxOf p l ↔ l.any p = true)
  | [] => by simp [idxOf]
  | x :: l => by
    have := idxOf_bd p l
    rw [idxOf, List.any_cons]
    by_cases h : p x = true
    · simp [h]
    · rw [if_neg h]
      have h2 : p x = false := by simpa using h
      rw [h2, Bool.false_or]
      by_cases h0 : 0 ≤ idxOf p l
      · rw [if_neg (by omega)]; exact ⟨by omega, ⟨fun _ => this.2.1 h0, fun _ => by omega⟩⟩
      · rw [if_pos (by omega)]; exact ⟨by omega, ⟨fun h => absurd h (by omega), fun h => absurd (this.2.2 h) h0⟩⟩
theorem idxOf_none {p : Int → Bool} {l : List Int} (h : ∀ i (hi : i < l.length), p l[i] = false) : idxOf p l = -1 := by
  have h1 := idxOf_bd p l
  have h2 : l.any p = false := by
    rw [List.any_eq_false]; intro x hx; obtain ⟨i, hi, rfl⟩ := List.getElem_of_mem hx; rw [h i hi]; simp
  have h3 : ¬ 0 ≤ idxOf p l := fun h => by rw [h1.2.1 h] at h2; cases h2
  omega
theorem idxOf_at {p : Int → Bool} : ∀ {l : List Int} {k : Nat} (hk : k < l.length), p l[k] = true → (∀ i (hi : i < l.length), i < k → p l[i] = false) → idxOf p l = k
  | x :: l, 0, _, h, _ => by simp only [List.getElem_cons_zero] at h; rw [idxOf, if_pos h]; rfl
  | x :: l, k + 1, hk, h, hb => by
    have h0 : p x = false := by have := hb 0 (by simp) (by omega); simp only [List.getElem_cons_zero] at this; exact this
    have h1 := idxOf_at (l := l) (k := k) (by simpa using hk) (by simpa using h) (fun i hi hik => by have := hb (i + 1) (by simpa using hi) (by omega); simp only [List.getElem_cons_succ] at this; exact this)
    rw [idxOf, h0, h1]
    simp only [Bool.false_eq_true, if_false]
    rw [if_neg (by omega)]; omega
set_option maxRecDepth 10000 in
set_option maxHeartbeats 1000000 in
theorem indexFunc_any (l : List Int) (p : Int → Bool) (q : Nat) (hq : ∀ (a : Array Value) (w : World), (callFunc q a).run Tryz.prog w = .ok (.enter q a) w) (caps : Array Value) (S : Nat → Prop) (v : Value) (w : World) (hr : Rd w S (.sl (l.map D.int)) [v])
    (hf : ∀ (x : Int) (w' : World), Ext w w' → Calls Tryz.prog q (#[.int .i64 x] ++ caps) w' fun r w'' => r = .returned (.bool (p x)) ∧ Ext w' w'') :
    Calls Tryz.prog 137 #[v, .func (.func q) #[] caps] w fun r w' => r = .returned (.int .i64 (idxOf p l)) ∧ Ext w w' := by
  obtain ⟨A, cap, b, off, rfl, hl1, hl2, hl3, hm⟩ := Rd.sl_open hr
  simp only [List.length_map] at *
  have hl3' := Lib.hid hl3; have hm' := Lib.hid hm; have hf' := Lib.hid hf
  clear hr hl3 hm hf
  go_enter Tryz.func137, Tryz.ntmps137
  go_wp2_with fail
  go_loopw [8] (fun i wr => ∃ (k : Nat), k ≤ l.length ∧ i = .int .i64 k ∧ Hid (∀ i (hi : i < l.length), i < k → p l[i] = false) ∧ Ext w wr) (fun i _ => l.length - (RowKit.intOf i).toNat)
  case atStart => exact ⟨0, by omega, rfl, Lib.hid (fun j _ h => absurd h (by omega)), Ext.refl _⟩
  case round =>
    obtain ⟨k, hk, rfl, HH, hw⟩ := hrel
    by_cases hlt : k < l.length
    · obtain ⟨rfl, hSb⟩ := hl3'.out (by omega)
      have d0 := ints_at (hm'.out.ext (fun _ => hSb) hw) hlt
      have hSb' := Lib.hid hSb; clear hSb
      have hc := hf'.out l[k] wr hw
      cases hp : p l[k] with
      | true =>
        rw [hp] at hc
        have hc' := Lib.hid hc
        have hp' := Lib.hid hp
        have H := Lib.hid (idxOf_at hlt hp HH.out)
        clear hc hp
        go_wp2_with fail
        refine (hc'.out).mono ?_
        rintro r w1 ⟨rfl, he⟩
        go_wp2_with fail
        go_ret
        exact ⟨ret_int (by rw [H.out]), hw.trans he⟩
      | false =>
        rw [hp] at hc
        have hc' := Lib.hid hc
        have hp' := Lib.hid hp
        clear hc hp
        go_wp2_with fail
        refine (hc'.out).mono ?_
        rintro r w1 ⟨rfl, he⟩
        go_wp2_with fail
        go_roundw
        case rel => exact ⟨k + 1, by omega, by go_num, Lib.hid (fun i hi h => by rcases Nat.lt_succ_iff_lt_or_eq.1 h with h | rfl; exact HH.out i hi h; exact hp'.out), hw.trans he⟩
        case measure => simp [RowKit.intOf]; omega
    · have hkl : k = l.length := by omega
      subst hkl
      have H := Lib.hid (idxOf_none (fun i hi => HH.out i hi hi))
      go_wp2_with fail
      go_ret
      exact ⟨ret_int (by rw [H.out]), hw⟩
set_option maxRecDepth 10000 in
set_option maxHeartbeats 1000000 in
theorem containsFunc_any (l : List Int) (p : Int → Bool) (q : Nat) (hq : ∀ (a : Array Value) (w : World), (callFunc q a).run Tryz.prog w = .ok (.enter q a) w) (caps : Array Value) (S : Nat → Prop) (v : Value) (w : World) (hr : Rd w S (.sl (l.map D.int)) [v])
    (hf : ∀ (x : Int) (w' : World), Ext w w' → Calls Tryz.prog q (#[.int .i64 x] ++ caps) w' fun r w'' => r = .returned (.bool (p x)) ∧ Ext w' w'') :
    Calls Tryz.prog 88 #[v, .func (.func q) #[] caps] w fun r w' => r = .returned (.bool (l.any p)) ∧ Ext w w' := by
  have hr' := Lib.hid hr; have hf' := Lib.hid hf
  have H := Lib.hid (show decide (0 ≤ idxOf p l) = l.any p by
    have := idxOf_bd p l
    by_cases h : 0 ≤ idxOf p l
    · rw [decide_eq_true h, this.2.1 h]
    · rw [decide_eq_false h]; cases hx : l.any p with | false => rfl | true => exact absurd (this.2.2 hx) h)
  clear hr hf
  go_enter Tryz.func88, Tryz.ntmps88
  go_wp2_with fail
  refine (indexFunc_any l p q hq caps S v w hr'.out hf'.out).mono ?_
  rintro r w1 ⟨rfl, he⟩
  go_wp2_with fail
  go_ret
  exact ⟨qbk (by rw [← H.out]), he⟩
end Go.Proofs.YtnkimlkoijfcpaaGreatDoor

/- Walks: types of expressions, as the program finds them: the small functions. -/
namespace Go.Proofs.YtnkimlkoijfcpaaGreatDoor
open Go.RowKit Go.Lib
set_option maxHeartbeats 400000 in
theorem kind_any (n : Int) (w : World) : Calls Tryz.prog 87 #[.int .i64 n] w fun r w' => r = .returned (.bool (kindB n)) ∧ Ext w w' := by
  go_enter Tryz.func87, Tryz.ntmps87
  go_wp2_with fail
  all_goals
    go_ret
    exact ⟨qbk (by first | rfl | (unfold kindB; simp; omega)), Ext.refl _⟩
set_option maxHeartbeats 400000 in
theorem wrongKind_any (n : Int) (w : World) : Calls Tryz.prog 86 #[.int .i64 n] w fun r w' => r = .returned (.bool (!kindB n)) ∧ Ext w w' := by
  go_enter Tryz.func86, Tryz.ntmps86
  go_wp2_with fail
  refine (kind_any _ _).mono ?_
  rintro r w1 ⟨rfl, he⟩
  go_wp2_with fail
  go_ret
  exact ⟨rfl, he⟩
set_option maxHeartbeats 400000 in
theorem levels_any (e : Ex) : ∀ (S : Nat → Prop) (cs : List Value) (w : World), Rd w S e.d cs → levels e ≤ 1000000 →
    Calls Tryz.prog 55 #[.agg cs.toArray] w fun r w' => r = .returned (.int .i64 (levels e)) ∧ Ext w w' := by
  induction e using Ex.ind with | h o m s l ih => ?_
  intro S cs w hr hbd
  obtain ⟨A, cap, b, off, rfl, hl1, hl2, hl3, hm⟩ := Ex.open hr
  simp only [Ex.args, Ex.op, Ex.n, Ex.s] at *
  rw [levels] at hbd
  have H := Lib.hid (show levels (.mk o m s l) = qw l 0 + 1 by rw [levels])
  have hl3' := Lib.hid hl3; have hm' := Lib.hid hm
  clear hr hl3 hm
  go_enter Tryz.func55, Tryz.ntmps55
  go_wp2_with fail
  go_loopw [3, 9] (fun x i wr => ∃ (k : Nat) (q : Int), k ≤ l.length ∧ i = .int .i64 k ∧ x = .int .i64 q ∧ 0 ≤ q ∧ q ≤ 1000000 ∧ Hid (qw l 0 = qw (l.drop k) q) ∧ Ext (w.alloc (.cells #[.int .i64 o, .int .i64 m, .string s, .slice A l.length cap] 25)) wr) (fun _ i _ => l.length - (RowKit.intOf i).toNat)
  case atStart => exact ⟨0, _, by omega, rfl, rfl, by omega, by omega, Lib.hid rfl, Ext.refl _⟩
  case round =>
    obtain ⟨k, q, hk, rfl, rfl, hq1, hq2, HH, hb⟩ := hrel
    have hw : Ext w wr := ((Ext.refl _).alloc _).trans hb
    by_cases hlt : k < l.length
    · obtain ⟨rfl, hSb⟩ := hl3'.out (by omega)
      obtain ⟨A1, cap1, b1, off1, c0, c1, c2, c3, hr', -⟩ := Ex.at (hm'.out.ext (fun _ => hSb) hw) hlt
      have hr2 := Lib.hid hr'
      have hSb' := Lib.hid hSb
      clear hr' hSb
      have hle := qdk l 0 l[k] (List.getElem_mem hlt)
      have hll := qdl l[k]
      go_wp2_with fail
      refine (ih l[k] (List.getElem_mem hlt) S _ _ (hr2.out.ext (by repeat' first | exact Ext.refl _ | assumption | apply Ext.alloc | apply Ext.drew | apply Ext.drewN | (refine Ext.trans ?_ (by assumption)))) (by omega)).mono ?_
      rintro r w1 ⟨rfl, he⟩
      have HH2 := Lib.hid (HH.out.trans (by rw [List.drop_eq_getElem_cons hlt, qw]))
      clear HH
      go_wp2_with fail
      go_roundw
      case rel => exact ⟨k + 1, max q (levels l[k]), by omega, by go_num, by first | rfl | go_num | (simp [Int.max_def]), by omega, by omega, HH2, (by repeat' first | exact Ext.refl _ | assumption | apply Ext.alloc | apply Ext.drew | apply Ext.drewN | (refine Ext.trans ?_ (by assumption)))⟩
      case measure => simp [RowKit.intOf]; omega
    · have hkl : k = l.length := by omega
      subst hkl
      have hq3 : qw l 0 = q := by rw [HH.out]; simp [qw]
      have hq4 := Lib.hid hq3
      have hq5 : q ≤ 999999 := by omega
      clear hq3
      go_wp2_with fail
      go_ret
      exact ⟨ret_int (by rw [H.out, hq4.out]), hw⟩
set_option maxHeartbeats 400000 in
theorem pick_any (l : List Int) (n : Int) (S : Nat → Prop) (v : Value) (w : World) (hr : Rd w S (.sl (l.map D.int)) [v]) :
    Calls Tryz.prog 175 #[v, .int .i64 n] w fun r w' => qci (pickT l n) r ∧ Ext w w' := by
  obtain ⟨A, cap, b, off, rfl, hl1, hl2, hl3, hm⟩ := Rd.sl_open hr
  simp only [List.length_map] at *
  by_cases hn : n < 0 ∨ (l.length : Int) ≤ n
  · have H := Lib.hid (show pickT l n = none by
      unfold pickT; split
      · rfl
      · rw [List.getElem?_eq_none (by omega)])
    clear hr hm hl3
    rcases hn with hn | hn
    · go_enter Tryz.func175, Tryz.ntmps175
      go_wp2_with fail
      go_ret2
      exact ⟨by rw [H.out]; exact qbf, Ext.refl _⟩
    · by_cases h0 : n < 0
      all_goals
        go_enter Tryz.func175, Tryz.ntmps175
        go_wp2_with fail
        go_ret2
        exact ⟨by rw [H.out]; exact qbf, Ext.refl _⟩
  · obtain ⟨k, rfl⟩ := Int.eq_ofNat_of_zero_le (show 0 ≤ n by omega)
    have hlt : k < l.length := by omega
    obtain ⟨rfl, hSb⟩ := hl3 (by omega)
    have c0 := ints_at hm hlt
    have hn1 : ¬ l.length ≤ k := by omega
    have hn2 : ¬ (k : Int) < 0 := by omega
    have H := Lib.hid (show (if kindB l[k] then some l[k] else none) = pickT l (k : Int) by
      simp [pickT, List.getElem?_eq_getElem hlt, show ¬ ((k : Int) < 0) by omega])
    clear hm hSb hr hl3 hn
    have hc := kind_any l[k]
    cases hp : kindB l[k] with
    | true =>
      rw [hp] at hc H
      have hc' := Lib.hid hc; clear hc hp
      go_enter Tryz.func175, Tryz.ntmps175
      go_wp2_with fail
      refine (hc'.out _).mono ?_
      rintro r w1 ⟨rfl, he⟩
      have c0 := he.at c0
      go_wp2_with fail
      go_ret2
      exact ⟨qbl H.out, he⟩
    | false =>
      rw [hp] at hc H
      have hc' := Lib.hid hc; clear hc hp
      go_enter Tryz.func175, Tryz.ntmps175
      go_wp2_with fail
      refine (hc'.out _).mono ?_
      rintro r w1 ⟨rfl, he⟩
      go_wp2_with fail
      go_ret2
      exact ⟨qbl H.out, he⟩
set_option maxHeartbeats 400000 in
theorem other_any (t k : Int) (b : Nat) (w : World) (h : w.cell? ⟨b, 0, none⟩ = some (.int .i64 t)) :
    Calls Tryz.prog 177 #[.int .i64 k, .pointer (some ⟨b, 0, none⟩)] w fun r w' => r = .returned (.bool (k != t)) ∧ Ext w w' := by
  go_enter Tryz.func177, Tryz.ntmps177
  go_wp2_with fail
  go_ret
  exact ⟨rfl, Ext.refl _⟩
def allAre (ts : List Int) (t : Int) (n : Int) : Bool := decide ((ts.length : Int) = n) && !ts.any (· != t)
set_option maxHeartbeats 1000000 in
theorem all_any (ts : List Int) (t n : Int) (b : Nat) (S : Nat → Prop) (v : Value) (w : World) (h : w.cell? ⟨b, 0, none⟩ = some v) (hr : Rd w S (.sl (ts.map D.int)) [v]) :
    Calls Tryz.prog 176 #[.int .i64 t, .int .i64 n, .pointer (some ⟨b, 0, none⟩)] w fun r w' => r = .returned (.bool (allAre ts t n)) ∧ Ext w w' := by
  obtain ⟨A, cap, b1, off, rfl, hl1, hl2, hl3, hm⟩ := Rd.sl_open hr
  simp only [List.length_map] at *
  have hr' := Lib.hid hr
  clear hr hl3 hm
  have hcs := World.block_lt_of_cell? w _ h
  by_cases hn : (ts.length : Int) = n
  · have H := Lib.hid (show allAre ts t n = !ts.any (· != t) by unfold allAre; rw [decide_eq_true hn]; rfl)
    subst hn
    have hc : ∀ w', Ext (w.alloc (.cells #[.int .i64 t] 3)) w' → Calls Tryz.prog 88 #[.slice A ts.length cap, .func (.func 177) #[] #[.pointer (some ⟨w.heap.size, 0, none⟩)]] w' fun r w'' => r = .returned (.bool (ts.any (· != t))) ∧ Ext w' w'' := fun w' hw' =>
      containsFunc_any ts (· != t) _ (fun a w => by kernel_rfl) _ S _ w' ((hr'.out.ext ((Ext.refl _).alloc _)).ext hw') (fun x w'' hw'' => other_any t x w.heap.size w'' ((hw'.trans hw'').at (by go_simp)))
    have hc' := Lib.hid hc; clear hc
    go_enter Tryz.func176, Tryz.ntmps176
    go_wp2_with fail
    refine (hc'.out _ (Ext.refl _)).mono ?_
    rintro r w1 ⟨rfl, he⟩
    go_wp2_with fail
    go_ret
    exact ⟨qbk (by rw [H.out]), (by repeat' first | exact Ext.refl _ | assumption | apply Ext.alloc | apply Ext.drew | apply Ext.drewN | (refine Ext.trans ?_ (by assumption)))⟩
  · have H := Lib.hid (show allAre ts t n = false by unfold allAre; rw [decide_eq_false hn]; rfl)
    have hn2 : ((ts.length : Int) == n) = false := by simp [hn]
    go_enter Tryz.func176, Tryz.ntmps176
    go_wp2_with fail
    go_ret
    exact ⟨qbk (by rw [H.out]), (by repeat' first | exact Ext.refl _ | assumption | apply Ext.alloc | apply Ext.drew | apply Ext.drewN | (refine Ext.trans ?_ (by assumption)))⟩
end Go.Proofs.YtnkimlkoijfcpaaGreatDoor

/- Replacing and inlining, on plain data. -/
namespace Go.Proofs.YtnkimlkoijfcpaaGreatDoor
open Go.RowKit Go.Lib
def zeroE : Ex := .mk 0 0 ByteArray.empty []
mutual
def putP (op : Int) (L : List Ex) : Ex → Option Ex
  | .mk o n s l => if o = op then (if n < 0 then none else L[n.toNat]?) else match putPs op L l with
    | some l' => some (.mk o n s l')
    | none => none
def putPs (op : Int) (L : List Ex) : List Ex → Option (List Ex)
  | [] => some []
  | e :: l => match putP op L e with
    | some x => match putPs op L l with
      | some xs => some (x :: xs)
      | none => none
    | none => none
end
theorem putPs_snoc {op : Int} {L : List Ex} {e x : Ex} (hx : putP op L e = some x) : ∀ (l : List Ex) {ys : List Ex}, putPs op L l = some ys → putPs op L (l ++ [e]) = some (ys ++ [x])
  | [], ys, h => by rw [putPs] at h; cases h; simp only [List.nil_append, putPs, hx]
  | a :: l, ys, h => by
    rw [putPs] at h
    cases he : putP op L a with
    | none => rw [he] at h; cases h
    | some z =>
      rw [he] at h
      cases hl : putPs op L l with
      | none => rw [hl] at h; cases h
      | some xs =>
        rw [hl] at h; cases h
        rw [List.cons_append, putPs, he, putPs_snoc hx l hl]; rfl
theorem putPs_none {op : Int} {L : List Ex} : ∀ (l : List Ex) {e : Ex}, e ∈ l → putP op L e = none → putPs op L l = none
  | [], _, h, _ => by cases h
  | a :: l, e, h, hn => by
    rw [putPs]
    rcases List.mem_cons.1 h with rfl | h
    · rw [hn]
    · rw [putPs_none l h hn]
      cases putP op L a <;> rfl
theorem putPs_mem {op : Int} {L : List Ex} : ∀ (l : List Ex) {ys : List Ex}, putPs op L l = some ys → ∀ y ∈ ys, ∃ e ∈ l, putP op L e = some y
  | [], ys, h, y, hy => by rw [putPs] at h; cases h; cases hy
  | e :: l, ys, h, y, hy => by
    rw [putPs] at h
    cases he : putP op L e with
    | none => rw [he] at h; cases h
    | some x =>
      rw [he] at h
      cases hl : putPs op L l with
      | none => rw [hl] at h; cases h
      | some xs =>
        rw [hl] at h; cases h
        rcases List.mem_cons.1 hy with rfl | hy
        · exact ⟨e, by simp, he⟩
        · obtain ⟨e', h1, h2⟩ := putPs_mem l hl y hy
          exact ⟨e', by simp [h1], h2⟩
theorem qdm (l : List Ex) (k : Nat) (h : k < l.length) : qu (l.take (k + 1)) = qu (l.take k) + parts l[k] := by
  induction l generalizing k with
  | nil => simp at h
  | cons e l ih =>
    cases k with
    | zero => simp [qu]
    | succ k => rw [List.take_succ_cons, List.take_succ_cons, qu, qu, ih k (by simpa using h)]; simp; omega
theorem qck (l : List Ex) (k : Nat) : qu (l.take k) ≤ qu l := by
  induction l generalizing k with
  | nil => simp
  | cons e l ih =>
    cases k with
    | zero => simp [qu]
    | succ k => rw [List.take_succ_cons, qu, qu]; have := ih k; omega
def fitX (x : Ex) : Option Ex := if 1000 < parts x then none else some x
mutual
def inlE (bs : List (Option Ex)) : Ex → Option Ex
  | .mk o n s l => match inlL bs l with
    | none => none
    | some ys => if o = 22 ∧ 0 ≤ n ∧ n < bs.length then (match bs.getD n.toNat none with
        | none => none
        | some b => fitX ((putP 4 ys b).getD zeroE))
      else fitX (.mk o n s ys)
def inlL (bs : List (Option Ex)) : List Ex → Option (List Ex)
  | [] => some []
  | e :: l => match inlE bs e with
    | none => none
    | some x => match inlL bs l with
      | none => none
      | some xs => some (x :: xs)
end
def inlB : List (Option Ex) → List Fn → List (Option Ex)
  | bs, [] => bs
  | bs, f :: F => inlB (bs ++ [inlE bs f.body]) F
def qcr (F : List Fn) (e : Ex) : Option Ex := match inlE (inlB [] F) e with
  | some x => if 12 < levels x then none else some x
  | none => none
end Go.Proofs.YtnkimlkoijfcpaaGreatDoor

/- A closed fact: the size of an int. -/
namespace Go.Proofs.YtnkimlkoijfcpaaGreatDoor
open Go.RowKit Go.Lib
theorem Tryz.info3 : (Tryz.prog.info? 3).map (fun i => (i.zero, i.size, i.bytes)) = some (some (.int .i64 0), 1, 8) := by kernel_rfl
end Go.Proofs.YtnkimlkoijfcpaaGreatDoor

/- Slices of trees that the call itself makes: appending an element whose memory is new. -/
namespace Go.Proofs.YtnkimlkoijfcpaaGreatDoor
open Go.RowKit Go.Lib
theorem qdh {W w' : World} {own : Option Nat} (hg : W.grownBy w' own) {p : Addr} {v : Value} (hc : W.cell? p = some v) (hne : some p.block ≠ own) : w'.cell? p = some v :=
  (World.cell?_of_block (hg.block p.block (World.block_lt_of_cell? W p hc) hne)).trans hc
theorem grown_frozen {W w' : World} {own : Option Nat} (hg : W.grownBy w' own) {p : Addr} (hlt : p.block < W.heap.size) (hne : some p.block ≠ own) : w'.frozen? p = W.frozen? p :=
  World.frozen?_of_block (hg.block p.block hlt hne)
def OwnE (w : World) (B : Nat) (e : TypeId) (size : Nat) (v : Value) (ds : List D) : Prop :=
  ∃ xs, w.ownsRow B e size v ds.length xs ∧ RdS w (fun b => B ≤ b ∧ b < w.heap.size ∧ some b ≠ v.ownBlock) ds xs
theorem OwnE.nil (w : World) (B : Nat) (e : TypeId) (size : Nat) : OwnE w B e size (.slice none 0 0) [] := ⟨[], World.ownsRow_nil _ _ _ _, by rw [RdS]⟩
theorem OwnE.ext {w w' : World} {B : Nat} {e : TypeId} {size : Nat} {v : Value} {ds : List D} (h : OwnE w B e size v ds) (he : Ext w w') : OwnE w' B e size v ds := by
  obtain ⟨xs, h1, h2⟩ := h
  exact ⟨xs, own_ext h1 he, RdS.keep (fun b hb _ => he.block b hb.2.1) (fun b hb => ⟨hb.1, Nat.lt_of_lt_of_le hb.2.1 he.size, hb.2.2⟩) ds xs h2⟩
theorem OwnE.set {w : World} {B : Nat} {e : TypeId} {size : Nat} {v : Value} {ds : List D} (h : OwnE w B e size v ds) {p : Addr} (hp : p.block < B) (u : Value) : OwnE (w.setCell p u) B e size v ds := by
  obtain ⟨xs, h1, h2⟩ := h
  have hb : ∀ b, B ≤ b → (w.setCell p u).heap[b]? = w.heap[b]? := fun b hb => by
    exact Below.heap_setCell w p u b (by omega)
  have hs : (w.setCell p u).heap.size = w.heap.size := by simp
  refine ⟨xs, ⟨h1.1, ?_⟩, RdS.keep (fun b hx _ => hb b hx.1) (fun b hx => by rw [hs]; exact hx) ds xs h2⟩
  rcases h1.2 with h3 | ⟨g, cap, cur, hv, hg, hh, r⟩
  · exact Or.inl h3
  · exact Or.inr ⟨g, cap, cur, hv, hg, (hb g hg).trans hh, r⟩
theorem OwnE.rd {w : World} {B : Nat} {e : TypeId} {size : Nat} {v : Value} {ds : List D} (h : OwnE w B e size v ds) : Rd w (fun b => B ≤ b ∧ b < w.heap.size) (.sl ds) [v] := by
  obtain ⟨xs, h1, h2⟩ := h
  exact own_rd h1 h2 (fun b hb => ⟨hb.1, hb.2.1⟩) (fun b hb => by have := h1.lt b hb; exact this)
theorem OwnE.own {w : World} {B : Nat} {e : TypeId} {size : Nat} {v : Value} {ds : List D} (h : OwnE w B e size v ds) : ∀ b, v.ownBlock = some b → B ≤ b ∧ b < w.heap.size := by
  obtain ⟨xs, h1, h2⟩ := h
  exact fun b hb => h1.lt b hb
theorem OwnE.ne {w : World} {B : Nat} {e : TypeId} {size : Nat} {v : Value} {ds : List D} (h : OwnE w B e size v ds) {b : Nat} (hb : b < B) : some b ≠ v.ownBlock := fun hx => by
  have := h.own b hx.symm; omega
theorem OwnE.form {w : World} {B : Nat} {e : TypeId} {size : Nat} {v : Value} {ds : List D} (h : OwnE w B e size v ds) {n : Nat} (hn : ds.length = n) : ∃ A cap, v = .slice A n cap ∧ n ≤ cap ∧ cap ≤ 9223372036854775807 := by
  subst hn
  obtain ⟨A, cap, b, off, h1, h2, h3, -⟩ := Rd.sl_open h.rd
  exact ⟨A, cap, h1, h2, h3⟩
theorem wpReads_nil {P : Program} {ops : Array Oper} {C : World → Prop} {Q : Act → Prop} {a : Act} (h : Q a) : wpReads P ops C Q [] a := h
theorem qdv {P : Program} {ops : Array Oper} {C : World → Prop} {Q : Act → Prop} {a : Act} {o : Oper} {rest : List Oper} {v : Value} (hw : Region.wanted o (yielded ops a.tmps) = true)
    (hy : ∀ w, C w → (execOp a.eval o).run P w = .ok (.value v) w) (h : wpReads P ops C Q rest (a.put o.dst v)) : wpReads P ops C Q (o :: rest) a := ⟨v, .inl ⟨hw, hy⟩, h⟩
theorem wpSpec_nil {P : Program} {ops : Array Oper} {C : World → Prop} {Q : Exit → Act → World → Prop} {fin : Act → World → Prop} {a : Act} {w : World} (h : fin a w) : wpSpec P ops C Q fin [] a w := h
theorem wpSpec_cons {P : Program} {ops : Array Oper} {C : World → Prop} {Q : Exit → Act → World → Prop} {fin : Act → World → Prop} {a : Act} {w : World} {o : Oper} {rest : List Oper} (hw : Region.wanted o (yielded ops a.tmps) = true)
    (h : ∀ K' : Act → World → Prop, Shut (∀ a w, C w → wpSpec P ops C Q fin rest a w → K' a w) → Oper.wp P o a w K' Q) : wpSpec P ops C Q fin (o :: rest) a w := by
  rw [wpSpec, if_pos hw]
  exact h _ (fun a w h1 h2 => ⟨h1, h2⟩)
theorem wp_region_mixed_ext {P : Program} {id : Nat} {Q : Exit → Act → World → Prop} {a : Act} {w : World} {l : List Oper} (n m : Nat) (hnm : n ≤ m) (hf : P.follows .mixedOrders = true) (hB : Region.lexTailB .any l.toArray m = true)
    (hB2 : Region.lexHead .any l.toArray (l.length - n) n 0 (Array.replicate l.toArray.size false) = true)
    (h : wpReads P l.toArray (fun w' => ∃ x : ExtW w, w' = x.val) (fun a' => wpSpec P l.toArray (fun w' => ∃ x : ExtW w, w' = x.val) (NoPanic Q) (fun a'' w'' => wpList P l.toArray (NoPanic Q) (l.drop m) a'' w'') ((l.take m).drop n) a' w.drew) (l.take n) a) : (Code.region id l.toArray true).wp P Q a w :=
  wp_region_noPanic (wp_region_mixed n m hnm hf hB hB2 (fun _ _ _ _ _ h => h) ⟨⟨w.drew, (Ext.refl w).drew⟩, rfl⟩ h)
theorem ext_in {w w' : World} (h : Ext w w') : ∃ x : ExtW w, w' = x.val := ⟨⟨w', h⟩, rfl⟩
end Go.Proofs.YtnkimlkoijfcpaaGreatDoor

/- Regions that draw their order: reads (also late ones) and operations that stand alone, in any sequence; then a tail in one order. -/
namespace Go.Proofs.YtnkimlkoijfcpaaGreatDoor
open Go.RowKit Go.Lib
section
variable {P : Program} {ops : Array Oper} {md : Region.Mode} {C : World → Prop} {Q : Exit → Act → World → Prop}
end
end Go.Proofs.YtnkimlkoijfcpaaGreatDoor

/- Walks: the number of parts, of the reference. -/
namespace Go.Proofs.YtnkimlkoijfcpaaGreatDoor
open Go.RowKit Go.Lib
set_option maxRecDepth 10000 in
set_option maxHeartbeats 2000000 in
theorem rparts_any (e : Ex) : ∀ (S : Nat → Prop) (cs : List Value) (w : World), Rd w S e.d cs → parts e ≤ 1000000 →
    Calls Tryz.prog 12 #[.agg cs.toArray] w fun r w' => r = .returned (.int .i64 (parts e)) ∧ Ext w w' := by
  induction e using Ex.ind with | h o n s l ih => ?_
  intro S cs w hr hpb
  obtain ⟨A, cap, b, off, rfl, hl1, hl2, hl3, hm⟩ := Ex.open hr
  have ih' := Lib.hid ih
  clear ih
  simp only [Ex.args, Ex.op, Ex.n, Ex.s] at hl1 hl2 hl3 hm ⊢
  rw [parts] at hpb
  have hll : l.length ≤ 1000000 := by have := qbw l; omega
  have hl3' := Lib.hid hl3; have hm' := Lib.hid hm
  have H := Lib.hid (show parts (.mk o n s l) = qu l + 1 by rw [parts])
  clear hr hl3 hm
  go_enter Tryz.func12, Tryz.ntmps12
  go_wp2_with fail
  go_loopw [3, 4] (fun x i wr => ∃ (k q : Nat), k ≤ l.length ∧ i = .int .i64 k ∧ x = .int .i64 q ∧ q ≤ 1000000 ∧ Hid (q = qu (l.take k) + 1) ∧ Ext (w.alloc (.cells #[.int .i64 o, .int .i64 n, .string s, .slice A l.length cap] 25)) wr) (fun _ i _ => l.length - (RowKit.intOf i).toNat)
  case atStart => exact ⟨0, 1, by omega, rfl, rfl, by omega, Lib.hid (by simp [qu]), Ext.refl _⟩
  case round =>
    obtain ⟨k, q, hk, rfl, rfl, hq, HH, hb⟩ := hrel
    have e3 : wr.cell? ⟨w.heap.size, 3, none⟩ = some (.slice A l.length cap) := hb.at (by go_simp)
    have hw : Ext w wr := ((Ext.refl _).alloc _).trans hb
    by_cases hlt : k < l.length
    · obtain ⟨rfl, hSb⟩ := hl3'.out (by omega)
      obtain ⟨A1, cap1, b1, off1, c0, c1, c2, c3, hr', -⟩ := Ex.at (hm'.out.ext (fun _ => hSb) hw) hlt
      have hr2 := Lib.hid hr'
      have hSb' := Lib.hid hSb
      have hpk : parts l[k] ≤ 1000000 := by have := qbi l l[k] (List.getElem_mem hlt); omega
      have hqn : q + parts l[k] ≤ 1000000 := by
        have h1 := qdm l k hlt; have h2 := qck l (k + 1); have h3 := HH.out; omega
      have HH2 := Lib.hid (show q + parts l[k] = qu (l.take (k + 1)) + 1 by have h1 := qdm l k hlt; have h3 := HH.out; omega)
      have hcall := Lib.hid (ih'.out l[k] (List.getElem_mem hlt) S _ wr hr' hpk)
      clear hr' hSb HH
      generalize parts l[k] = NP at *
      go_wp2_with fail
      refine (hcall.out).mono ?_
      rintro r w1 ⟨rfl, he⟩
      go_wp2_with fail
      go_roundw
      case rel => exact ⟨k + 1, q + NP, by omega, by go_num, by go_num, hqn, HH2, hb.trans he⟩
      case measure => simp [RowKit.intOf]; omega
    · have hkl : k = l.length := by omega
      subst hkl
      go_wp2_with fail
      go_ret
      exact ⟨ret_int (by rw [H.out]; have := HH.out; rw [List.take_length] at this; omega), hw⟩
end Go.Proofs.YtnkimlkoijfcpaaGreatDoor

/- Layer 16 on plain data: equal expressions. -/
namespace Go.Proofs.YtnkimlkoijfcpaaGreatDoor
open Go.RowKit Go.Lib
mutual
def sameB : Ex → Ex → Bool
  | .mk o n s l, .mk o2 n2 s2 l2 => decide (o = o2) && (decide (n = n2) && (decide (s.toList = s2.toList) && qby l l2))
def qby : List Ex → List Ex → Bool
  | [], [] => true
  | e :: l, e2 :: l2 => sameB e e2 && qby l l2
  | _, _ => false
end
mutual
theorem sameB_self : ∀ e : Ex, sameB e e = true
  | .mk o n s l => by rw [sameB, sameBs_self l]; simp
theorem sameBs_self : ∀ l : List Ex, qby l l = true
  | [] => by rw [qby]
  | e :: l => by rw [qby, sameB_self e, sameBs_self l]; rfl
end
theorem sameBs_len : ∀ (l l2 : List Ex), l.length ≠ l2.length → qby l l2 = false
  | [], [], h => absurd rfl h
  | [], _ :: _, _ => by rw [qby]; all_goals simp
  | _ :: _, [], _ => by rw [qby]; all_goals simp
  | e :: l, e2 :: l2, h => by rw [qby, sameBs_len l l2 (by simpa using h)]; simp
theorem sameBs_at : ∀ (l l2 : List Ex) (k : Nat) (h : k < l.length) (h2 : k < l2.length), sameB l[k] l2[k] = false → qby l l2 = false
  | e :: l, e2 :: l2, 0, _, _, hk => by rw [qby, show sameB e e2 = false from hk]; rfl
  | e :: l, e2 :: l2, k + 1, h, h2, hk => by rw [qby, sameBs_at l l2 k (by simpa using h) (by simpa using h2) (by simpa using hk)]; simp
theorem sameBs_all : ∀ (l l2 : List Ex), l.length = l2.length → (∀ (k : Nat) (h : k < l.length) (h2 : k < l2.length), sameB l[k] l2[k] = true) → qby l l2 = true
  | [], [], _, _ => by rw [qby]
  | [], _ :: _, h, _ => by simp at h
  | _ :: _, [], h, _ => by simp at h
  | e :: l, e2 :: l2, h, hk => by
    rw [qby, show sameB e e2 = true from hk 0 (by simp) (by simp), sameBs_all l l2 (by simpa using h) (fun k h1 h2 => hk (k + 1) (by simpa using h1) (by simpa using h2))]; rfl
end Go.Proofs.YtnkimlkoijfcpaaGreatDoor

/- From the statement's readings (DataW.trod) to trees of plain data (Rd): ints, bools, strings, structs, slices. -/
namespace Go.Proofs.YtnkimlkoijfcpaaGreatDoor
open Go.RowKit Go.Lib
theorem qbd.of_get {w : World} {b : Nat} : ∀ (cs : List Value) (off : Nat), (∀ i v, cs[i]? = some v → w.cell? ⟨b, off + i, none⟩ = some v) → qbd w b off cs
  | [], _, _ => trivial
  | v :: cs, off, h => ⟨h 0 v rfl, qbd.of_get cs (off + 1) fun i u hi => by rw [Nat.add_assoc, Nat.add_comm 1 i]; exact h (i + 1) u (by simpa using hi)⟩
theorem mapM_get {α β : Type} {f : α → Option β} : ∀ (l : List α) (ys : List β), l.mapM f = some ys → ∀ i : Nat, (l[i]?).bind f = ys[i]?
  | [], ys, h, i => by simp at h; subst h; simp
  | a :: l, ys, h, i => by
    rw [List.mapM_cons] at h
    cases hf : f a with
    | none => rw [hf] at h; simp at h
    | some b =>
      rw [hf] at h
      cases hl : l.mapM f with
      | none => rw [hl] at h; simp at h
      | some zs =>
        rw [hl] at h
        simp at h
        subst h
        cases i with
        | zero => simpa using hf
        | succ i => simpa using mapM_get l zs hl i
theorem mapM_len {α β : Type} {f : α → Option β} : ∀ (l : List α) (ys : List β), l.mapM f = some ys → ys.length = l.length
  | [], ys, h => by simp at h; subst h; rfl
  | a :: l, ys, h => by
    rw [List.mapM_cons] at h
    cases hf : f a with
    | none => rw [hf] at h; simp at h
    | some b =>
      rw [hf] at h
      cases hl : l.mapM f with
      | none => rw [hl] at h; simp at h
      | some zs =>
        rw [hl] at h
        simp at h
        subst h
        simp [mapM_len l zs hl]
theorem cells_open {w : World} {base : Nat} {a : Addr} {n : Nat} {cs : List Value} (h : w.cells? base a n = some cs) (hn : 0 < n) : a.spot = none ∧ qbd w a.block a.off cs := by
  unfold World.cells? at h
  split at h
  · have hg := mapM_get _ _ h
    obtain ⟨b, o, sp⟩ := a
    have h0 := hg 0
    rw [List.getElem?_range (by omega)] at h0
    have hlen : cs.length = n := by
      have := mapM_len _ _ h
      simpa using this
    have h0' : cs[0]? = some (cs[0]'(by omega)) := List.getElem?_eq_getElem (by omega)
    rw [h0'] at h0
    have hs : sp = none := cell_spot (w := w) (b := b) (o := o) (v := cs[0]'(by omega)) (by simpa [Addr.add] using h0)
    subst hs
    refine ⟨rfl, qbd.of_get _ _ fun i v hi => ?_⟩
    have hi' : i < n := by
      have := (List.getElem?_eq_some_iff.1 hi).1; omega
    have := hg i
    rw [List.getElem?_range hi', hi] at this
    cases i with
    | zero => simpa [Addr.add] using this
    | succ i => simpa [Addr.add] using this
  · cases h
theorem RdM.of_get {w : World} {S : Nat → Prop} {sz : Nat} : ∀ (l : List D) (b off : Nat), (∀ d ∈ l, d.width = sz) → (∀ i (h : i < l.length), ∃ cs, qbd w b (off + i * sz) cs ∧ Rd w S l[i] cs) → RdM w S l b off
  | [], _, _, _, _ => by rw [RdM]; trivial
  | d :: l, b, off, hw, h => by
    rw [RdM]
    refine ⟨?_, RdM.of_get l b _ (fun x hx => hw x (by simp [hx])) fun i hi => ?_⟩
    · obtain ⟨cs, h1, h2⟩ := h 0 (by simp)
      exact ⟨cs, by simpa using h1, by simpa using h2⟩
    have := h (i + 1) (by simpa using hi)
    rw [hw d (by simp)]
    rw [Nat.succ_mul] at this
    rw [show off + sz + i * sz = off + (i * sz + sz) by omega]
    simpa using this
section
variable {H : Type} {enc : TypeId × Value → H} {P : Program} {w : World} {sp : Nat → Bool} {hd : Bool}
def Trods (enc : TypeId × Value → H) (P : Program) (w : World) (sp : Nat → Bool) (hd : Bool) (t : TypeId) {α : Type} (f : α → D) (N : Nat) : Prop :=
  ∀ n cs x, n < N → DataW.trod enc P w 0 sp hd n t cs = some x → ∃ a, Rd w Any (f a) cs
theorem trods_int {t : TypeId} (ht : P.underlying t = some (.int .i64)) (N : Nat) : Trods enc P w sp hd t D.int N := by
  intro n cs x _ h
  obtain ⟨m, rfl, -, -⟩ := DataW.trod_int ht h
  exact ⟨m, by rw [Rd]⟩
theorem trods_str {t : TypeId} (ht : P.underlying t = some .string) (N : Nat) : Trods enc P w sp hd t D.str N := by
  intro n cs x _ h
  obtain ⟨m, rfl, -, -⟩ := DataW.trod_string ht h
  exact ⟨m, by rw [Rd]⟩
theorem trods_sl {t e : TypeId} {α : Type} {f : α → D} {sz N : Nat} (ht : P.underlying t = some (.slice e)) (hc : P.cellsOf e = sz) (hsz : 0 < sz) (hw : ∀ x, (f x).width = sz) (h : Trods enc P w sp hd e f N) :
    Trods enc P w sp hd t (fun l : List α => .sl (l.map f)) (N + 1) := by
  intro n cs x hn hx
  rcases DataW.trod_slice ht hx with ⟨rfl, -⟩ | ⟨a, len, cap, elems, rest, m, rfl, rfl, -, hb, hl, hm, hlen, hel, -, -⟩
  · exact ⟨[], Rd.nil none (by omega)⟩
  · have hmax : cap ≤ 9223372036854775807 := by unfold maxLen at hm; omega
    have hget : ∀ i, i < len → ∃ cs' y, w.cells? 0 (a.add (i * sz)) sz = some cs' ∧ DataW.trod enc P w 0 sp hd m e cs' = some y := by
      intro i hi
      have := hel i hi
      rw [hc, List.getElem?_eq_getElem (by omega)] at this
      obtain ⟨cs', h1, h2⟩ := Option.bind_eq_some_iff.1 this
      exact ⟨cs', _, h1, h2⟩
    have hget2 : ∀ i, i < len → ∃ (z : α) (cs' : List Value), w.cells? 0 (a.add (i * sz)) sz = some cs' ∧ Rd w Any (f z) cs' := by
      intro i hi
      obtain ⟨cs', y, h1, h2⟩ := hget i hi
      obtain ⟨z, hz⟩ := h m cs' y (by omega) h2
      exact ⟨z, cs', h1, hz⟩
    by_cases h0 : len = 0
    · subst h0; exact ⟨[], Rd.nil _ hmax⟩
    have hsp : a.spot = none := by
      obtain ⟨z, cs', h1, -⟩ := hget2 0 (by omega)
      have := (cells_open h1 hsz).1
      simpa [Addr.add] using this
    obtain ⟨b, off, spt⟩ := a
    subst hsp
    have hg3 : ∀ i, ∃ (z : α), i < len → ∃ cs', qbd w b (off + i * sz) cs' ∧ Rd w Any (f z) cs' := by
      obtain ⟨z0, -⟩ := hget2 0 (by omega)
      intro i
      by_cases hi : i < len
      · obtain ⟨z, cs', h1, h2⟩ := hget2 i hi
        refine ⟨z, fun _ => ⟨cs', ?_, h2⟩⟩
        have := (cells_open h1 hsz).2
        by_cases hz : i * sz = 0
        · rw [hz] at this ⊢; simpa [Addr.add] using this
        · simpa [Addr.add, hz] using this
      · exact ⟨z0, fun h => absurd h hi⟩
    let g : Nat → α := fun i => Classical.choose (hg3 i)
    have hgs : ∀ i, i < len → ∃ cs', qbd w b (off + i * sz) cs' ∧ Rd w Any (f (g i)) cs' := fun i => Classical.choose_spec (hg3 i)
    refine ⟨(List.range len).map g, Rd.sl_mk (b := b) (off := off) (by simp) (by simpa using hl) hmax (fun _ => ⟨rfl, trivial⟩) (RdM.of_get _ _ _ (sz := sz) ?_ ?_)⟩
    · intro d hd
      obtain ⟨x, -, rfl⟩ := List.mem_map.1 hd
      exact hw x
    · intro i hi
      have hi' : i < len := by simpa using hi
      have := hgs i hi'
      simpa using this
theorem rdS_cut {S : Nat → Prop} {d : D} {l : List D} {cs : List Value} {o k : Nat} (h1 : Rd w S d ((cs.drop o).take k)) (h2 : RdS w S l (cs.drop (o + k))) : RdS w S (d :: l) (cs.drop o) := by
  rw [RdS]
  exact ⟨_, _, by rw [← List.drop_drop]; exact (List.take_append_drop k _).symm, h1, h2⟩
theorem rdS_end {S : Nat → Prop} {cs : List Value} {o : Nat} (h : cs.length ≤ o) : RdS w S [] (cs.drop o) := by
  rw [RdS]; exact List.drop_eq_nil_of_le h
theorem rd_st {S : Nat → Prop} {l : List D} {cs : List Value} (h : RdS w S l (cs.drop 0)) : Rd w S (.st l) cs := by
  rw [Rd]; simpa using h
theorem qcu {fs : Array Field} {n : Nat} {cs : List Value} {xs : List (DataW H × List MemPlace)} (i : Nat) (T : TypeId) (o k : Nat) (hlen : xs.length = fs.size)
    (hf : ∀ (i : Nat) (f : Field), fs[i]? = some f → DataW.trod enc P w 0 sp hd n f.type ((cs.drop f.offset).take (P.cellsOf f.type)) = xs[i]?)
    (hi : ∃ f : Field, fs[i]? = some f ∧ f.type = T ∧ f.offset = o) (hk : P.cellsOf T = k) :
    ∃ y, DataW.trod enc P w 0 sp hd n T ((cs.drop o).take k) = some y := by
  obtain ⟨f, hi, rfl, rfl⟩ := hi
  subst hk
  have hlt : i < fs.size := (Array.getElem?_eq_some_iff.1 hi).1
  have := hf i f hi
  rw [List.getElem?_eq_getElem (by omega)] at this
  exact ⟨_, this⟩
end
end Go.Proofs.YtnkimlkoijfcpaaGreatDoor

/- Facts of tailT for the walks. -/
namespace Go.Proofs.YtnkimlkoijfcpaaGreatDoor
open Go.RowKit Go.Lib
theorem size_zero (s : ByteArray) : s.size = 0 ↔ s.toList = [] := by
  have h : s.size = s.data.toList.length := by rw [Array.length_toList]; rfl
  have e : s.toList = s.data.toList := ByteArray.toList_eq s
  rw [e, h]
  exact List.length_eq_zero_iff
theorem tail_text {F : List Fn} {c p : List Int} {op n : Int} {s : ByteArray} {ts : List Int} (h : ¬ s.toList = []) (h1 : ¬ op = 1) : tailT F c p op n s ts = none := by
  unfold tailT; rw [if_pos ⟨by rw [ne_eq, size_zero]; exact h, h1⟩]
theorem tail_leaf {F : List Fn} {c p : List Int} {op n : Int} {s : ByteArray} (h : s.toList = [] ∨ op = 1) (h22 : ¬ op = 22) : tailT F c p op n s [] = leafT c p op n s := by
  unfold tailT; rw [if_neg (by rw [ne_eq, size_zero]; rintro ⟨a, b⟩; exact h.elim a b), if_neg h22, if_pos rfl]
theorem qek {F : List Fn} {c p : List Int} {n : Int} {s : ByteArray} {ts : List Int} (h : s.toList = []) : tailT F c p 22 n s ts = callT F n ts := by
  unfold tailT; rw [if_neg (by rw [ne_eq, size_zero]; rintro ⟨a, b⟩; exact a h), if_pos rfl]
end Go.Proofs.YtnkimlkoijfcpaaGreatDoor

/- Walk: right values. -/
namespace Go.Proofs.YtnkimlkoijfcpaaGreatDoor
open Go.RowKit Go.Lib
def okV (v : Val) : Bool :=
  if v.k = 0 then decide (v.s.toList = [])
  else if v.k = 1 then decide (v.n = 0) && decide ((v.s.size : Int) ≤ 200)
  else decide (v.k = 2) && (decide (v.n = 0) || decide (v.n = 1)) && decide (v.s.toList = [])
end Go.Proofs.YtnkimlkoijfcpaaGreatDoor

/- A literal slice: a new block read as a list. -/
namespace Go.Proofs.YtnkimlkoijfcpaaGreatDoor
open Go.RowKit Go.Lib
theorem rd_new {X : World} {S : Nat → Prop} {l : List D} {cs : Array Value} {t : TypeId} {g n c : Nat} (hg : g = X.heap.size) (hn : n = l.length) (hr : RdS (X.alloc (.cells cs t)) S l cs.toList) (hS : S g) (hc : l.length ≤ c) (hc2 : c ≤ 9223372036854775807) :
    Rd (X.alloc (.cells cs t)) S (.sl l) [.slice (some ⟨g, 0, none⟩) n c] := by
  subst hg
  refine Rd.sl_mk (b := X.heap.size) (off := 0) hn hc hc2 (fun _ => ⟨rfl, hS⟩) (rdM_of l cs.toList 0 hr ?_)
  intro j u hu
  have := cells_new X cs t j u hu
  have e2 : ((⟨X.heap.size, 0, none⟩ : Addr).add j) = ⟨X.heap.size, 0 + j, none⟩ := by
    unfold Addr.add; split
    · rename_i h; subst h; rfl
    · rfl
  rwa [e2] at this
theorem rd_new_ints {X : World} {l : List Int} {cs : Array Value} {t : TypeId} {g n : Nat} (hg : g = X.heap.size) (hn : n = l.length) (h : cs.toList = l.map (Value.int .i64)) (hc2 : l.length ≤ 9223372036854775807) :
    Rd (X.alloc (.cells cs t)) Any (.sl (l.map D.int)) [.slice (some ⟨g, 0, none⟩) n n] :=
  rd_new hg (by simpa using hn) (by rw [h]; exact rdS_ints _ _ l) trivial (by simp; omega) (by omega)
end Go.Proofs.YtnkimlkoijfcpaaGreatDoor

/- Walks: operations on values. -/
namespace Go.Proofs.YtnkimlkoijfcpaaGreatDoor
open Go.RowKit Go.Lib
set_option maxHeartbeats 400000 in
theorem qbv (n : Int) (w : World) : Calls Tryz.prog 97 #[.int .i64 n] w fun r w' => r = .returned (numV n).v ∧ Ext w w' := by
  go_enter Tryz.func97, Tryz.ntmps97
  go_wp2_with fail
  exact bodyPost_ret (v := .agg #[.int .i64 0, .int .i64 n, .string ByteArray.empty]) (by simp [results, Tryz.results97, go_sem]; rfl) rfl ⟨rfl, (by repeat' first | exact Ext.refl _ | assumption | apply Ext.alloc | apply Ext.drew | apply Ext.drewN | (refine Ext.trans ?_ (by assumption)))⟩
set_option maxHeartbeats 400000 in
theorem qda (b : Bool) (w : World) : Calls Tryz.prog 98 #[.bool b] w fun r w' => r = .returned (boolV b).v ∧ Ext w w' := by
  cases b
  · go_enter Tryz.func98, Tryz.ntmps98
    go_wp2_with fail
    exact bodyPost_ret (v := .agg #[.int .i64 2, .int .i64 0, .string ByteArray.empty]) (by simp [results, Tryz.results98, go_sem]; rfl) rfl ⟨rfl, (by repeat' first | exact Ext.refl _ | assumption | apply Ext.alloc | apply Ext.drew | apply Ext.drewN | (refine Ext.trans ?_ (by assumption)))⟩
  · go_enter Tryz.func98, Tryz.ntmps98
    go_wp2_with fail
    exact bodyPost_ret (v := .agg #[.int .i64 2, .int .i64 1, .string ByteArray.empty]) (by simp [results, Tryz.results98, go_sem]; rfl) rfl ⟨rfl, (by repeat' first | exact Ext.refl _ | assumption | apply Ext.alloc | apply Ext.drew | apply Ext.drewN | (refine Ext.trans ?_ (by assumption)))⟩
def orI : List Int → Int
  | [] => 0
  | x :: l => if x ≠ 0 then x else orI l
set_option maxHeartbeats 1000000 in
theorem or_any (l : List Int) (S : Nat → Prop) (v : Value) (w : World) (hr : Rd w S (.sl (l.map D.int)) [v]) :
    Calls Tryz.prog 178 #[v] w fun r w' => r = .returned (.int .i64 (orI l)) ∧ Ext w w' := by
  obtain ⟨A, cap, b, off, rfl, hl1, hl2, hl3, hm⟩ := Rd.sl_open hr
  simp only [List.length_map] at *
  have hl3' := Lib.hid hl3; have hm' := Lib.hid hm
  clear hr hl3 hm
  go_enter Tryz.func178, Tryz.ntmps178
  go_wp2_with fail
  go_loopw [8] (fun i wr => ∃ (k : Nat), k ≤ l.length ∧ i = .int .i64 k ∧ Hid (orI l = orI (l.drop k)) ∧ Ext w wr) (fun i _ => l.length - (RowKit.intOf i).toNat)
  case atStart => exact ⟨0, by omega, rfl, Lib.hid rfl, Ext.refl _⟩
  case round =>
    obtain ⟨k, hk, rfl, HH, hw⟩ := hrel
    by_cases hlt : k < l.length
    · obtain ⟨rfl, hSb⟩ := hl3'.out (by omega)
      have d0 := ints_at (hm'.out.ext (fun _ => hSb) hw) hlt
      have hSb' := Lib.hid hSb; clear hSb
      have hd := Lib.hid (show orI l = if l[k] ≠ 0 then l[k] else orI (l.drop (k + 1)) by rw [HH.out, List.drop_eq_getElem_cons hlt, orI])
      clear HH
      by_cases h0 : l[k] = 0
      · have hz : (l[k] != 0) = false := by simp [h0]
        have h0' := Lib.hid h0; clear h0
        go_wp2_with fail
        go_roundw
        case rel => exact ⟨k + 1, by omega, by go_num, Lib.hid (by rw [hd.out, if_neg (by rw [h0'.out]; simp)]), hw⟩
        case measure => simp [RowKit.intOf]; omega
      · have hz : (l[k] != 0) = true := by simp [h0]
        have h0' := Lib.hid h0; clear h0
        go_wp2_with fail
        go_ret
        exact ⟨ret_int (by rw [hd.out, if_pos h0'.out]), hw⟩
    · have hkl : k = l.length := by omega
      subst hkl
      go_wp2_with fail
      go_ret
      exact ⟨ret_int (by rw [HH.out]; simp [orI]), hw⟩
def cmpV (a b : Val) : Int := orI [compareInt a.k b.k, compareInt a.n b.n, compareBytes a.s.data.toList b.s.data.toList]
set_option maxHeartbeats 1000000 in
theorem compare_any (a b : Val) (w : World) : Calls Tryz.prog 143 #[a.v, b.v] w fun r w' => r = .returned (.int .i64 (cmpV a b)) ∧ Ext w w' := by
  obtain ⟨k, n, s⟩ := a
  obtain ⟨k2, n2, s2⟩ := b
  simp only [Val.v]
  go_enter Tryz.func143, Tryz.ntmps143
  go_wp2_with fail
  generalize hWe : World.alloc (World.alloc w _) _ = W
  have a0 : W.cell? ⟨w.heap.size, 0, none⟩ = some (.int .i64 k) := by rw [← hWe]; clear hWe; go_simp
  have a1 : W.cell? ⟨w.heap.size, 1, none⟩ = some (.int .i64 n) := by rw [← hWe]; clear hWe; go_simp
  have a2 : W.cell? ⟨w.heap.size, 2, none⟩ = some (.string s) := by rw [← hWe]; clear hWe; go_simp
  have a3 : W.cell? ⟨w.heap.size + 1, 0, none⟩ = some (.int .i64 k2) := by rw [← hWe]; clear hWe; go_simp
  have a4 : W.cell? ⟨w.heap.size + 1, 1, none⟩ = some (.int .i64 n2) := by rw [← hWe]; clear hWe; go_simp
  have a5 : W.cell? ⟨w.heap.size + 1, 2, none⟩ = some (.string s2) := by rw [← hWe]; clear hWe; go_simp
  have hw : Ext w W := by rw [← hWe]; exact (by repeat' first | exact Ext.refl _ | assumption | apply Ext.alloc | apply Ext.drew | apply Ext.drewN | (refine Ext.trans ?_ (by assumption)))
  clear hWe
  go_region_held3 (fun w' => w'.cell? ⟨w.heap.size, 0, none⟩ = some (.int .i64 k) ∧ w'.cell? ⟨w.heap.size, 1, none⟩ = some (.int .i64 n) ∧ w'.cell? ⟨w.heap.size, 2, none⟩ = some (.string s) ∧ w'.cell? ⟨w.heap.size + 1, 0, none⟩ = some (.int .i64 k2) ∧ w'.cell? ⟨w.heap.size + 1, 1, none⟩ = some (.int .i64 n2) ∧ w'.cell? ⟨w.heap.size + 1, 2, none⟩ = some (.string s2))
    (first
      | exact ⟨a0, a1, a2, a3, a4, a5⟩
      | go_keep
      | exact ⟨he5.at ((((Ext.refl _).alloc _).drew).at a0), he5.at ((((Ext.refl _).alloc _).drew).at a1), he5.at ((((Ext.refl _).alloc _).drew).at a2), he5.at ((((Ext.refl _).alloc _).drew).at a3), he5.at ((((Ext.refl _).alloc _).drew).at a4), he5.at ((((Ext.refl _).alloc _).drew).at a5)⟩)
    ((first
      | (go_at_call 179; refine (Tryz.cmp_Compare_int _ _ _).mono ?_; rintro r w4 ⟨rfl, rfl⟩)
      | (go_at_call 180; refine (Tryz.strings_Compare _ _ _).mono ?_; rintro r w4 ⟨rfl, rfl⟩)
      | (go_at_call 178; refine (or_any [compareInt k k2, compareInt n n2, compareBytes s.data.toList s2.data.toList] Any _ _ (Rd.ext (rd_new_ints (by simp) (by rfl) (by rfl) (by simp)) (Ext.refl _).drew)).mono ?_; rintro r w5 ⟨rfl, he5⟩)))
  all_goals
    go_wp2_with fail
    go_ret
    exact ⟨rfl, hw.trans ((((Ext.refl _).alloc _).drew).trans he5)⟩
end Go.Proofs.YtnkimlkoijfcpaaGreatDoor
