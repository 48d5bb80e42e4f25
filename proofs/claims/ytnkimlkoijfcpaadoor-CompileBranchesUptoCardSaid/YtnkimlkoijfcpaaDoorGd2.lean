/- Walks: types of expressions, as the program finds them: the small functions. -/
import Derived.Test.YtnkimlkoijfcpaaDoorRows
import Derived.Maps.AppendAt
import Derived.ChangeArms
import Derived.Lib.LaidU8
import Derived.Test.YtnkimlkoijfcpaaDoorShelf
import Derived.Deep.RegionHeld3
import Derived.Test.YtnkimlkoijfcpaaDoorGd1
set_option linter.unusedSimpArgs false
set_option linter.unusedVariables false
namespace Go.Proofs.YtnkimlkoijfcpaaDoor
open Go.RowKit Go.Lib
set_option maxHeartbeats 400000 in
theorem kind_any (n : Int) (w : World) : Calls Tryd.prog 60 #[.int .i64 n] w fun r w' => r = .returned (.bool (kindB n)) ∧ Ext w w' := by
  go_enter Tryd.func60, Tryd.ntmps60
  go_wp2_with fail
  all_goals
    go_ret
    exact ⟨qck (by first | rfl | (unfold kindB; simp; omega)), Ext.refl _⟩
set_option maxHeartbeats 400000 in
theorem wrongKind_any (n : Int) (w : World) : Calls Tryd.prog 59 #[.int .i64 n] w fun r w' => r = .returned (.bool (!kindB n)) ∧ Ext w w' := by
  go_enter Tryd.func59, Tryd.ntmps59
  go_wp2_with fail
  refine (kind_any _ _).mono ?_
  rintro r w1 ⟨rfl, he⟩
  go_wp2_with fail
  go_ret
  exact ⟨rfl, he⟩
set_option maxHeartbeats 400000 in
theorem levels_any (e : Ex) : ∀ (S : Nat → Prop) (cs : List Value) (w : World), Rd w S e.d cs → levels e ≤ 1000000 →
    Calls Tryd.prog 31 #[.agg cs.toArray] w fun r w' => r = .returned (.int .i64 (levels e)) ∧ Ext w w' := by
  induction e using Ex.ind with | h o m s l ih => ?_
  intro S cs w hr hbd
  obtain ⟨A, cap, b, off, rfl, hl1, hl2, hl3, hm⟩ := Ex.open hr
  simp only [Ex.args, Ex.op, Ex.n, Ex.s] at *
  rw [levels] at hbd
  have H := Lib.hid (show levels (.mk o m s l) = qv l 0 + 1 by rw [levels])
  have hl3' := Lib.hid hl3; have hm' := Lib.hid hm
  clear hr hl3 hm
  go_enter Tryd.func31, Tryd.ntmps31
  go_wp2_with fail
  go_loopw [3, 9] (fun x i wr => ∃ (k : Nat) (q : Int), k ≤ l.length ∧ i = .int .i64 k ∧ x = .int .i64 q ∧ 0 ≤ q ∧ q ≤ 1000000 ∧ Hid (qv l 0 = qv (l.drop k) q) ∧ Ext (w.alloc (.cells #[.int .i64 o, .int .i64 m, .string s, .slice A l.length cap] 25)) wr) (fun _ i _ => l.length - (RowKit.intOf i).toNat)
  case atStart => exact ⟨0, _, by omega, rfl, rfl, by omega, by omega, Lib.hid rfl, Ext.refl _⟩
  case round =>
    obtain ⟨k, q, hk, rfl, rfl, hq1, hq2, HH, hb⟩ := hrel
    have hw : Ext w wr := ((Ext.refl _).alloc _).trans hb
    by_cases hlt : k < l.length
    · obtain ⟨rfl, hSb⟩ := hl3'.out (by omega)
      obtain ⟨A1, cap1, b1, off1, c0, c1, c2, c3, hr', -⟩ := Ex.at (hm'.out.ext (fun _ => hSb) hw) hlt
      have hr2 := Lib.hid hr'
      have hSb' := Lib.hid hSb
      clear hr' hSb
      have hle := qdm l 0 l[k] (List.getElem_mem hlt)
      have hll := qdn l[k]
      go_wp2_with fail
      refine (ih l[k] (List.getElem_mem hlt) S _ _ (hr2.out.ext (by repeat' first | exact Ext.refl _ | assumption | apply Ext.alloc | apply Ext.drew | apply Ext.drewN | (refine Ext.trans ?_ (by assumption)))) (by omega)).mono ?_
      rintro r w1 ⟨rfl, he⟩
      have HH2 := Lib.hid (HH.out.trans (by rw [List.drop_eq_getElem_cons hlt, qv]))
      clear HH
      go_wp2_with fail
      go_roundw
      case rel => exact ⟨k + 1, max q (levels l[k]), by omega, by go_num, by first | rfl | go_num | (simp [Int.max_def]), by omega, by omega, HH2, (by repeat' first | exact Ext.refl _ | assumption | apply Ext.alloc | apply Ext.drew | apply Ext.drewN | (refine Ext.trans ?_ (by assumption)))⟩
      case measure => simp [RowKit.intOf]; omega
    · have hkl : k = l.length := by omega
      subst hkl
      have hq3 : qv l 0 = q := by rw [HH.out]; simp [qv]
      have hq4 := Lib.hid hq3
      have hq5 : q ≤ 999999 := by omega
      clear hq3
      go_wp2_with fail
      go_ret
      exact ⟨ret_int (by rw [H.out, hq4.out]), hw⟩
set_option maxHeartbeats 400000 in
theorem pick_any (l : List Int) (n : Int) (S : Nat → Prop) (v : Value) (w : World) (hr : Rd w S (.sl (l.map D.int)) [v]) :
    Calls Tryd.prog 80 #[v, .int .i64 n] w fun r w' => qcm (pickT l n) r ∧ Ext w w' := by
  obtain ⟨A, cap, b, off, rfl, hl1, hl2, hl3, hm⟩ := Rd.sl_open hr
  simp only [List.length_map] at *
  by_cases hn : n < 0 ∨ (l.length : Int) ≤ n
  · have H := Lib.hid (show pickT l n = none by
      unfold pickT; split
      · rfl
      · rw [List.getElem?_eq_none (by omega)])
    clear hr hm hl3
    rcases hn with hn | hn
    · go_enter Tryd.func80, Tryd.ntmps80
      go_wp2_with fail
      go_ret2
      exact ⟨by rw [H.out]; exact qbi, Ext.refl _⟩
    · by_cases h0 : n < 0
      all_goals
        go_enter Tryd.func80, Tryd.ntmps80
        go_wp2_with fail
        go_ret2
        exact ⟨by rw [H.out]; exact qbi, Ext.refl _⟩
  · obtain ⟨k, rfl⟩ := Int.eq_ofNat_of_zero_le (show 0 ≤ n by omega)
    have hlt : k < l.length := by omega
    obtain ⟨rfl, hSb⟩ := hl3 (by omega)
    have c0 := ints_at hm hlt
    have hn1 : ¬ l.length ≤ k := by omega
    have hn2 : ¬ (k : Int) < 0 := by omega
    have H := Lib.hid (show (if kindB l[k] then some l[k] else none) = pickT l (k : Int) by
      simp [pickT, List.getElem?_eq_getElem hlt, show ¬ ((k : Int) < 0) by omega])
    clear hm hSb hr hl3 hn
    have hc := kind_any l[k]
    cases hp : kindB l[k] with
    | true =>
      rw [hp] at hc H
      have hc' := Lib.hid hc; clear hc hp
      go_enter Tryd.func80, Tryd.ntmps80
      go_wp2_with fail
      refine (hc'.out _).mono ?_
      rintro r w1 ⟨rfl, he⟩
      have c0 := he.at c0
      go_wp2_with fail
      go_ret2
      exact ⟨qbl H.out, he⟩
    | false =>
      rw [hp] at hc H
      have hc' := Lib.hid hc; clear hc hp
      go_enter Tryd.func80, Tryd.ntmps80
      go_wp2_with fail
      refine (hc'.out _).mono ?_
      rintro r w1 ⟨rfl, he⟩
      go_wp2_with fail
      go_ret2
      exact ⟨qbl H.out, he⟩
set_option maxHeartbeats 400000 in
theorem other_any (t k : Int) (b : Nat) (w : World) (h : w.cell? ⟨b, 0, none⟩ = some (.int .i64 t)) :
    Calls Tryd.prog 82 #[.int .i64 k, .pointer (some ⟨b, 0, none⟩)] w fun r w' => r = .returned (.bool (k != t)) ∧ Ext w w' := by
  go_enter Tryd.func82, Tryd.ntmps82
  go_wp2_with fail
  go_ret
  exact ⟨rfl, Ext.refl _⟩
def allAre (ts : List Int) (t : Int) (n : Int) : Bool := decide ((ts.length : Int) = n) && !ts.any (· != t)
set_option maxHeartbeats 1000000 in
theorem all_any (ts : List Int) (t n : Int) (b : Nat) (S : Nat → Prop) (v : Value) (w : World) (h : w.cell? ⟨b, 0, none⟩ = some v) (hr : Rd w S (.sl (ts.map D.int)) [v]) :
    Calls Tryd.prog 81 #[.int .i64 t, .int .i64 n, .pointer (some ⟨b, 0, none⟩)] w fun r w' => r = .returned (.bool (allAre ts t n)) ∧ Ext w w' := by
  obtain ⟨A, cap, b1, off, rfl, hl1, hl2, hl3, hm⟩ := Rd.sl_open hr
  simp only [List.length_map] at *
  have hr' := Lib.hid hr
  clear hr hl3 hm
  have hcs := World.block_lt_of_cell? w _ h
  by_cases hn : (ts.length : Int) = n
  · have H := Lib.hid (show allAre ts t n = !ts.any (· != t) by unfold allAre; rw [decide_eq_true hn]; rfl)
    subst hn
    have hc : ∀ w', Ext (w.alloc (.cells #[.int .i64 t] 3)) w' → Calls Tryd.prog 61 #[.slice A ts.length cap, .func (.func 82) #[] #[.pointer (some ⟨w.heap.size, 0, none⟩)]] w' fun r w'' => r = .returned (.bool (ts.any (· != t))) ∧ Ext w' w'' := fun w' hw' =>
      containsFunc_any ts (· != t) _ (fun a w => by kernel_rfl) _ S _ w' ((hr'.out.ext ((Ext.refl _).alloc _)).ext hw') (fun x w'' hw'' => other_any t x w.heap.size w'' ((hw'.trans hw'').at (by go_simp)))
    have hc' := Lib.hid hc; clear hc
    go_enter Tryd.func81, Tryd.ntmps81
    go_wp2_with fail
    refine (hc'.out _ (Ext.refl _)).mono ?_
    rintro r w1 ⟨rfl, he⟩
    go_wp2_with fail
    go_ret
    exact ⟨qck (by rw [H.out]), (by repeat' first | exact Ext.refl _ | assumption | apply Ext.alloc | apply Ext.drew | apply Ext.drewN | (refine Ext.trans ?_ (by assumption)))⟩
  · have H := Lib.hid (show allAre ts t n = false by unfold allAre; rw [decide_eq_false hn]; rfl)
    have hn2 : ((ts.length : Int) == n) = false := by simp [hn]
    go_enter Tryd.func81, Tryd.ntmps81
    go_wp2_with fail
    go_ret
    exact ⟨qck (by rw [H.out]), (by repeat' first | exact Ext.refl _ | assumption | apply Ext.alloc | apply Ext.drew | apply Ext.drewN | (refine Ext.trans ?_ (by assumption)))⟩
end Go.Proofs.YtnkimlkoijfcpaaDoor

/- Replacing and inlining, on plain data. -/
namespace Go.Proofs.YtnkimlkoijfcpaaDoor
open Go.RowKit Go.Lib
def zeroE : Ex := .mk 0 0 ByteArray.empty []
mutual
def putP (op : Int) (L : List Ex) : Ex → Option Ex
  | .mk o n s l => if o = op then (if n < 0 then none else L[n.toNat]?) else match putPs op L l with
    | some l' => some (.mk o n s l')
    | none => none
def putPs (op : Int) (L : List Ex) : List Ex → Option (List Ex)
  | [] => some []
  | e :: l => match putP op L e with
    | some x => match putPs op L l with
      | some xs => some (x :: xs)
      | none => none
    | none => none
end
theorem putPs_snoc {op : Int} {L : List Ex} {e x : Ex} (hx : putP op L e = some x) : ∀ (l : List Ex) {ys : List Ex}, putPs op L l = some ys → putPs op L (l ++ [e]) = some (ys ++ [x])
  | [], ys, h => by rw [putPs] at h; cases h; simp only [List.nil_append, putPs, hx]
  | a :: l, ys, h => by
    rw [putPs] at h
    cases he : putP op L a with
    | none => rw [he] at h; cases h
    | some z =>
      rw [he] at h
      cases hl : putPs op L l with
      | none => rw [hl] at h; cases h
      | some xs =>
        rw [hl] at h; cases h
        rw [List.cons_append, putPs, he, putPs_snoc hx l hl]; rfl
theorem putPs_none {op : Int} {L : List Ex} : ∀ (l : List Ex) {e : Ex}, e ∈ l → putP op L e = none → putPs op L l = none
  | [], _, h, _ => by cases h
  | a :: l, e, h, hn => by
    rw [putPs]
    rcases List.mem_cons.1 h with rfl | h
    · rw [hn]
    · rw [putPs_none l h hn]
      cases putP op L a <;> rfl
theorem putPs_mem {op : Int} {L : List Ex} : ∀ (l : List Ex) {ys : List Ex}, putPs op L l = some ys → ∀ y ∈ ys, ∃ e ∈ l, putP op L e = some y
  | [], ys, h, y, hy => by rw [putPs] at h; cases h; cases hy
  | e :: l, ys, h, y, hy => by
    rw [putPs] at h
    cases he : putP op L e with
    | none => rw [he] at h; cases h
    | some x =>
      rw [he] at h
      cases hl : putPs op L l with
      | none => rw [hl] at h; cases h
      | some xs =>
        rw [hl] at h; cases h
        rcases List.mem_cons.1 hy with rfl | hy
        · exact ⟨e, by simp, he⟩
        · obtain ⟨e', h1, h2⟩ := putPs_mem l hl y hy
          exact ⟨e', by simp [h1], h2⟩
theorem qet (l : List Ex) (k : Nat) (h : k < l.length) : qu (l.take (k + 1)) = qu (l.take k) + parts l[k] := by
  induction l generalizing k with
  | nil => simp at h
  | cons e l ih =>
    cases k with
    | zero => simp [qu]
    | succ k => rw [List.take_succ_cons, List.take_succ_cons, qu, qu, ih k (by simpa using h)]; simp; omega
theorem qcy (l : List Ex) (k : Nat) : qu (l.take k) ≤ qu l := by
  induction l generalizing k with
  | nil => simp
  | cons e l ih =>
    cases k with
    | zero => simp [qu]
    | succ k => rw [List.take_succ_cons, qu, qu]; have := ih k; omega
def fitX (x : Ex) : Option Ex := if 1000 < parts x then none else some x
mutual
def inlE (bs : List (Option Ex)) : Ex → Option Ex
  | .mk o n s l => match inlL bs l with
    | none => none
    | some ys => if o = 22 ∧ 0 ≤ n ∧ n < bs.length then (match bs.getD n.toNat none with
        | none => none
        | some b => fitX ((putP 4 ys b).getD zeroE))
      else fitX (.mk o n s ys)
def inlL (bs : List (Option Ex)) : List Ex → Option (List Ex)
  | [] => some []
  | e :: l => match inlE bs e with
    | none => none
    | some x => match inlL bs l with
      | none => none
      | some xs => some (x :: xs)
end
def inlB : List (Option Ex) → List Fn → List (Option Ex)
  | bs, [] => bs
  | bs, f :: F => inlB (bs ++ [inlE bs f.body]) F
def qcd (F : List Fn) (e : Ex) : Option Ex := match inlE (inlB [] F) e with
  | some x => if 12 < levels x then none else some x
  | none => none
end Go.Proofs.YtnkimlkoijfcpaaDoor

/- A closed fact: the size of an int. -/
namespace Go.Proofs.YtnkimlkoijfcpaaDoor
open Go.RowKit Go.Lib
theorem Tryd.info3 : (Tryd.prog.info? 3).map (fun i => (i.zero, i.size, i.bytes)) = some (some (.int .i64 0), 1, 8) := by kernel_rfl
end Go.Proofs.YtnkimlkoijfcpaaDoor

/- Slices of trees that the call itself makes: appending an element whose memory is new. -/
namespace Go.Proofs.YtnkimlkoijfcpaaDoor
open Go.RowKit Go.Lib
def OwnE (w : World) (B : Nat) (e : TypeId) (size : Nat) (v : Value) (ds : List D) : Prop :=
  ∃ xs, w.ownsRow B e size v ds.length xs ∧ RdS w (fun b => B ≤ b ∧ b < w.heap.size ∧ some b ≠ v.ownBlock) ds xs
theorem OwnE.nil (w : World) (B : Nat) (e : TypeId) (size : Nat) : OwnE w B e size (.slice none 0 0) [] := ⟨[], World.ownsRow_nil _ _ _ _, by rw [RdS]⟩
theorem OwnE.ext {w w' : World} {B : Nat} {e : TypeId} {size : Nat} {v : Value} {ds : List D} (h : OwnE w B e size v ds) (he : Ext w w') : OwnE w' B e size v ds := by
  obtain ⟨xs, h1, h2⟩ := h
  exact ⟨xs, own_ext h1 he, RdS.keep (fun b hb _ => he.block b hb.2.1) (fun b hb => ⟨hb.1, Nat.lt_of_lt_of_le hb.2.1 he.size, hb.2.2⟩) ds xs h2⟩
theorem OwnE.set {w : World} {B : Nat} {e : TypeId} {size : Nat} {v : Value} {ds : List D} (h : OwnE w B e size v ds) {p : Addr} (hp : p.block < B) (u : Value) : OwnE (w.setCell p u) B e size v ds := by
  obtain ⟨xs, h1, h2⟩ := h
  have hb : ∀ b, B ≤ b → (w.setCell p u).heap[b]? = w.heap[b]? := fun b hb => by
    exact Below.heap_setCell w p u b (by omega)
  have hs : (w.setCell p u).heap.size = w.heap.size := by simp
  refine ⟨xs, ⟨h1.1, ?_⟩, RdS.keep (fun b hx _ => hb b hx.1) (fun b hx => by rw [hs]; exact hx) ds xs h2⟩
  rcases h1.2 with h3 | ⟨g, cap, cur, hv, hg, hh, r⟩
  · exact Or.inl h3
  · exact Or.inr ⟨g, cap, cur, hv, hg, (hb g hg).trans hh, r⟩
theorem OwnE.rd {w : World} {B : Nat} {e : TypeId} {size : Nat} {v : Value} {ds : List D} (h : OwnE w B e size v ds) : Rd w (fun b => B ≤ b ∧ b < w.heap.size) (.sl ds) [v] := by
  obtain ⟨xs, h1, h2⟩ := h
  exact own_rd h1 h2 (fun b hb => ⟨hb.1, hb.2.1⟩) (fun b hb => by have := h1.lt b hb; exact this)
theorem OwnE.own {w : World} {B : Nat} {e : TypeId} {size : Nat} {v : Value} {ds : List D} (h : OwnE w B e size v ds) : ∀ b, v.ownBlock = some b → B ≤ b ∧ b < w.heap.size := by
  obtain ⟨xs, h1, h2⟩ := h
  exact fun b hb => h1.lt b hb
theorem OwnE.ne {w : World} {B : Nat} {e : TypeId} {size : Nat} {v : Value} {ds : List D} (h : OwnE w B e size v ds) {b : Nat} (hb : b < B) : some b ≠ v.ownBlock := fun hx => by
  have := h.own b hx.symm; omega
theorem OwnE.form {w : World} {B : Nat} {e : TypeId} {size : Nat} {v : Value} {ds : List D} (h : OwnE w B e size v ds) {n : Nat} (hn : ds.length = n) : ∃ A cap, v = .slice A n cap ∧ n ≤ cap ∧ cap ≤ 9223372036854775807 := by
  subst hn
  obtain ⟨A, cap, b, off, h1, h2, h3, -⟩ := Rd.sl_open h.rd
  exact ⟨A, cap, h1, h2, h3⟩
end Go.Proofs.YtnkimlkoijfcpaaDoor

/- Regions that draw their order: reads (also late ones) and operations that stand alone, in any sequence; then a tail in one order. -/
namespace Go.Proofs.YtnkimlkoijfcpaaDoor
open Go.RowKit Go.Lib
section
variable {P : Program} {ops : Array Oper} {md : Region.Mode} {C : World → Prop} {Q : Exit → Act → World → Prop}
end
end Go.Proofs.YtnkimlkoijfcpaaDoor

/- Walks: the number of parts, of the reference. -/
namespace Go.Proofs.YtnkimlkoijfcpaaDoor
open Go.RowKit Go.Lib
set_option maxRecDepth 10000 in
set_option maxHeartbeats 2000000 in
theorem rparts_any (e : Ex) : ∀ (S : Nat → Prop) (cs : List Value) (w : World), Rd w S e.d cs → parts e ≤ 1000000 →
    Calls Tryd.prog 27 #[.agg cs.toArray] w fun r w' => r = .returned (.int .i64 (parts e)) ∧ Ext w w' := by
  induction e using Ex.ind with | h o n s l ih => ?_
  intro S cs w hr hpb
  obtain ⟨A, cap, b, off, rfl, hl1, hl2, hl3, hm⟩ := Ex.open hr
  have ih' := Lib.hid ih
  clear ih
  simp only [Ex.args, Ex.op, Ex.n, Ex.s] at hl1 hl2 hl3 hm ⊢
  rw [parts] at hpb
  have hll : l.length ≤ 1000000 := by have := qca l; omega
  have hl3' := Lib.hid hl3; have hm' := Lib.hid hm
  have H := Lib.hid (show parts (.mk o n s l) = qu l + 1 by rw [parts])
  clear hr hl3 hm
  go_enter Tryd.func27, Tryd.ntmps27
  go_wp2_with fail
  go_loopw [3, 4] (fun x i wr => ∃ (k q : Nat), k ≤ l.length ∧ i = .int .i64 k ∧ x = .int .i64 q ∧ q ≤ 1000000 ∧ Hid (q = qu (l.take k) + 1) ∧ Ext (w.alloc (.cells #[.int .i64 o, .int .i64 n, .string s, .slice A l.length cap] 25)) wr) (fun _ i _ => l.length - (RowKit.intOf i).toNat)
  case atStart => exact ⟨0, 1, by omega, rfl, rfl, by omega, Lib.hid (by simp [qu]), Ext.refl _⟩
  case round =>
    obtain ⟨k, q, hk, rfl, rfl, hq, HH, hb⟩ := hrel
    have e3 : wr.cell? ⟨w.heap.size, 3, none⟩ = some (.slice A l.length cap) := hb.at (by go_simp)
    have hw : Ext w wr := ((Ext.refl _).alloc _).trans hb
    by_cases hlt : k < l.length
    · obtain ⟨rfl, hSb⟩ := hl3'.out (by omega)
      obtain ⟨A1, cap1, b1, off1, c0, c1, c2, c3, hr', -⟩ := Ex.at (hm'.out.ext (fun _ => hSb) hw) hlt
      have hr2 := Lib.hid hr'
      have hSb' := Lib.hid hSb
      have hpk : parts l[k] ≤ 1000000 := by have := qbj l l[k] (List.getElem_mem hlt); omega
      have hqn : q + parts l[k] ≤ 1000000 := by
        have h1 := qet l k hlt; have h2 := qcy l (k + 1); have h3 := HH.out; omega
      have HH2 := Lib.hid (show q + parts l[k] = qu (l.take (k + 1)) + 1 by have h1 := qet l k hlt; have h3 := HH.out; omega)
      have hcall := Lib.hid (ih'.out l[k] (List.getElem_mem hlt) S _ wr hr' hpk)
      clear hr' hSb HH
      generalize parts l[k] = NP at *
      go_wp2_with fail
      refine (hcall.out).mono ?_
      rintro r w1 ⟨rfl, he⟩
      go_wp2_with fail
      go_roundw
      case rel => exact ⟨k + 1, q + NP, by omega, by go_num, by go_num, hqn, HH2, hb.trans he⟩
      case measure => simp [RowKit.intOf]; omega
    · have hkl : k = l.length := by omega
      subst hkl
      go_wp2_with fail
      go_ret
      exact ⟨ret_int (by rw [H.out]; have := HH.out; rw [List.take_length] at this; omega), hw⟩
end Go.Proofs.YtnkimlkoijfcpaaDoor

/- Layer 16 on plain data: equal expressions. -/
namespace Go.Proofs.YtnkimlkoijfcpaaDoor
open Go.RowKit Go.Lib
mutual
def sameB : Ex → Ex → Bool
  | .mk o n s l, .mk o2 n2 s2 l2 => decide (o = o2) && (decide (n = n2) && (decide (s.toList = s2.toList) && qcq l l2))
def qcq : List Ex → List Ex → Bool
  | [], [] => true
  | e :: l, e2 :: l2 => sameB e e2 && qcq l l2
  | _, _ => false
end
mutual
theorem sameB_self : ∀ e : Ex, sameB e e = true
  | .mk o n s l => by rw [sameB, sameBs_self l]; simp
theorem sameBs_self : ∀ l : List Ex, qcq l l = true
  | [] => by rw [qcq]
  | e :: l => by rw [qcq, sameB_self e, sameBs_self l]; rfl
end
theorem sameBs_len : ∀ (l l2 : List Ex), l.length ≠ l2.length → qcq l l2 = false
  | [], [], h => absurd rfl h
  | [], _ :: _, _ => by rw [qcq]; all_goals simp
  | _ :: _, [], _ => by rw [qcq]; all_goals simp
  | e :: l, e2 :: l2, h => by rw [qcq, sameBs_len l l2 (by simpa using h)]; simp
end Go.Proofs.YtnkimlkoijfcpaaDoor

/- From the statement's readings (DataW.trod) to trees of plain data (Rd): ints, bools, strings, structs, slices. -/
namespace Go.Proofs.YtnkimlkoijfcpaaDoor
open Go.RowKit Go.Lib
theorem qbg.of_get {w : World} {b : Nat} : ∀ (cs : List Value) (off : Nat), (∀ i v, cs[i]? = some v → w.cell? ⟨b, off + i, none⟩ = some v) → qbg w b off cs
  | [], _, _ => trivial
  | v :: cs, off, h => ⟨h 0 v rfl, qbg.of_get cs (off + 1) fun i u hi => by rw [Nat.add_assoc, Nat.add_comm 1 i]; exact h (i + 1) u (by simpa using hi)⟩
theorem mapM_get {α β : Type} {f : α → Option β} : ∀ (l : List α) (ys : List β), l.mapM f = some ys → ∀ i : Nat, (l[i]?).bind f = ys[i]?
  | [], ys, h, i => by simp at h; subst h; simp
  | a :: l, ys, h, i => by
    rw [List.mapM_cons] at h
    cases hf : f a with
    | none => rw [hf] at h; simp at h
    | some b =>
      rw [hf] at h
      cases hl : l.mapM f with
      | none => rw [hl] at h; simp at h
      | some zs =>
        rw [hl] at h
        simp at h
        subst h
        cases i with
        | zero => simpa using hf
        | succ i => simpa using mapM_get l zs hl i
theorem mapM_len {α β : Type} {f : α → Option β} : ∀ (l : List α) (ys : List β), l.mapM f = some ys → ys.length = l.length
  | [], ys, h => by simp at h; subst h; rfl
  | a :: l, ys, h => by
    rw [List.mapM_cons] at h
    cases hf : f a with
    | none => rw [hf] at h; simp at h
    | some b =>
      rw [hf] at h
      cases hl : l.mapM f with
      | none => rw [hl] at h; simp at h
      | some zs =>
        rw [hl] at h
        simp at h
        subst h
        simp [mapM_len l zs hl]
theorem cells_open {w : World} {base : Nat} {a : Addr} {n : Nat} {cs : List Value} (h : w.cells? base a n = some cs) (hn : 0 < n) : a.spot = none ∧ qbg w a.block a.off cs := by
  unfold World.cells? at h
  split at h
  · have hg := mapM_get _ _ h
    obtain ⟨b, o, sp⟩ := a
    have h0 := hg 0
    rw [List.getElem?_range (by omega)] at h0
    have hlen : cs.length = n := by
      have := mapM_len _ _ h
      simpa using this
    have h0' : cs[0]? = some (cs[0]'(by omega)) := List.getElem?_eq_getElem (by omega)
    rw [h0'] at h0
    have hs : sp = none := cell_spot (w := w) (b := b) (o := o) (v := cs[0]'(by omega)) (by simpa [Addr.add] using h0)
    subst hs
    refine ⟨rfl, qbg.of_get _ _ fun i v hi => ?_⟩
    have hi' : i < n := by
      have := (List.getElem?_eq_some_iff.1 hi).1; omega
    have := hg i
    rw [List.getElem?_range hi', hi] at this
    cases i with
    | zero => simpa [Addr.add] using this
    | succ i => simpa [Addr.add] using this
  · cases h
theorem RdM.of_get {w : World} {S : Nat → Prop} {sz : Nat} : ∀ (l : List D) (b off : Nat), (∀ d ∈ l, d.width = sz) → (∀ i (h : i < l.length), ∃ cs, qbg w b (off + i * sz) cs ∧ Rd w S l[i] cs) → RdM w S l b off
  | [], _, _, _, _ => by rw [RdM]; trivial
  | d :: l, b, off, hw, h => by
    rw [RdM]
    refine ⟨?_, RdM.of_get l b _ (fun x hx => hw x (by simp [hx])) fun i hi => ?_⟩
    · obtain ⟨cs, h1, h2⟩ := h 0 (by simp)
      exact ⟨cs, by simpa using h1, by simpa using h2⟩
    have := h (i + 1) (by simpa using hi)
    rw [hw d (by simp)]
    rw [Nat.succ_mul] at this
    rw [show off + sz + i * sz = off + (i * sz + sz) by omega]
    simpa using this
section
variable {H : Type} {enc : TypeId × Value → H} {P : Program} {w : World} {sp : Nat → Bool} {hd : Bool}
def Trods (enc : TypeId × Value → H) (P : Program) (w : World) (sp : Nat → Bool) (hd : Bool) (t : TypeId) {α : Type} (f : α → D) (N : Nat) : Prop :=
  ∀ n cs x, n < N → DataW.trod enc P w 0 sp hd n t cs = some x → ∃ a, Rd w Any (f a) cs
theorem trods_int {t : TypeId} (ht : P.underlying t = some (.int .i64)) (N : Nat) : Trods enc P w sp hd t D.int N := by
  intro n cs x _ h
  obtain ⟨m, rfl, -, -⟩ := DataW.trod_int ht h
  exact ⟨m, by rw [Rd]⟩
theorem trods_str {t : TypeId} (ht : P.underlying t = some .string) (N : Nat) : Trods enc P w sp hd t D.str N := by
  intro n cs x _ h
  obtain ⟨m, rfl, -, -⟩ := DataW.trod_string ht h
  exact ⟨m, by rw [Rd]⟩
theorem trods_sl {t e : TypeId} {α : Type} {f : α → D} {sz N : Nat} (ht : P.underlying t = some (.slice e)) (hc : P.cellsOf e = sz) (hsz : 0 < sz) (hw : ∀ x, (f x).width = sz) (h : Trods enc P w sp hd e f N) :
    Trods enc P w sp hd t (fun l : List α => .sl (l.map f)) (N + 1) := by
  intro n cs x hn hx
  rcases DataW.trod_slice ht hx with ⟨rfl, -⟩ | ⟨a, len, cap, elems, rest, m, rfl, rfl, -, hb, hl, hm, hlen, hel, -, -⟩
  · exact ⟨[], Rd.nil none (by omega)⟩
  · have hmax : cap ≤ 9223372036854775807 := by unfold maxLen at hm; omega
    have hget : ∀ i, i < len → ∃ cs' y, w.cells? 0 (a.add (i * sz)) sz = some cs' ∧ DataW.trod enc P w 0 sp hd m e cs' = some y := by
      intro i hi
      have := hel i hi
      rw [hc, List.getElem?_eq_getElem (by omega)] at this
      obtain ⟨cs', h1, h2⟩ := Option.bind_eq_some_iff.1 this
      exact ⟨cs', _, h1, h2⟩
    have hget2 : ∀ i, i < len → ∃ (z : α) (cs' : List Value), w.cells? 0 (a.add (i * sz)) sz = some cs' ∧ Rd w Any (f z) cs' := by
      intro i hi
      obtain ⟨cs', y, h1, h2⟩ := hget i hi
      obtain ⟨z, hz⟩ := h m cs' y (by omega) h2
      exact ⟨z, cs', h1, hz⟩
    by_cases h0 : len = 0
    · subst h0; exact ⟨[], Rd.nil _ hmax⟩
    have hsp : a.spot = none := by
      obtain ⟨z, cs', h1, -⟩ := hget2 0 (by omega)
      have := (cells_open h1 hsz).1
      simpa [Addr.add] using this
    obtain ⟨b, off, spt⟩ := a
    subst hsp
    have hg3 : ∀ i, ∃ (z : α), i < len → ∃ cs', qbg w b (off + i * sz) cs' ∧ Rd w Any (f z) cs' := by
      obtain ⟨z0, -⟩ := hget2 0 (by omega)
      intro i
      by_cases hi : i < len
      · obtain ⟨z, cs', h1, h2⟩ := hget2 i hi
        refine ⟨z, fun _ => ⟨cs', ?_, h2⟩⟩
        have := (cells_open h1 hsz).2
        by_cases hz : i * sz = 0
        · rw [hz] at this ⊢; simpa [Addr.add] using this
        · simpa [Addr.add, hz] using this
      · exact ⟨z0, fun h => absurd h hi⟩
    let g : Nat → α := fun i => Classical.choose (hg3 i)
    have hgs : ∀ i, i < len → ∃ cs', qbg w b (off + i * sz) cs' ∧ Rd w Any (f (g i)) cs' := fun i => Classical.choose_spec (hg3 i)
    refine ⟨(List.range len).map g, Rd.sl_mk (b := b) (off := off) (by simp) (by simpa using hl) hmax (fun _ => ⟨rfl, trivial⟩) (RdM.of_get _ _ _ (sz := sz) ?_ ?_)⟩
    · intro d hd
      obtain ⟨x, -, rfl⟩ := List.mem_map.1 hd
      exact hw x
    · intro i hi
      have hi' : i < len := by simpa using hi
      have := hgs i hi'
      simpa using this
theorem rdS_cut {S : Nat → Prop} {d : D} {l : List D} {cs : List Value} {o k : Nat} (h1 : Rd w S d ((cs.drop o).take k)) (h2 : RdS w S l (cs.drop (o + k))) : RdS w S (d :: l) (cs.drop o) := by
  rw [RdS]
  exact ⟨_, _, by rw [← List.drop_drop]; exact (List.take_append_drop k _).symm, h1, h2⟩
theorem rdS_end {S : Nat → Prop} {cs : List Value} {o : Nat} (h : cs.length ≤ o) : RdS w S [] (cs.drop o) := by
  rw [RdS]; exact List.drop_eq_nil_of_le h
theorem rd_st {S : Nat → Prop} {l : List D} {cs : List Value} (h : RdS w S l (cs.drop 0)) : Rd w S (.st l) cs := by
  rw [Rd]; simpa using h
theorem qcw {fs : Array Field} {n : Nat} {cs : List Value} {xs : List (DataW H × List MemPlace)} (i : Nat) (T : TypeId) (o k : Nat) (hlen : xs.length = fs.size)
    (hf : ∀ (i : Nat) (f : Field), fs[i]? = some f → DataW.trod enc P w 0 sp hd n f.type ((cs.drop f.offset).take (P.cellsOf f.type)) = xs[i]?)
    (hi : ∃ f : Field, fs[i]? = some f ∧ f.type = T ∧ f.offset = o) (hk : P.cellsOf T = k) :
    ∃ y, DataW.trod enc P w 0 sp hd n T ((cs.drop o).take k) = some y := by
  obtain ⟨f, hi, rfl, rfl⟩ := hi
  subst hk
  have hlt : i < fs.size := (Array.getElem?_eq_some_iff.1 hi).1
  have := hf i f hi
  rw [List.getElem?_eq_getElem (by omega)] at this
  exact ⟨_, this⟩
end
end Go.Proofs.YtnkimlkoijfcpaaDoor

/- Facts of tailT for the walks. -/
namespace Go.Proofs.YtnkimlkoijfcpaaDoor
open Go.RowKit Go.Lib
theorem size_zero (s : ByteArray) : s.size = 0 ↔ s.toList = [] := by
  have h : s.size = s.data.toList.length := by rw [Array.length_toList]; rfl
  have e : s.toList = s.data.toList := ByteArray.toList_eq s
  rw [e, h]
  exact List.length_eq_zero_iff
theorem tail_text {F : List Fn} {c p : List Int} {op n : Int} {s : ByteArray} {ts : List Int} (h : ¬ s.toList = []) (h1 : ¬ op = 1) : tailT F c p op n s ts = none := by
  unfold tailT; rw [if_pos ⟨by rw [ne_eq, size_zero]; exact h, h1⟩]
theorem tail_leaf {F : List Fn} {c p : List Int} {op n : Int} {s : ByteArray} (h : s.toList = [] ∨ op = 1) (h22 : ¬ op = 22) : tailT F c p op n s [] = leafT c p op n s := by
  unfold tailT; rw [if_neg (by rw [ne_eq, size_zero]; rintro ⟨a, b⟩; exact h.elim a b), if_neg h22, if_pos rfl]
theorem qel {F : List Fn} {c p : List Int} {n : Int} {s : ByteArray} {ts : List Int} (h : s.toList = []) : tailT F c p 22 n s ts = callT F n ts := by
  unfold tailT; rw [if_neg (by rw [ne_eq, size_zero]; rintro ⟨a, b⟩; exact a h), if_pos rfl]
end Go.Proofs.YtnkimlkoijfcpaaDoor

/- Walk: right values. -/
namespace Go.Proofs.YtnkimlkoijfcpaaDoor
open Go.RowKit Go.Lib
def okV (v : Val) : Bool :=
  if v.k = 0 then decide (v.s.toList = [])
  else if v.k = 1 then decide (v.n = 0) && decide ((v.s.size : Int) ≤ 200)
  else decide (v.k = 2) && (decide (v.n = 0) || decide (v.n = 1)) && decide (v.s.toList = [])
end Go.Proofs.YtnkimlkoijfcpaaDoor

/- A literal slice: a new block read as a list. -/
namespace Go.Proofs.YtnkimlkoijfcpaaDoor
open Go.RowKit Go.Lib
theorem rd_new {X : World} {S : Nat → Prop} {l : List D} {cs : Array Value} {t : TypeId} {g n c : Nat} (hg : g = X.heap.size) (hn : n = l.length) (hr : RdS (X.alloc (.cells cs t)) S l cs.toList) (hS : S g) (hc : l.length ≤ c) (hc2 : c ≤ 9223372036854775807) :
    Rd (X.alloc (.cells cs t)) S (.sl l) [.slice (some ⟨g, 0, none⟩) n c] := by
  subst hg
  refine Rd.sl_mk (b := X.heap.size) (off := 0) hn hc hc2 (fun _ => ⟨rfl, hS⟩) (rdM_of l cs.toList 0 hr ?_)
  intro j u hu
  have := cells_new X cs t j u hu
  have e2 : ((⟨X.heap.size, 0, none⟩ : Addr).add j) = ⟨X.heap.size, 0 + j, none⟩ := by
    unfold Addr.add; split
    · rename_i h; subst h; rfl
    · rfl
  rwa [e2] at this
theorem rd_new_ints {X : World} {l : List Int} {cs : Array Value} {t : TypeId} {g n : Nat} (hg : g = X.heap.size) (hn : n = l.length) (h : cs.toList = l.map (Value.int .i64)) (hc2 : l.length ≤ 9223372036854775807) :
    Rd (X.alloc (.cells cs t)) Any (.sl (l.map D.int)) [.slice (some ⟨g, 0, none⟩) n n] :=
  rd_new hg (by simpa using hn) (by rw [h]; exact rdS_ints _ _ l) trivial (by simp; omega) (by omega)
end Go.Proofs.YtnkimlkoijfcpaaDoor

/- Walks: operations on values. -/
namespace Go.Proofs.YtnkimlkoijfcpaaDoor
open Go.RowKit Go.Lib
set_option maxHeartbeats 400000 in
theorem qbv (n : Int) (w : World) : Calls Tryd.prog 42 #[.int .i64 n] w fun r w' => r = .returned (numV n).v ∧ Ext w w' := by
  go_enter Tryd.func42, Tryd.ntmps42
  go_wp2_with fail
  exact bodyPost_ret (v := .agg #[.int .i64 0, .int .i64 n, .string ByteArray.empty]) (by simp [results, Tryd.results42, go_sem]; rfl) rfl ⟨rfl, (by repeat' first | exact Ext.refl _ | assumption | apply Ext.alloc | apply Ext.drew | apply Ext.drewN | (refine Ext.trans ?_ (by assumption)))⟩
set_option maxHeartbeats 400000 in
theorem qdd (b : Bool) (w : World) : Calls Tryd.prog 43 #[.bool b] w fun r w' => r = .returned (boolV b).v ∧ Ext w w' := by
  cases b
  · go_enter Tryd.func43, Tryd.ntmps43
    go_wp2_with fail
    exact bodyPost_ret (v := .agg #[.int .i64 2, .int .i64 0, .string ByteArray.empty]) (by simp [results, Tryd.results43, go_sem]; rfl) rfl ⟨rfl, (by repeat' first | exact Ext.refl _ | assumption | apply Ext.alloc | apply Ext.drew | apply Ext.drewN | (refine Ext.trans ?_ (by assumption)))⟩
  · go_enter Tryd.func43, Tryd.ntmps43
    go_wp2_with fail
    exact bodyPost_ret (v := .agg #[.int .i64 2, .int .i64 1, .string ByteArray.empty]) (by simp [results, Tryd.results43, go_sem]; rfl) rfl ⟨rfl, (by repeat' first | exact Ext.refl _ | assumption | apply Ext.alloc | apply Ext.drew | apply Ext.drewN | (refine Ext.trans ?_ (by assumption)))⟩
def orI : List Int → Int
  | [] => 0
  | x :: l => if x ≠ 0 then x else orI l
set_option maxHeartbeats 1000000 in
theorem or_any (l : List Int) (S : Nat → Prop) (v : Value) (w : World) (hr : Rd w S (.sl (l.map D.int)) [v]) :
    Calls Tryd.prog 77 #[v] w fun r w' => r = .returned (.int .i64 (orI l)) ∧ Ext w w' := by
  obtain ⟨A, cap, b, off, rfl, hl1, hl2, hl3, hm⟩ := Rd.sl_open hr
  simp only [List.length_map] at *
  have hl3' := Lib.hid hl3; have hm' := Lib.hid hm
  clear hr hl3 hm
  go_enter Tryd.func77, Tryd.ntmps77
  go_wp2_with fail
  go_loopw [8] (fun i wr => ∃ (k : Nat), k ≤ l.length ∧ i = .int .i64 k ∧ Hid (orI l = orI (l.drop k)) ∧ Ext w wr) (fun i _ => l.length - (RowKit.intOf i).toNat)
  case atStart => exact ⟨0, by omega, rfl, Lib.hid rfl, Ext.refl _⟩
  case round =>
    obtain ⟨k, hk, rfl, HH, hw⟩ := hrel
    by_cases hlt : k < l.length
    · obtain ⟨rfl, hSb⟩ := hl3'.out (by omega)
      have d0 := ints_at (hm'.out.ext (fun _ => hSb) hw) hlt
      have hSb' := Lib.hid hSb; clear hSb
      have hd := Lib.hid (show orI l = if l[k] ≠ 0 then l[k] else orI (l.drop (k + 1)) by rw [HH.out, List.drop_eq_getElem_cons hlt, orI])
      clear HH
      by_cases h0 : l[k] = 0
      · have hz : (l[k] != 0) = false := by simp [h0]
        have h0' := Lib.hid h0; clear h0
        go_wp2_with fail
        go_roundw
        case rel => exact ⟨k + 1, by omega, by go_num, Lib.hid (by rw [hd.out, if_neg (by rw [h0'.out]; simp)]), hw⟩
        case measure => simp [RowKit.intOf]; omega
      · have hz : (l[k] != 0) = true := by simp [h0]
        have h0' := Lib.hid h0; clear h0
        go_wp2_with fail
        go_ret
        exact ⟨ret_int (by rw [hd.out, if_pos h0'.out]), hw⟩
    · have hkl : k = l.length := by omega
      subst hkl
      go_wp2_with fail
      go_ret
      exact ⟨ret_int (by rw [HH.out]; simp [orI]), hw⟩
def cmpV (a b : Val) : Int := orI [compareInt a.k b.k, compareInt a.n b.n, compareBytes a.s.data.toList b.s.data.toList]
set_option maxHeartbeats 1000000 in
theorem compare_any (a b : Val) (w : World) : Calls Tryd.prog 70 #[a.v, b.v] w fun r w' => r = .returned (.int .i64 (cmpV a b)) ∧ Ext w w' := by
  obtain ⟨k, n, s⟩ := a
  obtain ⟨k2, n2, s2⟩ := b
  simp only [Val.v]
  go_enter Tryd.func70, Tryd.ntmps70
  go_wp2_with fail
  generalize hWe : World.alloc (World.alloc w _) _ = W
  have a0 : W.cell? ⟨w.heap.size, 0, none⟩ = some (.int .i64 k) := by rw [← hWe]; clear hWe; go_simp
  have a1 : W.cell? ⟨w.heap.size, 1, none⟩ = some (.int .i64 n) := by rw [← hWe]; clear hWe; go_simp
  have a2 : W.cell? ⟨w.heap.size, 2, none⟩ = some (.string s) := by rw [← hWe]; clear hWe; go_simp
  have a3 : W.cell? ⟨w.heap.size + 1, 0, none⟩ = some (.int .i64 k2) := by rw [← hWe]; clear hWe; go_simp
  have a4 : W.cell? ⟨w.heap.size + 1, 1, none⟩ = some (.int .i64 n2) := by rw [← hWe]; clear hWe; go_simp
  have a5 : W.cell? ⟨w.heap.size + 1, 2, none⟩ = some (.string s2) := by rw [← hWe]; clear hWe; go_simp
  have hw : Ext w W := by rw [← hWe]; exact (by repeat' first | exact Ext.refl _ | assumption | apply Ext.alloc | apply Ext.drew | apply Ext.drewN | (refine Ext.trans ?_ (by assumption)))
  clear hWe
  go_region_held3 (fun w' => w'.cell? ⟨w.heap.size, 0, none⟩ = some (.int .i64 k) ∧ w'.cell? ⟨w.heap.size, 1, none⟩ = some (.int .i64 n) ∧ w'.cell? ⟨w.heap.size, 2, none⟩ = some (.string s) ∧ w'.cell? ⟨w.heap.size + 1, 0, none⟩ = some (.int .i64 k2) ∧ w'.cell? ⟨w.heap.size + 1, 1, none⟩ = some (.int .i64 n2) ∧ w'.cell? ⟨w.heap.size + 1, 2, none⟩ = some (.string s2))
    (first
      | exact ⟨a0, a1, a2, a3, a4, a5⟩
      | go_keep
      | exact ⟨he5.at ((((Ext.refl _).alloc _).drew).at a0), he5.at ((((Ext.refl _).alloc _).drew).at a1), he5.at ((((Ext.refl _).alloc _).drew).at a2), he5.at ((((Ext.refl _).alloc _).drew).at a3), he5.at ((((Ext.refl _).alloc _).drew).at a4), he5.at ((((Ext.refl _).alloc _).drew).at a5)⟩)
    ((first
      | (go_at_call 78; refine (Tryd.cmp_Compare_int _ _ _).mono ?_; rintro r w4 ⟨rfl, rfl⟩)
      | (go_at_call 79; refine (Tryd.strings_Compare _ _ _).mono ?_; rintro r w4 ⟨rfl, rfl⟩)
      | (go_at_call 77; refine (or_any [compareInt k k2, compareInt n n2, compareBytes s.data.toList s2.data.toList] Any _ _ (Rd.ext (rd_new_ints (by simp) (by rfl) (by rfl) (by simp)) (Ext.refl _).drew)).mono ?_; rintro r w5 ⟨rfl, he5⟩)))
  all_goals
    go_wp2_with fail
    go_ret
    exact ⟨rfl, hw.trans ((((Ext.refl _).alloc _).drew).trans he5)⟩
end Go.Proofs.YtnkimlkoijfcpaaDoor

/- Walks: the operations on pairs of values. (written by gen_arith.py) -/
namespace Go.Proofs.YtnkimlkoijfcpaaDoor
open Go.RowKit Go.Lib
def pairV (a b : Val) : Value := .agg #[.int .i64 a.k, .int .i64 a.n, .string a.s, .int .i64 b.k, .int .i64 b.n, .string b.s]
theorem qs {w w1 : World} (hw : Ext w w1) (B : Nat) (hB : w.heap.size ≤ B) (x y z : Value) : Ext w (((w1.setCell ⟨B, 0, none⟩ x).setCell ⟨B, 1, none⟩ y).setCell ⟨B, 2, none⟩ z) :=
  ((hw.setCell hB x).setCell hB y).setCell hB z
def divI (a b : Int) : Int := if b = 0 then 0 else wrap64 (a.tdiv b)
def modI (a b : Int) : Int := if b = 0 then 0 else a.tmod b
set_option maxHeartbeats 1000000 in
theorem add_any (a b : Val) (w : World) : Calls Tryd.prog 44 #[pairV a b] w fun r w' => r = .returned (numV (wrap64 (a.n + b.n))).v ∧ Ext w w' := by
  simp only [pairV]
  go_enter Tryd.func44, Tryd.ntmps44
  go_wp2_with fail
  refine (qbv _ _).mono ?_
  rintro r w1 ⟨rfl, he⟩
  have f0 : w1.cell? ⟨w.heap.size + 1, 0, none⟩ = some (.int .i64 0) := he.at (by go_simp)
  have f1 : w1.cell? ⟨w.heap.size + 1, 1, none⟩ = some (.int .i64 0) := he.at (by go_simp)
  have f2 : w1.cell? ⟨w.heap.size + 1, 2, none⟩ = some (.string ByteArray.empty) := he.at (by go_simp; rfl)
  have z0 : w1.frozen? ⟨w.heap.size + 1, 0, none⟩ = false := (he.frozens _ _ (by go_simp)).trans (by go_simp)
  have z1 : w1.frozen? ⟨w.heap.size + 1, 1, none⟩ = false := (he.frozens _ _ (by go_simp)).trans (by go_simp)
  have z2 : w1.frozen? ⟨w.heap.size + 1, 2, none⟩ = false := (he.frozens _ _ (by go_simp)).trans (by go_simp)
  have hw : Ext w w1 := ((Ext.refl w).alloc _ |>.alloc _).trans he
  clear he
  simp only [numV, Val.v]
  go_wp2_with fail
  exact bodyPost_ret (v := .agg #[.int .i64 0, .int .i64 (wrap64 (a.n + b.n)), .string ByteArray.empty]) (by simp [results, Tryd.results44, go_sem, f0, f1, f2]; done) rfl ⟨rfl, qs hw _ (by omega) _ _ _⟩
set_option maxHeartbeats 1000000 in
theorem sub_any (a b : Val) (w : World) : Calls Tryd.prog 45 #[pairV a b] w fun r w' => r = .returned (numV (wrap64 (a.n - b.n))).v ∧ Ext w w' := by
  simp only [pairV]
  go_enter Tryd.func45, Tryd.ntmps45
  go_wp2_with fail
  refine (qbv _ _).mono ?_
  rintro r w1 ⟨rfl, he⟩
  have f0 : w1.cell? ⟨w.heap.size + 1, 0, none⟩ = some (.int .i64 0) := he.at (by go_simp)
  have f1 : w1.cell? ⟨w.heap.size + 1, 1, none⟩ = some (.int .i64 0) := he.at (by go_simp)
  have f2 : w1.cell? ⟨w.heap.size + 1, 2, none⟩ = some (.string ByteArray.empty) := he.at (by go_simp; rfl)
  have z0 : w1.frozen? ⟨w.heap.size + 1, 0, none⟩ = false := (he.frozens _ _ (by go_simp)).trans (by go_simp)
  have z1 : w1.frozen? ⟨w.heap.size + 1, 1, none⟩ = false := (he.frozens _ _ (by go_simp)).trans (by go_simp)
  have z2 : w1.frozen? ⟨w.heap.size + 1, 2, none⟩ = false := (he.frozens _ _ (by go_simp)).trans (by go_simp)
  have hw : Ext w w1 := ((Ext.refl w).alloc _ |>.alloc _).trans he
  clear he
  simp only [numV, Val.v]
  go_wp2_with fail
  exact bodyPost_ret (v := .agg #[.int .i64 0, .int .i64 (wrap64 (a.n - b.n)), .string ByteArray.empty]) (by simp [results, Tryd.results45, go_sem, f0, f1, f2]; done) rfl ⟨rfl, qs hw _ (by omega) _ _ _⟩
set_option maxHeartbeats 1000000 in
theorem mul_any (a b : Val) (w : World) : Calls Tryd.prog 46 #[pairV a b] w fun r w' => r = .returned (numV (wrap64 (a.n * b.n))).v ∧ Ext w w' := by
  simp only [pairV]
  go_enter Tryd.func46, Tryd.ntmps46
  go_wp2_with fail
  refine (qbv _ _).mono ?_
  rintro r w1 ⟨rfl, he⟩
  have f0 : w1.cell? ⟨w.heap.size + 1, 0, none⟩ = some (.int .i64 0) := he.at (by go_simp)
  have f1 : w1.cell? ⟨w.heap.size + 1, 1, none⟩ = some (.int .i64 0) := he.at (by go_simp)
  have f2 : w1.cell? ⟨w.heap.size + 1, 2, none⟩ = some (.string ByteArray.empty) := he.at (by go_simp; rfl)
  have z0 : w1.frozen? ⟨w.heap.size + 1, 0, none⟩ = false := (he.frozens _ _ (by go_simp)).trans (by go_simp)
  have z1 : w1.frozen? ⟨w.heap.size + 1, 1, none⟩ = false := (he.frozens _ _ (by go_simp)).trans (by go_simp)
  have z2 : w1.frozen? ⟨w.heap.size + 1, 2, none⟩ = false := (he.frozens _ _ (by go_simp)).trans (by go_simp)
  have hw : Ext w w1 := ((Ext.refl w).alloc _ |>.alloc _).trans he
  clear he
  simp only [numV, Val.v]
  go_wp2_with fail
  exact bodyPost_ret (v := .agg #[.int .i64 0, .int .i64 (wrap64 (a.n * b.n)), .string ByteArray.empty]) (by simp [results, Tryd.results46, go_sem, f0, f1, f2]; done) rfl ⟨rfl, qs hw _ (by omega) _ _ _⟩
set_option maxHeartbeats 1000000 in
theorem div_any (a b : Val) (w : World) : Calls Tryd.prog 47 #[pairV a b] w fun r w' => r = .returned (numV (divI a.n b.n)).v ∧ Ext w w' := by
  simp only [pairV]
  by_cases hb : b.n = 0
  · have hd : (b.n == 0) = true := by simp [hb]
    have hr : divI a.n b.n = 0 := by simp [divI, hb]
    rw [hr]
    clear hb hr
    go_enter Tryd.func47, Tryd.ntmps47
    go_wp2_with fail
    refine (qbv _ _).mono ?_
    rintro r w1 ⟨rfl, he⟩
    have f0 : w1.cell? ⟨w.heap.size + 1, 0, none⟩ = some (.int .i64 0) := he.at (by go_simp)
    have f1 : w1.cell? ⟨w.heap.size + 1, 1, none⟩ = some (.int .i64 0) := he.at (by go_simp)
    have f2 : w1.cell? ⟨w.heap.size + 1, 2, none⟩ = some (.string ByteArray.empty) := he.at (by go_simp; rfl)
    have z0 : w1.frozen? ⟨w.heap.size + 1, 0, none⟩ = false := (he.frozens _ _ (by go_simp)).trans (by go_simp)
    have z1 : w1.frozen? ⟨w.heap.size + 1, 1, none⟩ = false := (he.frozens _ _ (by go_simp)).trans (by go_simp)
    have z2 : w1.frozen? ⟨w.heap.size + 1, 2, none⟩ = false := (he.frozens _ _ (by go_simp)).trans (by go_simp)
    have hw : Ext w w1 := ((Ext.refl w).alloc _ |>.alloc _).trans he
    clear he
    simp only [numV, Val.v]
    go_wp2_with fail
    exact bodyPost_ret (v := .agg #[.int .i64 0, .int .i64 0, .string ByteArray.empty]) (by simp [results, Tryd.results47, go_sem, f0, f1, f2]; done) rfl ⟨rfl, qs hw _ (by omega) _ _ _⟩
  · have hd : (b.n == 0) = false := by simp [hb]
    have hr : divI a.n b.n = wrap64 (a.n.tdiv b.n) := by simp [divI, hb]
    rw [hr]
    clear hr
    go_enter Tryd.func47, Tryd.ntmps47
    go_wp2_with fail
    refine (qbv _ _).mono ?_
    rintro r w1 ⟨rfl, he⟩
    have f0 : w1.cell? ⟨w.heap.size + 1, 0, none⟩ = some (.int .i64 0) := he.at (by go_simp)
    have f1 : w1.cell? ⟨w.heap.size + 1, 1, none⟩ = some (.int .i64 0) := he.at (by go_simp)
    have f2 : w1.cell? ⟨w.heap.size + 1, 2, none⟩ = some (.string ByteArray.empty) := he.at (by go_simp; rfl)
    have z0 : w1.frozen? ⟨w.heap.size + 1, 0, none⟩ = false := (he.frozens _ _ (by go_simp)).trans (by go_simp)
    have z1 : w1.frozen? ⟨w.heap.size + 1, 1, none⟩ = false := (he.frozens _ _ (by go_simp)).trans (by go_simp)
    have z2 : w1.frozen? ⟨w.heap.size + 1, 2, none⟩ = false := (he.frozens _ _ (by go_simp)).trans (by go_simp)
    have hw : Ext w w1 := ((Ext.refl w).alloc _ |>.alloc _).trans he
    clear he
    simp only [numV, Val.v]
    go_wp2_with fail
    exact bodyPost_ret (v := .agg #[.int .i64 0, .int .i64 (wrap64 (a.n.tdiv b.n)), .string ByteArray.empty]) (by simp [results, Tryd.results47, go_sem, f0, f1, f2]; done) rfl ⟨rfl, qs hw _ (by omega) _ _ _⟩
set_option maxHeartbeats 1000000 in
theorem mod_any (a b : Val) (w : World) : Calls Tryd.prog 48 #[pairV a b] w fun r w' => r = .returned (numV (modI a.n b.n)).v ∧ Ext w w' := by
  simp only [pairV]
  by_cases hb : b.n = 0
  · have hd : (b.n == 0) = true := by simp [hb]
    have hr : modI a.n b.n = 0 := by simp [modI, hb]
    rw [hr]
    clear hb hr
    go_enter Tryd.func48, Tryd.ntmps48
    go_wp2_with fail
    refine (qbv _ _).mono ?_
    rintro r w1 ⟨rfl, he⟩
    have f0 : w1.cell? ⟨w.heap.size + 1, 0, none⟩ = some (.int .i64 0) := he.at (by go_simp)
    have f1 : w1.cell? ⟨w.heap.size + 1, 1, none⟩ = some (.int .i64 0) := he.at (by go_simp)
    have f2 : w1.cell? ⟨w.heap.size + 1, 2, none⟩ = some (.string ByteArray.empty) := he.at (by go_simp; rfl)
    have z0 : w1.frozen? ⟨w.heap.size + 1, 0, none⟩ = false := (he.frozens _ _ (by go_simp)).trans (by go_simp)
    have z1 : w1.frozen? ⟨w.heap.size + 1, 1, none⟩ = false := (he.frozens _ _ (by go_simp)).trans (by go_simp)
    have z2 : w1.frozen? ⟨w.heap.size + 1, 2, none⟩ = false := (he.frozens _ _ (by go_simp)).trans (by go_simp)
    have hw : Ext w w1 := ((Ext.refl w).alloc _ |>.alloc _).trans he
    clear he
    simp only [numV, Val.v]
    go_wp2_with fail
    exact bodyPost_ret (v := .agg #[.int .i64 0, .int .i64 0, .string ByteArray.empty]) (by simp [results, Tryd.results48, go_sem, f0, f1, f2]; done) rfl ⟨rfl, qs hw _ (by omega) _ _ _⟩
  · have hd : (b.n == 0) = false := by simp [hb]
    have hr : modI a.n b.n = a.n.tmod b.n := by simp [modI, hb]
    rw [hr]
    clear hr
    go_enter Tryd.func48, Tryd.ntmps48
    go_wp2_with fail
    refine (qbv _ _).mono ?_
    rintro r w1 ⟨rfl, he⟩
    have f0 : w1.cell? ⟨w.heap.size + 1, 0, none⟩ = some (.int .i64 0) := he.at (by go_simp)
    have f1 : w1.cell? ⟨w.heap.size + 1, 1, none⟩ = some (.int .i64 0) := he.at (by go_simp)
    have f2 : w1.cell? ⟨w.heap.size + 1, 2, none⟩ = some (.string ByteArray.empty) := he.at (by go_simp; rfl)
    have z0 : w1.frozen? ⟨w.heap.size + 1, 0, none⟩ = false := (he.frozens _ _ (by go_simp)).trans (by go_simp)
    have z1 : w1.frozen? ⟨w.heap.size + 1, 1, none⟩ = false := (he.frozens _ _ (by go_simp)).trans (by go_simp)
    have z2 : w1.frozen? ⟨w.heap.size + 1, 2, none⟩ = false := (he.frozens _ _ (by go_simp)).trans (by go_simp)
    have hw : Ext w w1 := ((Ext.refl w).alloc _ |>.alloc _).trans he
    clear he
    simp only [numV, Val.v]
    go_wp2_with fail
    exact bodyPost_ret (v := .agg #[.int .i64 0, .int .i64 (a.n.tmod b.n), .string ByteArray.empty]) (by simp [results, Tryd.results48, go_sem, f0, f1, f2]; done) rfl ⟨rfl, qs hw _ (by omega) _ _ _⟩
def eqV (a b : Val) : Bool := decide (a.k = b.k ∧ a.n = b.n ∧ a.s.toList = b.s.toList)
set_option maxHeartbeats 1000000 in
theorem eq_any (a b : Val) (w : World) : Calls Tryd.prog 49 #[pairV a b] w fun r w' => r = .returned (boolV (eqV a b)).v ∧ Ext w w' := by
  simp only [pairV]
  go_enter Tryd.func49, Tryd.ntmps49
  go_wp2_with fail
  all_goals
    refine (qdd _ _).mono ?_
    rintro r w1 ⟨rfl, he⟩
    have f0 : w1.cell? ⟨w.heap.size + 1, 0, none⟩ = some (.int .i64 0) := he.at (by go_simp)
    have f1 : w1.cell? ⟨w.heap.size + 1, 1, none⟩ = some (.int .i64 0) := he.at (by go_simp)
    have f2 : w1.cell? ⟨w.heap.size + 1, 2, none⟩ = some (.string ByteArray.empty) := he.at (by go_simp; rfl)
    have z0 : w1.frozen? ⟨w.heap.size + 1, 0, none⟩ = false := (he.frozens _ _ (by go_simp)).trans (by go_simp)
    have z1 : w1.frozen? ⟨w.heap.size + 1, 1, none⟩ = false := (he.frozens _ _ (by go_simp)).trans (by go_simp)
    have z2 : w1.frozen? ⟨w.heap.size + 1, 2, none⟩ = false := (he.frozens _ _ (by go_simp)).trans (by go_simp)
    have hw : Ext w w1 := ((Ext.refl w).alloc _ |>.alloc _).trans he
    clear he
    simp only [boolV, Val.v]
    go_wp2_with fail
    first
      | (refine bodyPost_ret (v := .agg #[.int .i64 2, .int .i64 1, .string ByteArray.empty]) ?_ rfl ⟨?_, qs hw _ (by omega) _ _ _⟩
         · simp [results, Tryd.results49, go_sem, f0, f1, f2]
         · simp [boolV, Val.v, eqV, *])
      | (refine bodyPost_ret (v := .agg #[.int .i64 2, .int .i64 0, .string ByteArray.empty]) ?_ rfl ⟨?_, qs hw _ (by omega) _ _ _⟩
         · simp [results, Tryd.results49, go_sem, f0, f1, f2]
         · simp [boolV, Val.v, eqV, *])
set_option maxHeartbeats 1000000 in
theorem ne_any (a b : Val) (w : World) : Calls Tryd.prog 50 #[pairV a b] w fun r w' => r = .returned (boolV (!eqV a b)).v ∧ Ext w w' := by
  simp only [pairV]
  go_enter Tryd.func50, Tryd.ntmps50
  go_wp2_with fail
  all_goals
    refine (qdd _ _).mono ?_
    rintro r w1 ⟨rfl, he⟩
    have f0 : w1.cell? ⟨w.heap.size + 1, 0, none⟩ = some (.int .i64 0) := he.at (by go_simp)
    have f1 : w1.cell? ⟨w.heap.size + 1, 1, none⟩ = some (.int .i64 0) := he.at (by go_simp)
    have f2 : w1.cell? ⟨w.heap.size + 1, 2, none⟩ = some (.string ByteArray.empty) := he.at (by go_simp; rfl)
    have z0 : w1.frozen? ⟨w.heap.size + 1, 0, none⟩ = false := (he.frozens _ _ (by go_simp)).trans (by go_simp)
    have z1 : w1.frozen? ⟨w.heap.size + 1, 1, none⟩ = false := (he.frozens _ _ (by go_simp)).trans (by go_simp)
    have z2 : w1.frozen? ⟨w.heap.size + 1, 2, none⟩ = false := (he.frozens _ _ (by go_simp)).trans (by go_simp)
    have hw : Ext w w1 := ((Ext.refl w).alloc _ |>.alloc _).trans he
    clear he
    simp only [boolV, Val.v]
    go_wp2_with fail
    first
      | (refine bodyPost_ret (v := .agg #[.int .i64 2, .int .i64 1, .string ByteArray.empty]) ?_ rfl ⟨?_, qs hw _ (by omega) _ _ _⟩
         · simp [results, Tryd.results50, go_sem, f0, f1, f2]
         · simp [boolV, Val.v, eqV, *])
      | (refine bodyPost_ret (v := .agg #[.int .i64 2, .int .i64 0, .string ByteArray.empty]) ?_ rfl ⟨?_, qs hw _ (by omega) _ _ _⟩
         · simp [results, Tryd.results50, go_sem, f0, f1, f2]
         · simp [boolV, Val.v, eqV, *])
set_option maxHeartbeats 1000000 in
theorem lt_any (a b : Val) (w : World) : Calls Tryd.prog 51 #[pairV a b] w fun r w' => r = .returned (boolV (decide (cmpV a b < 0))).v ∧ Ext w w' := by
  simp only [pairV]
  go_enter Tryd.func51, Tryd.ntmps51
  go_wp2_with fail
  have hc := compare_any a b
  simp only [Val.v] at hc
  refine (hc _).mono ?_
  rintro r w0 ⟨rfl, he0⟩
  clear hc
  go_wp2_with fail
  refine (qdd _ _).mono ?_
  rintro r w1 ⟨rfl, he⟩
  replace he := he0.trans he
  clear he0
  have f0 : w1.cell? ⟨w.heap.size + 1, 0, none⟩ = some (.int .i64 0) := he.at (by go_simp)
  have f1 : w1.cell? ⟨w.heap.size + 1, 1, none⟩ = some (.int .i64 0) := he.at (by go_simp)
  have f2 : w1.cell? ⟨w.heap.size + 1, 2, none⟩ = some (.string ByteArray.empty) := he.at (by go_simp; rfl)
  have z0 : w1.frozen? ⟨w.heap.size + 1, 0, none⟩ = false := (he.frozens _ _ (by go_simp)).trans (by go_simp)
  have z1 : w1.frozen? ⟨w.heap.size + 1, 1, none⟩ = false := (he.frozens _ _ (by go_simp)).trans (by go_simp)
  have z2 : w1.frozen? ⟨w.heap.size + 1, 2, none⟩ = false := (he.frozens _ _ (by go_simp)).trans (by go_simp)
  have hw : Ext w w1 := ((Ext.refl w).alloc _ |>.alloc _).trans he
  clear he
  cases hcc : decide (cmpV a b < 0)
  all_goals
    simp only [boolV, Val.v]
    go_wp2_with fail
    first
      | (refine bodyPost_ret (v := .agg #[.int .i64 2, .int .i64 1, .string ByteArray.empty]) ?_ rfl ⟨?_, qs hw _ (by omega) _ _ _⟩
         · simp [results, Tryd.results51, go_sem, f0, f1, f2]
         · simp [boolV, Val.v, hcc])
      | (refine bodyPost_ret (v := .agg #[.int .i64 2, .int .i64 0, .string ByteArray.empty]) ?_ rfl ⟨?_, qs hw _ (by omega) _ _ _⟩
         · simp [results, Tryd.results51, go_sem, f0, f1, f2]
         · simp [boolV, Val.v, hcc])
set_option maxHeartbeats 1000000 in
theorem le_any (a b : Val) (w : World) : Calls Tryd.prog 52 #[pairV a b] w fun r w' => r = .returned (boolV (decide (cmpV a b ≤ 0))).v ∧ Ext w w' := by
  simp only [pairV]
  go_enter Tryd.func52, Tryd.ntmps52
  go_wp2_with fail
  have hc := compare_any a b
  simp only [Val.v] at hc
  refine (hc _).mono ?_
  rintro r w0 ⟨rfl, he0⟩
  clear hc
  go_wp2_with fail
  refine (qdd _ _).mono ?_
  rintro r w1 ⟨rfl, he⟩
  replace he := he0.trans he
  clear he0
  have f0 : w1.cell? ⟨w.heap.size + 1, 0, none⟩ = some (.int .i64 0) := he.at (by go_simp)
  have f1 : w1.cell? ⟨w.heap.size + 1, 1, none⟩ = some (.int .i64 0) := he.at (by go_simp)
  have f2 : w1.cell? ⟨w.heap.size + 1, 2, none⟩ = some (.string ByteArray.empty) := he.at (by go_simp; rfl)
  have z0 : w1.frozen? ⟨w.heap.size + 1, 0, none⟩ = false := (he.frozens _ _ (by go_simp)).trans (by go_simp)
  have z1 : w1.frozen? ⟨w.heap.size + 1, 1, none⟩ = false := (he.frozens _ _ (by go_simp)).trans (by go_simp)
  have z2 : w1.frozen? ⟨w.heap.size + 1, 2, none⟩ = false := (he.frozens _ _ (by go_simp)).trans (by go_simp)
  have hw : Ext w w1 := ((Ext.refl w).alloc _ |>.alloc _).trans he
  clear he
  cases hcc : decide (cmpV a b ≤ 0)
  all_goals
    simp only [boolV, Val.v]
    go_wp2_with fail
    first
      | (refine bodyPost_ret (v := .agg #[.int .i64 2, .int .i64 1, .string ByteArray.empty]) ?_ rfl ⟨?_, qs hw _ (by omega) _ _ _⟩
         · simp [results, Tryd.results52, go_sem, f0, f1, f2]
         · simp [boolV, Val.v, hcc])
      | (refine bodyPost_ret (v := .agg #[.int .i64 2, .int .i64 0, .string ByteArray.empty]) ?_ rfl ⟨?_, qs hw _ (by omega) _ _ _⟩
         · simp [results, Tryd.results52, go_sem, f0, f1, f2]
         · simp [boolV, Val.v, hcc])
set_option maxHeartbeats 1000000 in
theorem both_any (a b : Val) (w : World) : Calls Tryd.prog 53 #[pairV a b] w fun r w' => r = .returned (boolV (decide (a.n = 1) && decide (b.n = 1))).v ∧ Ext w w' := by
  simp only [pairV]
  by_cases h1 : a.n = 1 <;> by_cases h2 : b.n = 1
  all_goals
    have g1 : (a.n == 1) = decide (a.n = 1) := rfl
    have g2 : (b.n == 1) = decide (b.n = 1) := rfl
    simp only [h1, h2, decide_true, decide_false] at g1 g2
    simp only [h1, h2, decide_true, decide_false]
    go_enter Tryd.func53, Tryd.ntmps53
    go_wp2_with fail
    refine (qdd _ _).mono ?_
    rintro r w1 ⟨rfl, he⟩
    have f0 : w1.cell? ⟨w.heap.size + 1, 0, none⟩ = some (.int .i64 0) := he.at (by go_simp)
    have f1 : w1.cell? ⟨w.heap.size + 1, 1, none⟩ = some (.int .i64 0) := he.at (by go_simp)
    have f2 : w1.cell? ⟨w.heap.size + 1, 2, none⟩ = some (.string ByteArray.empty) := he.at (by go_simp; rfl)
    have z0 : w1.frozen? ⟨w.heap.size + 1, 0, none⟩ = false := (he.frozens _ _ (by go_simp)).trans (by go_simp)
    have z1 : w1.frozen? ⟨w.heap.size + 1, 1, none⟩ = false := (he.frozens _ _ (by go_simp)).trans (by go_simp)
    have z2 : w1.frozen? ⟨w.heap.size + 1, 2, none⟩ = false := (he.frozens _ _ (by go_simp)).trans (by go_simp)
    have hw : Ext w w1 := ((Ext.refl w).alloc _ |>.alloc _).trans he
    clear he
    simp only [boolV, Val.v]
    go_wp2_with fail
    first
      | (refine bodyPost_ret (v := .agg #[.int .i64 2, .int .i64 1, .string ByteArray.empty]) ?_ rfl ⟨?_, qs hw _ (by omega) _ _ _⟩
         · simp [results, Tryd.results53, go_sem, f0, f1, f2]
         · simp [boolV, Val.v, eqV, *])
      | (refine bodyPost_ret (v := .agg #[.int .i64 2, .int .i64 0, .string ByteArray.empty]) ?_ rfl ⟨?_, qs hw _ (by omega) _ _ _⟩
         · simp [results, Tryd.results53, go_sem, f0, f1, f2]
         · simp [boolV, Val.v, eqV, *])
set_option maxHeartbeats 1000000 in
theorem any_any (a b : Val) (w : World) : Calls Tryd.prog 54 #[pairV a b] w fun r w' => r = .returned (boolV (decide (a.n = 1) || decide (b.n = 1))).v ∧ Ext w w' := by
  simp only [pairV]
  by_cases h1 : a.n = 1 <;> by_cases h2 : b.n = 1
  all_goals
    have g1 : (a.n == 1) = decide (a.n = 1) := rfl
    have g2 : (b.n == 1) = decide (b.n = 1) := rfl
    simp only [h1, h2, decide_true, decide_false] at g1 g2
    simp only [h1, h2, decide_true, decide_false]
    go_enter Tryd.func54, Tryd.ntmps54
    go_wp2_with fail
    refine (qdd _ _).mono ?_
    rintro r w1 ⟨rfl, he⟩
    have f0 : w1.cell? ⟨w.heap.size + 1, 0, none⟩ = some (.int .i64 0) := he.at (by go_simp)
    have f1 : w1.cell? ⟨w.heap.size + 1, 1, none⟩ = some (.int .i64 0) := he.at (by go_simp)
    have f2 : w1.cell? ⟨w.heap.size + 1, 2, none⟩ = some (.string ByteArray.empty) := he.at (by go_simp; rfl)
    have z0 : w1.frozen? ⟨w.heap.size + 1, 0, none⟩ = false := (he.frozens _ _ (by go_simp)).trans (by go_simp)
    have z1 : w1.frozen? ⟨w.heap.size + 1, 1, none⟩ = false := (he.frozens _ _ (by go_simp)).trans (by go_simp)
    have z2 : w1.frozen? ⟨w.heap.size + 1, 2, none⟩ = false := (he.frozens _ _ (by go_simp)).trans (by go_simp)
    have hw : Ext w w1 := ((Ext.refl w).alloc _ |>.alloc _).trans he
    clear he
    simp only [boolV, Val.v]
    go_wp2_with fail
    first
      | (refine bodyPost_ret (v := .agg #[.int .i64 2, .int .i64 1, .string ByteArray.empty]) ?_ rfl ⟨?_, qs hw _ (by omega) _ _ _⟩
         · simp [results, Tryd.results54, go_sem, f0, f1, f2]
         · simp [boolV, Val.v, eqV, *])
      | (refine bodyPost_ret (v := .agg #[.int .i64 2, .int .i64 0, .string ByteArray.empty]) ?_ rfl ⟨?_, qs hw _ (by omega) _ _ _⟩
         · simp [results, Tryd.results54, go_sem, f0, f1, f2]
         · simp [boolV, Val.v, eqV, *])
def joinS (a b : ByteArray) : ByteArray := (a ++ b).extract 0 (min (a.size + b.size) 200)
set_option maxHeartbeats 1000000 in
theorem join_any (a b : Val) (hz : ¬9223372036854775807 < a.s.size + b.s.size) (w : World) : Calls Tryd.prog 55 #[pairV a b] w fun r w' => r = .returned (textV (joinS a.s b.s)).v ∧ Ext w w' := by
  simp only [pairV]
  have hj := Lib.hid (show joinS a.s b.s = (a.s ++ b.s).extract 0 (min ((a.s.size : Int) + b.s.size) 200).toNat by
    have : (min ((a.s.size : Int) + b.s.size) 200).toNat = min (a.s.size + b.s.size) 200 := by omega
    rw [this]; rfl)
  go_enter Tryd.func55, Tryd.ntmps55
  go_wp2_with fail
  exact bodyPost_ret (v := .agg #[.int .i64 1, .int .i64 0, .string ((a.s ++ b.s).extract 0 (min ((a.s.size : Int) + b.s.size) 200).toNat)]) (by simp [results, Tryd.results55, go_sem]) rfl ⟨by simp only [textV, Val.v, hj.out], (by repeat' first | exact Ext.refl _ | assumption | apply Ext.alloc | apply Ext.drew | apply Ext.drewN | (refine Ext.trans ?_ (by assumption)))⟩
end Go.Proofs.YtnkimlkoijfcpaaDoor
