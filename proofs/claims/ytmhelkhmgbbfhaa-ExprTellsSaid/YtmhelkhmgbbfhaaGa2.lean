/- What the functions of layer 16 compute, on plain data. -/
import Derived.Test.YtmhelkhmgbbfhaaRows
import Derived.Test.YtmhelkhmgbbfhaaProg
import Derived.Test.YtmhelkhmgbbfhaaGa1
namespace Go.Proofs.Ytmhelkhmgbbfhaa
open Go.RowKit Go.Lib

def kindB (n : Int) : Bool := decide (0 ≤ n) && decide (n < 3)

mutual
def light : Ex → Int → Int → Int
  | .mk _ _ s l, n, lv => if n - 1 < 0 ∨ lv < 1 ∨ (s.size : Int) > 300 then -1 else lightL l (n - 1) (lv - 1)
def lightL : List Ex → Int → Int → Int
  | [], n, _ => n
  | e :: l, n, lv => if n ≥ 0 then lightL l (light e n lv) lv else n
end
mutual
theorem light_le : ∀ (e : Ex) (n lv : Int), 0 ≤ n → -1 ≤ light e n lv ∧ light e n lv ≤ n
  | .mk _ _ s l, n, lv, h => by
    rw [light]; split
    · omega
    · have := lightL_le l (n - 1) (lv - 1) (by omega); omega
theorem lightL_le : ∀ (l : List Ex) (n lv : Int), -1 ≤ n → -1 ≤ lightL l n lv ∧ lightL l n lv ≤ n
  | [], n, lv, h => by rw [lightL]; omega
  | e :: l, n, lv, h => by
    rw [lightL]; split
    · have := light_le e n lv (by omega)
      have := lightL_le l (light e n lv) lv (by omega); omega
    · omega
end

/- parts and levels -/
mutual
def levels : Ex → Int
  | .mk _ _ _ l => levelsL l 0 + 1
def levelsL : List Ex → Int → Int
  | [], n => n
  | e :: l, n => levelsL l (max n (levels e))
end
mutual
def parts : Ex → Nat
  | .mk _ _ _ l => partsL l + 1
def partsL : List Ex → Nat
  | [] => 0
  | e :: l => parts e + partsL l
end
mutual
theorem levels_le : ∀ e : Ex, 1 ≤ levels e ∧ levels e ≤ parts e
  | .mk _ _ _ l => by have := levelsL_le l 0 0 (by omega) (by omega); rw [levels, parts]; omega
theorem levelsL_le : ∀ (l : List Ex) (n : Int) (m : Nat), 0 ≤ n → n ≤ m → n ≤ levelsL l n ∧ levelsL l n ≤ m + partsL l
  | [], n, m, _, _ => by rw [levelsL, partsL]; omega
  | e :: l, n, m, h0, h => by
    have h1 := levels_le e
    have h2 := levelsL_le l (max n (levels e)) (m + parts e) (by omega) (by omega)
    rw [levelsL, partsL]; omega
end
mutual
theorem light_parts : ∀ (e : Ex) (n lv : Int), 0 ≤ n → 0 ≤ light e n lv → (parts e : Int) + light e n lv = n
  | .mk _ _ s l, n, lv, h, h2 => by
    rw [light] at h2 ⊢
    split at h2
    · omega
    · rename_i hc
      rw [if_neg hc]
      have := lightL_parts l (n - 1) (lv - 1) (by omega) h2
      rw [parts]; omega
theorem lightL_parts : ∀ (l : List Ex) (n lv : Int), 0 ≤ n → 0 ≤ lightL l n lv → (partsL l : Int) + lightL l n lv = n
  | [], n, lv, _, _ => by rw [lightL, partsL]; omega
  | e :: l, n, lv, h, h2 => by
    rw [lightL, if_pos (by omega)] at h2 ⊢
    rw [partsL]
    by_cases hp : 0 ≤ light e n lv
    · have h3 := light_parts e n lv h hp
      have h4 := lightL_parts l (light e n lv) lv hp h2
      omega
    · exfalso
      have : lightL l (light e n lv) lv = light e n lv := by
        cases l with
        | nil => rw [lightL]
        | cons x xs => rw [lightL, if_neg (by omega)]
      omega
end
theorem partsL_len : ∀ l : List Ex, l.length ≤ partsL l
  | [] => by simp
  | e :: l => by have := levels_le e; have := partsL_len l; rw [partsL, List.length_cons]; omega
theorem partsL_mem : ∀ (l : List Ex) (e : Ex), e ∈ l → parts e ≤ partsL l
  | [], _, h => by simp at h
  | x :: l, e, h => by
    rw [partsL]
    rcases List.mem_cons.1 h with rfl | h
    · omega
    · have := partsL_mem l e h; omega
theorem parts_of_light {e : Ex} {n lv : Int} (h : 0 ≤ n) (h2 : 0 ≤ light e n lv) : (parts e : Int) ≤ n := by
  have := light_parts e n lv h h2; omega

/- types -/
def pickT (l : List Int) (n : Int) : Option Int :=
  if n < 0 then none else match l[n.toNat]? with
    | some t => if kindB t then some t else none
    | none => none

def callT (F : List Fn) (n : Int) (ts : List Int) : Option Int :=
  if n < 0 then none else match F[n.toNat]? with
    | some f => if f.params = ts then some f.res else none
    | none => none

def leafT (c p : List Int) (op n : Int) (s : ByteArray) : Option Int :=
  if op = 0 then some 0
  else if op = 2 then (if n = 0 ∨ n = 1 then some 2 else none)
  else if op = 3 then pickT c n
  else if op = 4 then pickT p n
  else if op = 1 then (if n = 0 ∧ (s.size : Int) ≤ 200 then some 1 else none)
  else if op = 5 then (if n = 0 then some 0 else none)
  else none

def operT (op n : Int) (ts : List Int) : Option Int :=
  if n ≠ 0 then none
  else if op = 6 then (if ts = [2] then some 2 else none)
  else if op = 7 then (if ts = [0] then some 0 else none)
  else if op = 20 then (if ts = [1] then some 0 else none)
  else if 8 ≤ op ∧ op ≤ 12 then (if ts = [0, 0] then some 0 else none)
  else if 13 ≤ op ∧ op ≤ 16 then (match ts with | [a, b] => if a = b then some 2 else none | _ => none)
  else if 17 ≤ op ∧ op ≤ 18 then (if ts = [2, 2] then some 2 else none)
  else if op = 19 then (if ts = [1, 1] then some 1 else none)
  else if op = 21 then (match ts with | [a, b, c] => if a = 2 ∧ b = c then some c else none | _ => none)
  else none

def tailT (F : List Fn) (c p : List Int) (op n : Int) (s : ByteArray) (ts : List Int) : Option Int :=
  if s.size ≠ 0 ∧ op ≠ 1 then none
  else if op = 22 then callT F n ts
  else if ts = [] then leafT c p op n s
  else operT op n ts

mutual
def ty (F : List Fn) (c p : List Int) : Ex → Option Int
  | .mk op n s l => match tys F c p l with
    | some ts => tailT F c p op n s ts
    | none => none
def tys (F : List Fn) (c p : List Int) : List Ex → Option (List Int)
  | [] => some []
  | e :: l => match ty F c p e with
    | some t => match tys F c p l with
      | some ts => some (t :: ts)
      | none => none
    | none => none
end

/-- the type of an expression of at most MaxDepth levels -/
def tyD (F : List Fn) (c p : List Int) (e : Ex) : Option Int := if levels e > 12 then none else ty F c p e

/-- the function with that number is right -/
def okF (F : List Fn) (i : Nat) : Bool := match F[i]? with
  | some f => f.params.all kindB && decide (tyD (F.take i) [] f.params f.body = some f.res) && decide ((f.params.length : Int) ≤ 6)
  | none => true
/-- functions are right -/
def rightF (F : List Fn) : Bool := decide ((F.length : Int) ≤ 20) && (List.range F.length).all (okF F)

def typeP (F : List Fn) (c p : List Int) (e : Ex) : Option Int := if rightF F then tyD F c p e else none

/-- a type and whether it is one, as a call returns them -/
def Answer (t : Option Int) (r : Ending) : Prop := ∃ (x : Int) (b : Bool), r = .returned (.tuple #[.int .i64 x, .bool b]) ∧ (if b then some x else none) = t
/-- and zero if it is none -/
def Answer0 (t : Option Int) (r : Ending) : Prop := r = .returned (.tuple #[.int .i64 (t.getD 0), .bool t.isSome])

/- values -/
def Val.v (x : Val) : Value := .agg #[.int .i64 x.k, .int .i64 x.n, .string x.s]
def numV (n : Int) : Val := ⟨0, n, ByteArray.empty⟩
def boolV (b : Bool) : Val := ⟨2, if b then 1 else 0, ByteArray.empty⟩
def textV (s : ByteArray) : Val := ⟨1, 0, s⟩

end Go.Proofs.Ytmhelkhmgbbfhaa

/- Walks of the law's own helpers of layer 16. -/
namespace Go.Proofs.Ytmhelkhmgbbfhaa
open Go.RowKit Go.Lib

set_option maxHeartbeats 400000 in
theorem light_any (e : Ex) : ∀ (S : Nat → Prop) (cs : List Value) (n lv : Int) (w : World), Rd w S e.d cs → 0 ≤ n → n ≤ 1000 → -10 ≤ lv → lv ≤ 20 →
    Calls Try.prog 18 #[.agg cs.toArray, .int .i64 n, .int .i64 lv] w fun r w' => r = .returned (.int .i64 (light e n lv)) ∧ Ext w w' := by
  induction e using Ex.ind with | h o m s l ih => ?_
  intro S cs n lv w hr h1 h2 h3 h4
  obtain ⟨A, cap, b, off, rfl, hl1, hl2, hl3, hm⟩ := Ex.open hr
  simp only [Ex.args, Ex.op, Ex.n, Ex.s] at *
  by_cases hc : n - 1 < 0 ∨ lv < 1 ∨ (s.size : Int) > 300
  · have H := Lib.hid (show light (.mk o m s l) n lv = -1 by rw [light, if_pos hc])
    go_enter Try.func18, Try.ntmps18
    go_wp2_with fail
    all_goals
      go_ret
      exact ⟨ret_int H.out.symm, (Below.refl _ _).alloc (Nat.le_refl _) _⟩
  · have H := Lib.hid (show light (.mk o m s l) n lv = lightL l (n - 1) (lv - 1) by rw [light, if_neg hc])
    have g1 : ¬ n - 1 < 0 := by omega
    have g2 : ¬ lv < 1 := by omega
    have g3 : ¬ (s.size : Int) > 300 := by omega
    clear hc
    go_enter Try.func18, Try.ntmps18
    go_wp2_with fail
    go_loopw [1, 7] (fun x i wr => ∃ (k : Nat) (q : Int), k ≤ l.length ∧ i = .int .i64 k ∧ x = .int .i64 q ∧ -1 ≤ q ∧ q ≤ 1000 ∧ Hid (lightL l (n - 1) (lv - 1) = lightL (l.drop k) q (lv - 1)) ∧ Ext (w.alloc (.cells #[.int .i64 o, .int .i64 m, .string s, .slice A l.length cap] 25)) wr) (fun _ i _ => l.length - (intOf i).toNat)
    case atStart => exact ⟨0, _, by omega, rfl, rfl, by omega, by omega, Lib.hid rfl, Ext.refl _⟩
    case round =>
      obtain ⟨k, q, hk, rfl, rfl, hq1, hq2, HH, hb⟩ := hrel
      have hbox : wr.cell? ⟨w.heap.size, 3, none⟩ = some (.slice A l.length cap) := by rw [hb.cell (by simp)]; go_simp
      have hw : Ext w wr := ((Ext.refl _).alloc _).trans hb
      have hm' := Lib.hid (hm.ext (fun h => (hl3 (by simpa using h)).2) hw)
      clear hr hm
      by_cases hlt : k < l.length
      · obtain ⟨rfl, hSb⟩ := hl3 (by omega)
        obtain ⟨A1, cap1, b1, off1, c0, c1, c2, c3, hr', -⟩ := Ex.at hm'.out hlt
        have hr2 := Lib.hid hr'
        have hSb' := Lib.hid hSb
        clear hr' hSb hl3
        go_wp2_with fail
        · have hq0 : 0 ≤ q := by assumption
          refine (ih l[k] (List.getElem_mem hlt) S _ q (lv - 1) _ hr2.out hq0 (by omega) (by omega) (by omega)).mono ?_
          rintro r w1 ⟨rfl, he⟩
          have hle := light_le l[k] q (lv - 1) hq0
          have HH2 := Lib.hid (HH.out.trans (by rw [List.drop_eq_getElem_cons hlt, lightL, if_pos hq0]))
          clear HH
          go_wp2_with fail
          go_roundw
          case rel => exact ⟨k + 1, _, by omega, by go_num, rfl, by omega, by omega, HH2, hb.trans he⟩
          case measure => simp [intOf]; omega
        · have hq0 : q < 0 := by assumption
          go_ret
          exact ⟨ret_int (by rw [H.out, HH.out]; cases hd : l.drop k with | nil => rw [lightL] | cons x xs => rw [lightL, if_neg (by omega)]), hw⟩
      · have hkl : k = l.length := by omega
        subst hkl
        go_wp2_with fail
        go_ret
        exact ⟨ret_int (by rw [H.out, HH.out]; simp [lightL]), hw⟩

def fairB (f : Fn) : Bool := decide (0 ≤ light f.body 60 20) && decide ((f.params.length : Int) ≤ 8)
def fair (F : List Fn) : Bool := F.all fairB && decide ((F.length : Int) ≤ 22)

set_option maxHeartbeats 400000 in
theorem fair_any (F : List Fn) (S : Nat → Prop) (v : Value) (w : World) (hr : Rd w S (.sl (F.map Fn.d)) [v]) :
    Calls Try.prog 30 #[v] w fun r w' => r = .returned (.bool (fair F)) ∧ Ext w w' := by
  obtain ⟨A, cap, b, off, rfl, hl1, hl2, hl3, hm⟩ := Rd.sl_open hr
  simp only [List.length_map] at *
  go_enter Try.func30, Try.ntmps30
  go_wp2_with fail
  go_loopw [3] (fun i wr => ∃ (k : Nat), k ≤ F.length ∧ i = .int .i64 k ∧ Hid (F.all fairB = (F.drop k).all fairB) ∧ Ext w wr) (fun i _ => F.length - (intOf i).toNat)
  case atStart => exact ⟨0, by omega, rfl, Lib.hid rfl, Ext.refl _⟩
  case round =>
    obtain ⟨k, hk, rfl, HH, hw⟩ := hrel
    by_cases hlt : k < F.length
    · obtain ⟨rfl, hSb⟩ := hl3 (by omega)
      obtain ⟨A1, cap1, b1, off1, A2, cap2, b2, off2, c0, c1, c2, c3, c4, c5, c6, hr', q1, q2, q3, q4, q5, q6, q7, q8⟩ := Fn.at (hm.ext (fun _ => hSb) hw) hlt
      have hb := Ex.mk_rd q5 q6 q7 q8
      have H1 := Lib.hid hr'; have H2 := Lib.hid q3; have H3 := Lib.hid q4; have H4 := Lib.hid hb; have H5 := Lib.hid hSb; have H6 := Lib.hid hm
      have hd := Lib.hid (List.drop_eq_getElem_cons hlt)
      clear hr' q3 q4 q7 q8 hb hSb hr hm hl3
      by_cases h1 : light F[k].body 60 20 < 0
      · have hp := Lib.hid (show fairB F[k] = false by unfold fairB; rw [decide_eq_false (by omega)]; rfl)
        go_wp2_with fail
        refine (light_any F[k].body S _ 60 20 _ H4.out (by omega) (by omega) (by omega) (by omega)).mono ?_
        rintro r w1 ⟨rfl, he⟩
        go_wp2_with fail
        go_ret
        exact ⟨ret_bool (by unfold fair; rw [HH.out, hd.out, List.all_cons, hp.out]; rfl), hw.trans he⟩
      · by_cases h2 : 8 < F[k].params.length
        · have hp := Lib.hid (show fairB F[k] = false by unfold fairB; rw [decide_eq_false (p := (F[k].params.length : Int) ≤ 8) (by omega)]; simp)
          go_wp2_with fail
          refine (light_any F[k].body S _ 60 20 _ H4.out (by omega) (by omega) (by omega) (by omega)).mono ?_
          rintro r w1 ⟨rfl, he⟩
          have d1 := he.at c1
          go_wp2_with fail
          go_ret
          exact ⟨ret_bool (by unfold fair; rw [HH.out, hd.out, List.all_cons, hp.out]; rfl), hw.trans he⟩
        · have hp := Lib.hid (show fairB F[k] = true by unfold fairB; rw [decide_eq_true (by omega), decide_eq_true (by omega)]; rfl)
          go_wp2_with fail
          refine (light_any F[k].body S _ 60 20 _ H4.out (by omega) (by omega) (by omega) (by omega)).mono ?_
          rintro r w1 ⟨rfl, he⟩
          have d1 := he.at c1
          go_wp2_with fail
          go_roundw
          case rel => exact ⟨k + 1, by omega, by go_num, Lib.hid (by rw [HH.out, hd.out, List.all_cons, hp.out]; rfl), hw.trans he⟩
          case measure => simp [intOf]; omega
    · have hkl : k = F.length := by omega
      subst hkl
      go_wp2_with fail
      go_ret
      exact ⟨ret_bool (by unfold fair; rw [HH.out]; simp), hw⟩

theorem Try.info3 : (Try.prog.info? 3).map (fun i => (i.zero, i.size, i.bytes)) = some (some (.int .i64 0), 1, 8) := by kernel_rfl

set_option maxHeartbeats 400000 in
theorem kinds_any (R : List Val) (S : Nat → Prop) (v : Value) (w : World) (hr : Rd w S (.sl (R.map Val.d)) [v]) (hlen : R.length ≤ 1000000) :
    Calls Try.prog 12 #[v] w fun r w' => (∃ v', r = .returned v' ∧ w'.ownsRow w.heap.size 3 1 v' (R.map Val.k).length ((R.map Val.k).map (Value.int .i64))) ∧ Ext w w' := by
  obtain ⟨A, cap, b, off, rfl, hl1, hl2, hl3, hm⟩ := Rd.sl_open hr
  simp only [List.length_map] at *
  go_enter Try.func12, Try.ntmps12
  go_wp2_with fail
  go_loopw [3, 4] (fun x i wr => ∃ (k : Nat), k ≤ R.length ∧ i = .int .i64 k ∧ wr.ownsRow w.heap.size 3 1 x k (((R.map Val.k).take k).map (Value.int .i64)) ∧ Ext w wr) (fun _ i _ => R.length - (intOf i).toNat)
  case atStart => exact ⟨0, by omega, rfl, World.ownsRow_nil _ _ _ _, Ext.refl _⟩
  case round =>
    obtain ⟨k, hk, rfl, hown, hw⟩ := hrel
    by_cases hlt : k < R.length
    · obtain ⟨rfl, hSb⟩ := hl3 (by omega)
      obtain ⟨c0, c1, c2, hr'⟩ := Val.at (hm.ext (fun _ => hSb) hw) hlt
      have H5 := Lib.hid hSb; have H6 := Lib.hid hm
      have hd := Lib.hid (show (((R.map Val.k).take (k + 1)).map (Value.int .i64)) = (((R.map Val.k).take k).map (Value.int .i64)) ++ [Value.int .i64 R[k].k] by rw [List.take_succ_eq_append_getElem (by simpa using hlt)]; simp)
      clear hr' hSb hr hm hl3
      go_wp2_with (at_builtin; refine wp_append1 _ _ _ rfl _ _ _ rfl w.heap.size 3 1 8 _ Try.underlying31 Try.info3 rfl (by decide) (by decide) _ _ _ rfl hown rfl rfl (by intro u hu; simp at hu; subst hu; rfl) (by omega) hw.size ?_; intro v' w1 hown1 hg1 hn1)
      go_roundw
      case rel => exact ⟨k + 1, by omega, by go_num, by rw [hd.out]; exact hown1, hw.grown hown (Nat.le_refl _) hg1⟩
      case measure => simp [intOf]; omega
    · have hkl : k = R.length := by omega
      subst hkl
      go_wp2_with fail
      go_ret
      exact ⟨⟨_, rfl, by simpa [← List.map_take] using hown⟩, hw⟩
end Go.Proofs.Ytmhelkhmgbbfhaa

/- More on readings: a slice's beginning, the empty slice, all of a list. -/
namespace Go.Proofs.Ytmhelkhmgbbfhaa
open Go.RowKit Go.Lib

theorem RdM.take {w : World} {S : Nat → Prop} : ∀ (l : List D) (b off k : Nat), RdM w S l b off → RdM w S (l.take k) b off
  | [], _, _, _, _ => by rw [List.take_nil, RdM]; trivial
  | d :: l, b, off, 0, _ => by rw [List.take_zero, RdM]; trivial
  | d :: l, b, off, k + 1, h => by
    rw [RdM] at h
    rw [List.take_succ_cons, RdM]
    exact ⟨h.1, RdM.take l b _ k h.2⟩
theorem RdM.drop {w : World} {S : Nat → Prop} {sz : Nat} : ∀ (l : List D) (b off k : Nat), RdM w S l b off → (∀ d ∈ l, d.width = sz) → RdM w S (l.drop k) b (off + k * sz)
  | [], _, _, _, _, _ => by rw [List.drop_nil, RdM]; trivial
  | d :: l, b, off, 0, h, _ => by simpa using h
  | d :: l, b, off, k + 1, h, hw => by
    rw [RdM] at h
    rw [List.drop_succ_cons]
    have hd : d.width = sz := hw d (by simp)
    have := RdM.drop l b (off + d.width) k h.2 (fun x hx => hw x (by simp [hx]))
    rw [hd] at this
    rwa [show off + (k + 1) * sz = off + sz + k * sz by rw [Nat.succ_mul]; omega]
/-- 'x[:k]' -/
theorem Rd.cut {w : World} {S : Nat → Prop} {l : List D} {b off cap k : Nat} (hk : k ≤ l.length) (h1 : l.length ≤ cap) (h2 : cap ≤ 9223372036854775807) (hS : S b) (h : RdM w S l b off) : Rd w S (.sl (l.take k)) [.slice (some ⟨b, off, none⟩) k cap] :=
  Rd.sl_mk (by rw [List.length_take]; omega) (by rw [List.length_take]; omega) h2 (fun _ => ⟨rfl, hS⟩) (RdM.take l b off k h)
theorem Rd.nil {w : World} {S : Nat → Prop} {cap : Nat} (A : Option Addr) (h : cap ≤ 9223372036854775807) : Rd w S (.sl []) [.slice A 0 cap] :=
  Rd.sl_mk (b := 0) (off := 0) rfl (by simp) h (by simp) (by rw [RdM]; trivial)

theorem all_range_false {n k : Nat} {p : Nat → Bool} (h : k < n) (hp : p k = false) : (List.range n).all p = false := by
  rw [List.all_eq_false]; exact ⟨k, List.mem_range.2 h, by rw [hp]; simp⟩
theorem all_range_true {n : Nat} {p : Nat → Bool} (h : ∀ i, i < n → p i = true) : (List.range n).all p = true := by
  rw [List.all_eq_true]; exact fun i hi => h i (List.mem_range.1 hi)
theorem all_at_false {α : Type} {l : List α} {k : Nat} {p : α → Bool} (h : k < l.length) (hp : p l[k] = false) : l.all p = false := by
  rw [List.all_eq_false]; exact ⟨l[k], List.getElem_mem h, by rw [hp]; simp⟩
theorem all_at_true {α : Type} {l : List α} {p : α → Bool} (h : ∀ i (hi : i < l.length), p l[i] = true) : l.all p = true := by
  rw [List.all_eq_true]; intro x hx; obtain ⟨i, hi, rfl⟩ := List.getElem_of_mem hx; exact h i hi

end Go.Proofs.Ytmhelkhmgbbfhaa

/- A literal slice: a new block read as a list. -/
namespace Go.Proofs.Ytmhelkhmgbbfhaa
open Go.RowKit Go.Lib

theorem rd_new {X : World} {S : Nat → Prop} {l : List D} {cs : Array Value} {t : TypeId} {g n c : Nat} (hg : g = X.heap.size) (hn : n = l.length) (hr : RdS (X.alloc (.cells cs t)) S l cs.toList) (hS : S g) (hc : l.length ≤ c) (hc2 : c ≤ 9223372036854775807) :
    Rd (X.alloc (.cells cs t)) S (.sl l) [.slice (some ⟨g, 0, none⟩) n c] := by
  subst hg
  refine Rd.sl_mk (b := X.heap.size) (off := 0) hn hc hc2 (fun _ => ⟨rfl, hS⟩) (rdM_of l cs.toList 0 hr ?_)
  intro j u hu
  have := cells_new X cs t j u hu
  have e2 : ((⟨X.heap.size, 0, none⟩ : Addr).add j) = ⟨X.heap.size, 0 + j, none⟩ := by
    unfold Addr.add; split
    · rename_i h; subst h; rfl
    · rfl
  rwa [e2] at this
theorem rd_new_ints {X : World} {l : List Int} {cs : Array Value} {t : TypeId} {g n : Nat} (hg : g = X.heap.size) (hn : n = l.length) (h : cs.toList = l.map (Value.int .i64)) (hc2 : l.length ≤ 9223372036854775807) :
    Rd (X.alloc (.cells cs t)) Any (.sl (l.map D.int)) [.slice (some ⟨g, 0, none⟩) n n] :=
  rd_new hg (by simpa using hn) (by rw [h]; exact rdS_ints _ _ l) trivial (by simp; omega) (by omega)

end Go.Proofs.Ytmhelkhmgbbfhaa

/- Readings of data that a text makes. -/
namespace Go.Proofs.Ytmhelkhmgbbfhaa
open Go.RowKit Go.Lib

theorem rdS_nil (w : World) (S : Nat → Prop) : RdS w S [] [] := by rw [RdS]
theorem rdS_cons {w : World} {S : Nat → Prop} {d : D} {l : List D} {c1 c2 cs : List Value} (hcs : cs = c1 ++ c2) (h : Rd w S d c1) (h2 : RdS w S l c2) : RdS w S (d :: l) cs := by
  rw [RdS]; exact ⟨c1, c2, hcs, h, h2⟩
theorem rd_node {w : World} {S : Nat → Prop} {o n : Int} {s : ByteArray} {l : List Ex} {v : Value} (h : Rd w S (.sl (l.map Ex.d)) [v]) : Rd w S (Ex.mk o n s l).d [.int .i64 o, .int .i64 n, .string s, v] := by
  rw [Ex.d, Ex.ds_map, Rd]
  refine rdS_cons (c1 := [.int .i64 o]) rfl (by rw [Rd]) (rdS_cons (c1 := [.int .i64 n]) rfl (by rw [Rd]) (rdS_cons (c1 := [.string s]) rfl (by rw [Rd]) (rdS_cons (c1 := [v]) (c2 := []) rfl h (rdS_nil _ _))))
theorem rd_leaf (w : World) (S : Nat → Prop) (o n : Int) (s : ByteArray) : Rd w S (Ex.mk o n s []).d [.int .i64 o, .int .i64 n, .string s, .slice none 0 0] :=
  rd_node (l := []) (Rd.nil none (by omega))
theorem rd_fn {w : World} {S : Nat → Prop} {name : ByteArray} {ps : List Int} {res : Int} {e : Ex} {v : Value} {cs : List Value} (h : Rd w S (.sl (ps.map D.int)) [v]) (h2 : Rd w S e.d cs) : Rd w S (Fn.d ⟨name, ps, res, e⟩) (.string name :: v :: .int .i64 res :: cs) := by
  rw [Fn.d, Rd]
  refine rdS_cons (c1 := [.string name]) rfl (by rw [Rd]) (rdS_cons (c1 := [v]) rfl h (rdS_cons (c1 := [.int .i64 res]) rfl (by rw [Rd]) (rdS_cons (c2 := []) (by simp) h2 (rdS_nil _ _))))
theorem rd_val (w : World) (S : Nat → Prop) (v : Val) : Rd w S v.d [.int .i64 v.k, .int .i64 v.n, .string v.s] := by
  rw [Val.d, Rd]
  exact rdS_cons (c1 := [.int .i64 v.k]) rfl (by rw [Rd]) (rdS_cons (c1 := [.int .i64 v.n]) rfl (by rw [Rd]) (rdS_cons (c1 := [.string v.s]) (c2 := []) rfl (by rw [Rd]) (rdS_nil _ _)))
end Go.Proofs.Ytmhelkhmgbbfhaa

/- Walks: copies of expressions. -/
namespace Go.Proofs.Ytmhelkhmgbbfhaa
open Go.RowKit Go.Lib

/-- an expression's cells in a block of the call's own -/
def OutAt (w : World) (B : Nat) (o n : Int) (s : ByteArray) (x : Value) : Prop :=
  w.cell? ⟨B, 0, none⟩ = some (.int .i64 o) ∧ w.cell? ⟨B, 1, none⟩ = some (.int .i64 n) ∧ w.cell? ⟨B, 2, none⟩ = some (.string s) ∧ w.cell? ⟨B, 3, none⟩ = some x ∧
  w.frozen? ⟨B, 0, none⟩ = false ∧ w.frozen? ⟨B, 1, none⟩ = false ∧ w.frozen? ⟨B, 2, none⟩ = false ∧ w.frozen? ⟨B, 3, none⟩ = false
theorem OutAt.ext {w w' : World} {B : Nat} {o n : Int} {s : ByteArray} {x : Value} (h : OutAt w B o n s x) (he : Ext w w') : OutAt w' B o n s x := by
  obtain ⟨h0, h1, h2, h3, h4, h5, h6, h7⟩ := h
  have hlt : B < w.heap.size := World.block_lt_of_cell? w _ h0
  exact ⟨he.at h0, he.at h1, he.at h2, he.at h3, (he.frozens _ _ hlt).trans h4, (he.frozens _ _ hlt).trans h5, (he.frozens _ _ hlt).trans h6, (he.frozens _ _ hlt).trans h7⟩
theorem OutAt.grown {w w' : World} {B : Nat} {o n : Int} {s : ByteArray} {x : Value} {own : Option Nat} (h : OutAt w B o n s x) (hg : w.grownBy w' own) (hne : some B ≠ own) : OutAt w' B o n s x := by
  obtain ⟨h0, h1, h2, h3, h4, h5, h6, h7⟩ := h
  have hlt : B < w.heap.size := World.block_lt_of_cell? w _ h0
  exact ⟨grown_cell hg h0 hne, grown_cell hg h1 hne, grown_cell hg h2 hne, grown_cell hg h3 hne, (grown_frozen hg hlt hne).trans h4, (grown_frozen hg hlt hne).trans h5, (grown_frozen hg hlt hne).trans h6, (grown_frozen hg hlt hne).trans h7⟩
theorem OutAt.other {w : World} {B : Nat} {o n : Int} {s : ByteArray} {x : Value} {p : Addr} (h : OutAt w B o n s x) (hne : p.block ≠ B) (u : Value) : OutAt (w.setCell p u) B o n s x := by
  obtain ⟨h0, h1, h2, h3, h4, h5, h6, h7⟩ := h
  have hb : (w.setCell p u).heap[B]? = w.heap[B]? := Below.heap_setCell w p u B (fun e => hne e.symm)
  exact ⟨(World.cell?_of_block hb).trans h0, (World.cell?_of_block hb).trans h1, (World.cell?_of_block hb).trans h2, (World.cell?_of_block hb).trans h3, (World.frozen?_of_block hb).trans h4, (World.frozen?_of_block hb).trans h5, (World.frozen?_of_block hb).trans h6, (World.frozen?_of_block hb).trans h7⟩
theorem OutAt.set {w : World} {B : Nat} {o n : Int} {s : ByteArray} {x : Value} (h : OutAt w B o n s x) (u : Value) : OutAt (w.setCell ⟨B, 3, none⟩ u) B o n s u := by
  obtain ⟨h0, h1, h2, h3, h4, h5, h6, h7⟩ := h
  refine ⟨?_, ?_, ?_, ?_, ?_, ?_, ?_, ?_⟩ <;> go_simp

theorem infoEx : (Try.prog.info? 25).map (fun i => (i.zero, i.size, i.bytes)) = some (some (.agg #[.int .i64 0, .int .i64 0, .string ByteArray.empty, .slice none 0 0]), 4, 56) := by kernel_rfl

set_option maxRecDepth 10000 in
set_option maxHeartbeats 2000000 in
theorem clone_any (e : Ex) : ∀ (S : Nat → Prop) (cs : List Value) (w : World), Rd w S e.d cs → parts e ≤ 1000000 →
    Calls Try.prog 83 #[.agg cs.toArray] w fun r w' => (∃ A cap, r = .returned (.agg #[.int .i64 e.op, .int .i64 e.n, .string e.s, .slice A e.args.length cap]) ∧ Rd w' (fun b => w.heap.size ≤ b ∧ b < w'.heap.size) e.d [.int .i64 e.op, .int .i64 e.n, .string e.s, .slice A e.args.length cap]) ∧ Ext w w' := by
  induction e using Ex.ind with | h o n s l ih => ?_
  intro S cs w hr hpb
  obtain ⟨A, cap, b, off, rfl, hl1, hl2, hl3, hm⟩ := Ex.open hr
  have ih' := Lib.hid ih
  clear ih
  simp only [Ex.args, Ex.op, Ex.n, Ex.s] at hl1 hl2 hl3 hm ⊢
  have hll : l.length ≤ 1000000 := by rw [parts] at hpb; have := partsL_len l; omega
  have hl3' := Lib.hid hl3; have hm' := Lib.hid hm
  clear hr hl3 hm
  go_enter Try.func83, Try.ntmps83
  go_wp2_with fail
  generalize hWe : World.alloc (World.alloc (World.alloc w _) _) _ = W
  have hR0 : OutAt W (w.heap.size + 1) 0 0 ByteArray.empty (.slice none 0 0) := by rw [← hWe]; clear hWe; refine ⟨?_, ?_, ?_, ?_, ?_, ?_, ?_, ?_⟩ <;> go_simp <;> rfl
  have hO0 : OutAt W (w.heap.size + 2) o n s (.slice none 0 0) := by rw [← hWe]; clear hWe; refine ⟨?_, ?_, ?_, ?_, ?_, ?_, ?_, ?_⟩ <;> go_simp
  have hWs : W.heap.size = w.heap.size + 3 := by rw [← hWe]; clear hWe; go_simp
  have hwW : Ext w W := by rw [← hWe]; exact (by repeat' first | exact Ext.refl _ | assumption | apply Ext.alloc | apply Ext.drew | apply Ext.drewN | (refine Ext.trans ?_ (by assumption)))
  clear hWe
  have hR1 := Lib.hid hR0; have hO1 := Lib.hid hO0
  clear hR0 hO0
  go_loopw [16] (fun i wr => ∃ (k : Nat) (x : Value), k ≤ l.length ∧ i = .int .i64 k ∧ OutAt wr (w.heap.size + 1) 0 0 ByteArray.empty (.slice none 0 0) ∧ OutAt wr (w.heap.size + 2) o n s x ∧ OwnE wr (w.heap.size + 3) 25 4 x ((l.take k).map Ex.d) ∧ w.heap.size + 3 ≤ wr.heap.size ∧ Ext w wr) (fun i _ => l.length - (intOf i).toNat)
  case atStart => exact ⟨0, _, by omega, rfl, hR1.out, hO1.out, OwnE.nil _ _ _ _, by omega, hwW⟩
  case round =>
    obtain ⟨k, x, hk, rfl, hR, hO, hX, hsz, hb⟩ := hrel
    by_cases hk2 : k < l.length
    · obtain ⟨rfl, hSb⟩ := hl3'.out (by omega)
      obtain ⟨A1, cap1, b1, off1, c0, c1, c2, c3, hr', -⟩ := Ex.at (hm'.out.ext (fun _ => hSb) hb) hk2
      have hr2 := Lib.hid hr'; have hSb' := Lib.hid hSb; have hR' := Lib.hid hR; have hX' := Lib.hid hX; have hO' := Lib.hid hO
      have hpk : parts l[k] ≤ 1000000 := by rw [parts] at hpb; have := partsL_mem l l[k] (List.getElem_mem hk2); omega
      clear hr' hSb hR hX hO
      go_wp2_with fail
      generalize hWe : World.alloc wr _ = W1
      have hw1 : Ext wr W1 := by rw [← hWe]; exact (by repeat' first | exact Ext.refl _ | assumption | apply Ext.alloc | apply Ext.drew | apply Ext.drewN | (refine Ext.trans ?_ (by assumption)))
      have t0 : W1.cell? ⟨wr.heap.size, 0, none⟩ = some (.int .i64 l[k].op) := by rw [← hWe]; clear hWe; go_simp
      have t1 : W1.cell? ⟨wr.heap.size, 1, none⟩ = some (.int .i64 l[k].n) := by rw [← hWe]; clear hWe; go_simp
      have t2 : W1.cell? ⟨wr.heap.size, 2, none⟩ = some (.string l[k].s) := by rw [← hWe]; clear hWe; go_simp
      have t3 : W1.cell? ⟨wr.heap.size, 3, none⟩ = some (.slice A1 l[k].args.length cap1) := by rw [← hWe]; clear hWe; go_simp
      clear hWe
      obtain ⟨o0, o1, o2, o3, -⟩ := hO'.out.ext hw1
      have go3 := ExtW.at o3
      have gt0 := ExtW.at t0
      have gt1 := ExtW.at t1
      have gt2 := ExtW.at t2
      have gt3 := ExtW.at t3
      refine wp_region_mixed_ext 3 5 (by decide) (by kernel_rfl) (by kernel_rfl) (by kernel_rfl) ?_
      simp only [List.take_succ_cons, List.take_zero, List.drop_succ_cons, List.drop_zero, List.take_nil, List.drop_nil]
      refine wpReads_cons (by rfl) (by (rintro _ ⟨x, rfl⟩; go_simp; try (with_reducible rfl))) ?_
      try simp only [Act.put, List.setIfInBounds_toArray, List.set_cons_zero, List.set_cons_succ]
      refine wpReads_cons (by rfl) (by (rintro _ ⟨x, rfl⟩; go_simp; try (with_reducible rfl))) ?_
      try simp only [Act.put, List.setIfInBounds_toArray, List.set_cons_zero, List.set_cons_succ]
      refine wpReads_cons (by rfl) (by (rintro _ ⟨x, rfl⟩; go_simp; try (with_reducible rfl))) ?_
      try simp only [Act.put, List.setIfInBounds_toArray, List.set_cons_zero, List.set_cons_succ]
      refine wpReads_nil ?_
      refine wpSpec_cons (by rfl) (fun K hK => ?_)
      go_simp
      refine (ih'.out l[k] (List.getElem_mem hk2) S _ _ (hr2.out.ext (hw1.trans (Ext.refl _).drew)) hpk).mono ?_
      rintro r w2 ⟨⟨A2, cap2, rfl, hc⟩, he⟩
      refine hK.out _ _ (ext_in ((Ext.refl W1).drew.trans he)) ?_
      try simp only [Act.put, List.setIfInBounds_toArray, List.set_cons_zero, List.set_cons_succ]
      clear hK K
      refine wpSpec_cons (by rfl) (fun K hK => ?_)
      go_simp
      refine hK.out _ _ (ext_in (((Ext.refl W1).drew.trans he).alloc _)) ?_
      try simp only [Act.put, List.setIfInBounds_toArray, List.set_cons_zero, List.set_cons_succ]
      clear hK K
      refine wpSpec_nil ?_
      have hsz2 : w.heap.size + 3 ≤ w2.heap.size := by have := hw1.size; have h1 := he.size; simp at h1; omega
      have hx2 := (hX'.out.ext hw1).ext ((Ext.refl W1).drew.trans he)
      refine wp_append_e _ _ _ rfl _ _ _ rfl (w.heap.size + 3) 25 4 56 _ Try.underlying23 infoEx rfl (by decide) (by decide) x _ rfl hx2 _ rfl (by go_simp) rfl (by intro u hu; simp at hu; rcases hu with rfl | rfl | rfl | rfl <;> rfl) l[k].d ?_ ?_ ?_ ?_
      · refine Rd.keep (Keeps.refl _ _) (fun b hb => ⟨?_, hb.2, fun hx => ?_⟩) _ _ hc
        · have := hw1.size; have h1 := hb.1; simp at h1; omega
        · have := hX'.out.own b hx.symm; have := hw1.size; have h1 := hb.1; simp at h1; omega
      · simp only [List.length_map, List.length_take]; omega
      · exact hsz2
      intro v' w3 hx3 hg hnn
      have hO3 := Lib.hid (((hO'.out.ext hw1).ext ((Ext.refl W1).drew.trans he)).grown hg (hX'.out.ne (by omega)))
      have hR3 := Lib.hid (((hR'.out.ext hw1).ext ((Ext.refl W1).drew.trans he)).grown hg (hX'.out.ne (by omega)))
      have hb3 : Ext w w3 := Below.grown (hb.trans (hw1.trans ((Ext.refl W1).drew.trans he))) hg (by omega) (fun k hk => by have := hX'.out.own k hk; omega)
      have hsz3 : w.heap.size + 3 ≤ w3.heap.size := Nat.le_trans hsz2 hg.size
      obtain ⟨A3, cap3, rfl, -, -⟩ := hx3.form (n := k + 1) (by simp; omega)
      have hx3' := Lib.hid hx3
      clear hx2 hx3 hg hnn hc he o0 o1 o2 o3 t0 t1 t2 t3 go3 gt0 gt1 gt2 gt3 c0 c1 c2 c3
      obtain ⟨p0, p1, p2, p3, p4, p5, p6, p7⟩ := hO3.out
      go_wp2_with fail
      refine NoPanic.normal ?_
      go_wp2_with fail
      go_roundw
      case rel =>
        refine ⟨k + 1, _, by omega, by go_num, hR3.out.other (by simp) _, hO3.out.set _, ?_, by simpa using hsz3, hb3.setCell (by dsimp only; omega) _⟩
        rw [List.take_succ_eq_append_getElem hk2, List.map_append]
        exact hx3'.out.set (by simp) _
      case measure => simp [intOf]; omega
    · have hkl : k = l.length := by omega
      subst hkl
      rw [List.take_length] at hX
      obtain ⟨A3, cap3, rfl, hc1, hc2⟩ := hX.form (n := l.length) (by simp)
      have hO' := Lib.hid hO; have hX' := Lib.hid hX
      obtain ⟨o0, o1, o2, o3, -⟩ := hO
      obtain ⟨f0, f1, f2, f3, z0, z1, z2, z3⟩ := hR
      clear hX
      go_wp2_with fail
      refine bodyPost_ret (v := .agg #[.int .i64 o, .int .i64 n, .string s, .slice A3 l.length cap3]) (by simp [results, Try.results83, go_sem, f0, f1, f2, f3]; done) rfl ⟨⟨A3, cap3, rfl, ?_⟩, ?_⟩
      · exact Rd.keep (Keeps.refl _ _) (fun b hb => ⟨by omega, hb.2⟩) _ _ (rd_node ((((hX'.out.set (by simp) _).set (by simp) _).set (by simp) _).set (by simp) _).rd)
      · exact (((hb.setCell (by simp) _).setCell (by simp) _).setCell (by simp) _).setCell (by simp) _
set_option maxRecDepth 10000 in
set_option maxHeartbeats 2000000 in
theorem rclone_any (e : Ex) : ∀ (S : Nat → Prop) (cs : List Value) (w : World), Rd w S e.d cs → parts e ≤ 1000000 →
    Calls Try.prog 84 #[.agg cs.toArray] w fun r w' => (∃ A cap, r = .returned (.agg #[.int .i64 e.op, .int .i64 e.n, .string e.s, .slice A e.args.length cap]) ∧ Rd w' (fun b => w.heap.size ≤ b ∧ b < w'.heap.size) e.d [.int .i64 e.op, .int .i64 e.n, .string e.s, .slice A e.args.length cap]) ∧ Ext w w' := by
  induction e using Ex.ind with | h o n s l ih => ?_
  intro S cs w hr hpb
  obtain ⟨A, cap, b, off, rfl, hl1, hl2, hl3, hm⟩ := Ex.open hr
  have ih' := Lib.hid ih
  clear ih
  simp only [Ex.args, Ex.op, Ex.n, Ex.s] at hl1 hl2 hl3 hm ⊢
  have hll : l.length ≤ 1000000 := by rw [parts] at hpb; have := partsL_len l; omega
  have hl3' := Lib.hid hl3; have hm' := Lib.hid hm
  clear hr hl3 hm
  go_enter Try.func84, Try.ntmps84
  go_wp2_with fail
  generalize hWe : World.alloc (World.alloc (World.alloc w _) _) _ = W
  have hR0 : OutAt W (w.heap.size + 1) 0 0 ByteArray.empty (.slice none 0 0) := by rw [← hWe]; clear hWe; refine ⟨?_, ?_, ?_, ?_, ?_, ?_, ?_, ?_⟩ <;> go_simp <;> rfl
  have hO0 : OutAt W (w.heap.size + 2) o n s (.slice none 0 0) := by rw [← hWe]; clear hWe; refine ⟨?_, ?_, ?_, ?_, ?_, ?_, ?_, ?_⟩ <;> go_simp
  have hE0 : OutAt W w.heap.size o n s (.slice A l.length cap) := by rw [← hWe]; clear hWe; refine ⟨?_, ?_, ?_, ?_, ?_, ?_, ?_, ?_⟩ <;> go_simp
  have hWs : W.heap.size = w.heap.size + 3 := by rw [← hWe]; clear hWe; go_simp
  have hwW : Ext w W := by rw [← hWe]; exact (by repeat' first | exact Ext.refl _ | assumption | apply Ext.alloc | apply Ext.drew | apply Ext.drewN | (refine Ext.trans ?_ (by assumption)))
  clear hWe
  have hR1 := Lib.hid hR0; have hO1 := Lib.hid hO0; have hE1 := Lib.hid hE0
  clear hR0 hO0 hE0
  go_loopw [4] (fun i wr => ∃ (k : Nat) (x : Value), k ≤ l.length ∧ i = .int .i64 k ∧ OutAt wr (w.heap.size + 1) 0 0 ByteArray.empty (.slice none 0 0) ∧ OutAt wr (w.heap.size + 2) o n s x ∧ OutAt wr w.heap.size o n s (.slice A l.length cap) ∧ OwnE wr (w.heap.size + 3) 25 4 x ((l.take k).map Ex.d) ∧ w.heap.size + 3 ≤ wr.heap.size ∧ Ext w wr) (fun i _ => l.length - (intOf i).toNat)
  case atStart => exact ⟨0, _, by omega, rfl, hR1.out, hO1.out, hE1.out, OwnE.nil _ _ _ _, by omega, hwW⟩
  case round =>
    obtain ⟨k, x, hk, rfl, hR, hO, hE, hX, hsz, hb⟩ := hrel
    have hE' := Lib.hid hE
    obtain ⟨-, -, -, e3, -⟩ := hE
    by_cases hk2 : k < l.length
    · obtain ⟨rfl, hSb⟩ := hl3'.out (by omega)
      obtain ⟨A1, cap1, b1, off1, c0, c1, c2, c3, hr', -⟩ := Ex.at (hm'.out.ext (fun _ => hSb) hb) hk2
      have hr2 := Lib.hid hr'; have hSb' := Lib.hid hSb; have hR' := Lib.hid hR; have hX' := Lib.hid hX; have hO' := Lib.hid hO
      have hpk : parts l[k] ≤ 1000000 := by rw [parts] at hpb; have := partsL_mem l l[k] (List.getElem_mem hk2); omega
      clear hr' hSb hR hX hO
      go_wp2_with fail
      obtain ⟨o0, o1, o2, o3, -⟩ := hO'.out
      have hk3 : (k : Int) < (l.length : Int) := by omega
      have go3 := ExtW.at o3
      have ge3 := ExtW.at e3
      have gc0 := ExtW.at c0
      have gc1 := ExtW.at c1
      have gc2 := ExtW.at c2
      have gc3 := ExtW.at c3
      refine wp_region_mixed_ext 7 9 (by decide) (by kernel_rfl) (by kernel_rfl) (by kernel_rfl) ?_
      simp only [List.take_succ_cons, List.take_zero, List.drop_succ_cons, List.drop_zero, List.take_nil, List.drop_nil]
      refine wpReads_cons (by rfl) (by (rintro _ ⟨x, rfl⟩; go_simp; try (with_reducible rfl))) ?_
      try simp only [Act.put, List.setIfInBounds_toArray, List.set_cons_zero, List.set_cons_succ]
      refine wpReads_cons (by rfl) (by (rintro _ ⟨x, rfl⟩; go_simp; try (with_reducible rfl))) ?_
      try simp only [Act.put, List.setIfInBounds_toArray, List.set_cons_zero, List.set_cons_succ]
      refine wpReads_cons (by rfl) (by (rintro _ ⟨x, rfl⟩; go_simp; try (with_reducible rfl))) ?_
      try simp only [Act.put, List.setIfInBounds_toArray, List.set_cons_zero, List.set_cons_succ]
      refine wpReads_cons (by rfl) (by (rintro _ ⟨x, rfl⟩; go_simp; try (with_reducible rfl))) ?_
      try simp only [Act.put, List.setIfInBounds_toArray, List.set_cons_zero, List.set_cons_succ]
      refine wpReads_cons (by rfl) (by (rintro _ ⟨x, rfl⟩; go_simp; try (with_reducible rfl))) ?_
      try simp only [Act.put, List.setIfInBounds_toArray, List.set_cons_zero, List.set_cons_succ]
      refine wpReads_cons (by rfl) (by (rintro _ ⟨x, rfl⟩; go_simp; try (with_reducible rfl))) ?_
      try simp only [Act.put, List.setIfInBounds_toArray, List.set_cons_zero, List.set_cons_succ]
      refine wpReads_cons (by rfl) (by (rintro _ ⟨x, rfl⟩; go_simp; try (with_reducible rfl))) ?_
      try simp only [Act.put, List.setIfInBounds_toArray, List.set_cons_zero, List.set_cons_succ]
      refine wpReads_nil ?_
      refine wpSpec_cons (by rfl) (fun K hK => ?_)
      go_simp
      refine (ih'.out l[k] (List.getElem_mem hk2) S _ _ (hr2.out.ext (Ext.refl _).drew) hpk).mono ?_
      rintro r w2 ⟨⟨A2, cap2, rfl, hc⟩, he⟩
      refine hK.out _ _ (ext_in ((Ext.refl wr).drew.trans he)) ?_
      try simp only [Act.put, List.setIfInBounds_toArray, List.set_cons_zero, List.set_cons_succ]
      clear hK K
      refine wpSpec_cons (by rfl) (fun K hK => ?_)
      go_simp
      refine hK.out _ _ (ext_in (((Ext.refl wr).drew.trans he).alloc _)) ?_
      try simp only [Act.put, List.setIfInBounds_toArray, List.set_cons_zero, List.set_cons_succ]
      clear hK K
      refine wpSpec_nil ?_
      have hsz2 : w.heap.size + 3 ≤ w2.heap.size := by have h1 := he.size; simp at h1; omega
      have hx2 := hX'.out.ext ((Ext.refl wr).drew.trans he)
      refine wp_append_e _ _ _ rfl _ _ _ rfl (w.heap.size + 3) 25 4 56 _ Try.underlying23 infoEx rfl (by decide) (by decide) x _ rfl hx2 _ rfl (by go_simp) rfl (by intro u hu; simp at hu; rcases hu with rfl | rfl | rfl | rfl <;> rfl) l[k].d ?_ ?_ ?_ ?_
      · refine Rd.keep (Keeps.refl _ _) (fun b hb => ⟨?_, hb.2, fun hx => ?_⟩) _ _ hc
        · have h1 := hb.1; simp at h1; omega
        · have := hX'.out.own b hx.symm; have h1 := hb.1; simp at h1; omega
      · simp only [List.length_map, List.length_take]; omega
      · exact hsz2
      intro v' w3 hx3 hg hnn
      have hO3 := Lib.hid ((hO'.out.ext ((Ext.refl wr).drew.trans he)).grown hg (hX'.out.ne (by omega)))
      have hE3 := Lib.hid ((hE'.out.ext ((Ext.refl wr).drew.trans he)).grown hg (hX'.out.ne (by omega)))
      have hR3 := Lib.hid ((hR'.out.ext ((Ext.refl wr).drew.trans he)).grown hg (hX'.out.ne (by omega)))
      have hb3 : Ext w w3 := Below.grown (hb.trans ((Ext.refl wr).drew.trans he)) hg (by omega) (fun k hk => by have := hX'.out.own k hk; omega)
      have hsz3 : w.heap.size + 3 ≤ w3.heap.size := Nat.le_trans hsz2 hg.size
      obtain ⟨A3, cap3, rfl, -, -⟩ := hx3.form (n := k + 1) (by simp; omega)
      have hx3' := Lib.hid hx3
      clear hx2 hx3 hg hnn hc he o0 o1 o2 o3 go3 ge3 gc0 gc1 gc2 gc3 c0 c1 c2 c3 e3
      obtain ⟨p0, p1, p2, p3, p4, p5, p6, p7⟩ := hO3.out
      go_wp2_with fail
      refine NoPanic.normal ?_
      go_wp2_with fail
      go_roundw
      case rel =>
        refine ⟨k + 1, _, by omega, by go_num, hR3.out.other (by simp) _, hO3.out.set _, hE3.out.other (by dsimp only; omega) _, ?_, by simpa using hsz3, hb3.setCell (by dsimp only; omega) _⟩
        rw [List.take_succ_eq_append_getElem hk2, List.map_append]
        exact hx3'.out.set (by simp) _
      case measure => simp [intOf]; omega
    · have hkl : k = l.length := by omega
      subst hkl
      rw [List.take_length] at hX
      obtain ⟨A3, cap3, rfl, hc1, hc2⟩ := hX.form (n := l.length) (by simp)
      have hO' := Lib.hid hO; have hX' := Lib.hid hX
      obtain ⟨o0, o1, o2, o3, -⟩ := hO
      obtain ⟨f0, f1, f2, f3, z0, z1, z2, z3⟩ := hR
      clear hX
      go_wp2_with fail
      refine bodyPost_ret (v := .agg #[.int .i64 o, .int .i64 n, .string s, .slice A3 l.length cap3]) (by simp [results, Try.results84, go_sem, f0, f1, f2, f3]; done) rfl ⟨⟨A3, cap3, rfl, ?_⟩, ?_⟩
      · exact Rd.keep (Keeps.refl _ _) (fun b hb => ⟨by omega, hb.2⟩) _ _ (rd_node ((((hX'.out.set (by simp) _).set (by simp) _).set (by simp) _).set (by simp) _).rd)
      · exact (((hb.setCell (by simp) _).setCell (by simp) _).setCell (by simp) _).setCell (by simp) _
end Go.Proofs.Ytmhelkhmgbbfhaa
