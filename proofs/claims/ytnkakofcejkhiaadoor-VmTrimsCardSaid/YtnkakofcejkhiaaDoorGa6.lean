/- Layer 25 on plain data: Compact keeps the value. -/
import Derived.StillTail
import Derived.OrdersHeld
import Derived.Deep.RegionHeld3
import Derived.Test.YtnkakofcejkhiaaDoorGa1
import Derived.Test.YtnkakofcejkhiaaDoorGa5
set_option linter.unusedSimpArgs false
set_option linter.unusedVariables false
namespace Go.Proofs.YtnkakofcejkhiaaDoor
open Go.RowKit Go.Lib

/-- a right node: its results have the types rt -/
structure NdOk (cols rt : List Int) (i : Nat) (d : Nd) : Prop where
  form : formedB d.x = true
  col : d.x.op = 3 → 0 ≤ d.x.n ∧ d.x.n < cols.length
  ar : d.src.length = (opsP d.x).length
  lt : ∀ s ∈ d.src, s < i
  typ : tailT [] cols [] d.x.op d.x.n d.x.s (d.src.map fun s => rt.getD s 0) = some (rt.getD i 0)
def NdsOk (cols rt : List Int) : List Nd → Nat → Prop
  | [], _ => True
  | d :: l, i => NdOk cols rt i d ∧ NdsOk cols rt l (i + 1)
def resT (types : List Int) (l : List Ins) : List Int := l.map fun x => types.getD x.to.toNat 0
theorem nds_ok {cols types : List Int} : ∀ (l pre : List Ins) (done : List Bool) (last : List Nat), AllOk cols types l done → done.length = types.length → last.length = types.length → (∀ r : Nat, done.getD r false = true → last.getD r 0 < pre.length ∧ (resT types pre).getD (last.getD r 0) 0 = types.getD r 0) →
    NdsOk cols (resT types (pre ++ l)) (nodes l pre.length last) pre.length
  | [], _, _, _, _, _, _, _ => trivial
  | x :: l, pre, done, last, ha, hd, hl, h => by
    have hx := ha.1
    have h0 := hx.to0
    have h1 := hx.to1
    have hpre : ∀ k, k < pre.length → (resT types (pre ++ x :: l)).getD k 0 = (resT types pre).getD k 0 := fun k hk => by
      unfold resT
      rw [List.map_append, List.getD_eq_getElem?_getD, List.getElem?_append_left (by simpa using hk), List.getD_eq_getElem?_getD]
    have hi : (resT types (pre ++ x :: l)).getD pre.length 0 = types.getD x.to.toNat 0 := by
      unfold resT
      rw [List.map_append, List.getD_eq_getElem?_getD, List.getElem?_append_right (by simp)]
      simp
    rw [nodes, NdsOk]
    constructor
    · refine ⟨hx.form, hx.col, by simp, fun s hs => ?_, ?_⟩
      · obtain ⟨r, hr, rfl⟩ := List.mem_map.1 hs
        exact (h r.toNat (hx.args r hr).2.2).1
      · rw [hi]
        have hm : (((opsP x).map fun r => last.getD r.toNat 0).map fun s => (resT types (pre ++ x :: l)).getD s 0) = (opsP x).map fun r => types.getD r.toNat 0 := by
          rw [List.map_map]
          refine List.map_congr_left fun r hr => ?_
          obtain ⟨h2, h3⟩ := h r.toNat (hx.args r hr).2.2
          show (resT types (pre ++ x :: l)).getD (last.getD r.toNat 0) 0 = _
          rw [hpre _ h2, h3]
        rw [show (({ x := x, src := (opsP x).map fun r => last.getD r.toNat 0 } : Nd).src) = (opsP x).map fun r => last.getD r.toNat 0 from rfl, hm]
        exact tailT_other (fun _ h => h) (fun e => absurd e hx.op.2.2) hx.tail
    · have := nds_ok l (pre ++ [x]) _ (last.set x.to.toNat pre.length) ha.2 (by rw [List.length_set]; exact hd) (by rw [List.length_set]; exact hl) (fun r hr => by
        rw [getD_set] at hr
        rw [getD_set, List.length_append, List.length_singleton]
        unfold resT
        rw [List.map_append, List.map_singleton]
        by_cases he : x.to.toNat = r
        · rw [if_pos ⟨he, by omega⟩]
          refine ⟨by omega, ?_⟩
          rw [getD_snoc, if_neg (by simp), if_pos (by simp), he]
        · rw [if_neg (fun h => he h.1)] at hr
          rw [if_neg (fun h => he h.1)]
          obtain ⟨h2, h3⟩ := h r hr
          refine ⟨by omega, ?_⟩
          rw [getD_snoc, if_pos (by simpa using h2)]
          exact h3)
      rw [List.length_append, List.length_singleton, List.append_assoc] at this
      exact this
theorem CodOk.nds {c : Cod} {cols : List Int} (h : CodOk c cols) : NdsOk cols (resT c.types c.ins) (nodesC c) 0 :=
  nds_ok c.ins [] _ _ h.all (by simp) (by simp) (fun r hr => (no_done hr).elim)

/- the last instruction that reads each result -/
def endI : List Nd → Nat → List Nat → List Nat
  | [], _, e => e
  | d :: l, i, e => endI l (i + 1) (d.src.foldl (fun e k => e.set k i) (e.set i i))
def endP (ds : List Nd) (root : Nat) : List Nat := (endI ds 0 (List.replicate ds.length 0)).set root ds.length
theorem fold_end : ∀ (ks : List Nat) (e : List Nat) (i : Nat), (ks.foldl (fun e k => e.set k i) e).length = e.length ∧ ∀ k, k < e.length → (k ∈ ks → (ks.foldl (fun e k => e.set k i) e).getD k 0 = i) ∧ (k ∉ ks → (ks.foldl (fun e k => e.set k i) e).getD k 0 = e.getD k 0)
  | [], e, i => ⟨rfl, fun k hk => ⟨fun h => by simp at h, fun _ => rfl⟩⟩
  | a :: ks, e, i => by
    obtain ⟨h1, h2⟩ := fold_end ks (e.set a i) i
    rw [List.foldl_cons]
    refine ⟨by rw [h1]; simp, fun k hk => ?_⟩
    obtain ⟨h3, h4⟩ := h2 k (by simpa using hk)
    by_cases hka : k ∈ ks
    · exact ⟨fun _ => h3 hka, fun h => absurd (List.mem_cons_of_mem _ hka) h⟩
    · rw [h4 hka, getD_set]
      by_cases e1 : a = k
      · rw [if_pos ⟨e1, by subst e1; exact hk⟩]
        exact ⟨fun _ => rfl, fun h => absurd (by simp [e1]) h⟩
      · rw [if_neg (fun h => e1 h.1)]
        exact ⟨fun h => absurd (by rcases List.mem_cons.1 h with h | h; exact absurd h.symm e1; exact h) hka, fun _ => rfl⟩
theorem endI_len : ∀ (l : List Nd) (i : Nat) (e : List Nat), (endI l i e).length = e.length
  | [], _, _ => rfl
  | d :: l, i, e => by rw [endI, endI_len l, (fold_end d.src _ i).1]; simp
theorem endI_ge : ∀ (l pre : List Nd) (e : List Nat), e.length = (pre ++ l).length → Early (pre ++ l) → (∀ j, j < pre.length → ∀ k ∈ srcOf (pre ++ l) j, j ≤ e.getD k 0) → ∀ j, j < (pre ++ l).length → ∀ k ∈ srcOf (pre ++ l) j, j ≤ (endI l pre.length e).getD k 0
  | [], pre, e, _, _, h => fun j hj k hk => h j (by simpa using hj) k hk
  | d :: l, pre, e, hl, he, h => by
    have hd : srcOf (pre ++ d :: l) pre.length = d.src := by
      unfold srcOf
      rw [List.getD_eq_getElem?_getD, List.getElem?_append_right (Nat.le_refl _)]; simp
    have := endI_ge l (pre ++ [d]) (d.src.foldl (fun e k => e.set k pre.length) (e.set pre.length pre.length)) (by rw [(fold_end _ _ _).1]; simp at hl ⊢; exact hl) (by rw [List.append_assoc]; exact he) (by
      intro j hj k hk
      rw [List.append_assoc, List.singleton_append] at hk
      have hj' : j ≤ pre.length := by simp at hj; omega
      have hkj : k < j := he j (by simp; omega) k hk
      have hke : k < e.length := by rw [hl]; simp; omega
      obtain ⟨h3, h4⟩ := (fold_end d.src (e.set pre.length pre.length) pre.length).2 k (by simpa using hke)
      by_cases hks : k ∈ d.src
      · rw [h3 hks]; exact hj'
      · rw [h4 hks, getD_set, if_neg (by omega)]
        by_cases hjp : j = pre.length
        · subst hjp; rw [hd] at hk; exact absurd hk hks
        · exact h j (by omega) k hk)
    rw [List.append_assoc, List.singleton_append, show (pre ++ [d]).length = pre.length + 1 by simp] at this
    exact this
theorem endP_len (ds : List Nd) (root : Nat) : (endP ds root).length = ds.length := by unfold endP; rw [List.length_set, endI_len]; simp
theorem endP_ge {ds : List Nd} (he : Early ds) (root : Nat) {j : Nat} (hj : j < ds.length) {k : Nat} (hk : k ∈ srcOf ds j) : j ≤ (endP ds root).getD k 0 := by
  have h := endI_ge ds [] (List.replicate ds.length 0) (by simp) he (fun j hj => by simp at hj) j hj k hk
  unfold endP
  rw [getD_set]
  split
  · omega
  · exact h
theorem endP_root (ds : List Nd) {root : Nat} (h : root < ds.length) : (endP ds root).getD root 0 = ds.length := by
  unfold endP
  rw [getD_set, if_pos ⟨rfl, by rw [endI_len]; simpa using h⟩]

/- the new registers -/
def slot (e : List Nat) (i : Nat) (t : Int) : List Nat → List Int → Nat
  | h :: hs, u :: us => if i < e.getD h 0 ∨ u ≠ t then slot e i t hs us + 1 else 0
  | _, _ => 0
theorem slot_spec (e : List Nat) (i : Nat) (t : Int) : ∀ (hs : List Nat) (us : List Int), hs.length = us.length → slot e i t hs us ≤ hs.length ∧ (slot e i t hs us < hs.length → e.getD (hs.getD (slot e i t hs us) 0) 0 ≤ i ∧ us.getD (slot e i t hs us) 0 = t) ∧
    ∀ k, k < slot e i t hs us → i < e.getD (hs.getD k 0) 0 ∨ us.getD k 0 ≠ t
  | [], [], _ => ⟨by simp [slot], by simp [slot], by simp [slot]⟩
  | h :: hs, u :: us, hl => by
    obtain ⟨h1, h2, h3⟩ := slot_spec e i t hs us (by simpa using hl)
    rw [slot]
    split
    · rename_i hc
      refine ⟨by simp; omega, fun h => ?_, fun k hk => ?_⟩
      · rw [List.getD_cons_succ, List.getD_cons_succ]
        exact h2 (by simpa using h)
      · cases k with
        | zero => rw [List.getD_cons_zero, List.getD_cons_zero]; exact hc
        | succ k => rw [List.getD_cons_succ, List.getD_cons_succ]; exact h3 k (by omega)
    · rename_i hc
      refine ⟨by simp, fun _ => ?_, fun k hk => by omega⟩
      rw [List.getD_cons_zero, List.getD_cons_zero]
      rw [not_or, Decidable.not_not] at hc
      exact ⟨by omega, hc.2⟩
def newI (x : Ins) (args : List Int) (k : Nat) : Ins := ⟨x.op, k, args.getD 0 0, args.getD 1 0, args.getD 2 0, x.n, x.s⟩
structure CompS where
  ins : List Ins
  holds : List Nat
  tys : List Int
  place : List Nat
def compI (e : List Nat) (ct : List Int) : List Nd → Nat → CompS → CompS
  | [], _, s => s
  | d :: l, i, s =>
    let t := ct.getD d.x.to.toNat 0
    let k := slot e i t s.holds s.tys
    compI e ct l (i + 1) ⟨s.ins ++ [newI d.x (d.src.map fun j => ((s.place.getD j 0 : Nat) : Int)) k], if k = s.holds.length then s.holds ++ [i] else s.holds.set k i, if k = s.holds.length then s.tys ++ [t] else s.tys, s.place.set i k⟩
def compS (c : Cod) : CompS := compI (endP (nodesC c) (rootC c)) c.types (nodesC c) 0 ⟨[], [], [], List.replicate c.ins.length 0⟩
def compP (c : Cod) : Cod := let d := trimP c; ⟨(compS d).ins, (compS d).tys, ((compS d).place.getD (rootC d) 0 : Nat)⟩
theorem take_args {args : List Int} {n : Nat} (hn : n ≤ 3) (h : args.length = n) : ([args.getD 0 0, args.getD 1 0, args.getD 2 0]).take n = args := by
  match args, n, h with
  | [], _, rfl => rfl
  | [a], _, rfl => rfl
  | [a, b], _, rfl => rfl
  | [a, b, d], _, rfl => rfl
theorem opsP_len (x : Ins) : (opsP x).length = if opOk x.op then arO x.op else 0 := by
  unfold opsP
  split
  · rw [List.length_take]; have := arO_le x.op; simp; omega
  · rfl
theorem form_op {x : Ins} (h : formedB x = true) : opOk x.op = true := by
  unfold formedB at h
  simp only [Bool.and_eq_true] at h
  exact h.1.1
theorem newI_ops {x : Ins} (hf : formedB x = true) {args : List Int} (hl : args.length = (opsP x).length) (k : Nat) : opsP (newI x args k) = args := by
  have ho := form_op hf
  rw [opsP_len, if_pos ho] at hl
  show (if opOk x.op then ([args.getD 0 0, args.getD 1 0, args.getD 2 0]).take (arO x.op) else []) = args
  rw [if_pos ho]
  exact take_args (arO_le _) hl
theorem newI_form {x : Ins} (hf : formedB x = true) {args : List Int} (hl : args.length = (opsP x).length) (k : Nat) : formedB (newI x args k) = true := by
  have ho := form_op hf
  rw [opsP_len, if_pos ho] at hl
  have hz : ∀ j, args.length ≤ j → args.getD j 0 = 0 := fun j hj => by rw [List.getD_eq_getElem?_getD, List.getElem?_eq_none hj]; rfl
  unfold formedB at hf ⊢
  simp only [Bool.and_eq_true, decide_eq_true_eq] at hf ⊢
  refine ⟨⟨hf.1.1, ⟨fun h => hz 2 (by rw [hl]; have : arO x.op < 3 := h; omega), fun h => hz 1 (by rw [hl]; have : arO x.op < 2 := h; omega)⟩, fun h => hz 0 (by rw [hl]; have : arO x.op < 1 := h; omega)⟩, hf.2⟩
theorem levels_exI (x : Ins) : levels (exI x) ≤ 12 := by
  unfold exI
  rw [levels]
  have : ∀ (l : List Int) (n : Int), n ≤ 1 → levelsL (l.map paramE) n ≤ 1 := fun l => by
    induction l with
    | nil => intro n h; rw [List.map_nil, levelsL]; exact h
    | cons a l ih =>
      intro n h
      rw [List.map_cons, levelsL]
      refine ih _ ?_
      have : levels (paramE a) = 1 := by unfold paramE; rw [levels, levelsL]; rfl
      omega
  have := this (opsP x) 0 (by omega)
  omega
theorem tys_of_params {cols types : List Int} : ∀ (l : List Int), (∀ r ∈ l, 0 ≤ r ∧ r < types.length) → (∀ t ∈ types, 0 ≤ t ∧ t < 3) → tys [] cols types (l.map paramE) = some (l.map fun r => types.getD r.toNat 0)
  | [], _, _ => by rw [List.map_nil, tys]; rfl
  | r :: l, h, hk => by
    obtain ⟨h0, h1⟩ := h r (by simp)
    have hg : types[r.toNat]? = some (types.getD r.toNat 0) := by
      rw [List.getD_eq_getElem?_getD, List.getElem?_eq_getElem (by omega)]; rfl
    have hkd := hk _ (List.mem_of_getElem? hg)
    have hp : ty [] cols types (paramE r) = some (types.getD r.toNat 0) := by
      unfold paramE
      rw [ty]
      simp only [tys]
      unfold tailT
      rw [if_neg (by simp), if_neg (by decide), if_pos rfl]
      unfold leafT
      rw [if_neg (by decide), if_neg (by decide), if_neg (by decide), if_pos rfl]
      unfold pickT
      rw [if_neg (by omega), hg]
      dsimp only
      rw [if_pos]
      unfold kindB
      simp only [Bool.and_eq_true, decide_eq_true_eq]
      exact hkd
    rw [List.map_cons, tys, hp, tys_of_params l (fun x hx => h x (by simp [hx])) hk]
    rfl
theorem tyI_of {cols types : List Int} {x : Ins} {t : Int} (hr : ∀ r ∈ opsP x, 0 ≤ r ∧ r < types.length) (hk : ∀ t ∈ types, 0 ≤ t ∧ t < 3) (hop : x.op ≠ 4) (h : tailT [] cols [] x.op x.n x.s ((opsP x).map fun r => types.getD r.toNat 0) = some t) : tyI cols types x = some t := by
  unfold tyI typeP
  rw [if_pos rightF_nil]
  unfold tyD
  rw [if_neg (by have := levels_exI x; omega)]
  unfold exI
  rw [ty, tys_of_params _ hr hk]
  exact tailT_other (fun _ h => h) (fun e => absurd e hop) h
theorem compI_tys (e : List Nat) (ct : List Int) : ∀ (l : List Nd) (i : Nat) (s : CompS), ∃ r, (compI e ct l i s).tys = s.tys ++ r
  | [], _, s => ⟨[], by simp [compI]⟩
  | d :: l, i, s => by
    rw [compI]
    try dsimp only
    obtain ⟨r, hr⟩ := compI_tys e ct l (i + 1) ⟨s.ins ++ [newI d.x (d.src.map fun j => ((s.place.getD j 0 : Nat) : Int)) (slot e i (ct.getD d.x.to.toNat 0) s.holds s.tys)], if slot e i (ct.getD d.x.to.toNat 0) s.holds s.tys = s.holds.length then s.holds ++ [i] else s.holds.set (slot e i (ct.getD d.x.to.toNat 0) s.holds s.tys) i, if slot e i (ct.getD d.x.to.toNat 0) s.holds s.tys = s.holds.length then s.tys ++ [ct.getD d.x.to.toNat 0] else s.tys, s.place.set i (slot e i (ct.getD d.x.to.toNat 0) s.holds s.tys)⟩
    rw [hr]
    split
    · exact ⟨[ct.getD d.x.to.toNat 0] ++ r, by simp⟩
    · exact ⟨r, rfl⟩
/-- what holds before instruction i -/
structure CompInv (e : List Nat) (rt T : List Int) (i n : Nat) (s : CompS) (done : List Bool) (last : List Nat) : Prop where
  hl : s.holds.length = s.tys.length
  alive : ∀ j, j < i → i ≤ e.getD j 0 → s.place.getD j 0 < s.holds.length ∧ s.holds.getD (s.place.getD j 0) 0 = j
  ty : ∀ j, j < i → s.place.getD j 0 < s.tys.length ∧ s.tys.getD (s.place.getD j 0) 0 = rt.getD j 0
  dl : done.length = T.length
  ll : last.length = T.length
  dn : ∀ k, k < s.holds.length → done.getD k false = true ∧ last.getD k 0 = s.holds.getD k 0
  pl : s.place.length = n
  few : s.tys.length ≤ i
theorem pre_getD {α : Type} {a b : List α} {d : α} {k : Nat} (h : k < a.length) : (a ++ b).getD k d = a.getD k d := by
  rw [List.getD_eq_getElem?_getD, List.getElem?_append_left h, List.getD_eq_getElem?_getD]
theorem tys_grow {c : Prop} [Decidable c] {a : List Int} {t : Int} : ∃ r, (if c then a ++ [t] else a) = a ++ r := by
  split
  · exact ⟨[t], rfl⟩
  · exact ⟨[], by simp⟩
set_option maxHeartbeats 1000000 in
/-- what allotting registers looks at in a node, and what it keeps of it -/
def keyN (ct : List Int) (d : Nd) : List Nat × Int × Int × ByteArray × Int := (d.src, d.x.op, d.x.n, d.x.s, ct.getD d.x.to.toNat 0)
theorem comp_all {cols ct rt : List Int} {e : List Nat} {n : Nat} (T : List Int) (hT : ∀ t ∈ T, 0 ≤ t ∧ t < 3) (time : Int) (row : List Val) : ∀ (l : List Nd) (i : Nat) (s : CompS) (done : List Bool) (last : List Nat) (acc : List Val), i + l.length = n →
    (∃ r, T = (compI e ct l i s).tys ++ r) → NdsOk cols rt l i → (∀ k, k < l.length → ct.getD (l.getD k ⟨⟨0, 0, 0, 0, 0, 0, ByteArray.empty⟩, []⟩).x.to.toNat 0 = rt.getD (i + k) 0) → (∀ k, k < l.length → ∀ j ∈ srcOf l k, i + k ≤ e.getD j 0) → CompInv e rt T i n s done last →
    ∃ outs, (compI e ct l i s).ins = s.ins ++ outs ∧ outs.length = l.length ∧ AllOk cols T outs done ∧ resN time row (nodes outs i last) acc = resN time row l acc ∧ CompInv e rt T n n (compI e ct l i s) (doneL outs done) (lastL outs i last) ∧ (nodes outs i last).map (keyN T) = l.map (keyN ct)
  | [], i, s, done, last, acc, hn, _, _, _, _, h => by
    obtain rfl : i = n := by simpa using hn
    exact ⟨[], by simp [compI], rfl, trivial, rfl, h, rfl⟩
  | d :: l, i, s, done, last, acc, hn, hTy, hd, hct, hend, h => by
    have hn' : i + 1 + l.length = n := by simp at hn; omega
    have hin : i < n := by omega
    have hct0 := hct 0 (by simp)
    rw [List.getD_cons_zero, Nat.add_zero] at hct0
    have hct' : ∀ k, k < l.length → ct.getD (l.getD k ⟨⟨0, 0, 0, 0, 0, 0, ByteArray.empty⟩, []⟩).x.to.toNat 0 = rt.getD (i + 1 + k) 0 := fun k hk => by
      have := hct (k + 1) (by simpa using hk)
      rw [List.getD_cons_succ] at this
      rw [this, show i + (k + 1) = i + 1 + k by omega]
    have hend' : ∀ k, k < l.length → ∀ j ∈ srcOf l k, i + 1 + k ≤ e.getD j 0 := fun k hk j hj => by
      have := hend (k + 1) (by simpa using hk) j (by unfold srcOf at hj ⊢; rwa [List.getD_cons_succ])
      omega
    have hend0 : ∀ j ∈ d.src, i ≤ e.getD j 0 := fun j hj => hend 0 (by simp) j (by unfold srcOf; rwa [List.getD_cons_zero])
    rw [compI] at hTy ⊢
    try dsimp only at hTy ⊢
    rw [hct0] at hTy ⊢
    obtain ⟨h1, h2, -⟩ := slot_spec e i (rt.getD i 0) s.holds s.tys h.hl
    generalize hk : slot e i (rt.getD i 0) s.holds s.tys = k at *
    generalize hargs : d.src.map (fun j => ((s.place.getD j 0 : Nat) : Int)) = args at *
    obtain ⟨r, hr⟩ := hTy
    obtain ⟨r2, hr2⟩ := compI_tys e ct l (i + 1) ⟨s.ins ++ [newI d.x args k], if k = s.holds.length then s.holds ++ [i] else s.holds.set k i, if k = s.holds.length then s.tys ++ [rt.getD i 0] else s.tys, s.place.set i k⟩
    rw [hr2] at hr
    dsimp only at hr
    -- the new types begin with the old ones
    obtain ⟨r3, hr3⟩ := tys_grow (c := k = s.holds.length) (a := s.tys) (t := rt.getD i 0)
    have hTpre : ∀ m, m < s.tys.length → m < T.length ∧ T.getD m 0 = s.tys.getD m 0 := fun m hm => by
      rw [hr, hr3, List.append_assoc, List.append_assoc]
      exact ⟨by simp; omega, pre_getD hm⟩
    have hkT : k < T.length ∧ T.getD k 0 = rt.getD i 0 := by
      by_cases hkl : k = s.holds.length
      · rw [hr, if_pos hkl, List.append_assoc]
        have hk2 : k = s.tys.length := hkl.trans h.hl
        refine ⟨by simp; omega, ?_⟩
        rw [hk2, List.getD_eq_getElem?_getD, List.append_assoc, List.getElem?_append_right (Nat.le_refl _)]
        simp
      · have hk3 : k < s.holds.length := by omega
        obtain ⟨h3, h4⟩ := hTpre k (by rw [← h.hl]; exact hk3)
        exact ⟨h3, h4.trans (h2 hk3).2⟩
    -- the operands
    have hal : args.length = (opsP d.x).length := by rw [← hargs, List.length_map]; exact hd.1.ar
    have hops := newI_ops hd.1.form hal k
    have hplace : ∀ j ∈ d.src, s.place.getD j 0 < s.holds.length ∧ s.holds.getD (s.place.getD j 0) 0 = j := fun j hj => h.alive j (hd.1.lt j hj) (hend0 j hj)
    have hop := form_op hd.1.form
    have hop4 : d.x.op ≠ 4 := by
      unfold opOk at hop
      simp only [Bool.and_eq_true, decide_eq_true_eq] at hop
      exact hop.2
    have htys : (args.map fun r => T.getD r.toNat 0) = d.src.map fun j => rt.getD j 0 := by
      rw [← hargs, List.map_map]
      refine List.map_congr_left fun j hj => ?_
      have h5 := h.ty j (hd.1.lt j hj)
      show T.getD (((s.place.getD j 0 : Nat) : Int).toNat) 0 = _
      rw [Int.toNat_natCast, (hTpre _ h5.1).2, h5.2]
    have hyr : ∀ r ∈ opsP (newI d.x args k), 0 ≤ r ∧ r < T.length ∧ done.getD r.toNat false = true := fun r hr => by
      rw [hops, ← hargs] at hr
      obtain ⟨j, hj, rfl⟩ := List.mem_map.1 hr
      have h5 := hplace j hj
      have h6 := hTpre _ (by rw [← h.hl]; exact h5.1)
      refine ⟨by omega, by omega, ?_⟩
      rw [Int.toNat_natCast]
      exact (h.dn _ h5.1).1
    have hyok : InsOk cols T done (newI d.x args k) := by
      refine ⟨newI_form hd.1.form hal k, by show (0 : Int) ≤ k; omega, by show (k : Int) < _; omega, hyr, hd.1.col, ?_⟩
      have h7 := hd.1.typ
      rw [← htys] at h7
      have h8 := tyI_of (cols := cols) (types := T) (x := newI d.x args k) (t := rt.getD i 0) (fun r hr => ⟨(hyr r hr).1, (hyr r hr).2.1⟩) hT hop4 (by rw [hops]; exact h7)
      rw [h8]
      show _ = some (T.getD ((k : Int).toNat) 0)
      rw [Int.toNat_natCast, hkT.2]
    have hyto : (newI d.x args k).to.toNat = k := by show ((k : Int).toNat) = k; exact Int.toNat_natCast k
    -- the state after it
    have hinv : CompInv e rt T (i + 1) n ⟨s.ins ++ [newI d.x args k], if k = s.holds.length then s.holds ++ [i] else s.holds.set k i, if k = s.holds.length then s.tys ++ [rt.getD i 0] else s.tys, s.place.set i k⟩ (done.set (newI d.x args k).to.toNat true) (last.set (newI d.x args k).to.toNat i) := by
      rw [hyto]
      have hholds : ∀ m, m < (if k = s.holds.length then s.holds ++ [i] else s.holds.set k i).length → (if k = s.holds.length then s.holds ++ [i] else s.holds.set k i).getD m 0 = if m = k then i else s.holds.getD m 0 := fun m hm => by
        by_cases hkl : k = s.holds.length
        · rw [if_pos hkl] at hm ⊢
          rw [getD_snoc]
          simp at hm
          by_cases hmk : m = k
          · rw [if_pos hmk, if_neg (by omega), if_pos (by omega)]
          · rw [if_neg hmk, if_pos (by omega)]
        · rw [if_neg hkl] at hm ⊢
          rw [getD_set]
          by_cases hmk : m = k
          · rw [if_pos hmk, if_pos ⟨hmk.symm, by omega⟩]
          · rw [if_neg hmk, if_neg (fun h => hmk h.1.symm)]
      have hhl : (if k = s.holds.length then s.holds ++ [i] else s.holds.set k i).length = if k = s.holds.length then s.holds.length + 1 else s.holds.length := by split <;> simp
      have hpl : ∀ j, (s.place.set i k).getD j 0 = if j = i then k else s.place.getD j 0 := fun j => by
        rw [getD_set]
        by_cases hji : i = j
        · rw [if_pos ⟨hji, by rw [h.pl]; exact hin⟩, if_pos hji.symm]
        · rw [if_neg (fun h => hji h.1), if_neg (fun h => hji h.symm)]
      have hkn : k < (if k = s.holds.length then s.holds ++ [i] else s.holds.set k i).length := by rw [hhl]; split <;> omega
      refine ⟨?_, fun j hj hje => ?_, fun j hj => ?_, by rw [List.length_set]; exact h.dl, by rw [List.length_set]; exact h.ll, fun m hm => ?_, by rw [List.length_set]; exact h.pl, ?_⟩
      · show (if k = s.holds.length then s.holds ++ [i] else s.holds.set k i).length = (if k = s.holds.length then s.tys ++ [rt.getD i 0] else s.tys).length
        have := h.hl
        split <;> simp <;> omega
      · show (s.place.set i k).getD j 0 < _ ∧ _
        dsimp only
        rw [hpl]
        by_cases hji : j = i
        · rw [if_pos hji, hholds _ hkn, if_pos rfl]
          exact ⟨hkn, hji.symm⟩
        · rw [if_neg hji]
          obtain ⟨h5, h6⟩ := h.alive j (by omega) (by omega)
          have hpk : s.place.getD j 0 ≠ k := fun hpk => by
            by_cases hkl : k < s.holds.length
            · have h9 := (h2 hkl).1
              rw [hpk] at h6
              rw [h6] at h9
              omega
            · omega
          have hm : s.place.getD j 0 < (if k = s.holds.length then s.holds ++ [i] else s.holds.set k i).length := by rw [hhl]; split <;> omega
          rw [hholds _ hm, if_neg hpk]
          exact ⟨hm, h6⟩
      · show (s.place.set i k).getD j 0 < _ ∧ _
        dsimp only
        rw [hpl]
        by_cases hji : j = i
        · rw [if_pos hji, hji]
          by_cases hkl : k = s.holds.length
          · rw [if_pos hkl]
            have hk2 : k = s.tys.length := hkl.trans h.hl
            refine ⟨by simp; omega, ?_⟩
            rw [getD_snoc, if_neg (by omega), if_pos hk2]
          · rw [if_neg hkl]
            have hk3 : k < s.holds.length := by omega
            exact ⟨by rw [← h.hl]; exact hk3, (h2 hk3).2⟩
        · rw [if_neg hji]
          obtain ⟨h5, h6⟩ := h.ty j (by omega)
          by_cases hkl : k = s.holds.length
          · rw [if_pos hkl, getD_snoc, if_pos h5]
            exact ⟨by rw [List.length_append]; exact Nat.lt_of_lt_of_le h5 (Nat.le_add_right _ _), h6⟩
          · rw [if_neg hkl]
            exact ⟨h5, h6⟩
      · dsimp only at hm ⊢
        rw [hholds m hm, getD_set, getD_set]
        by_cases hmk : m = k
        · rw [if_pos ⟨hmk.symm, by rw [h.dl]; exact hkT.1⟩, if_pos ⟨hmk.symm, by rw [h.ll]; exact hkT.1⟩, if_pos hmk]
          exact ⟨rfl, rfl⟩
        · rw [if_neg (fun h => hmk h.1.symm), if_neg (fun h => hmk h.1.symm), if_neg hmk]
          refine h.dn m ?_
          rw [hhl] at hm
          split at hm <;> omega
      · dsimp only
        have := h.few
        split <;> simp <;> omega
    obtain ⟨outs, g1, g2, g3, g4, g5, g6⟩ := comp_all T hT time row l (i + 1) _ (done.set (newI d.x args k).to.toNat true) (last.set (newI d.x args k).to.toNat i) (acc ++ [opI time row d.x (d.src.map fun k => acc.getD k zeroV)]) hn' ⟨r, by rw [hr2]; exact hr⟩ hd.2 hct' hend' hinv
    have hsrc : (opsP (newI d.x args k)).map (fun r => last.getD r.toNat 0) = d.src := by
      rw [hops, ← hargs, List.map_map]
      conv => rhs; rw [← List.map_id d.src]
      refine List.map_congr_left fun j hj => ?_
      have h5 := hplace j hj
      show last.getD (((s.place.getD j 0 : Nat) : Int).toNat) 0 = j
      rw [Int.toNat_natCast, (h.dn _ h5.1).2, h5.2]
    refine ⟨newI d.x args k :: outs, ?_, by simp [g2], ⟨hyok, g3⟩, ?_, g5, ?_⟩
    · rw [g1]; simp
    rotate_left
    · rw [nodes, List.map_cons, List.map_cons, g6]
      congr 1
      unfold keyN
      dsimp only
      rw [hsrc, hyto, hkT.2, hct0]
      rfl
    · rw [nodes, resN, resN]
      show resN time row (nodes outs (i + 1) (last.set (newI d.x args k).to.toNat i)) (acc ++ [opI time row (newI d.x args k) (((opsP (newI d.x args k)).map fun r => last.getD r.toNat 0).map fun k => acc.getD k zeroV)]) = _
      rw [hsrc]
      exact g4
theorem comp_all_ok {c : Cod} {cols : List Int} (h0 : CodOk c cols) (time : Int) (row : List Val) : CodOk (compP c) cols ∧ valC (compP c) time row = valC c time row ∧ (compP c).ins.length = (trimP c).ins.length ∧
    rootC (compP c) = rootC (trimP c) ∧ (nodesC (compP c)).map (keyN (compP c).types) = (nodesC (trimP c)).map (keyN (trimP c).types) ∧ (compP c).types.length ≤ (compP c).ins.length := by
  obtain ⟨h, hv, -⟩ := trim_ok h0 time row
  unfold compP
  dsimp only
  rw [← hv]
  generalize trimP c = d at *
  obtain ⟨hroot, hval⟩ := h.val_res time row
  have hl : (nodesC d).length = d.ins.length := by unfold nodesC; exact nodes_len _ _ _
  have hkinds : ∀ t ∈ (compS d).tys, 0 ≤ t ∧ t < 3 := by
    have hres : ∀ x ∈ d.ins, d.types.getD x.to.toNat 0 ∈ d.types := by
      have : ∀ (l : List Ins) (done : List Bool), AllOk cols d.types l done → ∀ x ∈ l, d.types.getD x.to.toNat 0 ∈ d.types := fun l => by
        induction l with
        | nil => intro _ _ x hx; cases hx
        | cons y l ih =>
          intro done ha x hx
          rcases List.mem_cons.1 hx with rfl | hx
          · have h1 := ha.1.to1; have h2 := ha.1.to0
            rw [List.getD_eq_getElem?_getD, List.getElem?_eq_getElem (by omega)]
            exact List.getElem_mem _
          · exact ih _ ha.2 x hx
      exact this _ _ h.all
    have : ∀ (l : List Nd) (i : Nat) (s : CompS), (∀ y ∈ l, d.types.getD y.x.to.toNat 0 ∈ d.types) → (∀ t ∈ s.tys, 0 ≤ t ∧ t < 3) → ∀ t ∈ (compI (endP (nodesC d) (rootC d)) d.types l i s).tys, 0 ≤ t ∧ t < 3 := fun l => by
      induction l with
      | nil => intro i s _ hs t ht; exact hs t ht
      | cons y l ih =>
        intro i s hy hs
        rw [compI]
        try dsimp only
        refine ih _ _ (fun z hz => hy z (by simp [hz])) ?_
        try dsimp only
        split
        · intro t ht
          rcases List.mem_append.1 ht with ht | ht
          · exact hs t ht
          · rw [List.mem_singleton] at ht
            rw [ht]; exact h.kinds _ (hy y (by simp))
        · exact hs
    refine this _ _ _ (fun y hy => ?_) (by simp)
    unfold nodesC at hy
    have : ∀ (l : List Ins) (i : Nat) (last : List Nat), ∀ y ∈ nodes l i last, y.x ∈ l := fun l => by
      induction l with
      | nil => intro _ _ y hy; cases hy
      | cons x l ih =>
        intro i last y hy
        rw [nodes] at hy
        rcases List.mem_cons.1 hy with rfl | hy
        · simp
        · exact List.mem_cons_of_mem _ (ih _ _ y hy)
    exact hres _ (this _ _ _ y hy)
  have hnode : ∀ k, k < (nodesC d).length → d.types.getD ((nodesC d).getD k ⟨⟨0, 0, 0, 0, 0, 0, ByteArray.empty⟩, []⟩).x.to.toNat 0 = (resT d.types d.ins).getD (0 + k) 0 := fun k hk => by
    have : ∀ (l : List Ins) (i : Nat) (last : List Nat) (k : Nat), k < l.length → d.types.getD ((nodes l i last).getD k ⟨⟨0, 0, 0, 0, 0, 0, ByteArray.empty⟩, []⟩).x.to.toNat 0 = (resT d.types l).getD k 0 := fun l => by
      induction l with
      | nil => intro _ _ k hk; simp at hk
      | cons x l ih =>
        intro i last k hk
        rw [nodes]
        unfold resT
        rw [List.map_cons]
        cases k with
        | zero => rw [List.getD_cons_zero, List.getD_cons_zero]
        | succ k => rw [List.getD_cons_succ, List.getD_cons_succ]; exact ih _ _ k (by simpa using hk)
    rw [Nat.zero_add]
    exact this _ _ _ k (by rw [← hl]; exact hk)
  obtain ⟨outs, g1, g2, g3, g4, g5, g6⟩ := comp_all (cols := cols) (ct := d.types) (rt := resT d.types d.ins) (e := endP (nodesC d) (rootC d)) (n := d.ins.length) (compS d).tys hkinds time row (nodesC d) 0 ⟨[], [], [], List.replicate d.ins.length 0⟩ (List.replicate (compS d).tys.length false) (List.replicate (compS d).tys.length 0) [] (by rw [Nat.zero_add]; exact hl) ⟨[], by rw [List.append_nil]; rfl⟩ h.nds hnode
    (fun k hk j hj => by rw [Nat.zero_add]; exact endP_ge h.early _ hk hj)
    ⟨rfl, fun j hj => by omega, fun j hj => by omega, by simp, by simp, fun k hk => by simp at hk, by simp, by simp⟩
  have hins : (compS d).ins = outs := by have := g1; rw [List.nil_append] at this; exact this
  have hra := g5.alive (rootC d) hroot (by rw [endP_root _ (by rw [hl]; exact hroot), hl]; exact Nat.le_refl _)
  have hrt := g5.dn _ hra.1
  have hfew : (compS d).tys.length ≤ d.ins.length := g5.few
  have hni := h.ni
  have hpl : (compS d).place.getD (rootC d) 0 < (compS d).tys.length := by have := hra.1; rw [g5.hl] at this; exact this
  rw [hins]
  have hok : CodOk ⟨outs, (compS d).tys, ((compS d).place.getD (rootC d) 0 : Nat)⟩ cols := ⟨by show outs.length ≤ _; omega, by show (compS d).tys.length ≤ _; omega, hkinds, g3, Int.natCast_nonneg _, Int.ofNat_lt.2 hpl, by
    show (doneL outs _).getD (((compS d).place.getD (rootC d) 0 : Nat) : Int).toNat false = true
    rw [Int.toNat_natCast]; exact hrt.1⟩
  have e1 : rootC ⟨outs, (compS d).tys, ((compS d).place.getD (rootC d) 0 : Nat)⟩ = rootC d := by
    show (lastL outs 0 _).getD (((compS d).place.getD (rootC d) 0 : Nat) : Int).toNat 0 = _
    rw [Int.toNat_natCast]
    exact hrt.2.trans hra.2
  refine ⟨hok, ?_, by show outs.length = _; omega, e1, g6, by show (compS d).tys.length ≤ outs.length; omega⟩
  rw [(hok.val_res time row).2, hval]
  rw [e1]
  have e2 : resN time row (nodesC ⟨outs, (compS d).tys, ((compS d).place.getD (rootC d) 0 : Nat)⟩) [] = resN time row (nodesC d) [] := g4
  rw [e2]
theorem comp_ok {c : Cod} {cols : List Int} (h0 : CodOk c cols) (time : Int) (row : List Val) : CodOk (compP c) cols ∧ valC (compP c) time row = valC c time row ∧ (compP c).ins.length = (trimP c).ins.length :=
  have h := comp_all_ok h0 time row
  ⟨h.1, h.2.1, h.2.2.1⟩
end Go.Proofs.YtnkakofcejkhiaaDoor

/- Typed views of api.Delta. -/
namespace Go.Proofs.YtnkakofcejkhiaaDoor
open Go.RowKit Go.Lib

structure Delta where
  time : Int
  row : List Val
  n : Int
  deriving DecidableEq
def Delta.d (x : Delta) : D := .st [.int x.time, .sl (x.row.map Val.d), .int x.n]
theorem Delta.width (x : Delta) : x.d.width = 3 := by
  simp [Delta.d, D.width, D.widths]
theorem Delta.widths (l : List Delta) : ∀ d ∈ l.map Delta.d, d.width = 3 := by
  intro d hd; obtain ⟨x, -, rfl⟩ := List.mem_map.1 hd; exact Delta.width x
theorem Delta.open {w : World} {S : Nat → Prop} {x : Delta} {cs : List Value} (h : Rd w S x.d cs) : ∃ (A1 : Option Addr) (cap1 b1 off1 : Nat), cs = [.int .i64 x.time, .slice A1 x.row.length cap1, .int .i64 x.n] ∧ x.row.length ≤ cap1 ∧ cap1 ≤ 9223372036854775807 ∧ (0 < x.row.length → A1 = some ⟨b1, off1, none⟩ ∧ S b1) ∧ RdM w S (x.row.map Val.d) b1 off1 := by
  simp only [Delta.d, Delta.d, Rd, RdS, List.length_map] at h
  obtain ⟨_, _, rfl, rfl, ⟨_, _, rfl, ⟨A1, cap1, b1, off1, rfl, p1, q1, r1, s1⟩, ⟨_, _, rfl, rfl, rfl⟩⟩⟩ := h
  exact ⟨A1, cap1, b1, off1, by simp, p1, q1, r1, s1⟩
theorem Delta.at {w : World} {S : Nat → Prop} {l : List Delta} {b off : Nat} (hm : RdM w S (l.map Delta.d) b off) {k : Nat} (hk : k < l.length) : ∃ (A1 : Option Addr) (cap1 b1 off1 : Nat), w.cell? ⟨b, off + k * 3, none⟩ = some (.int .i64 l[k].time) ∧ w.cell? ⟨b, off + k * 3 + 1, none⟩ = some (.slice A1 l[k].row.length cap1) ∧ w.cell? ⟨b, off + k * 3 + 1 + 1, none⟩ = some (.int .i64 l[k].n) ∧ Rd w S l[k].d [.int .i64 l[k].time, .slice A1 l[k].row.length cap1, .int .i64 l[k].n] ∧ l[k].row.length ≤ cap1 ∧ cap1 ≤ 9223372036854775807 ∧ (0 < l[k].row.length → A1 = some ⟨b1, off1, none⟩ ∧ S b1) ∧ RdM w S (l[k].row.map Val.d) b1 off1 := by
  obtain ⟨cs, hc, hr⟩ := RdM.get _ b off hm (Delta.widths l) k (by simpa using hk)
  rw [List.getElem_map] at hr
  obtain ⟨A1, cap1, b1, off1, rfl, hf⟩ := Delta.open hr
  simp only [CellsAt, and_true] at hc
  obtain ⟨c0, c1, c2⟩ := hc
  exact ⟨A1, cap1, b1, off1, c0, c1, c2, hr, hf⟩
end Go.Proofs.YtnkakofcejkhiaaDoor

/- What is known of the variables of the program, in every world: nobody writes them. -/
namespace Go.Proofs.YtnkakofcejkhiaaDoor
def namesTab : List Value := [.string ⟨#[105, 110, 116]⟩, .string ⟨#[116, 101, 120, 116]⟩, .string ⟨#[98, 111, 111, 108]⟩, .string ⟨#[99, 111, 108]⟩, .string ⟨#[]⟩, .string ⟨#[116, 105, 109, 101]⟩, .string ⟨#[110, 111, 116]⟩, .string ⟨#[110, 101, 103]⟩, .string ⟨#[97, 100, 100]⟩, .string ⟨#[115, 117, 98]⟩, .string ⟨#[109, 117, 108]⟩, .string ⟨#[100, 105, 118]⟩, .string ⟨#[109, 111, 100]⟩, .string ⟨#[101, 113]⟩, .string ⟨#[110, 101]⟩, .string ⟨#[108, 116]⟩, .string ⟨#[108, 101]⟩, .string ⟨#[97, 110, 100]⟩, .string ⟨#[111, 114]⟩, .string ⟨#[99, 111, 110, 99, 97, 116]⟩, .string ⟨#[108, 101, 110]⟩, .string ⟨#[105, 102]⟩, .string ⟨#[]⟩]
def globsOk (C : Nat → Nat → List Value → Prop) : Prop := (∃ _m : Unit, C 0 0 namesTab) ∧ True
theorem globsOk.mono {C C' : Nat → Nat → List Value → Prop} (hC : ∀ b o cs, C b o cs → C' b o cs) (h : globsOk C) : globsOk C' := by
  obtain ⟨⟨m0, h0⟩, -⟩ := h
  exact ⟨⟨m0, hC _ _ _ h0⟩, trivial⟩
/-- the tables of the program that the texts look into -/
def gtab (g : Nat) : Option (List Value) := if g = 0 then some namesTab else none
theorem gtab_ok {C : Nat → Nat → List Value → Prop} (h : globsOk C) {g : Nat} {cs : List Value} (hg : gtab g = some cs) : C g 0 cs := by
  unfold gtab at hg
  obtain ⟨⟨m0, h0⟩, -⟩ := h
  split at hg
  · rename_i e; subst e; cases hg; exact h0
  cases hg
@[simp] theorem gtab_namesTab : gtab 0 = some namesTab := rfl
@[simp] theorem namesTab_0 : namesTab[0]? = some (.string ⟨#[105, 110, 116]⟩) := rfl
@[simp] theorem namesTab_1 : namesTab[1]? = some (.string ⟨#[116, 101, 120, 116]⟩) := rfl
@[simp] theorem namesTab_2 : namesTab[2]? = some (.string ⟨#[98, 111, 111, 108]⟩) := rfl
@[simp] theorem namesTab_3 : namesTab[3]? = some (.string ⟨#[99, 111, 108]⟩) := rfl
@[simp] theorem namesTab_4 : namesTab[4]? = some (.string ⟨#[]⟩) := rfl
@[simp] theorem namesTab_5 : namesTab[5]? = some (.string ⟨#[116, 105, 109, 101]⟩) := rfl
@[simp] theorem namesTab_6 : namesTab[6]? = some (.string ⟨#[110, 111, 116]⟩) := rfl
@[simp] theorem namesTab_7 : namesTab[7]? = some (.string ⟨#[110, 101, 103]⟩) := rfl
@[simp] theorem namesTab_8 : namesTab[8]? = some (.string ⟨#[97, 100, 100]⟩) := rfl
@[simp] theorem namesTab_9 : namesTab[9]? = some (.string ⟨#[115, 117, 98]⟩) := rfl
@[simp] theorem namesTab_10 : namesTab[10]? = some (.string ⟨#[109, 117, 108]⟩) := rfl
@[simp] theorem namesTab_11 : namesTab[11]? = some (.string ⟨#[100, 105, 118]⟩) := rfl
@[simp] theorem namesTab_12 : namesTab[12]? = some (.string ⟨#[109, 111, 100]⟩) := rfl
@[simp] theorem namesTab_13 : namesTab[13]? = some (.string ⟨#[101, 113]⟩) := rfl
@[simp] theorem namesTab_14 : namesTab[14]? = some (.string ⟨#[110, 101]⟩) := rfl
@[simp] theorem namesTab_15 : namesTab[15]? = some (.string ⟨#[108, 116]⟩) := rfl
@[simp] theorem namesTab_16 : namesTab[16]? = some (.string ⟨#[108, 101]⟩) := rfl
@[simp] theorem namesTab_17 : namesTab[17]? = some (.string ⟨#[97, 110, 100]⟩) := rfl
@[simp] theorem namesTab_18 : namesTab[18]? = some (.string ⟨#[111, 114]⟩) := rfl
@[simp] theorem namesTab_19 : namesTab[19]? = some (.string ⟨#[99, 111, 110, 99, 97, 116]⟩) := rfl
@[simp] theorem namesTab_20 : namesTab[20]? = some (.string ⟨#[108, 101, 110]⟩) := rfl
@[simp] theorem namesTab_21 : namesTab[21]? = some (.string ⟨#[105, 102]⟩) := rfl
@[simp] theorem namesTab_22 : namesTab[22]? = some (.string ⟨#[]⟩) := rfl
end Go.Proofs.YtnkakofcejkhiaaDoor

/- Regions that draw their order: all operations but the last ones read or call quietly (in a class of worlds), the last ones stand in one order. -/
namespace Go.Proofs.YtnkakofcejkhiaaDoor
open Go.RowKit Go.Lib

section
variable {P : Program} {ops : Array Oper} {md : Region.Mode} {C : World → Prop}

def wpHeadQ (P : Program) (md : Region.Mode) (ops : Array Oper) (C : World → Prop) (n : Nat) (L : Array Bool → Act → Prop) : Nat → Array Bool → Act → Prop
  | 0, listed, a => L listed a
  | f + 1, listed, a =>
    Region.ready md ops listed ≠ [] ∧ ∀ i ∈ Region.ready md ops listed, i < n ∧ qOp P ops C i (wpHeadQ P md ops C n L f (listed.setIfInBounds i true)) a

theorem wpAny_of_headQ {n g : Nat} {L : Array Bool → Act → Prop} {Q' : Exit → Act → World → Prop} (hL : ∀ listed a w, C w → L listed a → wpAny P md ops Q' g listed a w) :
    ∀ (f : Nat) (listed : Array Bool) (a : Act) (w : World), C w → wpHeadQ P md ops C n L f listed a → wpAny P md ops Q' (f + g) listed a w
  | 0, listed, a, w, hw, h => by rw [Nat.zero_add]; exact hL _ _ _ hw h
  | f + 1, listed, a, w, hw, h => by
    rw [show f + 1 + g = (f + g) + 1 by omega]
    exact ⟨fun h0 => absurd h0 h.1, fun i hi => wpOp_of_qOp hw (fun a' w' hw' h' => wpAny_of_headQ hL f _ a' w' hw' h') (h.2 i hi).2⟩

theorem wpHeadQ_first {n i : Nat} {oi : Oper} {v : Value} {L : Array Bool → Act → Prop} (hi : ops[i]? = some oi) (hsel : ∀ (j : Nat) (o : Oper) cs b, ops[j]? = some o → o.op ≠ .select cs b)
    (hs : Region.sinkB md ops n = true) (hc : Region.chainB md ops n = true) (hn : n < ops.size) (hin : i < n)
    (hdone : ∀ listed a, L listed a → ∀ j ∈ Region.ready md ops listed, n ≤ j) :
    ∀ (f : Nat) (listed : Array Bool) (a : Act), HeadInv md ops n listed →
      (∀ j oj, ops[j]? = some oj → j ≠ i → listed.getD j true = false → (∀ e ∈ oj.after, Region.binds md e = true → e.on ≠ i) → oi.apart ops oj = true) →
      i ∈ Region.ready md ops listed → YieldsIn P ops C oi v a →
      wpHeadQ P md ops C n L f (listed.setIfInBounds i true) (a.put oi.dst v) → wpHeadQ P md ops C n L (f + 1) listed a := by
  intro f
  induction f with
  | zero =>
    intro listed a inv _ hr hy H
    have hun := (mem_ready.1 hr).1
    refine ⟨fun h => (by rw [h] at hr; cases hr), fun j hj => ?_⟩
    have hjn : j < n := by
      rcases Nat.lt_or_ge j n with h | h
      · exact h
      · exact absurd hj (tail_waits hs hc hn inv _ i rfl hin hun j h)
    refine ⟨hjn, ?_⟩
    by_cases hji : j = i
    · subst hji; exact hy.qOp hi H
    · have := hdone _ _ H j (ready_mono hj hji)
      omega
  | succ f ih =>
    intro listed a inv hfree hr hy H
    have hun := (mem_ready.1 hr).1
    refine ⟨fun h => (by rw [h] at hr; cases hr), fun j hj => ?_⟩
    have hjn : j < n := by
      rcases Nat.lt_or_ge j n with h | h
      · exact h
      · exact absurd hj (tail_waits hs hc hn inv _ i rfl hin hun j h)
    refine ⟨hjn, ?_⟩
    by_cases hji : j = i
    · subst hji; exact hy.qOp hi H
    · have h1 := (H.2 j (ready_mono hj hji)).2
      obtain ⟨hjun, oj, hoj, hall⟩ := mem_ready.1 hj
      have hnot : ∀ e ∈ oj.after, Region.binds md e = true → e.on ≠ i := fun e he hb heq => by
        have h1 := hall e he hb
        rw [heq, getD_both hun] at h1
        cases h1
      have h2 := qOp_put hoj (hfree j oj hoj hji hjun hnot) (fun cs b => hsel i oi cs b hi) (fun cs b => hsel j oj cs b hoj) hy h1
      have hfree' : ∀ k ok, ops[k]? = some ok → k ≠ i → (listed.setIfInBounds j true).getD k true = false →
          (∀ e ∈ ok.after, Region.binds md e = true → e.on ≠ i) → oi.apart ops ok = true := fun k ok hk hki hun hno => by
        refine hfree k ok hk hki ?_ hno
        by_cases hjk : j = k
        · subst hjk; exact hjun
        · rw [getD_set_ne true hjk] at hun; exact hun
      refine qOp_mono (fun a' h3 => ih (listed.setIfInBounds j true) a' (inv.set hj hjn) hfree' (ready_mono hr (Ne.symm hji)) h3.1 ?_) h2
      rw [Array.setIfInBounds_comm _ _ hji]
      exact h3.2

theorem wpHeadQ_lex {n g : Nat} {Lq : Act → Prop} (hsel : Region.noSelect ops = true) (hs : Region.sinkB md ops n = true) (hc : Region.chainB md ops n = true) (hn : n < ops.size) :
    ∀ (l : List Oper) (k : Nat) (listed : Array Bool) (a : Act), (∀ j, j < l.length → l[j]? = ops[k + j]?) → k + l.length = n → HeadInv md ops n listed →
    Region.lexHead md ops g l.length k listed = true → wpQuiet P ops C Lq l a →
    wpHeadQ P md ops C n (fun listed' a' => Region.seqB md ops g n listed' = true ∧ Lq a') l.length listed a
  | [], k, listed, a, _, hk, _, hB, h => by
    have : k = n := by simpa using hk
    subst this
    exact ⟨by simpa [Region.lexHead] using hB, h⟩
  | o :: l, k, listed, a, hl, hk, inv, hB, h => by
    have h0 : ops[k]? = some o := by simpa using (hl 0 (by simp)).symm
    simp only [List.length_cons, Region.lexHead, Bool.and_eq_true] at hB
    obtain ⟨⟨hr, hf⟩, hB'⟩ := hB
    have hkn : k < n := by simp only [List.length_cons] at hk; omega
    have hr' : k ∈ Region.ready md ops listed := by simpa using hr
    have hst : qOp P ops C k (wpQuiet P ops C Lq l) a := by unfold qOp; simp only [h0]; exact h
    obtain ⟨v, hy, hK⟩ := yieldsIn_of_qOp h0 hst
    exact wpHeadQ_first h0 (Region.noSelect_spec hsel) hs hc hn hkn (fun listed' a' hL => seqB_ready hL.1) l.length listed a inv (Region.free_spec h0 hf) hr' hy
      (wpHeadQ_lex hsel hs hc hn l (k + 1) _ _ (fun j hj => by have := hl (j + 1) (by simp; omega); simpa [Nat.add_assoc, Nat.add_comm 1 j] using this) (by simp only [List.length_cons] at hk; omega) (inv.set hr' hkn) hB' hK)

theorem wp_region_quiet_tail {id : Nat} {Q : Exit → Act → World → Prop} {a : Act} {w : World} {l : List Oper} (n : Nat) (hm : P.follows .mixedOrders = true) (hB : Region.lexTailB .any l.toArray n = true)
    (hC : C { w with drawn := w.drawn + 1 })
    (h : wpQuiet P l.toArray C (fun a' => ∀ w', C w' → wpList P l.toArray Q (l.drop n) a' w') (l.take n) a) : (Code.region id l.toArray true).wp P Q a w := by
  simp only [Region.lexTailB, Bool.and_eq_true, decide_eq_true_eq] at hB
  obtain ⟨⟨⟨⟨hsel, hn⟩, hs⟩, hc⟩, hlex⟩ := hB
  have hn' : n < l.length := by simpa using hn
  have htl : (l.take n).length = n := by simp; omega
  have hdl : (l.drop n).length = l.toArray.size - n := by simp
  have inv0 : HeadInv .any l.toArray n (Array.replicate l.toArray.size false) :=
    ⟨by simp, fun j oj _ hl => (by rw [getD_replicate_false] at hl; cases hl), fun t _ ht => getD_in (by simpa using ht) (getD_replicate_false _ _)⟩
  have H := wpHeadQ_lex (md := .any) (g := l.toArray.size - n) hsel hs hc hn (l.take n) 0 _ a (fun j hj => by
    have hj' : j < n := by rw [htl] at hj; exact hj
    simp [hj']) (by simpa using htl) inv0 (by rw [htl]; exact hlex) h
  refine wp_region_any hm ?_
  have := wpAny_of_headQ (Q' := Q) (g := l.toArray.size - n) (fun listed a' w' hw' hL => by
    have := wpAny_of_seq (md := .any) (Q' := Q) (l.drop n) n listed a' w' (fun j => by simp [List.getElem?_drop]) (by rw [hdl]; exact hL.1) (hL.2 w' hw')
    rwa [hdl] at this) _ _ _ _ hC H
  rw [htl, show n + (l.toArray.size - n) = l.toArray.size by omega] at this
  exact this
end

theorem wp_region_ext_tail {P : Program} {id : Nat} {Q : Exit → Act → World → Prop} {a : Act} {w : World} {l : List Oper} (n : Nat) (hm : P.follows .mixedOrders = true) (hB : Region.lexTailB .any l.toArray n = true)
    (h : wpQuiet P l.toArray (fun w' => ∃ x : ExtW w, w' = x.val) (fun a' => ∀ w', Ext w w' → wpList P l.toArray Q (l.drop n) a' w') (l.take n) a) : (Code.region id l.toArray true).wp P Q a w :=
  wp_region_quiet_tail (C := fun w' => ∃ x : ExtW w, w' = x.val) n hm hB ⟨⟨{ w with drawn := w.drawn + 1 }, ⟨rfl, rfl, rfl, Nat.le_refl _, fun _ _ => rfl⟩⟩, rfl⟩
    (wpQuiet_mono (fun a' h' w' hx => by obtain ⟨x, rfl⟩ := hx; exact h' x.val x.ext) _ _ h)
end Go.Proofs.YtnkakofcejkhiaaDoor

/- Regions that draw their order: reads, then operations in one order that make new memory while the reads may still come between them, then a tail in one order. -/
namespace Go.Proofs.YtnkakofcejkhiaaDoor
open Go.RowKit Go.Lib

section
variable {P : Program} {ops : Array Oper} {md : Region.Mode} {C : World → Prop} {Q : Exit → Act → World → Prop}

def wpReads (P : Program) (ops : Array Oper) (C : World → Prop) (Q : Act → Prop) : List Oper → Act → Prop
  | [], a => Q a
  | o :: rest, a => ∃ v, YieldsIf P ops C o v a ∧ wpReads P ops C Q rest (a.put o.dst v)
def wpSpec (P : Program) (ops : Array Oper) (C : World → Prop) (Q : Exit → Act → World → Prop) (fin : Act → World → Prop) : List Oper → Act → World → Prop
  | [], a, w => fin a w
  | o :: rest, a, w => if Region.wanted o (yielded ops a.tmps) = true then Oper.wp P o a w (fun a' w' => C w' ∧ wpSpec P ops C Q fin rest a' w') Q else C w ∧ wpSpec P ops C Q fin rest (a.put o.dst undef) w

def wpHeadW (P : Program) (md : Region.Mode) (ops : Array Oper) (C : World → Prop) (Q : Exit → Act → World → Prop) (m : Nat) (L : Array Bool → Act → World → Prop) : Nat → Array Bool → Act → World → Prop
  | 0, listed, a, w => L listed a w
  | f + 1, listed, a, w => Region.ready md ops listed ≠ [] ∧ ∀ i ∈ Region.ready md ops listed, i < m ∧ wpOp P ops Q i (fun a' w' => C w' ∧ wpHeadW P md ops C Q m L f (listed.setIfInBounds i true) a' w') a w

theorem wpAny_of_headW {m g : Nat} {L : Array Bool → Act → World → Prop} (hL : ∀ listed a w, L listed a w → wpAny P md ops Q g listed a w) :
    ∀ (f : Nat) (listed : Array Bool) (a : Act) (w : World), wpHeadW P md ops C Q m L f listed a w → wpAny P md ops Q (f + g) listed a w
  | 0, listed, a, w, h => by rw [Nat.zero_add]; exact hL _ _ _ h
  | f + 1, listed, a, w, h => by
    rw [show f + 1 + g = (f + g) + 1 by omega]
    exact ⟨fun h0 => absurd h0 h.1, fun i hi => wpOp_mono (fun a' w' h' => wpAny_of_headW hL f _ a' w' h'.2) (h.2 i hi).2⟩

theorem wpHeadW_first {m i : Nat} {oi : Oper} {v : Value} {L : Array Bool → Act → World → Prop} (hi : ops[i]? = some oi) (hsel : ∀ (j : Nat) (o : Oper) cs b, ops[j]? = some o → o.op ≠ .select cs b)
    (hs : Region.sinkB md ops m = true) (hc : Region.chainB md ops m = true) (hm : m < ops.size) (him : i < m)
    (hQ : ∀ c a d u w, Q (.panic c) (Act.put a d u) w → Q (.panic c) a w)
    (hdone : ∀ listed a w, L listed a w → ∀ j ∈ Region.ready md ops listed, m ≤ j) :
    ∀ (f : Nat) (listed : Array Bool) (a : Act) (w : World), HeadInv md ops m listed →
      (∀ j oj, ops[j]? = some oj → j ≠ i → listed.getD j true = false → (∀ e ∈ oj.after, Region.binds md e = true → e.on ≠ i) → oi.apart ops oj = true) →
      i ∈ Region.ready md ops listed → YieldsIf P ops C oi v a → C w →
      wpHeadW P md ops C Q m L f (listed.setIfInBounds i true) (a.put oi.dst v) w → wpHeadW P md ops C Q m L (f + 1) listed a w := by
  intro f
  induction f with
  | zero =>
    intro listed a w inv _ hr hy hC H
    have hun := (mem_ready.1 hr).1
    refine ⟨fun h => (by rw [h] at hr; cases hr), fun j hj => ?_⟩
    have hjm : j < m := by
      rcases Nat.lt_or_ge j m with h | h
      · exact h
      · exact absurd hj (tail_waits hs hc hm inv _ i rfl him hun j h)
    refine ⟨hjm, ?_⟩
    by_cases hji : j = i
    · subst hji; exact hy.wpOp hi hC ⟨hC, H⟩
    · have := hdone _ _ _ H j (ready_mono hj hji)
      omega
  | succ f ih =>
    intro listed a w inv hfree hr hy hC H
    have hun := (mem_ready.1 hr).1
    refine ⟨fun h => (by rw [h] at hr; cases hr), fun j hj => ?_⟩
    have hjm : j < m := by
      rcases Nat.lt_or_ge j m with h | h
      · exact h
      · exact absurd hj (tail_waits hs hc hm inv _ i rfl him hun j h)
    refine ⟨hjm, ?_⟩
    by_cases hji : j = i
    · subst hji; exact hy.wpOp hi hC ⟨hC, H⟩
    · have h1 := (H.2 j (ready_mono hj hji)).2
      obtain ⟨hjun, oj, hoj, hall⟩ := mem_ready.1 hj
      have hnot : ∀ e ∈ oj.after, Region.binds md e = true → e.on ≠ i := fun e he hb heq => by
        have h2 := hall e he hb
        rw [heq, getD_both hun] at h2
        cases h2
      have h2 := wpOp_putIf hoj (hfree j oj hoj hji hjun hnot) (fun cs b => hsel i oi cs b hi) (fun cs b => hsel j oj cs b hoj) (fun c a w h => hQ c a _ _ w h) hy h1
      have hfree' : ∀ k ok, ops[k]? = some ok → k ≠ i → (listed.setIfInBounds j true).getD k true = false →
          (∀ e ∈ ok.after, Region.binds md e = true → e.on ≠ i) → oi.apart ops ok = true := fun k ok hk hki hun hno => by
        refine hfree k ok hk hki ?_ hno
        by_cases hjk : j = k
        · subst hjk; exact hjun
        · rw [getD_set_ne true hjk] at hun; exact hun
      refine wpOp_mono (fun a' w' h3 => ⟨h3.2.1, ih (listed.setIfInBounds j true) a' w' (inv.set hj hjm) hfree' (ready_mono hr (Ne.symm hji)) h3.1 h3.2.1 ?_⟩) h2
      rw [Array.setIfInBounds_comm _ _ hji]
      exact h3.2.2

theorem wpHeadW_spec {m g : Nat} {fin : Act → World → Prop} : ∀ (l : List Oper) (k : Nat) (listed : Array Bool) (a : Act) (w : World), (∀ j, j < l.length → l[j]? = ops[k + j]?) → k + l.length = m →
    Region.seqB md ops (l.length + g) k listed = true → wpSpec P ops C Q fin l a w → wpHeadW P md ops C Q m (fun listed' a' w' => Region.seqB md ops g m listed' = true ∧ fin a' w') l.length listed a w
  | [], k, listed, a, w, _, hk, hB, h => by
    have : k = m := by simpa using hk
    subst this
    exact ⟨by simpa using hB, h⟩
  | o :: l, k, listed, a, w, hl, hk, hB, h => by
    have h0 : ops[k]? = some o := by simpa using (hl 0 (by simp)).symm
    rw [List.length_cons, show l.length + 1 + g = (l.length + g) + 1 by omega] at hB
    simp only [Region.seqB, Bool.and_eq_true, decide_eq_true_eq] at hB
    have hkm : k < m := by simp only [List.length_cons] at hk; omega
    refine ⟨fun h1 => (by rw [hB.1] at h1; cases h1), fun i hi => ?_⟩
    rw [hB.1] at hi
    obtain rfl : i = k := by simpa using hi
    refine ⟨hkm, wpOp_step h0 fun K' hK => ?_⟩
    have hnext := fun a' w' h1 h2 h3 h4 => wpHeadW_spec (m := m) (g := g) (fin := fin) l (i + 1) (listed.setIfInBounds i true) a' w' h1 h2 h3 h4
    have hl2 : ∀ j, j < l.length → l[j]? = ops[i + 1 + j]? := fun j hj => by have := hl (j + 1) (by simp; omega); simpa [Nat.add_assoc, Nat.add_comm 1 j] using this
    have hk2 : i + 1 + l.length = m := by simp only [List.length_cons] at hk; omega
    rw [wpSpec] at h
    by_cases hw : Region.wanted o (yielded ops a.tmps) = true
    · rw [if_pos hw] at h ⊢
      refine Oper.wp_mono (fun a1 w1 h1 => hK a1 w1 ⟨h1.1, hnext a1 w1 hl2 hk2 hB.2 h1.2⟩) h
    · rw [if_neg hw] at h ⊢
      exact hK _ _ ⟨h.1, hnext _ _ hl2 hk2 hB.2 h.2⟩

theorem wpHeadW_lex {n m g : Nat} {fin : Act → World → Prop} (sp : List Oper) (hsp : ∀ j, j < sp.length → sp[j]? = ops[n + j]?) (hspm : n + sp.length = m) (hsel : Region.noSelect ops = true) (hs : Region.sinkB md ops m = true) (hc : Region.chainB md ops m = true) (hm : m < ops.size)
    (hQ : ∀ c a d u w, Q (.panic c) (Act.put a d u) w → Q (.panic c) a w) (w : World) (hC : C w) :
    ∀ (l : List Oper) (k : Nat) (listed : Array Bool) (a : Act), (∀ j, j < l.length → l[j]? = ops[k + j]?) → k + l.length = n → HeadInv md ops m listed →
    Region.lexHead md ops (sp.length + g) l.length k listed = true → wpReads P ops C (fun a' => wpSpec P ops C Q fin sp a' w) l a →
    wpHeadW P md ops C Q m (fun listed' a' w' => Region.seqB md ops g m listed' = true ∧ fin a' w') (l.length + sp.length) listed a w
  | [], k, listed, a, _, hk, inv, hB, h => by
    have : k = n := by simpa using hk
    subst this
    simp only [List.length_nil, Nat.zero_add]
    exact wpHeadW_spec sp k listed a w hsp hspm (by simpa [Region.lexHead] using hB) h
  | o :: l, k, listed, a, hl, hk, inv, hB, h => by
    have h0 : ops[k]? = some o := by simpa using (hl 0 (by simp)).symm
    simp only [List.length_cons, Region.lexHead, Bool.and_eq_true] at hB
    obtain ⟨⟨hr, hf⟩, hB'⟩ := hB
    have hkm : k < m := by simp only [List.length_cons] at hk; omega
    have hr' : k ∈ Region.ready md ops listed := by simpa using hr
    obtain ⟨v, hy, hK⟩ := h
    rw [List.length_cons, show l.length + 1 + sp.length = (l.length + sp.length) + 1 by omega]
    exact wpHeadW_first h0 (Region.noSelect_spec hsel) hs hc hm hkm hQ (fun listed' a' w' hL => seqB_ready hL.1) (l.length + sp.length) listed a w inv (Region.free_spec h0 hf) hr' hy hC
      (wpHeadW_lex sp hsp hspm hsel hs hc hm hQ w hC l (k + 1) _ _ (fun j hj => by have := hl (j + 1) (by simp; omega); simpa [Nat.add_assoc, Nat.add_comm 1 j] using this) (by simp only [List.length_cons] at hk; omega) (inv.set hr' hkm) hB' hK)

theorem wp_region_mixed {id : Nat} {a : Act} {w : World} {l : List Oper} (n m : Nat) (hnm : n ≤ m) (hf : P.follows .mixedOrders = true) (hB : Region.lexTailB .any l.toArray m = true)
    (hB2 : Region.lexHead .any l.toArray (l.length - n) n 0 (Array.replicate l.toArray.size false) = true)
    (hQ : ∀ c a d u w, Q (.panic c) (Act.put a d u) w → Q (.panic c) a w) (hC : C w.drew)
    (h : wpReads P l.toArray C (fun a' => wpSpec P l.toArray C Q (fun a'' w'' => wpList P l.toArray Q (l.drop m) a'' w'') ((l.take m).drop n) a' w.drew) (l.take n) a) : (Code.region id l.toArray true).wp P Q a w := by
  simp only [Region.lexTailB, Bool.and_eq_true, decide_eq_true_eq] at hB
  obtain ⟨⟨⟨⟨hsel, hm⟩, hs⟩, hc⟩, -⟩ := hB
  have hm' : m < l.length := by simpa using hm
  have htl : (l.take n).length = n := by simp; omega
  have hsl : ((l.take m).drop n).length = m - n := by simp; omega
  have inv0 : HeadInv .any l.toArray m (Array.replicate l.toArray.size false) :=
    ⟨by simp, fun j oj _ hl => (by rw [getD_replicate_false] at hl; cases hl), fun t _ ht => getD_in (by simpa using ht) (getD_replicate_false _ _)⟩
  have hg : (m - n) + (l.length - m) = l.length - n := by omega
  have H := wpHeadW_lex (P := P) (C := C) (Q := Q) (md := .any) (n := n) (m := m) (g := l.length - m) (fin := fun a'' w'' => wpList P l.toArray Q (l.drop m) a'' w'') ((l.take m).drop n) (fun j hj => by
      rw [hsl] at hj
      rw [List.getElem?_drop, List.getElem?_take_of_lt (by omega)]
      simp) (by rw [hsl]; omega) hsel hs hc hm hQ w.drew hC (l.take n) 0 _ a (fun j hj => by
      have hj' : j < n := by rw [htl] at hj; exact hj
      simp [hj']) (by simpa using htl) inv0 (by rw [htl, hsl, hg]; exact hB2) h
  refine wp_region_any hf ?_
  have := wpAny_of_headW (Q := Q) (g := l.length - m) (fun listed a' w' hL => by
    have := wpAny_of_seq (md := .any) (Q' := Q) (l.drop m) m listed a' w' (fun j => by simp [List.getElem?_drop]) (by simpa using hL.1) hL.2
    simpa using this) _ _ _ _ H
  rw [htl, hsl, show n + (m - n) + (l.length - m) = l.toArray.size by simp; omega] at this
  exact this
end
end Go.Proofs.YtnkakofcejkhiaaDoor
