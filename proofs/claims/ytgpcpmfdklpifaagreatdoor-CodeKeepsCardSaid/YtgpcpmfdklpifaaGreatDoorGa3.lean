/- Layer 25 on plain data: Compact keeps the value. -/
import Derived.ChangeArms
import Derived.Lib.LaidU8
import Derived.Test.YtgpcpmfdklpifaaGreatDoorRows
import Derived.ProofKit
import Derived.Below
import Derived.ChangeSame
import Derived.HandedShaped
import Derived.Lay
import Derived.Shelf.Vars
import Derived.LaidMore
import Derived.Test.YtgpcpmfdklpifaaGreatDoorGa1
import Derived.Test.YtgpcpmfdklpifaaGreatDoorGa2
set_option linter.unusedSimpArgs false
set_option linter.unusedVariables false
namespace Go.Proofs.YtgpcpmfdklpifaaGreatDoor
open Go.RowKit Go.Lib
structure NdOk (cols rt : List Int) (i : Nat) (d : Nd) : Prop where
  form : qbh d.x = true
  col : d.x.op = 3 → 0 ≤ d.x.n ∧ d.x.n < cols.length
  ar : d.src.length = (opsP d.x).length
  lt : ∀ s ∈ d.src, s < i
  typ : tailT [] cols [] d.x.op d.x.n d.x.s (d.src.map fun s => rt.getD s 0) = some (rt.getD i 0)
def NdsOk (cols rt : List Int) : List Nd → Nat → Prop
  | [], _ => True
  | d :: l, i => NdOk cols rt i d ∧ NdsOk cols rt l (i + 1)
def resT (types : List Int) (l : List Ins) : List Int := l.map fun x => types.getD x.tgt.toNat 0
theorem nds_ok {cols types : List Int} : ∀ (l pre : List Ins) (done : List Bool) (last : List Nat), AllOk cols types l done → done.length = types.length → last.length = types.length → (∀ r : Nat, done.getD r false = true → last.getD r 0 < pre.length ∧ (resT types pre).getD (last.getD r 0) 0 = types.getD r 0) →
    NdsOk cols (resT types (pre ++ l)) (nodes l pre.length last) pre.length
  | [], _, _, _, _, _, _, _ => trivial
  | x :: l, pre, done, last, ha, hd, hl, h => by
    have hx := ha.1
    have h0 := hx.to0
    have h1 := hx.to1
    have hpre : ∀ k, k < pre.length → (resT types (pre ++ x :: l)).getD k 0 = (resT types pre).getD k 0 := fun k hk => by
      unfold resT
      rw [List.map_append, List.getD_eq_getElem?_getD, List.getElem?_append_left (by simpa using hk), List.getD_eq_getElem?_getD]
    have hi : (resT types (pre ++ x :: l)).getD pre.length 0 = types.getD x.tgt.toNat 0 := by
      unfold resT
      rw [List.map_append, List.getD_eq_getElem?_getD, List.getElem?_append_right (by simp)]
      simp
    rw [nodes, NdsOk]
    constructor
    · refine ⟨hx.form, hx.col, by simp, fun s hs => ?_, ?_⟩
      · obtain ⟨r, hr, rfl⟩ := List.mem_map.1 hs
        exact (h r.toNat (hx.args r hr).2.2).1
      · rw [hi]
        have hm : (((opsP x).map fun r => last.getD r.toNat 0).map fun s => (resT types (pre ++ x :: l)).getD s 0) = (opsP x).map fun r => types.getD r.toNat 0 := by
          rw [List.map_map]
          refine List.map_congr_left fun r hr => ?_
          obtain ⟨h2, h3⟩ := h r.toNat (hx.args r hr).2.2
          show (resT types (pre ++ x :: l)).getD (last.getD r.toNat 0) 0 = _
          rw [hpre _ h2, h3]
        rw [show (({ x := x, src := (opsP x).map fun r => last.getD r.toNat 0 } : Nd).src) = (opsP x).map fun r => last.getD r.toNat 0 from rfl, hm]
        exact qej (fun _ h => h) (fun e => absurd e hx.op.2.2) hx.tail
    · have := nds_ok l (pre ++ [x]) _ (last.set x.tgt.toNat pre.length) ha.2 (by rw [List.length_set]; exact hd) (by rw [List.length_set]; exact hl) (fun r hr => by
        rw [qu] at hr
        rw [qu, List.length_append, List.length_singleton]
        unfold resT
        rw [List.map_append, List.map_singleton]
        by_cases he : x.tgt.toNat = r
        · rw [if_pos ⟨he, by omega⟩]
          refine ⟨by omega, ?_⟩
          rw [qcd, if_neg (by simp), if_pos (by simp), he]
        · rw [if_neg (fun h => he h.1)] at hr
          rw [if_neg (fun h => he h.1)]
          obtain ⟨h2, h3⟩ := h r hr
          refine ⟨by omega, ?_⟩
          rw [qcd, if_pos (by simpa using h2)]
          exact h3)
      rw [List.length_append, List.length_singleton, List.append_assoc] at this
      exact this
theorem CodOk.nds {c : Cod} {cols : List Int} (h : CodOk c cols) : NdsOk cols (resT c.types c.ins) (qt c) 0 :=
  nds_ok c.ins [] _ _ h.all (by simp) (by simp) (fun r hr => (no_done hr).elim)
def endI : List Nd → Nat → List Nat → List Nat
  | [], _, e => e
  | d :: l, i, e => endI l (i + 1) (d.src.foldl (fun e k => e.set k i) (e.set i i))
def endP (ds : List Nd) (root : Nat) : List Nat := (endI ds 0 (List.replicate ds.length 0)).set root ds.length
theorem fold_end : ∀ (ks : List Nat) (e : List Nat) (i : Nat), (ks.foldl (fun e k => e.set k i) e).length = e.length ∧ ∀ k, k < e.length → (k ∈ ks → (ks.foldl (fun e k => e.set k i) e).getD k 0 = i) ∧ (k ∉ ks → (ks.foldl (fun e k => e.set k i) e).getD k 0 = e.getD k 0)
  | [], e, i => ⟨rfl, fun k hk => ⟨fun h => by simp at h, fun _ => rfl⟩⟩
  | a :: ks, e, i => by
    obtain ⟨h1, h2⟩ := fold_end ks (e.set a i) i
    rw [List.foldl_cons]
    refine ⟨by rw [h1]; simp, fun k hk => ?_⟩
    obtain ⟨h3, h4⟩ := h2 k (by simpa using hk)
    by_cases hka : k ∈ ks
    · exact ⟨fun _ => h3 hka, fun h => absurd (List.mem_cons_of_mem _ hka) h⟩
    · rw [h4 hka, qu]
      by_cases e1 : a = k
      · rw [if_pos ⟨e1, by subst e1; exact hk⟩]
        exact ⟨fun _ => rfl, fun h => absurd (by simp [e1]) h⟩
      · rw [if_neg (fun h => e1 h.1)]
        exact ⟨fun h => absurd (by rcases List.mem_cons.1 h with h | h; exact absurd h.symm e1; exact h) hka, fun _ => rfl⟩
theorem endI_len : ∀ (l : List Nd) (i : Nat) (e : List Nat), (endI l i e).length = e.length
  | [], _, _ => rfl
  | d :: l, i, e => by rw [endI, endI_len l, (fold_end d.src _ i).1]; simp
theorem endI_ge : ∀ (l pre : List Nd) (e : List Nat), e.length = (pre ++ l).length → Early (pre ++ l) → (∀ j, j < pre.length → ∀ k ∈ srcOf (pre ++ l) j, j ≤ e.getD k 0) → ∀ j, j < (pre ++ l).length → ∀ k ∈ srcOf (pre ++ l) j, j ≤ (endI l pre.length e).getD k 0
  | [], pre, e, _, _, h => fun j hj k hk => h j (by simpa using hj) k hk
  | d :: l, pre, e, hl, he, h => by
    have hd : srcOf (pre ++ d :: l) pre.length = d.src := by
      unfold srcOf
      rw [List.getD_eq_getElem?_getD, List.getElem?_append_right (Nat.le_refl _)]; simp
    have := endI_ge l (pre ++ [d]) (d.src.foldl (fun e k => e.set k pre.length) (e.set pre.length pre.length)) (by rw [(fold_end _ _ _).1]; simp at hl ⊢; exact hl) (by rw [List.append_assoc]; exact he) (by
      intro j hj k hk
      rw [List.append_assoc, List.singleton_append] at hk
      have hj' : j ≤ pre.length := by simp at hj; omega
      have hkj : k < j := he j (by simp; omega) k hk
      have hke : k < e.length := by rw [hl]; simp; omega
      obtain ⟨h3, h4⟩ := (fold_end d.src (e.set pre.length pre.length) pre.length).2 k (by simpa using hke)
      by_cases hks : k ∈ d.src
      · rw [h3 hks]; exact hj'
      · rw [h4 hks, qu, if_neg (by omega)]
        by_cases hjp : j = pre.length
        · subst hjp; rw [hd] at hk; exact absurd hk hks
        · exact h j (by omega) k hk)
    rw [List.append_assoc, List.singleton_append, show (pre ++ [d]).length = pre.length + 1 by simp] at this
    exact this
theorem endP_len (ds : List Nd) (root : Nat) : (endP ds root).length = ds.length := by unfold endP; rw [List.length_set, endI_len]; simp
theorem endP_ge {ds : List Nd} (he : Early ds) (root : Nat) {j : Nat} (hj : j < ds.length) {k : Nat} (hk : k ∈ srcOf ds j) : j ≤ (endP ds root).getD k 0 := by
  have h := endI_ge ds [] (List.replicate ds.length 0) (by simp) he (fun j hj => by simp at hj) j hj k hk
  unfold endP
  rw [qu]
  split
  · omega
  · exact h
theorem endP_root (ds : List Nd) {root : Nat} (h : root < ds.length) : (endP ds root).getD root 0 = ds.length := by
  unfold endP
  rw [qu, if_pos ⟨rfl, by rw [endI_len]; simpa using h⟩]
def slot (e : List Nat) (i : Nat) (t : Int) : List Nat → List Int → Nat
  | h :: hs, u :: us => if i < e.getD h 0 ∨ u ≠ t then slot e i t hs us + 1 else 0
  | _, _ => 0
theorem slot_spec (e : List Nat) (i : Nat) (t : Int) : ∀ (hs : List Nat) (us : List Int), hs.length = us.length → slot e i t hs us ≤ hs.length ∧ (slot e i t hs us < hs.length → e.getD (hs.getD (slot e i t hs us) 0) 0 ≤ i ∧ us.getD (slot e i t hs us) 0 = t) ∧
    ∀ k, k < slot e i t hs us → i < e.getD (hs.getD k 0) 0 ∨ us.getD k 0 ≠ t
  | [], [], _ => ⟨by simp [slot], by simp [slot], by simp [slot]⟩
  | h :: hs, u :: us, hl => by
    obtain ⟨h1, h2, h3⟩ := slot_spec e i t hs us (by simpa using hl)
    rw [slot]
    split
    · rename_i hc
      refine ⟨by simp; omega, fun h => ?_, fun k hk => ?_⟩
      · rw [List.getD_cons_succ, List.getD_cons_succ]
        exact h2 (by simpa using h)
      · cases k with
        | zero => rw [List.getD_cons_zero, List.getD_cons_zero]; exact hc
        | succ k => rw [List.getD_cons_succ, List.getD_cons_succ]; exact h3 k (by omega)
    · rename_i hc
      refine ⟨by simp, fun _ => ?_, fun k hk => by omega⟩
      rw [List.getD_cons_zero, List.getD_cons_zero]
      rw [not_or, Decidable.not_not] at hc
      exact ⟨by omega, hc.2⟩
def newI (x : Ins) (args : List Int) (k : Nat) : Ins := ⟨x.op, k, args.getD 0 0, args.getD 1 0, args.getD 2 0, x.n, x.s⟩
structure CompS where
  ins : List Ins
  holds : List Nat
  tys : List Int
  place : List Nat
def compI (e : List Nat) (ct : List Int) : List Nd → Nat → CompS → CompS
  | [], _, s => s
  | d :: l, i, s =>
    let t := ct.getD d.x.tgt.toNat 0
    let k := slot e i t s.holds s.tys
    compI e ct l (i + 1) ⟨s.ins ++ [newI d.x (d.src.map fun j => ((s.place.getD j 0 : Nat) : Int)) k], if k = s.holds.length then s.holds ++ [i] else s.holds.set k i, if k = s.holds.length then s.tys ++ [t] else s.tys, s.place.set i k⟩
def compS (c : Cod) : CompS := compI (endP (qt c) (rootC c)) c.types (qt c) 0 ⟨[], [], [], List.replicate c.ins.length 0⟩
def compP (c : Cod) : Cod := let d := trimP c; ⟨(compS d).ins, (compS d).tys, ((compS d).place.getD (rootC d) 0 : Nat)⟩
theorem take_args {args : List Int} {n : Nat} (hn : n ≤ 3) (h : args.length = n) : ([args.getD 0 0, args.getD 1 0, args.getD 2 0]).take n = args := by
  match args, n, h with
  | [], _, rfl => rfl
  | [a], _, rfl => rfl
  | [a, b], _, rfl => rfl
  | [a, b, d], _, rfl => rfl
theorem qci (x : Ins) : (opsP x).length = if opOk x.op then arO x.op else 0 := by
  unfold opsP
  split
  · rw [List.length_take]; have := qdd x.op; simp; omega
  · rfl
theorem form_op {x : Ins} (h : qbh x = true) : opOk x.op = true := by
  unfold qbh at h
  simp only [Bool.and_eq_true] at h
  exact h.1.1
theorem newI_ops {x : Ins} (hf : qbh x = true) {args : List Int} (hl : args.length = (opsP x).length) (k : Nat) : opsP (newI x args k) = args := by
  have ho := form_op hf
  rw [qci, if_pos ho] at hl
  show (if opOk x.op then ([args.getD 0 0, args.getD 1 0, args.getD 2 0]).take (arO x.op) else []) = args
  rw [if_pos ho]
  exact take_args (qdd _) hl
theorem newI_form {x : Ins} (hf : qbh x = true) {args : List Int} (hl : args.length = (opsP x).length) (k : Nat) : qbh (newI x args k) = true := by
  have ho := form_op hf
  rw [qci, if_pos ho] at hl
  have hz : ∀ j, args.length ≤ j → args.getD j 0 = 0 := fun j hj => by rw [List.getD_eq_getElem?_getD, List.getElem?_eq_none hj]; rfl
  unfold qbh at hf ⊢
  simp only [Bool.and_eq_true, decide_eq_true_eq] at hf ⊢
  refine ⟨⟨hf.1.1, ⟨fun h => hz 2 (by rw [hl]; have : arO x.op < 3 := h; omega), fun h => hz 1 (by rw [hl]; have : arO x.op < 2 := h; omega)⟩, fun h => hz 0 (by rw [hl]; have : arO x.op < 1 := h; omega)⟩, hf.2⟩
theorem levels_exI (x : Ins) : levels (exI x) ≤ 12 := by
  unfold exI
  rw [levels]
  have : ∀ (l : List Int) (n : Int), n ≤ 1 → qz (l.map qba) n ≤ 1 := fun l => by
    induction l with
    | nil => intro n h; rw [List.map_nil, qz]; exact h
    | cons a l ih =>
      intro n h
      rw [List.map_cons, qz]
      refine ih _ ?_
      have : levels (qba a) = 1 := by unfold qba; rw [levels, qz]; rfl
      omega
  have := this (opsP x) 0 (by omega)
  omega
theorem tys_of_params {cols types : List Int} : ∀ (l : List Int), (∀ r ∈ l, 0 ≤ r ∧ r < types.length) → (∀ t ∈ types, 0 ≤ t ∧ t < 3) → tys [] cols types (l.map qba) = some (l.map fun r => types.getD r.toNat 0)
  | [], _, _ => by rw [List.map_nil, tys]; rfl
  | r :: l, h, hk => by
    obtain ⟨h0, h1⟩ := h r (by simp)
    have hg : types[r.toNat]? = some (types.getD r.toNat 0) := by
      rw [List.getD_eq_getElem?_getD, List.getElem?_eq_getElem (by omega)]; rfl
    have hkd := hk _ (List.mem_of_getElem? hg)
    have hp : ty [] cols types (qba r) = some (types.getD r.toNat 0) := by
      unfold qba
      rw [ty]
      simp only [tys]
      unfold tailT
      rw [if_neg (by simp), if_neg (by decide), if_pos rfl]
      unfold leafT
      rw [if_neg (by decide), if_neg (by decide), if_neg (by decide), if_pos rfl]
      unfold pickT
      rw [if_neg (by omega), hg]
      dsimp only
      rw [if_pos]
      unfold kindB
      simp only [Bool.and_eq_true, decide_eq_true_eq]
      exact hkd
    rw [List.map_cons, tys, hp, tys_of_params l (fun x hx => h x (by simp [hx])) hk]
    rfl
theorem tyI_of {cols types : List Int} {x : Ins} {t : Int} (hr : ∀ r ∈ opsP x, 0 ≤ r ∧ r < types.length) (hk : ∀ t ∈ types, 0 ≤ t ∧ t < 3) (hop : x.op ≠ 4) (h : tailT [] cols [] x.op x.n x.s ((opsP x).map fun r => types.getD r.toNat 0) = some t) : tyI cols types x = some t := by
  unfold tyI typeP
  rw [if_pos rightF_nil]
  unfold tyD
  rw [if_neg (by have := levels_exI x; omega)]
  unfold exI
  rw [ty, tys_of_params _ hr hk]
  exact qej (fun _ h => h) (fun e => absurd e hop) h
theorem compI_tys (e : List Nat) (ct : List Int) : ∀ (l : List Nd) (i : Nat) (s : CompS), ∃ r, (compI e ct l i s).tys = s.tys ++ r
  | [], _, s => ⟨[], by simp [compI]⟩
  | d :: l, i, s => by
    rw [compI]
    try dsimp only
    obtain ⟨r, hr⟩ := compI_tys e ct l (i + 1) ⟨s.ins ++ [newI d.x (d.src.map fun j => ((s.place.getD j 0 : Nat) : Int)) (slot e i (ct.getD d.x.tgt.toNat 0) s.holds s.tys)], if slot e i (ct.getD d.x.tgt.toNat 0) s.holds s.tys = s.holds.length then s.holds ++ [i] else s.holds.set (slot e i (ct.getD d.x.tgt.toNat 0) s.holds s.tys) i, if slot e i (ct.getD d.x.tgt.toNat 0) s.holds s.tys = s.holds.length then s.tys ++ [ct.getD d.x.tgt.toNat 0] else s.tys, s.place.set i (slot e i (ct.getD d.x.tgt.toNat 0) s.holds s.tys)⟩
    rw [hr]
    split
    · exact ⟨[ct.getD d.x.tgt.toNat 0] ++ r, by simp⟩
    · exact ⟨r, rfl⟩
structure CompInv (e : List Nat) (rt T : List Int) (i n : Nat) (s : CompS) (done : List Bool) (last : List Nat) : Prop where
  hl : s.holds.length = s.tys.length
  alive : ∀ j, j < i → i ≤ e.getD j 0 → s.place.getD j 0 < s.holds.length ∧ s.holds.getD (s.place.getD j 0) 0 = j
  ty : ∀ j, j < i → s.place.getD j 0 < s.tys.length ∧ s.tys.getD (s.place.getD j 0) 0 = rt.getD j 0
  dl : done.length = T.length
  ll : last.length = T.length
  dn : ∀ k, k < s.holds.length → done.getD k false = true ∧ last.getD k 0 = s.holds.getD k 0
  pl : s.place.length = n
  few : s.tys.length ≤ i
theorem pre_getD {α : Type} {a b : List α} {d : α} {k : Nat} (h : k < a.length) : (a ++ b).getD k d = a.getD k d := by
  rw [List.getD_eq_getElem?_getD, List.getElem?_append_left h, List.getD_eq_getElem?_getD]
theorem tys_grow {c : Prop} [Decidable c] {a : List Int} {t : Int} : ∃ r, (if c then a ++ [t] else a) = a ++ r := by
  split
  · exact ⟨[t], rfl⟩
  · exact ⟨[], by simp⟩
set_option maxHeartbeats 1000000 in
def keyN (ct : List Int) (d : Nd) : List Nat × Int × Int × ByteArray × Int := (d.src, d.x.op, d.x.n, d.x.s, ct.getD d.x.tgt.toNat 0)
theorem comp_all {cols ct rt : List Int} {e : List Nat} {n : Nat} (T : List Int) (hT : ∀ t ∈ T, 0 ≤ t ∧ t < 3) (time : Int) (row : List Val) : ∀ (l : List Nd) (i : Nat) (s : CompS) (done : List Bool) (last : List Nat) (acc : List Val), i + l.length = n →
    (∃ r, T = (compI e ct l i s).tys ++ r) → NdsOk cols rt l i → (∀ k, k < l.length → ct.getD (l.getD k ⟨⟨0, 0, 0, 0, 0, 0, ByteArray.empty⟩, []⟩).x.tgt.toNat 0 = rt.getD (i + k) 0) → (∀ k, k < l.length → ∀ j ∈ srcOf l k, i + k ≤ e.getD j 0) → CompInv e rt T i n s done last →
    ∃ outs, (compI e ct l i s).ins = s.ins ++ outs ∧ outs.length = l.length ∧ AllOk cols T outs done ∧ resN time row (nodes outs i last) acc = resN time row l acc ∧ CompInv e rt T n n (compI e ct l i s) (doneL outs done) (lastL outs i last) ∧ (nodes outs i last).map (keyN T) = l.map (keyN ct)
  | [], i, s, done, last, acc, hn, _, _, _, _, h => by
    obtain rfl : i = n := by simpa using hn
    exact ⟨[], by simp [compI], rfl, trivial, rfl, h, rfl⟩
  | d :: l, i, s, done, last, acc, hn, hTy, hd, hct, hend, h => by
    have hn' : i + 1 + l.length = n := by simp at hn; omega
    have hin : i < n := by omega
    have hct0 := hct 0 (by simp)
    rw [List.getD_cons_zero, Nat.add_zero] at hct0
    have hct' : ∀ k, k < l.length → ct.getD (l.getD k ⟨⟨0, 0, 0, 0, 0, 0, ByteArray.empty⟩, []⟩).x.tgt.toNat 0 = rt.getD (i + 1 + k) 0 := fun k hk => by
      have := hct (k + 1) (by simpa using hk)
      rw [List.getD_cons_succ] at this
      rw [this, show i + (k + 1) = i + 1 + k by omega]
    have hend' : ∀ k, k < l.length → ∀ j ∈ srcOf l k, i + 1 + k ≤ e.getD j 0 := fun k hk j hj => by
      have := hend (k + 1) (by simpa using hk) j (by unfold srcOf at hj ⊢; rwa [List.getD_cons_succ])
      omega
    have hend0 : ∀ j ∈ d.src, i ≤ e.getD j 0 := fun j hj => hend 0 (by simp) j (by unfold srcOf; rwa [List.getD_cons_zero])
    rw [compI] at hTy ⊢
    try dsimp only at hTy ⊢
    rw [hct0] at hTy ⊢
    obtain ⟨h1, h2, -⟩ := slot_spec e i (rt.getD i 0) s.holds s.tys h.hl
    generalize hk : slot e i (rt.getD i 0) s.holds s.tys = k at *
    generalize hargs : d.src.map (fun j => ((s.place.getD j 0 : Nat) : Int)) = args at *
    obtain ⟨r, hr⟩ := hTy
    obtain ⟨r2, hr2⟩ := compI_tys e ct l (i + 1) ⟨s.ins ++ [newI d.x args k], if k = s.holds.length then s.holds ++ [i] else s.holds.set k i, if k = s.holds.length then s.tys ++ [rt.getD i 0] else s.tys, s.place.set i k⟩
    rw [hr2] at hr
    dsimp only at hr
    obtain ⟨r3, hr3⟩ := tys_grow (c := k = s.holds.length) (a := s.tys) (t := rt.getD i 0)
    have hTpre : ∀ m, m < s.tys.length → m < T.length ∧ T.getD m 0 = s.tys.getD m 0 := fun m hm => by
      rw [hr, hr3, List.append_assoc, List.append_assoc]
      exact ⟨by simp; omega, pre_getD hm⟩
    have hkT : k < T.length ∧ T.getD k 0 = rt.getD i 0 := by
      by_cases hkl : k = s.holds.length
      · rw [hr, if_pos hkl, List.append_assoc]
        have hk2 : k = s.tys.length := hkl.trans h.hl
        refine ⟨by simp; omega, ?_⟩
        rw [hk2, List.getD_eq_getElem?_getD, List.append_assoc, List.getElem?_append_right (Nat.le_refl _)]
        simp
      · have hk3 : k < s.holds.length := by omega
        obtain ⟨h3, h4⟩ := hTpre k (by rw [← h.hl]; exact hk3)
        exact ⟨h3, h4.trans (h2 hk3).2⟩
    have hal : args.length = (opsP d.x).length := by rw [← hargs, List.length_map]; exact hd.1.ar
    have hops := newI_ops hd.1.form hal k
    have hplace : ∀ j ∈ d.src, s.place.getD j 0 < s.holds.length ∧ s.holds.getD (s.place.getD j 0) 0 = j := fun j hj => h.alive j (hd.1.lt j hj) (hend0 j hj)
    have hop := form_op hd.1.form
    have hop4 : d.x.op ≠ 4 := by
      unfold opOk at hop
      simp only [Bool.and_eq_true, decide_eq_true_eq] at hop
      exact hop.2
    have htys : (args.map fun r => T.getD r.toNat 0) = d.src.map fun j => rt.getD j 0 := by
      rw [← hargs, List.map_map]
      refine List.map_congr_left fun j hj => ?_
      have h5 := h.ty j (hd.1.lt j hj)
      show T.getD (((s.place.getD j 0 : Nat) : Int).toNat) 0 = _
      rw [Int.toNat_natCast, (hTpre _ h5.1).2, h5.2]
    have hyr : ∀ r ∈ opsP (newI d.x args k), 0 ≤ r ∧ r < T.length ∧ done.getD r.toNat false = true := fun r hr => by
      rw [hops, ← hargs] at hr
      obtain ⟨j, hj, rfl⟩ := List.mem_map.1 hr
      have h5 := hplace j hj
      have h6 := hTpre _ (by rw [← h.hl]; exact h5.1)
      refine ⟨by omega, by omega, ?_⟩
      rw [Int.toNat_natCast]
      exact (h.dn _ h5.1).1
    have hyok : InsOk cols T done (newI d.x args k) := by
      refine ⟨newI_form hd.1.form hal k, by show (0 : Int) ≤ k; omega, by show (k : Int) < _; omega, hyr, hd.1.col, ?_⟩
      have h7 := hd.1.typ
      rw [← htys] at h7
      have h8 := tyI_of (cols := cols) (types := T) (x := newI d.x args k) (t := rt.getD i 0) (fun r hr => ⟨(hyr r hr).1, (hyr r hr).2.1⟩) hT hop4 (by rw [hops]; exact h7)
      rw [h8]
      show _ = some (T.getD ((k : Int).toNat) 0)
      rw [Int.toNat_natCast, hkT.2]
    have hyto : (newI d.x args k).tgt.toNat = k := by show ((k : Int).toNat) = k; exact Int.toNat_natCast k
    have hinv : CompInv e rt T (i + 1) n ⟨s.ins ++ [newI d.x args k], if k = s.holds.length then s.holds ++ [i] else s.holds.set k i, if k = s.holds.length then s.tys ++ [rt.getD i 0] else s.tys, s.place.set i k⟩ (done.set (newI d.x args k).tgt.toNat true) (last.set (newI d.x args k).tgt.toNat i) := by
      rw [hyto]
      have hholds : ∀ m, m < (if k = s.holds.length then s.holds ++ [i] else s.holds.set k i).length → (if k = s.holds.length then s.holds ++ [i] else s.holds.set k i).getD m 0 = if m = k then i else s.holds.getD m 0 := fun m hm => by
        by_cases hkl : k = s.holds.length
        · rw [if_pos hkl] at hm ⊢
          rw [qcd]
          simp at hm
          by_cases hmk : m = k
          · rw [if_pos hmk, if_neg (by omega), if_pos (by omega)]
          · rw [if_neg hmk, if_pos (by omega)]
        · rw [if_neg hkl] at hm ⊢
          rw [qu]
          by_cases hmk : m = k
          · rw [if_pos hmk, if_pos ⟨hmk.symm, by omega⟩]
          · rw [if_neg hmk, if_neg (fun h => hmk h.1.symm)]
      have hhl : (if k = s.holds.length then s.holds ++ [i] else s.holds.set k i).length = if k = s.holds.length then s.holds.length + 1 else s.holds.length := by split <;> simp
      have hpl : ∀ j, (s.place.set i k).getD j 0 = if j = i then k else s.place.getD j 0 := fun j => by
        rw [qu]
        by_cases hji : i = j
        · rw [if_pos ⟨hji, by rw [h.pl]; exact hin⟩, if_pos hji.symm]
        · rw [if_neg (fun h => hji h.1), if_neg (fun h => hji h.symm)]
      have hkn : k < (if k = s.holds.length then s.holds ++ [i] else s.holds.set k i).length := by rw [hhl]; split <;> omega
      refine ⟨?_, fun j hj hje => ?_, fun j hj => ?_, by rw [List.length_set]; exact h.dl, by rw [List.length_set]; exact h.ll, fun m hm => ?_, by rw [List.length_set]; exact h.pl, ?_⟩
      · show (if k = s.holds.length then s.holds ++ [i] else s.holds.set k i).length = (if k = s.holds.length then s.tys ++ [rt.getD i 0] else s.tys).length
        have := h.hl
        split <;> simp <;> omega
      · show (s.place.set i k).getD j 0 < _ ∧ _
        dsimp only
        rw [hpl]
        by_cases hji : j = i
        · rw [if_pos hji, hholds _ hkn, if_pos rfl]
          exact ⟨hkn, hji.symm⟩
        · rw [if_neg hji]
          obtain ⟨h5, h6⟩ := h.alive j (by omega) (by omega)
          have hpk : s.place.getD j 0 ≠ k := fun hpk => by
            by_cases hkl : k < s.holds.length
            · have h9 := (h2 hkl).1
              rw [hpk] at h6
              rw [h6] at h9
              omega
            · omega
          have hm : s.place.getD j 0 < (if k = s.holds.length then s.holds ++ [i] else s.holds.set k i).length := by rw [hhl]; split <;> omega
          rw [hholds _ hm, if_neg hpk]
          exact ⟨hm, h6⟩
      · show (s.place.set i k).getD j 0 < _ ∧ _
        dsimp only
        rw [hpl]
        by_cases hji : j = i
        · rw [if_pos hji, hji]
          by_cases hkl : k = s.holds.length
          · rw [if_pos hkl]
            have hk2 : k = s.tys.length := hkl.trans h.hl
            refine ⟨by simp; omega, ?_⟩
            rw [qcd, if_neg (by omega), if_pos hk2]
          · rw [if_neg hkl]
            have hk3 : k < s.holds.length := by omega
            exact ⟨by rw [← h.hl]; exact hk3, (h2 hk3).2⟩
        · rw [if_neg hji]
          obtain ⟨h5, h6⟩ := h.ty j (by omega)
          by_cases hkl : k = s.holds.length
          · rw [if_pos hkl, qcd, if_pos h5]
            exact ⟨by rw [List.length_append]; exact Nat.lt_of_lt_of_le h5 (Nat.le_add_right _ _), h6⟩
          · rw [if_neg hkl]
            exact ⟨h5, h6⟩
      · dsimp only at hm ⊢
        rw [hholds m hm, qu, qu]
        by_cases hmk : m = k
        · rw [if_pos ⟨hmk.symm, by rw [h.dl]; exact hkT.1⟩, if_pos ⟨hmk.symm, by rw [h.ll]; exact hkT.1⟩, if_pos hmk]
          exact ⟨rfl, rfl⟩
        · rw [if_neg (fun h => hmk h.1.symm), if_neg (fun h => hmk h.1.symm), if_neg hmk]
          refine h.dn m ?_
          rw [hhl] at hm
          split at hm <;> omega
      · dsimp only
        have := h.few
        split <;> simp <;> omega
    obtain ⟨outs, g1, g2, g3, g4, g5, g6⟩ := comp_all T hT time row l (i + 1) _ (done.set (newI d.x args k).tgt.toNat true) (last.set (newI d.x args k).tgt.toNat i) (acc ++ [opI time row d.x (d.src.map fun k => acc.getD k zeroV)]) hn' ⟨r, by rw [hr2]; exact hr⟩ hd.2 hct' hend' hinv
    have hsrc : (opsP (newI d.x args k)).map (fun r => last.getD r.toNat 0) = d.src := by
      rw [hops, ← hargs, List.map_map]
      conv => rhs; rw [← List.map_id d.src]
      refine List.map_congr_left fun j hj => ?_
      have h5 := hplace j hj
      show last.getD (((s.place.getD j 0 : Nat) : Int).toNat) 0 = j
      rw [Int.toNat_natCast, (h.dn _ h5.1).2, h5.2]
    refine ⟨newI d.x args k :: outs, ?_, by simp [g2], ⟨hyok, g3⟩, ?_, g5, ?_⟩
    · rw [g1]; simp
    rotate_left
    · rw [nodes, List.map_cons, List.map_cons, g6]
      congr 1
      unfold keyN
      dsimp only
      rw [hsrc, hyto, hkT.2, hct0]
      rfl
    · rw [nodes, resN, resN]
      show resN time row (nodes outs (i + 1) (last.set (newI d.x args k).tgt.toNat i)) (acc ++ [opI time row (newI d.x args k) (((opsP (newI d.x args k)).map fun r => last.getD r.toNat 0).map fun k => acc.getD k zeroV)]) = _
      rw [hsrc]
      exact g4
theorem qeg {c : Cod} {cols : List Int} (h0 : CodOk c cols) (time : Int) (row : List Val) : CodOk (compP c) cols ∧ valC (compP c) time row = valC c time row ∧ (compP c).ins.length = (trimP c).ins.length ∧
    rootC (compP c) = rootC (trimP c) ∧ (qt (compP c)).map (keyN (compP c).types) = (qt (trimP c)).map (keyN (trimP c).types) ∧ (compP c).types.length ≤ (compP c).ins.length := by
  obtain ⟨h, hv, -⟩ := trim_ok h0 time row
  unfold compP
  dsimp only
  rw [← hv]
  generalize trimP c = d at *
  obtain ⟨hroot, hval⟩ := h.val_res time row
  have hl : (qt d).length = d.ins.length := by unfold qt; exact qx _ _ _
  have hkinds : ∀ t ∈ (compS d).tys, 0 ≤ t ∧ t < 3 := by
    have hres : ∀ x ∈ d.ins, d.types.getD x.tgt.toNat 0 ∈ d.types := by
      have : ∀ (l : List Ins) (done : List Bool), AllOk cols d.types l done → ∀ x ∈ l, d.types.getD x.tgt.toNat 0 ∈ d.types := fun l => by
        induction l with
        | nil => intro _ _ x hx; cases hx
        | cons y l ih =>
          intro done ha x hx
          rcases List.mem_cons.1 hx with rfl | hx
          · have h1 := ha.1.to1; have h2 := ha.1.to0
            rw [List.getD_eq_getElem?_getD, List.getElem?_eq_getElem (by omega)]
            exact List.getElem_mem _
          · exact ih _ ha.2 x hx
      exact this _ _ h.all
    have : ∀ (l : List Nd) (i : Nat) (s : CompS), (∀ y ∈ l, d.types.getD y.x.tgt.toNat 0 ∈ d.types) → (∀ t ∈ s.tys, 0 ≤ t ∧ t < 3) → ∀ t ∈ (compI (endP (qt d) (rootC d)) d.types l i s).tys, 0 ≤ t ∧ t < 3 := fun l => by
      induction l with
      | nil => intro i s _ hs t ht; exact hs t ht
      | cons y l ih =>
        intro i s hy hs
        rw [compI]
        try dsimp only
        refine ih _ _ (fun z hz => hy z (by simp [hz])) ?_
        try dsimp only
        split
        · intro t ht
          rcases List.mem_append.1 ht with ht | ht
          · exact hs t ht
          · rw [List.mem_singleton] at ht
            rw [ht]; exact h.kinds _ (hy y (by simp))
        · exact hs
    refine this _ _ _ (fun y hy => ?_) (by simp)
    unfold qt at hy
    have : ∀ (l : List Ins) (i : Nat) (last : List Nat), ∀ y ∈ nodes l i last, y.x ∈ l := fun l => by
      induction l with
      | nil => intro _ _ y hy; cases hy
      | cons x l ih =>
        intro i last y hy
        rw [nodes] at hy
        rcases List.mem_cons.1 hy with rfl | hy
        · simp
        · exact List.mem_cons_of_mem _ (ih _ _ y hy)
    exact hres _ (this _ _ _ y hy)
  have hnode : ∀ k, k < (qt d).length → d.types.getD ((qt d).getD k ⟨⟨0, 0, 0, 0, 0, 0, ByteArray.empty⟩, []⟩).x.tgt.toNat 0 = (resT d.types d.ins).getD (0 + k) 0 := fun k hk => by
    have : ∀ (l : List Ins) (i : Nat) (last : List Nat) (k : Nat), k < l.length → d.types.getD ((nodes l i last).getD k ⟨⟨0, 0, 0, 0, 0, 0, ByteArray.empty⟩, []⟩).x.tgt.toNat 0 = (resT d.types l).getD k 0 := fun l => by
      induction l with
      | nil => intro _ _ k hk; simp at hk
      | cons x l ih =>
        intro i last k hk
        rw [nodes]
        unfold resT
        rw [List.map_cons]
        cases k with
        | zero => rw [List.getD_cons_zero, List.getD_cons_zero]
        | succ k => rw [List.getD_cons_succ, List.getD_cons_succ]; exact ih _ _ k (by simpa using hk)
    rw [Nat.zero_add]
    exact this _ _ _ k (by rw [← hl]; exact hk)
  obtain ⟨outs, g1, g2, g3, g4, g5, g6⟩ := comp_all (cols := cols) (ct := d.types) (rt := resT d.types d.ins) (e := endP (qt d) (rootC d)) (n := d.ins.length) (compS d).tys hkinds time row (qt d) 0 ⟨[], [], [], List.replicate d.ins.length 0⟩ (List.replicate (compS d).tys.length false) (List.replicate (compS d).tys.length 0) [] (by rw [Nat.zero_add]; exact hl) ⟨[], by rw [List.append_nil]; rfl⟩ h.nds hnode
    (fun k hk j hj => by rw [Nat.zero_add]; exact endP_ge h.early _ hk hj)
    ⟨rfl, fun j hj => by omega, fun j hj => by omega, by simp, by simp, fun k hk => by simp at hk, by simp, by simp⟩
  have hins : (compS d).ins = outs := by have := g1; rw [List.nil_append] at this; exact this
  have hra := g5.alive (rootC d) hroot (by rw [endP_root _ (by rw [hl]; exact hroot), hl]; exact Nat.le_refl _)
  have hrt := g5.dn _ hra.1
  have hfew : (compS d).tys.length ≤ d.ins.length := g5.few
  have hni := h.ni
  have hpl : (compS d).place.getD (rootC d) 0 < (compS d).tys.length := by have := hra.1; rw [g5.hl] at this; exact this
  rw [hins]
  have hok : CodOk ⟨outs, (compS d).tys, ((compS d).place.getD (rootC d) 0 : Nat)⟩ cols := ⟨by show outs.length ≤ _; omega, by show (compS d).tys.length ≤ _; omega, hkinds, g3, Int.natCast_nonneg _, Int.ofNat_lt.2 hpl, by
    show (doneL outs _).getD (((compS d).place.getD (rootC d) 0 : Nat) : Int).toNat false = true
    rw [Int.toNat_natCast]; exact hrt.1⟩
  have e1 : rootC ⟨outs, (compS d).tys, ((compS d).place.getD (rootC d) 0 : Nat)⟩ = rootC d := by
    show (lastL outs 0 _).getD (((compS d).place.getD (rootC d) 0 : Nat) : Int).toNat 0 = _
    rw [Int.toNat_natCast]
    exact hrt.2.trans hra.2
  refine ⟨hok, ?_, by show outs.length = _; omega, e1, g6, by show (compS d).tys.length ≤ outs.length; omega⟩
  rw [(hok.val_res time row).2, hval]
  rw [e1]
  have e2 : resN time row (qt ⟨outs, (compS d).tys, ((compS d).place.getD (rootC d) 0 : Nat)⟩) [] = resN time row (qt d) [] := g4
  rw [e2]
theorem comp_ok {c : Cod} {cols : List Int} (h0 : CodOk c cols) (time : Int) (row : List Val) : CodOk (compP c) cols ∧ valC (compP c) time row = valC c time row ∧ (compP c).ins.length = (trimP c).ins.length :=
  have h := qeg h0 time row
  ⟨h.1, h.2.1, h.2.2.1⟩
end Go.Proofs.YtgpcpmfdklpifaaGreatDoor

/- Layer 25 on plain data: one more instruction. -/
namespace Go.Proofs.YtgpcpmfdklpifaaGreatDoor
open Go.RowKit Go.Lib
theorem regsI_snoc (time : Int) (row : List Val) (l : List Ins) (x : Ins) (regs : List Val) : regsI time row (l ++ [x]) regs = stepI time row (regsI time row l regs) x := by unfold regsI; rw [List.foldl_append]; rfl
theorem doneL_snoc : ∀ (l : List Ins) (x : Ins) (done : List Bool), doneL (l ++ [x]) done = (doneL l done).set x.tgt.toNat true
  | [], _, _ => rfl
  | y :: l, x, done => by rw [List.cons_append, doneL, doneL_snoc l]; rfl
theorem AllOk.at {cols types : List Int} : ∀ (l : List Ins) (k : Nat) (done : List Bool) (h : k < l.length), AllOk cols types l done → InsOk cols types (doneL (l.take k) done) l[k]
  | x :: l, 0, done, _, ha => ha.1
  | x :: l, k + 1, done, h, ha => by
    have := AllOk.at l k _ (by simpa using h) ha.2
    rw [List.take_succ_cons, doneL]
    exact this
theorem AllOk.take {cols types : List Int} : ∀ (l : List Ins) (k : Nat) (done : List Bool), AllOk cols types l done → AllOk cols types (l.take k) done
  | [], k, done, _ => by simp [AllOk]
  | x :: l, 0, done, _ => trivial
  | x :: l, k + 1, done, ha => ⟨ha.1, AllOk.take l k _ ha.2⟩
theorem nodes_snoc : ∀ (l : List Ins) (x : Ins) (i : Nat) (last : List Nat), nodes (l ++ [x]) i last = nodes l i last ++ [⟨x, (opsP x).map fun r => (lastL l i last).getD r.toNat 0⟩]
  | [], _, _, _ => rfl
  | y :: l, x, i, last => by rw [List.cons_append, nodes, nodes_snoc l]; rfl
theorem lastL_snoc : ∀ (l : List Ins) (x : Ins) (i : Nat) (last : List Nat), lastL (l ++ [x]) i last = (lastL l i last).set x.tgt.toNat (i + l.length)
  | [], _, _, _ => rfl
  | y :: l, x, i, last => by
    rw [List.cons_append, lastL, lastL_snoc l, List.length_cons]
    rw [show i + 1 + l.length = i + (l.length + 1) by omega]; rfl
theorem lastL_len : ∀ (l : List Ins) (i : Nat) (last : List Nat), (lastL l i last).length = last.length
  | [], _, _ => rfl
  | y :: l, i, last => by rw [lastL, lastL_len l, List.length_set]
end Go.Proofs.YtgpcpmfdklpifaaGreatDoor

/- Typed views of api.Delta. -/
namespace Go.Proofs.YtgpcpmfdklpifaaGreatDoor
open Go.RowKit Go.Lib
structure Delta where
  time : Int
  row : List Val
  n : Int
  deriving DecidableEq
def Delta.d (x : Delta) : D := .st [.int x.time, .sl (x.row.map Val.d), .int x.n]
theorem Delta.width (x : Delta) : x.d.width = 3 := by
  simp [Delta.d, D.width, D.widths]
theorem Delta.widths (l : List Delta) : ∀ d ∈ l.map Delta.d, d.width = 3 := by
  intro d hd; obtain ⟨x, -, rfl⟩ := List.mem_map.1 hd; exact Delta.width x
theorem Delta.open {w : World} {S : Nat → Prop} {x : Delta} {cs : List Value} (h : Rd w S x.d cs) : ∃ (A1 : Option Addr) (cap1 b1 off1 : Nat), cs = [.int .i64 x.time, .slice A1 x.row.length cap1, .int .i64 x.n] ∧ x.row.length ≤ cap1 ∧ cap1 ≤ 9223372036854775807 ∧ (0 < x.row.length → A1 = some ⟨b1, off1, none⟩ ∧ S b1) ∧ RdM w S (x.row.map Val.d) b1 off1 := by
  simp only [Delta.d, Delta.d, Rd, RdS, List.length_map] at h
  obtain ⟨_, _, rfl, rfl, ⟨_, _, rfl, ⟨A1, cap1, b1, off1, rfl, p1, q1, r1, s1⟩, ⟨_, _, rfl, rfl, rfl⟩⟩⟩ := h
  exact ⟨A1, cap1, b1, off1, by simp, p1, q1, r1, s1⟩
theorem Delta.at {w : World} {S : Nat → Prop} {l : List Delta} {b off : Nat} (hm : RdM w S (l.map Delta.d) b off) {k : Nat} (hk : k < l.length) : ∃ (A1 : Option Addr) (cap1 b1 off1 : Nat), w.cell? ⟨b, off + k * 3, none⟩ = some (.int .i64 l[k].time) ∧ w.cell? ⟨b, off + k * 3 + 1, none⟩ = some (.slice A1 l[k].row.length cap1) ∧ w.cell? ⟨b, off + k * 3 + 1 + 1, none⟩ = some (.int .i64 l[k].n) ∧ Rd w S l[k].d [.int .i64 l[k].time, .slice A1 l[k].row.length cap1, .int .i64 l[k].n] ∧ l[k].row.length ≤ cap1 ∧ cap1 ≤ 9223372036854775807 ∧ (0 < l[k].row.length → A1 = some ⟨b1, off1, none⟩ ∧ S b1) ∧ RdM w S (l[k].row.map Val.d) b1 off1 := by
  obtain ⟨cs, hc, hr⟩ := RdM.get _ b off hm (Delta.widths l) k (by simpa using hk)
  rw [List.getElem_map] at hr
  obtain ⟨A1, cap1, b1, off1, rfl, hf⟩ := Delta.open hr
  simp only [qy, and_true] at hc
  obtain ⟨c0, c1, c2⟩ := hc
  exact ⟨A1, cap1, b1, off1, c0, c1, c2, hr, hf⟩
end Go.Proofs.YtgpcpmfdklpifaaGreatDoor

/- Typed views of api.Col. -/
namespace Go.Proofs.YtgpcpmfdklpifaaGreatDoor
open Go.RowKit Go.Lib
structure Col where
  name : ByteArray
  type : Int
  unit : ByteArray
  deriving DecidableEq
def Col.d (x : Col) : D := .st [.str x.name, .int x.type, .str x.unit]
theorem Col.width (x : Col) : x.d.width = 3 := by
  simp [Col.d, D.width, D.widths]
theorem Col.widths (l : List Col) : ∀ d ∈ l.map Col.d, d.width = 3 := by
  intro d hd; obtain ⟨x, -, rfl⟩ := List.mem_map.1 hd; exact Col.width x
theorem Col.open {w : World} {S : Nat → Prop} {x : Col} {cs : List Value} (h : Rd w S x.d cs) : cs = [.string x.name, .int .i64 x.type, .string x.unit] := by
  simp only [Col.d, Col.d, Rd, RdS, List.length_map] at h
  obtain ⟨_, _, rfl, rfl, ⟨_, _, rfl, rfl, ⟨_, _, rfl, rfl, rfl⟩⟩⟩ := h
  simp
theorem Col.at {w : World} {S : Nat → Prop} {l : List Col} {b off : Nat} (hm : RdM w S (l.map Col.d) b off) {k : Nat} (hk : k < l.length) : w.cell? ⟨b, off + k * 3, none⟩ = some (.string l[k].name) ∧ w.cell? ⟨b, off + k * 3 + 1, none⟩ = some (.int .i64 l[k].type) ∧ w.cell? ⟨b, off + k * 3 + 1 + 1, none⟩ = some (.string l[k].unit) ∧ Rd w S l[k].d [.string l[k].name, .int .i64 l[k].type, .string l[k].unit] := by
  obtain ⟨cs, hc, hr⟩ := RdM.get _ b off hm (Col.widths l) k (by simpa using hk)
  rw [List.getElem_map] at hr
  obtain rfl := Col.open hr
  simp only [qy, and_true] at hc
  obtain ⟨c0, c1, c2⟩ := hc
  exact ⟨c0, c1, c2, hr⟩
end Go.Proofs.YtgpcpmfdklpifaaGreatDoor

/- From the statement's readings (DataW.trod) to trees of plain data (Rd): ints, bools, strings, structs, slices. -/
namespace Go.Proofs.YtgpcpmfdklpifaaGreatDoor
open Go.RowKit Go.Lib
theorem qy.of_get {w : World} {b : Nat} : ∀ (cs : List Value) (off : Nat), (∀ i v, cs[i]? = some v → w.cell? ⟨b, off + i, none⟩ = some v) → qy w b off cs
  | [], _, _ => trivial
  | v :: cs, off, h => ⟨h 0 v rfl, qy.of_get cs (off + 1) fun i u hi => by rw [Nat.add_assoc, Nat.add_comm 1 i]; exact h (i + 1) u (by simpa using hi)⟩
theorem mapM_get {α β : Type} {f : α → Option β} : ∀ (l : List α) (ys : List β), l.mapM f = some ys → ∀ i : Nat, (l[i]?).bind f = ys[i]?
  | [], ys, h, i => by simp at h; subst h; simp
  | a :: l, ys, h, i => by
    rw [List.mapM_cons] at h
    cases hf : f a with
    | none => rw [hf] at h; simp at h
    | some b =>
      rw [hf] at h
      cases hl : l.mapM f with
      | none => rw [hl] at h; simp at h
      | some zs =>
        rw [hl] at h
        simp at h
        subst h
        cases i with
        | zero => simpa using hf
        | succ i => simpa using mapM_get l zs hl i
theorem mapM_len {α β : Type} {f : α → Option β} : ∀ (l : List α) (ys : List β), l.mapM f = some ys → ys.length = l.length
  | [], ys, h => by simp at h; subst h; rfl
  | a :: l, ys, h => by
    rw [List.mapM_cons] at h
    cases hf : f a with
    | none => rw [hf] at h; simp at h
    | some b =>
      rw [hf] at h
      cases hl : l.mapM f with
      | none => rw [hl] at h; simp at h
      | some zs =>
        rw [hl] at h
        simp at h
        subst h
        simp [mapM_len l zs hl]
theorem cells_open {w : World} {base : Nat} {a : Addr} {n : Nat} {cs : List Value} (h : w.cells? base a n = some cs) (hn : 0 < n) : a.spot = none ∧ qy w a.block a.off cs := by
  unfold World.cells? at h
  split at h
  · have hg := mapM_get _ _ h
    obtain ⟨b, o, sp⟩ := a
    have h0 := hg 0
    rw [List.getElem?_range (by omega)] at h0
    have hlen : cs.length = n := by
      have := mapM_len _ _ h
      simpa using this
    have h0' : cs[0]? = some (cs[0]'(by omega)) := List.getElem?_eq_getElem (by omega)
    rw [h0'] at h0
    have hs : sp = none := cell_spot (w := w) (b := b) (o := o) (v := cs[0]'(by omega)) (by simpa [Addr.add] using h0)
    subst hs
    refine ⟨rfl, qy.of_get _ _ fun i v hi => ?_⟩
    have hi' : i < n := by
      have := (List.getElem?_eq_some_iff.1 hi).1; omega
    have := hg i
    rw [List.getElem?_range hi', hi] at this
    cases i with
    | zero => simpa [Addr.add] using this
    | succ i => simpa [Addr.add] using this
  · cases h
theorem RdM.of_get {w : World} {S : Nat → Prop} {sz : Nat} : ∀ (l : List D) (b off : Nat), (∀ d ∈ l, d.width = sz) → (∀ i (h : i < l.length), ∃ cs, qy w b (off + i * sz) cs ∧ Rd w S l[i] cs) → RdM w S l b off
  | [], _, _, _, _ => by rw [RdM]; trivial
  | d :: l, b, off, hw, h => by
    rw [RdM]
    refine ⟨?_, RdM.of_get l b _ (fun x hx => hw x (by simp [hx])) fun i hi => ?_⟩
    · obtain ⟨cs, h1, h2⟩ := h 0 (by simp)
      exact ⟨cs, by simpa using h1, by simpa using h2⟩
    have := h (i + 1) (by simpa using hi)
    rw [hw d (by simp)]
    rw [Nat.succ_mul] at this
    rw [show off + sz + i * sz = off + (i * sz + sz) by omega]
    simpa using this
section
variable {H : Type} {enc : TypeId × Value → H} {P : Program} {w : World} {sp : Nat → Bool} {hd : Bool}
def Trods (enc : TypeId × Value → H) (P : Program) (w : World) (sp : Nat → Bool) (hd : Bool) (t : TypeId) {α : Type} (f : α → D) (N : Nat) : Prop :=
  ∀ n cs x, n < N → DataW.trod enc P w 0 sp hd n t cs = some x → ∃ a, Rd w Any (f a) cs
theorem qbx {t : TypeId} (ht : P.underlying t = some (.int .i64)) (N : Nat) : Trods enc P w sp hd t D.int N := by
  intro n cs x _ h
  obtain ⟨m, rfl, -, -⟩ := DataW.trod_int ht h
  exact ⟨m, by rw [Rd]⟩
theorem trods_str {t : TypeId} (ht : P.underlying t = some .string) (N : Nat) : Trods enc P w sp hd t D.str N := by
  intro n cs x _ h
  obtain ⟨m, rfl, -, -⟩ := DataW.trod_string ht h
  exact ⟨m, by rw [Rd]⟩
theorem trods_sl {t e : TypeId} {α : Type} {f : α → D} {sz N : Nat} (ht : P.underlying t = some (.slice e)) (hc : P.cellsOf e = sz) (hsz : 0 < sz) (hw : ∀ x, (f x).width = sz) (h : Trods enc P w sp hd e f N) :
    Trods enc P w sp hd t (fun l : List α => .sl (l.map f)) (N + 1) := by
  intro n cs x hn hx
  rcases DataW.trod_slice ht hx with ⟨rfl, -⟩ | ⟨a, len, cap, elems, rest, m, rfl, rfl, -, hb, hl, hm, hlen, hel, -, -⟩
  · exact ⟨[], Rd.nil none (by omega)⟩
  · have hmax : cap ≤ 9223372036854775807 := by unfold maxLen at hm; omega
    have hget : ∀ i, i < len → ∃ cs' y, w.cells? 0 (a.add (i * sz)) sz = some cs' ∧ DataW.trod enc P w 0 sp hd m e cs' = some y := by
      intro i hi
      have := hel i hi
      rw [hc, List.getElem?_eq_getElem (by omega)] at this
      obtain ⟨cs', h1, h2⟩ := Option.bind_eq_some_iff.1 this
      exact ⟨cs', _, h1, h2⟩
    have hget2 : ∀ i, i < len → ∃ (z : α) (cs' : List Value), w.cells? 0 (a.add (i * sz)) sz = some cs' ∧ Rd w Any (f z) cs' := by
      intro i hi
      obtain ⟨cs', y, h1, h2⟩ := hget i hi
      obtain ⟨z, hz⟩ := h m cs' y (by omega) h2
      exact ⟨z, cs', h1, hz⟩
    by_cases h0 : len = 0
    · subst h0; exact ⟨[], Rd.nil _ hmax⟩
    have hsp : a.spot = none := by
      obtain ⟨z, cs', h1, -⟩ := hget2 0 (by omega)
      have := (cells_open h1 hsz).1
      simpa [Addr.add] using this
    obtain ⟨b, off, spt⟩ := a
    subst hsp
    have hg3 : ∀ i, ∃ (z : α), i < len → ∃ cs', qy w b (off + i * sz) cs' ∧ Rd w Any (f z) cs' := by
      obtain ⟨z0, -⟩ := hget2 0 (by omega)
      intro i
      by_cases hi : i < len
      · obtain ⟨z, cs', h1, h2⟩ := hget2 i hi
        refine ⟨z, fun _ => ⟨cs', ?_, h2⟩⟩
        have := (cells_open h1 hsz).2
        by_cases hz : i * sz = 0
        · rw [hz] at this ⊢; simpa [Addr.add] using this
        · simpa [Addr.add, hz] using this
      · exact ⟨z0, fun h => absurd h hi⟩
    let g : Nat → α := fun i => Classical.choose (hg3 i)
    have hgs : ∀ i, i < len → ∃ cs', qy w b (off + i * sz) cs' ∧ Rd w Any (f (g i)) cs' := fun i => Classical.choose_spec (hg3 i)
    refine ⟨(List.range len).map g, Rd.sl_mk (b := b) (off := off) (by simp) (by simpa using hl) hmax (fun _ => ⟨rfl, trivial⟩) (RdM.of_get _ _ _ (sz := sz) ?_ ?_)⟩
    · intro d hd
      obtain ⟨x, -, rfl⟩ := List.mem_map.1 hd
      exact hw x
    · intro i hi
      have hi' : i < len := by simpa using hi
      have := hgs i hi'
      simpa using this
theorem qcn {S : Nat → Prop} {d : D} {l : List D} {cs : List Value} {o k : Nat} (h1 : Rd w S d ((cs.drop o).take k)) (h2 : RdS w S l (cs.drop (o + k))) : RdS w S (d :: l) (cs.drop o) := by
  rw [RdS]
  exact ⟨_, _, by rw [← List.drop_drop]; exact (List.take_append_drop k _).symm, h1, h2⟩
theorem rdS_end {S : Nat → Prop} {cs : List Value} {o : Nat} (h : cs.length ≤ o) : RdS w S [] (cs.drop o) := by
  rw [RdS]; exact List.drop_eq_nil_of_le h
theorem rd_st {S : Nat → Prop} {l : List D} {cs : List Value} (h : RdS w S l (cs.drop 0)) : Rd w S (.st l) cs := by
  rw [Rd]; simpa using h
theorem qbg {fs : Array Field} {n : Nat} {cs : List Value} {xs : List (DataW H × List MemPlace)} (i : Nat) (T : TypeId) (o k : Nat) (hlen : xs.length = fs.size)
    (hf : ∀ (i : Nat) (f : Field), fs[i]? = some f → DataW.trod enc P w 0 sp hd n f.type ((cs.drop f.offset).take (P.cellsOf f.type)) = xs[i]?)
    (hi : ∃ f : Field, fs[i]? = some f ∧ f.type = T ∧ f.offset = o) (hk : P.cellsOf T = k) :
    ∃ y, DataW.trod enc P w 0 sp hd n T ((cs.drop o).take k) = some y := by
  obtain ⟨f, hi, rfl, rfl⟩ := hi
  subst hk
  have hlt : i < fs.size := (Array.getElem?_eq_some_iff.1 hi).1
  have := hf i f hi
  rw [List.getElem?_eq_getElem (by omega)] at this
  exact ⟨_, this⟩
end
end Go.Proofs.YtgpcpmfdklpifaaGreatDoor

/- A law's entry: the arguments' readings as trees; and its end: true, and nothing that was there has changed. -/
namespace Go.Proofs.YtgpcpmfdklpifaaGreatDoor
open Go.ChangeShapes Go.WideShapes Go.ChangeAt Go.RowKit Go.Lib
theorem Tryz.own : ownKnob Tryz.prog.godebug = none := by kernel_rfl
theorem Tryz.laidOut : laidOutB Tryz.prog = true := by kernel_rfl
section
variable {H : Type} {enc : TypeId × Value → H} {P : Program}
theorem post_of_below {f : Func} {s : ChangeSpec} {apart fresh handsOn again : Bool} {W W' : World} {args : Array Value} {v : Value} {ds gs : List (DataW H)} {before pa pv : List MemPlace}
    (hW : DataW.Whole enc P f.params.toList s.vars apart W args.toList ds gs before)
    (hres : ∀ (b : Nat) (sp : Nat → Bool) (hd : Bool), DataW.TrodAll enc P W' b sp hd f.resultTypes.toList (v.resultList f.resultTypes.size) (s.fn H (ds ++ gs)).results [])
    (hargs : ∀ sp : Nat → Bool, (∀ p ∈ before, sp p.block = true) → DataW.TrodAll enc P W' 0 sp true f.params.toList args.toList (s.fn H (ds ++ gs)).args pa)
    (hvars : ∀ sp : Nat → Bool, (∀ p ∈ before, sp p.block = true) → DataW.TrodVars enc P W' sp s.vars (s.fn H (ds ++ gs)).vars pv)
    (hps : before = pa ++ pv) (hb : Below W.heap.size W W')
    (hok : ∀ (j : Nat) (t : TypeId) (r : Value), f.resultTypes[j]? = some t → (v.resultList f.resultTypes.size)[j]? = some r → Value.okWide P W' .any 0 t r) :
    s.post enc P f apart fresh handsOn again W args v W' := by
  have hlt : ∀ p ∈ before, p.block < W.heap.size := fun p hp => hW.lt p hp
  have hold : ∀ p ∈ before, (fun b => decide (b < W.heap.size)) p.block = true := fun p hp => by simpa using hlt p hp
  refine ⟨ds, gs, before, [], pa, pv, hW, hres _ _ _, hargs _ hold, hvars _ hold, World.keptBut_mono (fun p hp => ⟨hp, ?_⟩) (hb.frame (· ∈ before)), fun _ => ?_⟩
  · rw [hps, List.mem_append] at hp
    exact Or.inr hp
  · obtain ⟨_, _, _, _, _, hz, hn⟩ := hW
    refine ⟨hok, _, _, ([] ++ pa) ++ pv, ⟨[] ++ pa, pv, trodAll_append (hargs _ (fun _ _ => rfl)) (hres _ _ _), hvars _ (fun _ _ => rfl), rfl, ?_, ?_⟩, ?_⟩
    · intro b off hp
      have hin : MemPlace.cell b off ∈ before := by rw [hps]; simpa using hp
      rw [hb.frozen (hlt _ hin)]
      exact hz b off hin
    · intro ha
      have := hn ha
      rw [hps] at this
      simpa using this
    · intro p hp _
      rw [hps]
      simpa using hp
theorem args_stay (hl : laidOutB P = true) {W W' : World} {sp : Nat → Bool} (hb : Below W.heap.size W W') : ∀ {ts : List TypeId} {vs : List Value} {ds : List (DataW H)} {ps : List MemPlace},
    (∀ t ∈ ts, P.readableRec t = true ∧ t < P.types.size) → DataW.TrodAll enc P W 0 (fun _ => true) true ts vs ds ps → (∀ p ∈ ps, p.block < W.heap.size) → (∀ p ∈ ps, sp p.block = true) →
    DataW.TrodAll enc P W' 0 sp true ts vs ds ps
  | [], [], [], _, _, h, _, _ => h
  | [], _ :: _, _, _, _, h, _, _ => h.elim
  | [], [], _ :: _, _, _, h, _, _ => h.elim
  | _ :: _, [], _, _, _, h, _, _ => h.elim
  | _ :: _, _ :: _, [], _, _, h, _, _ => h.elim
  | t :: ts, v :: vs, d :: ds, ps, ht, h, hlt, hsp => by
    obtain ⟨p, q, h1, h2, rfl⟩ := h
    refine ⟨p, q, WideElems.Trod_stays hl (ht t (by simp)).1 (ht t (by simp)).2 h1 (fun x hx => hb.same (hlt x (by simp [hx]))) (fun x hx => hsp x (by simp [hx])), ?_, rfl⟩
    exact args_stay hl hb (fun t h => ht t (by simp [h])) h2 (fun x hx => hlt x (by simp [hx])) (fun x hx => hsp x (by simp [hx]))
theorem law_post (hl : laidOutB P = true) {f : Func} {s : ChangeSpec} {apart fresh handsOn again : Bool} {W W' : World} {args : Array Value} {ds gs : List (DataW H)} {before : List MemPlace} {tb : TypeId}
    (hW : DataW.Whole enc P f.params.toList s.vars apart W args.toList ds gs before) (hv : s.vars = []) (hs : s.fn H (ds ++ gs) = { results := [.lit (.bool true)], args := ds })
    (hrt : f.resultTypes = #[tb]) (htb : P.underlying tb = some .bool) (hts0 : (f.params.toList.all fun t => P.readableRec t && decide (t < P.types.size)) = true) (hb : Below W.heap.size W W') :
    s.post enc P f apart fresh handsOn again W args (.bool true) W' := by
  have hts : ∀ t ∈ f.params.toList, P.readableRec t = true ∧ t < P.types.size := by
    intro t ht
    have := List.all_eq_true.1 hts0 t ht
    simpa using this
  have hlt : ∀ p ∈ before, p.block < W.heap.size := fun p hp => hW.lt p hp
  have hW2 := hW
  obtain ⟨p, q, hA, hV, rfl, -, -⟩ := hW
  rw [hv] at hV
  obtain ⟨rfl, rfl⟩ := trodVars_none hV
  refine post_of_below (pa := p) (pv := []) hW2 ?_ ?_ ?_ (by simp) hb ?_
  · intro b sp hd
    rw [hs, hrt]
    exact trodAll_mk1 ⟨1, by simp [DataW.trod, Value.cells, htb]⟩
  · intro sp hsp
    rw [hs]
    exact args_stay hl hb hts hA (fun x hx => hlt x (by simp [hx])) (fun x hx => hsp x (by simp [hx]))
  · intro sp hsp
    rw [hs, hv]
    exact rfl
  · intro j t r hj hr
    rw [hrt] at hj hr
    obtain rfl : j = 0 := by
      have := (Array.getElem?_eq_some_iff.1 hj).1
      simpa using this
    simp at hj
    subst hj
    have : r = .bool true := by simpa [Value.resultList] using hr.symm
    subst this
    simp [Value.okWide, htb, Cell.okWide, Cell.ok]
variable {w w0 : World} {sp : Nat → Bool} {hd : Bool} {b0 : Nat} {t : TypeId} {v : Value} {d : DataW H} {ps : List MemPlace}
theorem par_sl {e : TypeId} (ht : P.underlying t = some (.slice e)) (hval : Value.okWide P w0 .any b0 t v) (h : DataW.Trod enc P w 0 sp hd t v d ps) {α : Type} {f : α → D} (hf : ∀ N, Trods enc P w sp hd t f N) : ∃ x, Rd w Any (f x) [v] := by
  obtain ⟨a, len, cap, rfl⟩ := okWide_slice ht hval
  obtain ⟨fuel, h⟩ := h
  exact hf (fuel + 1) fuel _ _ (by omega) h
theorem par_st {fs : Array Field} (ht : P.underlying t = some (.struct fs)) (hval : Value.okWide P w0 .any b0 t v) (h : DataW.Trod enc P w 0 sp hd t v d ps) {α : Type} {f : α → D} (hf : ∀ N, Trods enc P w sp hd t f N) : ∃ x cs, v = .agg cs.toArray ∧ Rd w Any (f x) cs := by
  obtain ⟨cs, rfl, -⟩ := okWide_struct ht hval
  obtain ⟨fuel, h⟩ := h
  obtain ⟨x, hx⟩ := hf (fuel + 1) fuel _ _ (by omega) h
  exact ⟨x, cs.toList, rfl, hx⟩
end
end Go.Proofs.YtgpcpmfdklpifaaGreatDoor

/- Lifting a law whose row lists variables: the world's shape and what the variables hold, both handed on. -/
namespace Go.Proofs.YtgpcpmfdklpifaaGreatDoor
open Go.ChangeShapes Go.WideShapes Go.ChangeAt Go.RowKit Go.Lib
section
variable {H : Type} {enc : TypeId × Value → H}
end
end Go.Proofs.YtgpcpmfdklpifaaGreatDoor
