/- Layer 25 on plain data: which instructions are needed; Trim keeps the value. -/
import Derived.Test.YtkedbjjfmejbhaaGreatDoorGe2
import Derived.Test.YtkedbjjfmejbhaaGreatDoorGe3
import Derived.Test.YtkedbjjfmejbhaaGreatDoorGe4
set_option linter.unusedSimpArgs false
set_option linter.unusedVariables false
namespace Go.Proofs.YtkedbjjfmejbhaaGreatDoor
open Go.RowKit Go.Lib
def qcz (need : List Bool) (ks : List Nat) : List Bool := ks.foldl (fun nd k => nd.set k true) need
theorem qea : ∀ (ks : List Nat) (need : List Bool), (qcz need ks).length = need.length
 | [], _ => rfl
 | k :: ks, need => by unfold qcz; rw [List.foldl_cons]; have := qea ks (need.set k true); unfold qcz at this; rw [this]; simp
theorem qjq : ∀ (ks : List Nat) (need : List Bool) (j : Nat), j < need.length -> ((qcz need ks).getD j false = true ↔ need.getD j false = true \/ j ∈ ks)
 | [], need, j, _ => by simp [qcz]
 | k :: ks, need, j, h => by
  have := qjq ks (need.set k true) j (by simpa using h)
  unfold qcz at this ⊢
  rw [List.foldl_cons, this, qq, List.mem_cons]
  by_cases hk : k = j
  .subst hk; simp [h]
  .rw [if_neg (fun h => hk h.1)]
   constructor
   .rintro (h | h)
    .exact .inl h
    .exact .inr (.inr h)
   .rintro (h | h | h)
    .exact .inl h
    .exact absurd h.symm hk
    .exact .inr h
def needI (ds : List Nd) : Nat -> List Bool -> List Bool
 | 0, need => need
 | i + 1, need => needI ds i (if need.getD i false then qcz need ((ds.getD i ⟨⟨0, 0, 0, 0, 0, 0, ByteArray.empty⟩, []⟩).src) else need)
def needP (ds : List Nd) (root : Nat) : List Bool := needI ds ds.length ((List.replicate ds.length false).set root true)
def srcOf (ds : List Nd) (i : Nat) : List Nat := (ds.getD i ⟨⟨0, 0, 0, 0, 0, 0, ByteArray.empty⟩, []⟩).src
def Early (ds : List Nd) : Prop := ∀ i, i < ds.length -> ∀ k ∈ srcOf ds i, k < i
theorem qmd (ds : List Nd) : ∀ (i : Nat) (need : List Bool), (needI ds i need).length = need.length
 | 0, _ => rfl
 | i + 1, need => by rw [needI, qmd ds i]; split <;> simp [qea]
theorem qqp {ds : List Nd} (he : Early ds) : ∀ (i : Nat) (need : List Bool), i <= ds.length -> need.length = ds.length -> ∀ j, (i <= j -> (needI ds i need).getD j false = need.getD j false) /\ (need.getD j false = true -> (needI ds i need).getD j false = true)
 | 0, _, _, _, j => ⟨fun _ => rfl, fun h => h⟩
 | i + 1, need, hi, hl, j => by
  rw [needI]
  split
  .obtain ⟨h1, h2⟩ := qqp he i (qcz need (srcOf ds i)) (by omega) (by rw [qea]; exact hl) j
   by_cases hj : j < need.length
   .have h3 := qjq (srcOf ds i) need j hj
    refine ⟨fun h => (h1 (by omega)).trans ?_, fun h => h2 (h3.2 (.inl h))⟩
    rw [Bool.eq_iff_iff, h3]
    exact ⟨fun h4 => h4.elim id fun h5 => absurd (he i (by omega) j h5) (by omega), .inl⟩
   .have e1 : (needI ds i (qcz need (srcOf ds i))).getD j false = false := by rw [List.getD_eq_getElem?_getD, List.getElem?_eq_none (by rw [qmd, qea]; omega)]; rfl
    have e2 : need.getD j false = false := by rw [List.getD_eq_getElem?_getD, List.getElem?_eq_none (by omega)]; rfl
    unfold srcOf at e1
    rw [e1, e2]; simp
  .obtain ⟨h1, h2⟩ := qqp he i need (by omega) hl j
   exact ⟨fun h => h1 (by omega), h2⟩
theorem qgi {ds : List Nd} (he : Early ds) : ∀ (i : Nat) (need : List Bool), i <= ds.length -> need.length = ds.length -> (∀ j, i <= j -> j < ds.length -> need.getD j false = true -> ∀ k ∈ srcOf ds j, need.getD k false = true) ->
  ∀ j, j < ds.length -> (needI ds i need).getD j false = true -> ∀ k ∈ srcOf ds j, (needI ds i need).getD k false = true
 | 0, need, _, _, h => fun j hj => h j (by omega) hj
 | i + 1, need, hi, hl, h => by
  rw [needI]
  split
  .rename_i hn
   refine qgi he i _ (by omega) (by rw [qea]; exact hl) fun j hij hj hnj k hk => ?_
   have hkj := he j hj k hk
   change (qcz need (srcOf ds i)).getD j false = true at hnj
   change (qcz need (srcOf ds i)).getD k false = true
   rw [qjq _ _ _ (by omega)] at hnj ⊢
   by_cases hji : j = i
   .subst hji; exact .inr hk
   .rcases hnj with hnj | hnj
    .exact .inl (h j (by omega) hj hnj k hk)
    .exact absurd (he i (by omega) j hnj) (by omega)
  .rename_i hn
   refine qgi he i _ (by omega) hl fun j hij hj hnj k hk => ?_
   by_cases hji : j = i
   .subst hji; exact absurd hnj hn
   .exact h j (by omega) hj hnj k hk
theorem qeo1 (ds : List Nd) (root : Nat) : (needP ds root).length = ds.length := by unfold needP; rw [qmd]; simp
theorem qav1 {ds : List Nd} (he : Early ds) {root : Nat} (hr : root < ds.length) : (needP ds root).getD root false = true := by
 refine (qqp he ds.length _ (Nat.le_refl _) (by simp) root).2 ?_
 rw [qq, if_pos ⟨rfl, by simpa using hr⟩]
theorem qtm {ds : List Nd} (he : Early ds) (root : Nat) {j : Nat} (hj : j < ds.length) (h : (needP ds root).getD j false = true) : ∀ k ∈ srcOf ds j, (needP ds root).getD k false = true :=
 qgi he ds.length _ (Nat.le_refl _) (by simp) (fun j h1 h2 => by omega) j hj h
def trimI (need : List Bool) : List Ins -> Nat -> List Ins
 | [], _ => []
 | x :: l, i => if need.getD i false then x :: trimI need l (i + 1) else trimI need l (i + 1)
def rank (need : List Bool) : Nat -> Nat
 | 0 => 0
 | i + 1 => rank need i + if need.getD i false then 1 else 0
theorem qfj1 (need : List Bool) {i j : Nat} (h : i <= j) : rank need i <= rank need j := by
 induction j with
 | zero =>
  obtain rfl : i = 0 := by omega
  exact Nat.le_refl _
 | succ j ih =>
  by_cases hij : i = j + 1
  .subst hij; exact Nat.le_refl _
  .have := ih (by omega); rw [rank]; omega
theorem qor1 (need : List Bool) {i j : Nat} (h : i < j) (hn : need.getD i false = true) : rank need i < rank need j := by
 have h1 := qfj1 need (show i + 1 <= j from h)
 rw [rank, if_pos hn] at h1
 omega
theorem quj (need : List Bool) : ∀ (l : List Ins) (i : Nat), (trimI need l i).length + rank need i = rank need (i + l.length)
 | [], i => by simp [trimI]
 | x :: l, i => by
  have := quj need l (i + 1)
  rw [trimI, List.length_cons]
  rw [show i + (l.length + 1) = i + 1 + l.length by omega, <- this, rank]
  split <;> simp <;> omega
structure qpk (need : List Bool) (i : Nat) (done done' : List Bool) (last last' : List Nat) (acc acc' : List Val) : Prop where
 al : acc.length = i
 al' : acc'.length = rank need i
 dl : done'.length = done.length
 ll : last'.length = done.length
 l0 : last.length = done.length
 lt : ∀ r : Nat, done.getD r false = true -> last.getD r 0 < i
 reg : ∀ r : Nat, done.getD r false = true -> need.getD (last.getD r 0) false = true -> done'.getD r false = true /\ last'.getD r 0 = rank need (last.getD r 0)
 res : ∀ j, j < i -> need.getD j false = true -> acc'.getD (rank need j) zeroV = acc.getD j zeroV
theorem qdb {α : Type} (l : List α) (a d : α) (k : Nat) : (l ++ [a]).getD k d = if k < l.length then l.getD k d else if k = l.length then a else d := by
 rw [List.getD_eq_getElem?_getD]
 split
 .rename_i h; rw [List.getElem?_append_left h, List.getD_eq_getElem?_getD]
 .rename_i h
  rw [List.getElem?_append_right (by omega)]
  split
  .rename_i h2; subst h2; simp
  .rename_i h2
   obtain ⟨m, hm⟩ : ∃ m, k - l.length = m + 1 := ⟨k - l.length - 1, by omega⟩
   rw [hm]; rfl
theorem qrb {cols types : List Int} (need : List Bool) (time : Int) (row : List Val) : ∀ (l : List Ins) {i : Nat} {done done' : List Bool} {last last' : List Nat} {acc acc' : List Val}, AllOk cols types l done -> done.length = types.length ->
  (∀ k, k < l.length -> need.getD (i + k) false = true -> ∀ s ∈ srcOf (nodes l i last) k, need.getD s false = true) -> qpk need i done done' last last' acc acc' ->
  AllOk cols types (trimI need l i) done' /\ qpk need (i + l.length) (doneL l done) (doneL (trimI need l i) done') (lastL l i last) (lastL (trimI need l i) (rank need i) last') (resN time row (nodes l i last) acc) (resN time row (nodes (trimI need l i) (rank need i) last') acc')
 | [], i, _, _, _, _, _, _, _, _, _, h => ⟨trivial, h⟩
 | x :: l, i, done, done', last, last', acc, acc', ha, hdl, hcl, h => by
  have hx := ha.1
  have h0 := hx.to0
  have h1 := hx.to1
  have hcl' : ∀ k, k < l.length -> need.getD (i + 1 + k) false = true -> ∀ s ∈ srcOf (nodes l (i + 1) (last.set x.tgt.toNat i)) k, need.getD s false = true := fun k hk hn s hs => by
   refine hcl (k + 1) (by simpa using hk) (by rw [show i + (k + 1) = i + 1 + k by omega]; exact hn) s ?_
   rw [nodes]
   unfold srcOf at hs ⊢
   rwa [List.getD_cons_succ]
  have hlt : ∀ r : Nat, (done.set x.tgt.toNat true).getD r false = true -> (last.set x.tgt.toNat i).getD r 0 < i + 1 := fun r hr => by
   rw [qq] at hr ⊢
   by_cases he : x.tgt.toNat = r
   .rw [if_pos ⟨he, by rw [h.l0]; omega⟩]; omega
   .rw [if_neg (fun h => he h.1)] at hr ⊢
    have := h.lt r hr; omega
  rw [show i + (x :: l).length = i + 1 + l.length by simp; omega, doneL, lastL, nodes, resN]
  by_cases hn : need.getD i false = true
  .have hsrc : ∀ r ∈ opsP x, need.getD (last.getD r.toNat 0) false = true := fun r hr => hcl 0 (by simp) hn _ (by
    rw [nodes]
    unfold srcOf
    rw [List.getD_cons_zero]
    exact List.mem_map_of_mem hr)
   have hx' : InsOk cols types done' x := ⟨hx.form, hx.to0, hx.to1, fun r hr => ⟨(hx.args r hr).1, (hx.args r hr).2.1, (h.reg r.toNat (hx.args r hr).2.2 (hsrc r hr)).1⟩, hx.col, hx.typ⟩
   have hargs : (opsP x).map (fun r => last'.getD r.toNat 0) = (opsP x).map fun r => rank need (last.getD r.toNat 0) := List.map_congr_left fun r hr => (h.reg r.toNat (hx.args r hr).2.2 (hsrc r hr)).2
   have hvals : ((opsP x).map fun r => last'.getD r.toNat 0).map (fun k => acc'.getD k zeroV) = ((opsP x).map fun r => last.getD r.toNat 0).map (fun k => acc.getD k zeroV) := by
    rw [hargs, List.map_map, List.map_map]
    exact List.map_congr_left fun r hr => h.res _ (h.lt r.toNat (hx.args r hr).2.2) (hsrc r hr)
   have hr1 : rank need (i + 1) = rank need i + 1 := by rw [rank, if_pos hn]
   have hT : qpk need (i + 1) (done.set x.tgt.toNat true) (done'.set x.tgt.toNat true) (last.set x.tgt.toNat i) (last'.set x.tgt.toNat (rank need i)) (acc ++ [opI time row x (((opsP x).map fun r => last.getD r.toNat 0).map fun k => acc.getD k zeroV)]) (acc' ++ [opI time row x (((opsP x).map fun r => last'.getD r.toNat 0).map fun k => acc'.getD k zeroV)]) := by
    refine ⟨by simp [h.al], by rw [hr1]; simp [h.al'], by simp [h.dl], by simp [h.ll], by simp [h.l0], hlt, fun r hr hnr => ?_, fun j hj hnj => ?_⟩
    .rw [qq] at hr hnr ⊢
     rw [qq, qq]
     by_cases he : x.tgt.toNat = r
     .rw [if_pos ⟨he, by rw [h.dl]; omega⟩, if_pos ⟨he, by rw [h.ll]; omega⟩, if_pos ⟨he, by rw [h.l0]; omega⟩]
      exact ⟨rfl, rfl⟩
     .rw [if_neg (fun h => he h.1)] at hr hnr
      rw [if_neg (fun h => he h.1), if_neg (fun h => he h.1), if_neg (fun h => he h.1)]
      exact h.reg r hr hnr
    .rw [qdb, qdb, h.al, h.al']
     by_cases hji : j = i
     .subst hji
      rw [if_neg (Nat.lt_irrefl _), if_neg (Nat.lt_irrefl _), if_pos rfl, if_pos rfl, hvals]
     .rw [if_pos (qor1 need (by omega) hnj), if_pos (by omega)]
      exact h.res j (by omega) hnj
   obtain ⟨g1, g2⟩ := qrb need time row l ha.2 (by rw [List.length_set]; exact hdl) hcl' hT
   rw [trimI, if_pos hn, doneL, lastL, nodes, resN]
   rw [hr1] at g2
   exact ⟨⟨hx', g1⟩, g2⟩
  .have hr1 : rank need (i + 1) = rank need i := by rw [rank, if_neg hn]; rfl
   have hT : qpk need (i + 1) (done.set x.tgt.toNat true) done' (last.set x.tgt.toNat i) last' (acc ++ [opI time row x (((opsP x).map fun r => last.getD r.toNat 0).map fun k => acc.getD k zeroV)]) acc' := by
    refine ⟨by simp [h.al], by rw [hr1]; exact h.al', by simp [h.dl], by simp [h.ll], by simp [h.l0], hlt, fun r hr hnr => ?_, fun j hj hnj => ?_⟩
    .rw [qq] at hr hnr
     rw [qq]
     by_cases he : x.tgt.toNat = r
     .rw [if_pos ⟨he, by rw [h.l0]; omega⟩] at hnr
      exact absurd hnr hn
     .rw [if_neg (fun h => he h.1)] at hr hnr
      rw [if_neg (fun h => he h.1)]
      exact h.reg r hr hnr
    .have hji : j ≠ i := fun e => by subst e; exact hn hnj
     rw [qdb, h.al, if_pos (by omega)]
     exact h.res j (by omega) hnj
   obtain ⟨g1, g2⟩ := qrb need time row l ha.2 (by rw [List.length_set]; exact hdl) hcl' hT
   rw [trimI, if_neg hn]
   rw [hr1] at g2
   exact ⟨g1, g2⟩
theorem qmf {cols types : List Int} : ∀ (l : List Ins) (i : Nat) (done : List Bool) (last : List Nat), AllOk cols types l done -> last.length = types.length -> done.length = types.length -> (∀ r : Nat, done.getD r false = true -> last.getD r 0 < i) -> ∀ k, k < l.length -> ∀ s ∈ srcOf (nodes l i last) k, s < i + k
 | [], _, _, _, _, _, _, _ => fun k hk => by simp at hk
 | x :: l, i, done, last, ha, hl, hd, h => by
  intro k hk s hs
  rw [nodes] at hs
  unfold srcOf at hs
  cases k with
  | zero =>
   rw [List.getD_cons_zero] at hs
   obtain ⟨r, hr, rfl⟩ := List.mem_map.1 hs
   exact h r.toNat (ha.1.args r hr).2.2
  | succ k =>
   rw [List.getD_cons_succ] at hs
   have := qmf l (i + 1) _ _ ha.2 (by rw [List.length_set]; exact hl) (by rw [List.length_set]; exact hd) (fun r hr => by
    have h1 := ha.1.to1
    have h0 := ha.1.to0
    rw [qq] at hr ⊢
    by_cases he : x.tgt.toNat = r
    .rw [if_pos ⟨he, by omega⟩]; omega
    .rw [if_neg (fun h => he h.1)] at hr ⊢
     have := h r hr; omega) k (by simpa using hk) s hs
   omega
theorem CodOk.early {c : Cod} {cols : List Int} (h : CodOk c cols) : Early (qx c) := fun i hi k hk => by
 have := qmf c.ins 0 _ _ h.all (by simp) (by simp) (fun r hr => by
  rw [List.getD_eq_getElem?_getD, List.getElem?_replicate] at hr
  split at hr <;> cases hr) i (by unfold qx at hi; rwa [qdd] at hi) k hk
 omega
theorem qme {n r : Nat} (h : (List.replicate n false).getD r false = true) : False := by
 rw [List.getD_eq_getElem?_getD, List.getElem?_replicate] at h
 split at h <;> cases h
def trimP (c : Cod) : Cod := ⟨trimI (needP (qx c) (rootC c)) c.ins 0, c.types, c.out⟩
theorem qfi1 (need : List Bool) : ∀ i, rank need i <= i
 | 0 => Nat.le_refl _
 | i + 1 => by have := qfi1 need i; rw [rank]; split <;> omega
theorem qwq {c : Cod} {cols : List Int} (h : CodOk c cols) (time : Int) (row : List Val) : CodOk (trimP c) cols /\ valC (trimP c) time row = valC c time row /\ (trimP c).ins.length <= c.ins.length := by
 have he := h.early
 obtain ⟨hroot, hval⟩ := h.val_res time row
 have hl : (qx c).length = c.ins.length := by unfold qx; exact qdd _ _ _
 have hneed := qav1 he (root := rootC c) (by rw [hl]; exact hroot)
 obtain ⟨g1, g2⟩ := qrb (cols := cols) (needP (qx c) (rootC c)) time row c.ins (i := 0) (done' := List.replicate c.types.length false) (last' := List.replicate c.types.length 0) (acc := []) (acc' := []) h.all (by simp)
  (fun k hk hn s hs => qtm he _ (by rw [hl]; exact hk) (by rw [Nat.zero_add] at hn; exact hn) s hs)
  ⟨rfl, rfl, rfl, by simp, by simp, fun r hr => (qme hr).elim, fun r hr => (qme hr).elim, fun j hj => by omega⟩
 rw [Nat.zero_add] at g2
 have g3 := g2.reg c.out.toNat h.out2 hneed
 have hlen := quj (needP (qx c) (rootC c)) c.ins 0
 rw [rank, Nat.add_zero, Nat.zero_add] at hlen
 have hle := qfi1 (needP (qx c) (rootC c)) c.ins.length
 have hok : CodOk (trimP c) cols := ⟨by show (trimI _ _ _).length <= _; have := h.ni; omega, h.nt, h.kinds, g1, h.out0, h.out1, g3.1⟩
 refine ⟨hok, ?_, by show (trimI _ _ _).length <= _; omega⟩
 rw [(hok.val_res time row).2, hval]
 have e1 : rootC (trimP c) = rank (needP (qx c) (rootC c)) (rootC c) := g3.2
 rw [e1]
 exact g2.res _ hroot hneed
structure NdOk (cols rt : List Int) (i : Nat) (d : Nd) : Prop where
 form : qbp d.x = true
 col : d.x.op = 3 -> 0 <= d.x.n /\ d.x.n < cols.length
 ar : d.src.length = (opsP d.x).length
 lt : ∀ s ∈ d.src, s < i
 typ : tailT [] cols [] d.x.op d.x.n d.x.s (d.src.map fun s => rt.getD s 0) = some (rt.getD i 0)
def NdsOk (cols rt : List Int) : List Nd -> Nat -> Prop
 | [], _ => True
 | d :: l, i => NdOk cols rt i d /\ NdsOk cols rt l (i + 1)
def resT (types : List Int) (l : List Ins) : List Int := l.map fun x => types.getD x.tgt.toNat 0
theorem qll1 {cols types : List Int} : ∀ (l pre : List Ins) (done : List Bool) (last : List Nat), AllOk cols types l done -> done.length = types.length -> last.length = types.length -> (∀ r : Nat, done.getD r false = true -> last.getD r 0 < pre.length /\ (resT types pre).getD (last.getD r 0) 0 = types.getD r 0) ->
  NdsOk cols (resT types (pre ++ l)) (nodes l pre.length last) pre.length
 | [], _, _, _, _, _, _, _ => trivial
 | x :: l, pre, done, last, ha, hd, hl, h => by
  have hx := ha.1
  have h0 := hx.to0
  have h1 := hx.to1
  have hpre : ∀ k, k < pre.length -> (resT types (pre ++ x :: l)).getD k 0 = (resT types pre).getD k 0 := fun k hk => by
   unfold resT
   rw [List.map_append, List.getD_eq_getElem?_getD, List.getElem?_append_left (by simpa using hk), List.getD_eq_getElem?_getD]
  have hi : (resT types (pre ++ x :: l)).getD pre.length 0 = types.getD x.tgt.toNat 0 := by
   unfold resT
   rw [List.map_append, List.getD_eq_getElem?_getD, List.getElem?_append_right (by simp)]
   simp
  rw [nodes, NdsOk]
  constructor
  .refine ⟨hx.form, hx.col, by simp, fun s hs => ?_, ?_⟩
   .obtain ⟨r, hr, rfl⟩ := List.mem_map.1 hs
    exact (h r.toNat (hx.args r hr).2.2).1
   .rw [hi]
    have hm : (((opsP x).map fun r => last.getD r.toNat 0).map fun s => (resT types (pre ++ x :: l)).getD s 0) = (opsP x).map fun r => types.getD r.toNat 0 := by
     rw [List.map_map]
     refine List.map_congr_left fun r hr => ?_
     obtain ⟨h2, h3⟩ := h r.toNat (hx.args r hr).2.2
     show (resT types (pre ++ x :: l)).getD (last.getD r.toNat 0) 0 = _
     rw [hpre _ h2, h3]
    rw [show (({ x := x, src := (opsP x).map fun r => last.getD r.toNat 0 } : Nd).src) = (opsP x).map fun r => last.getD r.toNat 0 from rfl, hm]
    exact qfp (fun _ h => h) (fun e => absurd e hx.op.2.2) hx.tail
  .have := qll1 l (pre ++ [x]) _ (last.set x.tgt.toNat pre.length) ha.2 (by rw [List.length_set]; exact hd) (by rw [List.length_set]; exact hl) (fun r hr => by
    rw [qq] at hr
    rw [qq, List.length_append, List.length_singleton]
    unfold resT
    rw [List.map_append, List.map_singleton]
    by_cases he : x.tgt.toNat = r
    .rw [if_pos ⟨he, by omega⟩]
     refine ⟨by omega, ?_⟩
     rw [qdb, if_neg (by simp), if_pos (by simp), he]
    .rw [if_neg (fun h => he h.1)] at hr
     rw [if_neg (fun h => he h.1)]
     obtain ⟨h2, h3⟩ := h r hr
     refine ⟨by omega, ?_⟩
     rw [qdb, if_pos (by simpa using h2)]
     exact h3)
   rw [List.length_append, List.length_singleton, List.append_assoc] at this
   exact this
theorem CodOk.nds {c : Cod} {cols : List Int} (h : CodOk c cols) : NdsOk cols (resT c.types c.ins) (qx c) 0 :=
 qll1 c.ins [] _ _ h.all (by simp) (by simp) (fun r hr => (qme hr).elim)
def endI : List Nd -> Nat -> List Nat -> List Nat
 | [], _, e => e
 | d :: l, i, e => endI l (i + 1) (d.src.foldl (fun e k => e.set k i) (e.set i i))
def endP (ds : List Nd) (root : Nat) : List Nat := (endI ds 0 (List.replicate ds.length 0)).set root ds.length
theorem qko : ∀ (ks : List Nat) (e : List Nat) (i : Nat), (ks.foldl (fun e k => e.set k i) e).length = e.length /\ ∀ k, k < e.length -> (k ∈ ks -> (ks.foldl (fun e k => e.set k i) e).getD k 0 = i) /\ (k ∉ ks -> (ks.foldl (fun e k => e.set k i) e).getD k 0 = e.getD k 0)
 | [], e, i => ⟨rfl, fun k hk => ⟨fun h => by simp at h, fun _ => rfl⟩⟩
 | a :: ks, e, i => by
  obtain ⟨h1, h2⟩ := qko ks (e.set a i) i
  rw [List.foldl_cons]
  refine ⟨by rw [h1]; simp, fun k hk => ?_⟩
  obtain ⟨h3, h4⟩ := h2 k (by simpa using hk)
  by_cases hka : k ∈ ks
  .exact ⟨fun _ => h3 hka, fun h => absurd (List.mem_cons_of_mem _ hka) h⟩
  .rw [h4 hka, qq]
   by_cases e1 : a = k
   .rw [if_pos ⟨e1, by subst e1; exact hk⟩]
    exact ⟨fun _ => rfl, fun h => absurd (by simp [e1]) h⟩
   .rw [if_neg (fun h => e1 h.1)]
    exact ⟨fun h => absurd (by rcases List.mem_cons.1 h with h | h; exact absurd h.symm e1; exact h) hka, fun _ => rfl⟩
theorem qxg : ∀ (l : List Nd) (i : Nat) (e : List Nat), (endI l i e).length = e.length
 | [], _, _ => rfl
 | d :: l, i, e => by rw [endI, qxg l, (qko d.src _ i).1]; simp
theorem qcs1 : ∀ (l pre : List Nd) (e : List Nat), e.length = (pre ++ l).length -> Early (pre ++ l) -> (∀ j, j < pre.length -> ∀ k ∈ srcOf (pre ++ l) j, j <= e.getD k 0) -> ∀ j, j < (pre ++ l).length -> ∀ k ∈ srcOf (pre ++ l) j, j <= (endI l pre.length e).getD k 0
 | [], pre, e, _, _, h => fun j hj k hk => h j (by simpa using hj) k hk
 | d :: l, pre, e, hl, he, h => by
  have hd : srcOf (pre ++ d :: l) pre.length = d.src := by
   unfold srcOf
   rw [List.getD_eq_getElem?_getD, List.getElem?_append_right (Nat.le_refl _)]; simp
  have := qcs1 l (pre ++ [d]) (d.src.foldl (fun e k => e.set k pre.length) (e.set pre.length pre.length)) (by rw [(qko _ _ _).1]; simp at hl ⊢; exact hl) (by rw [List.append_assoc]; exact he) (by
   intro j hj k hk
   rw [List.append_assoc, List.singleton_append] at hk
   have hj' : j <= pre.length := by simp at hj; omega
   have hkj : k < j := he j (by simp; omega) k hk
   have hke : k < e.length := by rw [hl]; simp; omega
   obtain ⟨h3, h4⟩ := (qko d.src (e.set pre.length pre.length) pre.length).2 k (by simpa using hke)
   by_cases hks : k ∈ d.src
   .rw [h3 hks]; exact hj'
   .rw [h4 hks, qq, if_neg (by omega)]
    by_cases hjp : j = pre.length
    .subst hjp; rw [hd] at hk; exact absurd hk hks
    .exact h j (by omega) k hk)
  rw [List.append_assoc, List.singleton_append, show (pre ++ [d]).length = pre.length + 1 by simp] at this
  exact this
theorem qml1 {ds : List Nd} (he : Early ds) (root : Nat) {j : Nat} (hj : j < ds.length) {k : Nat} (hk : k ∈ srcOf ds j) : j <= (endP ds root).getD k 0 := by
 have h := qcs1 ds [] (List.replicate ds.length 0) (by simp) he (fun j hj => by simp at hj) j hj k hk
 unfold endP
 rw [qq]
 split
 .omega
 .exact h
theorem qct1 (ds : List Nd) {root : Nat} (h : root < ds.length) : (endP ds root).getD root 0 = ds.length := by
 unfold endP
 rw [qq, if_pos ⟨rfl, by rw [qxg]; simpa using h⟩]
def slot (e : List Nat) (i : Nat) (t : Int) : List Nat -> List Int -> Nat
 | h :: hs, u :: us => if i < e.getD h 0 \/ u ≠ t then slot e i t hs us + 1 else 0
 | _, _ => 0
theorem qmt (e : List Nat) (i : Nat) (t : Int) : ∀ (hs : List Nat) (us : List Int), hs.length = us.length -> slot e i t hs us <= hs.length /\ (slot e i t hs us < hs.length -> e.getD (hs.getD (slot e i t hs us) 0) 0 <= i /\ us.getD (slot e i t hs us) 0 = t) /\
  ∀ k, k < slot e i t hs us -> i < e.getD (hs.getD k 0) 0 \/ us.getD k 0 ≠ t
 | [], [], _ => ⟨by simp [slot], by simp [slot], by simp [slot]⟩
 | h :: hs, u :: us, hl => by
  obtain ⟨h1, h2, h3⟩ := qmt e i t hs us (by simpa using hl)
  rw [slot]
  split
  .rename_i hc
   refine ⟨by simp; omega, fun h => ?_, fun k hk => ?_⟩
   .rw [List.getD_cons_succ, List.getD_cons_succ]
    exact h2 (by simpa using h)
   .cases k with
    | zero => rw [List.getD_cons_zero, List.getD_cons_zero]; exact hc
    | succ k => rw [List.getD_cons_succ, List.getD_cons_succ]; exact h3 k (by omega)
  .rename_i hc
   refine ⟨by simp, fun _ => ?_, fun k hk => by omega⟩
   rw [List.getD_cons_zero, List.getD_cons_zero]
   rw [not_or, Decidable.not_not] at hc
   exact ⟨by omega, hc.2⟩
def newI (x : Ins) (args : List Int) (k : Nat) : Ins := ⟨x.op, k, args.getD 0 0, args.getD 1 0, args.getD 2 0, x.n, x.s⟩
structure CompS where
 ins : List Ins
 holds : List Nat
 tys : List Int
 place : List Nat
def compI (e : List Nat) (ct : List Int) : List Nd -> Nat -> CompS -> CompS
 | [], _, s => s
 | d :: l, i, s =>
  let t := ct.getD d.x.tgt.toNat 0
  let k := slot e i t s.holds s.tys
  compI e ct l (i + 1) ⟨s.ins ++ [newI d.x (d.src.map fun j => ((s.place.getD j 0 : Nat) : Int)) k], if k = s.holds.length then s.holds ++ [i] else s.holds.set k i, if k = s.holds.length then s.tys ++ [t] else s.tys, s.place.set i k⟩
def compS (c : Cod) : CompS := compI (endP (qx c) (rootC c)) c.types (qx c) 0 ⟨[], [], [], List.replicate c.ins.length 0⟩
def compP (c : Cod) : Cod := let d := trimP c; ⟨(compS d).ins, (compS d).tys, ((compS d).place.getD (rootC d) 0 : Nat)⟩
theorem qgo1 {args : List Int} {n : Nat} (hn : n <= 3) (h : args.length = n) : ([args.getD 0 0, args.getD 1 0, args.getD 2 0]).take n = args := by
 match args, n, h with
 | [], _, rfl => rfl
 | [a], _, rfl => rfl
 | [a, b], _, rfl => rfl
 | [a, b, d], _, rfl => rfl
theorem qhc (x : Ins) : (opsP x).length = if opOk x.op then arO x.op else 0 := by
 unfold opsP
 split
 .rw [List.length_take]; have := qfx x.op; simp; omega
 .rfl
theorem qgc {x : Ins} (h : qbp x = true) : opOk x.op = true := by
 unfold qbp at h
 simp only [Bool.and_eq_true] at h
 exact h.1.1
theorem qjr1 {x : Ins} (hf : qbp x = true) {args : List Int} (hl : args.length = (opsP x).length) (k : Nat) : opsP (newI x args k) = args := by
 have ho := qgc hf
 rw [qhc, if_pos ho] at hl
 show (if opOk x.op then ([args.getD 0 0, args.getD 1 0, args.getD 2 0]).take (arO x.op) else []) = args
 rw [if_pos ho]
 exact qgo1 (qfx _) hl
theorem qep1 {x : Ins} (hf : qbp x = true) {args : List Int} (hl : args.length = (opsP x).length) (k : Nat) : qbp (newI x args k) = true := by
 have ho := qgc hf
 rw [qhc, if_pos ho] at hl
 have hz : ∀ j, args.length <= j -> args.getD j 0 = 0 := fun j hj => by rw [List.getD_eq_getElem?_getD, List.getElem?_eq_none hj]; rfl
 unfold qbp at hf ⊢
 simp only [Bool.and_eq_true, decide_eq_true_eq] at hf ⊢
 refine ⟨⟨hf.1.1, ⟨fun h => hz 2 (by rw [hl]; have : arO x.op < 3 := h; omega), fun h => hz 1 (by rw [hl]; have : arO x.op < 2 := h; omega)⟩, fun h => hz 0 (by rw [hl]; have : arO x.op < 1 := h; omega)⟩, hf.2⟩
theorem qat1 (x : Ins) : levels (exI x) <= 12 := by
 unfold exI
 rw [levels]
 have : ∀ (l : List Int) (n : Int), n <= 1 -> qp (l.map qcv) n <= 1 := fun l => by
  induction l with
  | nil => intro n h; rw [List.map_nil, qp]; exact h
  | cons a l ih =>
   intro n h
   rw [List.map_cons, qp]
   refine ih _ ?_
   have : levels (qcv a) = 1 := by unfold qcv; rw [levels, qp]; rfl
   omega
 have := this (opsP x) 0 (by omega)
 omega
theorem qiz {cols types : List Int} : ∀ (l : List Int), (∀ r ∈ l, 0 <= r /\ r < types.length) -> (∀ t ∈ types, 0 <= t /\ t < 3) -> tys [] cols types (l.map qcv) = some (l.map fun r => types.getD r.toNat 0)
 | [], _, _ => by rw [List.map_nil, tys]; rfl
 | r :: l, h, hk => by
  obtain ⟨h0, h1⟩ := h r (by simp)
  have hg : types[r.toNat]? = some (types.getD r.toNat 0) := by
   rw [List.getD_eq_getElem?_getD, List.getElem?_eq_getElem (by omega)]; rfl
  have hkd := hk _ (List.mem_of_getElem? hg)
  have hp : ty [] cols types (qcv r) = some (types.getD r.toNat 0) := by
   unfold qcv
   rw [ty]
   simp only [tys]
   unfold tailT
   rw [if_neg (by simp), if_neg (by decide), if_pos rfl]
   unfold leafT
   rw [if_neg (by decide), if_neg (by decide), if_neg (by decide), if_pos rfl]
   unfold pickT
   rw [if_neg (by omega), hg]
   dsimp only
   rw [if_pos]
   unfold kindB
   simp only [Bool.and_eq_true, decide_eq_true_eq]
   exact hkd
  rw [List.map_cons, tys, hp, qiz l (fun x hx => h x (by simp [hx])) hk]
  rfl
theorem qly1 {cols types : List Int} {x : Ins} {t : Int} (hr : ∀ r ∈ opsP x, 0 <= r /\ r < types.length) (hk : ∀ t ∈ types, 0 <= t /\ t < 3) (hop : x.op ≠ 4) (h : tailT [] cols [] x.op x.n x.s ((opsP x).map fun r => types.getD r.toNat 0) = some t) : tyI cols types x = some t := by
 unfold tyI typeP
 rw [if_pos qjo]
 unfold tyD
 rw [if_neg (by have := qat1 x; omega)]
 unfold exI
 rw [ty, qiz _ hr hk]
 exact qfp (fun _ h => h) (fun e => absurd e hop) h
theorem qsa (e : List Nat) (ct : List Int) : ∀ (l : List Nd) (i : Nat) (s : CompS), ∃ r, (compI e ct l i s).tys = s.tys ++ r
 | [], _, s => ⟨[], by simp [compI]⟩
 | d :: l, i, s => by
  rw [compI]
  try dsimp only
  obtain ⟨r, hr⟩ := qsa e ct l (i + 1) ⟨s.ins ++ [newI d.x (d.src.map fun j => ((s.place.getD j 0 : Nat) : Int)) (slot e i (ct.getD d.x.tgt.toNat 0) s.holds s.tys)], if slot e i (ct.getD d.x.tgt.toNat 0) s.holds s.tys = s.holds.length then s.holds ++ [i] else s.holds.set (slot e i (ct.getD d.x.tgt.toNat 0) s.holds s.tys) i, if slot e i (ct.getD d.x.tgt.toNat 0) s.holds s.tys = s.holds.length then s.tys ++ [ct.getD d.x.tgt.toNat 0] else s.tys, s.place.set i (slot e i (ct.getD d.x.tgt.toNat 0) s.holds s.tys)⟩
  rw [hr]
  split
  .exact ⟨[ct.getD d.x.tgt.toNat 0] ++ r, by simp⟩
  .exact ⟨r, rfl⟩
structure qus (e : List Nat) (rt T : List Int) (i n : Nat) (s : CompS) (done : List Bool) (last : List Nat) : Prop where
 hl : s.holds.length = s.tys.length
 alive : ∀ j, j < i -> i <= e.getD j 0 -> s.place.getD j 0 < s.holds.length /\ s.holds.getD (s.place.getD j 0) 0 = j
 ty : ∀ j, j < i -> s.place.getD j 0 < s.tys.length /\ s.tys.getD (s.place.getD j 0) 0 = rt.getD j 0
 dl : done.length = T.length
 ll : last.length = T.length
 dn : ∀ k, k < s.holds.length -> done.getD k false = true /\ last.getD k 0 = s.holds.getD k 0
 pl : s.place.length = n
 few : s.tys.length <= i
theorem qkb1 {α : Type} {a b : List α} {d : α} {k : Nat} (h : k < a.length) : (a ++ b).getD k d = a.getD k d := by
 rw [List.getD_eq_getElem?_getD, List.getElem?_append_left h, List.getD_eq_getElem?_getD]
theorem qkv1 {c : Prop} [Decidable c] {a : List Int} {t : Int} : ∃ r, (if c then a ++ [t] else a) = a ++ r := by
 split
 .exact ⟨[t], rfl⟩
 .exact ⟨[], by simp⟩
set_option maxHeartbeats 1000000 in
def keyN (ct : List Int) (d : Nd) : List Nat × Int × Int × ByteArray × Int := (d.src, d.x.op, d.x.n, d.x.s, ct.getD d.x.tgt.toNat 0)
theorem qxe {cols ct rt : List Int} {e : List Nat} {n : Nat} (T : List Int) (hT : ∀ t ∈ T, 0 <= t /\ t < 3) (time : Int) (row : List Val) : ∀ (l : List Nd) (i : Nat) (s : CompS) (done : List Bool) (last : List Nat) (acc : List Val), i + l.length = n ->
  (∃ r, T = (compI e ct l i s).tys ++ r) -> NdsOk cols rt l i -> (∀ k, k < l.length -> ct.getD (l.getD k ⟨⟨0, 0, 0, 0, 0, 0, ByteArray.empty⟩, []⟩).x.tgt.toNat 0 = rt.getD (i + k) 0) -> (∀ k, k < l.length -> ∀ j ∈ srcOf l k, i + k <= e.getD j 0) -> qus e rt T i n s done last ->
  ∃ outs, (compI e ct l i s).ins = s.ins ++ outs /\ outs.length = l.length /\ AllOk cols T outs done /\ resN time row (nodes outs i last) acc = resN time row l acc /\ qus e rt T n n (compI e ct l i s) (doneL outs done) (lastL outs i last) /\ (nodes outs i last).map (keyN T) = l.map (keyN ct)
 | [], i, s, done, last, acc, hn, _, _, _, _, h => by
  obtain rfl : i = n := by simpa using hn
  exact ⟨[], by simp [compI], rfl, trivial, rfl, h, rfl⟩
 | d :: l, i, s, done, last, acc, hn, hTy, hd, hct, hend, h => by
  have hn' : i + 1 + l.length = n := by simp at hn; omega
  have hin : i < n := by omega
  have hct0 := hct 0 (by simp)
  rw [List.getD_cons_zero, Nat.add_zero] at hct0
  have hct' : ∀ k, k < l.length -> ct.getD (l.getD k ⟨⟨0, 0, 0, 0, 0, 0, ByteArray.empty⟩, []⟩).x.tgt.toNat 0 = rt.getD (i + 1 + k) 0 := fun k hk => by
   have := hct (k + 1) (by simpa using hk)
   rw [List.getD_cons_succ] at this
   rw [this, show i + (k + 1) = i + 1 + k by omega]
  have hend' : ∀ k, k < l.length -> ∀ j ∈ srcOf l k, i + 1 + k <= e.getD j 0 := fun k hk j hj => by
   have := hend (k + 1) (by simpa using hk) j (by unfold srcOf at hj ⊢; rwa [List.getD_cons_succ])
   omega
  have hend0 : ∀ j ∈ d.src, i <= e.getD j 0 := fun j hj => hend 0 (by simp) j (by unfold srcOf; rwa [List.getD_cons_zero])
  rw [compI] at hTy ⊢
  try dsimp only at hTy ⊢
  rw [hct0] at hTy ⊢
  obtain ⟨h1, h2, -⟩ := qmt e i (rt.getD i 0) s.holds s.tys h.hl
  generalize hk : slot e i (rt.getD i 0) s.holds s.tys = k at *
  generalize hargs : d.src.map (fun j => ((s.place.getD j 0 : Nat) : Int)) = args at *
  obtain ⟨r, hr⟩ := hTy
  obtain ⟨r2, hr2⟩ := qsa e ct l (i + 1) ⟨s.ins ++ [newI d.x args k], if k = s.holds.length then s.holds ++ [i] else s.holds.set k i, if k = s.holds.length then s.tys ++ [rt.getD i 0] else s.tys, s.place.set i k⟩
  rw [hr2] at hr
  dsimp only at hr
  obtain ⟨r3, hr3⟩ := qkv1 (c := k = s.holds.length) (a := s.tys) (t := rt.getD i 0)
  have hTpre : ∀ m, m < s.tys.length -> m < T.length /\ T.getD m 0 = s.tys.getD m 0 := fun m hm => by
   rw [hr, hr3, List.append_assoc, List.append_assoc]
   exact ⟨by simp; omega, qkb1 hm⟩
  have hkT : k < T.length /\ T.getD k 0 = rt.getD i 0 := by
   by_cases hkl : k = s.holds.length
   .rw [hr, if_pos hkl, List.append_assoc]
    have hk2 : k = s.tys.length := hkl.trans h.hl
    refine ⟨by simp; omega, ?_⟩
    rw [hk2, List.getD_eq_getElem?_getD, List.append_assoc, List.getElem?_append_right (Nat.le_refl _)]
    simp
   .have hk3 : k < s.holds.length := by omega
    obtain ⟨h3, h4⟩ := hTpre k (by rw [<- h.hl]; exact hk3)
    exact ⟨h3, h4.trans (h2 hk3).2⟩
  have hal : args.length = (opsP d.x).length := by rw [<- hargs, List.length_map]; exact hd.1.ar
  have hops := qjr1 hd.1.form hal k
  have hplace : ∀ j ∈ d.src, s.place.getD j 0 < s.holds.length /\ s.holds.getD (s.place.getD j 0) 0 = j := fun j hj => h.alive j (hd.1.lt j hj) (hend0 j hj)
  have hop := qgc hd.1.form
  have hop4 : d.x.op ≠ 4 := by
   unfold opOk at hop
   simp only [Bool.and_eq_true, decide_eq_true_eq] at hop
   exact hop.2
  have htys : (args.map fun r => T.getD r.toNat 0) = d.src.map fun j => rt.getD j 0 := by
   rw [<- hargs, List.map_map]
   refine List.map_congr_left fun j hj => ?_
   have h5 := h.ty j (hd.1.lt j hj)
   show T.getD (((s.place.getD j 0 : Nat) : Int).toNat) 0 = _
   rw [Int.toNat_natCast, (hTpre _ h5.1).2, h5.2]
  have hyr : ∀ r ∈ opsP (newI d.x args k), 0 <= r /\ r < T.length /\ done.getD r.toNat false = true := fun r hr => by
   rw [hops, <- hargs] at hr
   obtain ⟨j, hj, rfl⟩ := List.mem_map.1 hr
   have h5 := hplace j hj
   have h6 := hTpre _ (by rw [<- h.hl]; exact h5.1)
   refine ⟨by omega, by omega, ?_⟩
   rw [Int.toNat_natCast]
   exact (h.dn _ h5.1).1
  have hyok : InsOk cols T done (newI d.x args k) := by
   refine ⟨qep1 hd.1.form hal k, by show (0 : Int) <= k; omega, by show (k : Int) < _; omega, hyr, hd.1.col, ?_⟩
   have h7 := hd.1.typ
   rw [<- htys] at h7
   have h8 := qly1 (cols := cols) (types := T) (x := newI d.x args k) (t := rt.getD i 0) (fun r hr => ⟨(hyr r hr).1, (hyr r hr).2.1⟩) hT hop4 (by rw [hops]; exact h7)
   rw [h8]
   show _ = some (T.getD ((k : Int).toNat) 0)
   rw [Int.toNat_natCast, hkT.2]
  have hyto : (newI d.x args k).tgt.toNat = k := by show ((k : Int).toNat) = k; exact Int.toNat_natCast k
  have hinv : qus e rt T (i + 1) n ⟨s.ins ++ [newI d.x args k], if k = s.holds.length then s.holds ++ [i] else s.holds.set k i, if k = s.holds.length then s.tys ++ [rt.getD i 0] else s.tys, s.place.set i k⟩ (done.set (newI d.x args k).tgt.toNat true) (last.set (newI d.x args k).tgt.toNat i) := by
   rw [hyto]
   have hholds : ∀ m, m < (if k = s.holds.length then s.holds ++ [i] else s.holds.set k i).length -> (if k = s.holds.length then s.holds ++ [i] else s.holds.set k i).getD m 0 = if m = k then i else s.holds.getD m 0 := fun m hm => by
    by_cases hkl : k = s.holds.length
    .rw [if_pos hkl] at hm ⊢
     rw [qdb]
     simp at hm
     by_cases hmk : m = k
     .rw [if_pos hmk, if_neg (by omega), if_pos (by omega)]
     .rw [if_neg hmk, if_pos (by omega)]
    .rw [if_neg hkl] at hm ⊢
     rw [qq]
     by_cases hmk : m = k
     .rw [if_pos hmk, if_pos ⟨hmk.symm, by omega⟩]
     .rw [if_neg hmk, if_neg (fun h => hmk h.1.symm)]
   have hhl : (if k = s.holds.length then s.holds ++ [i] else s.holds.set k i).length = if k = s.holds.length then s.holds.length + 1 else s.holds.length := by split <;> simp
   have hpl : ∀ j, (s.place.set i k).getD j 0 = if j = i then k else s.place.getD j 0 := fun j => by
    rw [qq]
    by_cases hji : i = j
    .rw [if_pos ⟨hji, by rw [h.pl]; exact hin⟩, if_pos hji.symm]
    .rw [if_neg (fun h => hji h.1), if_neg (fun h => hji h.symm)]
   have hkn : k < (if k = s.holds.length then s.holds ++ [i] else s.holds.set k i).length := by rw [hhl]; split <;> omega
   refine ⟨?_, fun j hj hje => ?_, fun j hj => ?_, by rw [List.length_set]; exact h.dl, by rw [List.length_set]; exact h.ll, fun m hm => ?_, by rw [List.length_set]; exact h.pl, ?_⟩
   .show (if k = s.holds.length then s.holds ++ [i] else s.holds.set k i).length = (if k = s.holds.length then s.tys ++ [rt.getD i 0] else s.tys).length
    have := h.hl
    split <;> simp <;> omega
   .show (s.place.set i k).getD j 0 < _ /\ _
    dsimp only
    rw [hpl]
    by_cases hji : j = i
    .rw [if_pos hji, hholds _ hkn, if_pos rfl]
     exact ⟨hkn, hji.symm⟩
    .rw [if_neg hji]
     obtain ⟨h5, h6⟩ := h.alive j (by omega) (by omega)
     have hpk : s.place.getD j 0 ≠ k := fun hpk => by
      by_cases hkl : k < s.holds.length
      .have h9 := (h2 hkl).1
       rw [hpk] at h6
       rw [h6] at h9
       omega
      .omega
     have hm : s.place.getD j 0 < (if k = s.holds.length then s.holds ++ [i] else s.holds.set k i).length := by rw [hhl]; split <;> omega
     rw [hholds _ hm, if_neg hpk]
     exact ⟨hm, h6⟩
   .show (s.place.set i k).getD j 0 < _ /\ _
    dsimp only
    rw [hpl]
    by_cases hji : j = i
    .rw [if_pos hji, hji]
     by_cases hkl : k = s.holds.length
     .rw [if_pos hkl]
      have hk2 : k = s.tys.length := hkl.trans h.hl
      refine ⟨by simp; omega, ?_⟩
      rw [qdb, if_neg (by omega), if_pos hk2]
     .rw [if_neg hkl]
      have hk3 : k < s.holds.length := by omega
      exact ⟨by rw [<- h.hl]; exact hk3, (h2 hk3).2⟩
    .rw [if_neg hji]
     obtain ⟨h5, h6⟩ := h.ty j (by omega)
     by_cases hkl : k = s.holds.length
     .rw [if_pos hkl, qdb, if_pos h5]
      exact ⟨by rw [List.length_append]; exact Nat.lt_of_lt_of_le h5 (Nat.le_add_right _ _), h6⟩
     .rw [if_neg hkl]
      exact ⟨h5, h6⟩
   .dsimp only at hm ⊢
    rw [hholds m hm, qq, qq]
    by_cases hmk : m = k
    .rw [if_pos ⟨hmk.symm, by rw [h.dl]; exact hkT.1⟩, if_pos ⟨hmk.symm, by rw [h.ll]; exact hkT.1⟩, if_pos hmk]
     exact ⟨rfl, rfl⟩
    .rw [if_neg (fun h => hmk h.1.symm), if_neg (fun h => hmk h.1.symm), if_neg hmk]
     refine h.dn m ?_
     rw [hhl] at hm
     split at hm <;> omega
   .dsimp only
    have := h.few
    split <;> simp <;> omega
  obtain ⟨outs, g1, g2, g3, g4, g5, g6⟩ := qxe T hT time row l (i + 1) _ (done.set (newI d.x args k).tgt.toNat true) (last.set (newI d.x args k).tgt.toNat i) (acc ++ [opI time row d.x (d.src.map fun k => acc.getD k zeroV)]) hn' ⟨r, by rw [hr2]; exact hr⟩ hd.2 hct' hend' hinv
  have hsrc : (opsP (newI d.x args k)).map (fun r => last.getD r.toNat 0) = d.src := by
   rw [hops, <- hargs, List.map_map]
   conv => rhs; rw [<- List.map_id d.src]
   refine List.map_congr_left fun j hj => ?_
   have h5 := hplace j hj
   show last.getD (((s.place.getD j 0 : Nat) : Int).toNat) 0 = j
   rw [Int.toNat_natCast, (h.dn _ h5.1).2, h5.2]
  refine ⟨newI d.x args k :: outs, ?_, by simp [g2], ⟨hyok, g3⟩, ?_, g5, ?_⟩
  .rw [g1]; simp
  rotate_left
  .rw [nodes, List.map_cons, List.map_cons, g6]
   congr 1
   unfold keyN
   dsimp only
   rw [hsrc, hyto, hkT.2, hct0]
   rfl
  .rw [nodes, resN, resN]
   show resN time row (nodes outs (i + 1) (last.set (newI d.x args k).tgt.toNat i)) (acc ++ [opI time row (newI d.x args k) (((opsP (newI d.x args k)).map fun r => last.getD r.toNat 0).map fun k => acc.getD k zeroV)]) = _
   rw [hsrc]
   exact g4
theorem qlk {c : Cod} {cols : List Int} (h0 : CodOk c cols) (time : Int) (row : List Val) : CodOk (compP c) cols /\ valC (compP c) time row = valC c time row /\ (compP c).ins.length = (trimP c).ins.length /\
  rootC (compP c) = rootC (trimP c) /\ (qx (compP c)).map (keyN (compP c).types) = (qx (trimP c)).map (keyN (trimP c).types) /\ (compP c).types.length <= (compP c).ins.length := by
 obtain ⟨h, hv, -⟩ := qwq h0 time row
 unfold compP
 dsimp only
 rw [<- hv]
 generalize trimP c = d at *
 obtain ⟨hroot, hval⟩ := h.val_res time row
 have hl : (qx d).length = d.ins.length := by unfold qx; exact qdd _ _ _
 have hkinds : ∀ t ∈ (compS d).tys, 0 <= t /\ t < 3 := by
  have hres : ∀ x ∈ d.ins, d.types.getD x.tgt.toNat 0 ∈ d.types := by
   have : ∀ (l : List Ins) (done : List Bool), AllOk cols d.types l done -> ∀ x ∈ l, d.types.getD x.tgt.toNat 0 ∈ d.types := fun l => by
    induction l with
    | nil => intro _ _ x hx; cases hx
    | cons y l ih =>
     intro done ha x hx
     rcases List.mem_cons.1 hx with rfl | hx
     .have h1 := ha.1.to1; have h2 := ha.1.to0
      rw [List.getD_eq_getElem?_getD, List.getElem?_eq_getElem (by omega)]
      exact List.getElem_mem _
     .exact ih _ ha.2 x hx
   exact this _ _ h.all
  have : ∀ (l : List Nd) (i : Nat) (s : CompS), (∀ y ∈ l, d.types.getD y.x.tgt.toNat 0 ∈ d.types) -> (∀ t ∈ s.tys, 0 <= t /\ t < 3) -> ∀ t ∈ (compI (endP (qx d) (rootC d)) d.types l i s).tys, 0 <= t /\ t < 3 := fun l => by
   induction l with
   | nil => intro i s _ hs t ht; exact hs t ht
   | cons y l ih =>
    intro i s hy hs
    rw [compI]
    try dsimp only
    refine ih _ _ (fun z hz => hy z (by simp [hz])) ?_
    try dsimp only
    split
    .intro t ht
     rcases List.mem_append.1 ht with ht | ht
     .exact hs t ht
     .rw [List.mem_singleton] at ht
      rw [ht]; exact h.kinds _ (hy y (by simp))
    .exact hs
  refine this _ _ _ (fun y hy => ?_) (by simp)
  unfold qx at hy
  have : ∀ (l : List Ins) (i : Nat) (last : List Nat), ∀ y ∈ nodes l i last, y.x ∈ l := fun l => by
   induction l with
   | nil => intro _ _ y hy; cases hy
   | cons x l ih =>
    intro i last y hy
    rw [nodes] at hy
    rcases List.mem_cons.1 hy with rfl | hy
    .simp
    .exact List.mem_cons_of_mem _ (ih _ _ y hy)
  exact hres _ (this _ _ _ y hy)
 have hnode : ∀ k, k < (qx d).length -> d.types.getD ((qx d).getD k ⟨⟨0, 0, 0, 0, 0, 0, ByteArray.empty⟩, []⟩).x.tgt.toNat 0 = (resT d.types d.ins).getD (0 + k) 0 := fun k hk => by
  have : ∀ (l : List Ins) (i : Nat) (last : List Nat) (k : Nat), k < l.length -> d.types.getD ((nodes l i last).getD k ⟨⟨0, 0, 0, 0, 0, 0, ByteArray.empty⟩, []⟩).x.tgt.toNat 0 = (resT d.types l).getD k 0 := fun l => by
   induction l with
   | nil => intro _ _ k hk; simp at hk
   | cons x l ih =>
    intro i last k hk
    rw [nodes]
    unfold resT
    rw [List.map_cons]
    cases k with
    | zero => rw [List.getD_cons_zero, List.getD_cons_zero]
    | succ k => rw [List.getD_cons_succ, List.getD_cons_succ]; exact ih _ _ k (by simpa using hk)
  rw [Nat.zero_add]
  exact this _ _ _ k (by rw [<- hl]; exact hk)
 obtain ⟨outs, g1, g2, g3, g4, g5, g6⟩ := qxe (cols := cols) (ct := d.types) (rt := resT d.types d.ins) (e := endP (qx d) (rootC d)) (n := d.ins.length) (compS d).tys hkinds time row (qx d) 0 ⟨[], [], [], List.replicate d.ins.length 0⟩ (List.replicate (compS d).tys.length false) (List.replicate (compS d).tys.length 0) [] (by rw [Nat.zero_add]; exact hl) ⟨[], by rw [List.append_nil]; rfl⟩ h.nds hnode
  (fun k hk j hj => by rw [Nat.zero_add]; exact qml1 h.early _ hk hj)
  ⟨rfl, fun j hj => by omega, fun j hj => by omega, by simp, by simp, fun k hk => by simp at hk, by simp, by simp⟩
 have hins : (compS d).ins = outs := by have := g1; rw [List.nil_append] at this; exact this
 have hra := g5.alive (rootC d) hroot (by rw [qct1 _ (by rw [hl]; exact hroot), hl]; exact Nat.le_refl _)
 have hrt := g5.dn _ hra.1
 have hfew : (compS d).tys.length <= d.ins.length := g5.few
 have hni := h.ni
 have hpl : (compS d).place.getD (rootC d) 0 < (compS d).tys.length := by have := hra.1; rw [g5.hl] at this; exact this
 rw [hins]
 have hok : CodOk ⟨outs, (compS d).tys, ((compS d).place.getD (rootC d) 0 : Nat)⟩ cols := ⟨by show outs.length <= _; omega, by show (compS d).tys.length <= _; omega, hkinds, g3, Int.natCast_nonneg _, Int.ofNat_lt.2 hpl, by
  show (doneL outs _).getD (((compS d).place.getD (rootC d) 0 : Nat) : Int).toNat false = true
  rw [Int.toNat_natCast]; exact hrt.1⟩
 have e1 : rootC ⟨outs, (compS d).tys, ((compS d).place.getD (rootC d) 0 : Nat)⟩ = rootC d := by
  show (lastL outs 0 _).getD (((compS d).place.getD (rootC d) 0 : Nat) : Int).toNat 0 = _
  rw [Int.toNat_natCast]
  exact hrt.2.trans hra.2
 refine ⟨hok, ?_, by show outs.length = _; omega, e1, g6, by show (compS d).tys.length <= outs.length; omega⟩
 rw [(hok.val_res time row).2, hval]
 rw [e1]
 have e2 : resN time row (qx ⟨outs, (compS d).tys, ((compS d).place.getD (rootC d) 0 : Nat)⟩) [] = resN time row (qx d) [] := g4
 rw [e2]
theorem qcl1 {c : Cod} {cols : List Int} (h0 : CodOk c cols) (time : Int) (row : List Val) : CodOk (compP c) cols /\ valC (compP c) time row = valC c time row /\ (compP c).ins.length = (trimP c).ins.length :=
 have h := qlk h0 time row
 ⟨h.1, h.2.1, h.2.2.1⟩

mutual
def wfS (m : Nat) : Ex -> Bool
 | .mk op n _ l => (!decide (op = 21) || decide (l.length = 3)) && (!decide (op = 22) || (decide (0 <= n) && decide (n < m))) && wfSL m l
def wfSL (m : Nat) : List Ex -> Bool
 | [] => true
 | e :: l => wfS m e && wfSL m l
end
theorem qri (m : Nat) : ∀ l, wfSL m l = l.all (wfS m)
 | [] => by rw [wfSL]; rfl
 | e :: l => by rw [wfSL, qri m l]; rfl
theorem qhf1 {F : List Fn} {c p : List Int} : ∀ (l : List Ex) {ts : List Int}, tys F c p l = some ts -> ts.length = l.length
 | [], ts, h => by rw [tys] at h; cases h; rfl
 | e :: l, ts, h => by
  rw [tys] at h
  cases he : ty F c p e with
  | none => rw [he] at h; cases h
  | some t =>
   rw [he] at h
   cases hl : tys F c p l with
   | none => rw [hl] at h; cases h
   | some us => rw [hl] at h; cases h; simp [qhf1 l hl]
theorem qkq1 {F : List Fn} {c p : List Int} {n r : Int} {s : ByteArray} {ts : List Int} (h : tailT F c p 21 n s ts = some r) : ts.length = 3 := by
 unfold tailT at h
 split at h
 .cases h
 .rw [if_neg (by decide)] at h
  split at h
  .unfold leafT at h; simp at h
  .unfold operT at h
   split at h
   .cases h
   .simp at h
    split at h
    .rfl
    .cases h
theorem qbg1 {F : List Fn} {c p : List Int} {n r : Int} {s : ByteArray} {ts : List Int} (h : tailT F c p 22 n s ts = some r) : 0 <= n /\ n < F.length := by
 unfold tailT at h
 split at h
 .cases h
 .rw [if_pos rfl] at h
  unfold callT at h
  split at h
  .cases h
  .split at h
   .rename_i hf
    have := (List.getElem?_eq_some_iff.1 hf).1
    omega
   .cases h
theorem qup {F : List Fn} {c p : List Int} (e : Ex) : ∀ {t : Int}, ty F c p e = some t -> wfS F.length e = true := by
 induction e using Ex.ind with
 | h op n s l ih =>
  intro t ht
  rw [ty] at ht
  cases hl : tys F c p l with
  | none => rw [hl] at ht; cases ht
  | some ts =>
   rw [hl] at ht
   dsimp only at ht
   rw [wfS, qri]
   simp only [Bool.and_eq_true, List.all_eq_true, Bool.or_eq_true, Bool.not_eq_true', decide_eq_false_iff_not, decide_eq_true_eq]
   refine ⟨⟨?_, ?_⟩, fun e he => ?_⟩
   .by_cases ho : op = 21
    .subst ho; right; rw [<- qhf1 l hl]; exact qkq1 ht
    .left; exact ho
   .by_cases ho : op = 22
    .subst ho; right; exact qbg1 ht
    .left; exact ho
   .obtain ⟨u, hu⟩ := qgm l hl e he
    exact ih e he hu
theorem qaz1 (time : Int) (row : List Val) (l : List Ins) (x : Ins) (regs : List Val) : regsI time row (l ++ [x]) regs = stepI time row (regsI time row l regs) x := by unfold regsI; rw [List.foldl_append]; rfl
theorem qjh : ∀ (l : List Ins) (x : Ins) (done : List Bool), doneL (l ++ [x]) done = (doneL l done).set x.tgt.toNat true
 | [], _, _ => rfl
 | y :: l, x, done => by rw [List.cons_append, doneL, qjh l]; rfl
theorem AllOk.at {cols types : List Int} : ∀ (l : List Ins) (k : Nat) (done : List Bool) (h : k < l.length), AllOk cols types l done -> InsOk cols types (doneL (l.take k) done) l[k]
 | x :: l, 0, done, _, ha => ha.1
 | x :: l, k + 1, done, h, ha => by
  have := AllOk.at l k _ (by simpa using h) ha.2
  rw [List.take_succ_cons, doneL]
  exact this
theorem AllOk.take {cols types : List Int} : ∀ (l : List Ins) (k : Nat) (done : List Bool), AllOk cols types l done -> AllOk cols types (l.take k) done
 | [], k, done, _ => by simp [AllOk]
 | x :: l, 0, done, _ => trivial
 | x :: l, k + 1, done, ha => ⟨ha.1, AllOk.take l k _ ha.2⟩
theorem qon : ∀ (l : List Ins) (x : Ins) (i : Nat) (last : List Nat), nodes (l ++ [x]) i last = nodes l i last ++ [⟨x, (opsP x).map fun r => (lastL l i last).getD r.toNat 0⟩]
 | [], _, _, _ => rfl
 | y :: l, x, i, last => by rw [List.cons_append, nodes, qon l]; rfl
theorem qol : ∀ (l : List Ins) (x : Ins) (i : Nat) (last : List Nat), lastL (l ++ [x]) i last = (lastL l i last).set x.tgt.toNat (i + l.length)
 | [], _, _, _ => rfl
 | y :: l, x, i, last => by
  rw [List.cons_append, lastL, qol l, List.length_cons]
  rw [show i + 1 + l.length = i + (l.length + 1) by omega]; rfl
theorem qte : ∀ (l : List Ins) (i : Nat) (last : List Nat), (lastL l i last).length = last.length
 | [], _, _ => rfl
 | y :: l, i, last => by rw [lastL, qte l, List.length_set]

end Go.Proofs.YtkedbjjfmejbhaaGreatDoor
