/- Layer 25 on plain data: the results of a program, one after the other; where each operand comes from. -/
import Derived.Test.YtnkimlkoijfcpaaGreatDoorGe1
import Derived.Test.YtnkimlkoijfcpaaGreatDoorGe2
import Derived.Test.YtnkimlkoijfcpaaGreatDoorGe5
import Derived.Test.YtnkimlkoijfcpaaGreatDoorGe6
set_option linter.unusedSimpArgs false
set_option linter.unusedVariables false
namespace Go.Proofs.YtnkimlkoijfcpaaGreatDoor
open Go.RowKit Go.Lib
structure Nd where
  x : Ins
  src : List Nat
def resN (time : Int) (row : List Val) : List Nd → List Val → List Val
  | [], acc => acc
  | d :: l, acc => resN time row l (acc ++ [opI time row d.x (d.src.map fun k => acc.getD k zeroV)])
def nodes : List Ins → Nat → List Nat → List Nd
  | [], _, _ => []
  | x :: l, i, last => ⟨x, (opsP x).map fun r => last.getD r.toNat 0⟩ :: nodes l (i + 1) (last.set x.to.toNat i)
def lastL : List Ins → Nat → List Nat → List Nat
  | [], _, last => last
  | x :: l, i, last => lastL l (i + 1) (last.set x.to.toNat i)
theorem resN_len (time : Int) (row : List Val) : ∀ (l : List Nd) (acc : List Val), (resN time row l acc).length = acc.length + l.length
  | [], acc => rfl
  | d :: l, acc => by rw [resN, resN_len time row l]; simp; omega
theorem qcj : ∀ (l : List Ins) (i : Nat) (last : List Nat), (nodes l i last).length = l.length
  | [], _, _ => rfl
  | x :: l, i, last => by rw [nodes, List.length_cons, qcj l, List.length_cons]
def Agree (done : List Bool) (regs : List Val) (last : List Nat) (acc : List Val) : Prop :=
  done.length = regs.length ∧ last.length = regs.length ∧ ∀ r : Nat, done.getD r false = true → last.getD r 0 < acc.length ∧ regs.getD r zeroV = acc.getD (last.getD r 0) zeroV
theorem Agree.args {cols types : List Int} {done : List Bool} {regs : List Val} {last : List Nat} {acc : List Val} (h : Agree done regs last acc) {x : Ins} (hx : InsOk cols types done x) :
    ((opsP x).map fun r => last.getD r.toNat 0).map (fun k => acc.getD k zeroV) = argsI regs x := by
  unfold argsI
  rw [List.map_map]
  exact List.map_congr_left fun r hr => (h.2.2 r.toNat (hx.args r hr).2.2).2.symm
theorem Agree.step {cols types : List Int} {done : List Bool} {regs : List Val} {last : List Nat} {acc : List Val} (h : Agree done regs last acc) {x : Ins} (hx : InsOk cols types done x) (hl : regs.length = types.length) (time : Int) (row : List Val) :
    Agree (done.set x.to.toNat true) (stepI time row regs x) (last.set x.to.toNat acc.length) (acc ++ [opI time row x (argsI regs x)]) := by
  obtain ⟨h1, h2, h3⟩ := h
  have h0 := hx.to0
  have h4 := hx.to1
  refine ⟨by simp [stepI, h1], by simp [stepI, h2], fun r hr => ?_⟩
  rw [qbh] at hr
  rw [stepI, qbh, qbh]
  by_cases he : x.to.toNat = r
  · rw [if_pos ⟨he, by omega⟩, if_pos ⟨he, by omega⟩]
    refine ⟨by simp, ?_⟩
    rw [List.getD_eq_getElem?_getD, List.getElem?_append_right (Nat.le_refl _)]; simp
  · rw [if_neg (fun h => he h.1)] at hr
    rw [if_neg (fun h => he h.1), if_neg (fun h => he h.1)]
    obtain ⟨h5, h6⟩ := h3 r hr
    refine ⟨by rw [List.length_append]; exact Nat.lt_of_lt_of_le h5 (Nat.le_add_right _ _), ?_⟩
    rw [h6, List.getD_eq_getElem?_getD (l := acc ++ _), List.getElem?_append_left h5, List.getD_eq_getElem?_getD]
theorem agree_all {cols types : List Int} (time : Int) (row : List Val) : ∀ (l : List Ins) {done : List Bool} {regs : List Val} {last : List Nat} {acc : List Val}, AllOk cols types l done → regs.length = types.length → Agree done regs last acc →
    Agree (doneL l done) (regsI time row l regs) (lastL l acc.length last) (resN time row (nodes l acc.length last) acc)
  | [], _, _, _, _, _, _, h => h
  | x :: l, done, regs, last, acc, ha, hl, h => by
    have h1 := h.step ha.1 hl time row
    have h2 := agree_all time row l ha.2 (by rw [stepI, List.length_set]; exact hl) h1
    rw [List.length_append, List.length_singleton] at h2
    rw [doneL, lastL, nodes, resN]
    rw [h.args ha.1]
    exact h2
theorem agree_start (n : Nat) : Agree (List.replicate n false) (List.replicate n zeroV) (List.replicate n 0) [] := by
  refine ⟨by simp, by simp, fun r hr => ?_⟩
  rw [List.getD_eq_getElem?_getD, List.getElem?_replicate] at hr
  split at hr <;> cases hr
def qbg (c : Cod) : List Nd := nodes c.ins 0 (List.replicate c.types.length 0)
def rootC (c : Cod) : Nat := (lastL c.ins 0 (List.replicate c.types.length 0)).getD c.out.toNat 0
theorem CodOk.val_res {c : Cod} {cols : List Int} (h : CodOk c cols) (time : Int) (row : List Val) : rootC c < c.ins.length ∧ valC c time row = (resN time row (qbg c) []).getD (rootC c) zeroV := by
  have h1 := agree_all time row c.ins h.all (by simp) (agree_start c.types.length)
  obtain ⟨h2, h3⟩ := h1.2.2 _ h.out2
  rw [resN_len, qcj] at h2
  simp only [List.length_nil, Nat.zero_add] at h2
  exact ⟨h2, h3⟩
end Go.Proofs.YtnkimlkoijfcpaaGreatDoor

/- Layer 25 on plain data: which instructions are needed; Trim keeps the value. -/
namespace Go.Proofs.YtnkimlkoijfcpaaGreatDoor
open Go.RowKit Go.Lib
def qcf (need : List Bool) (ks : List Nat) : List Bool := ks.foldl (fun nd k => nd.set k true) need
theorem qch : ∀ (ks : List Nat) (need : List Bool), (qcf need ks).length = need.length
  | [], _ => rfl
  | k :: ks, need => by unfold qcf; rw [List.foldl_cons]; have := qch ks (need.set k true); unfold qcf at this; rw [this]; simp
theorem qej : ∀ (ks : List Nat) (need : List Bool) (j : Nat), j < need.length → ((qcf need ks).getD j false = true ↔ need.getD j false = true ∨ j ∈ ks)
  | [], need, j, _ => by simp [qcf]
  | k :: ks, need, j, h => by
    have := qej ks (need.set k true) j (by simpa using h)
    unfold qcf at this ⊢
    rw [List.foldl_cons, this, qbh, List.mem_cons]
    by_cases hk : k = j
    · subst hk; simp [h]
    · rw [if_neg (fun h => hk h.1)]
      constructor
      · rintro (h | h)
        · exact .inl h
        · exact .inr (.inr h)
      · rintro (h | h | h)
        · exact .inl h
        · exact absurd h.symm hk
        · exact .inr h
def needI (ds : List Nd) : Nat → List Bool → List Bool
  | 0, need => need
  | i + 1, need => needI ds i (if need.getD i false then qcf need ((ds.getD i ⟨⟨0, 0, 0, 0, 0, 0, ByteArray.empty⟩, []⟩).src) else need)
def needP (ds : List Nd) (root : Nat) : List Bool := needI ds ds.length ((List.replicate ds.length false).set root true)
def srcOf (ds : List Nd) (i : Nat) : List Nat := (ds.getD i ⟨⟨0, 0, 0, 0, 0, 0, ByteArray.empty⟩, []⟩).src
def Early (ds : List Nd) : Prop := ∀ i, i < ds.length → ∀ k ∈ srcOf ds i, k < i
theorem needI_len (ds : List Nd) : ∀ (i : Nat) (need : List Bool), (needI ds i need).length = need.length
  | 0, _ => rfl
  | i + 1, need => by rw [needI, needI_len ds i]; split <;> simp [qch]
theorem needI_ge {ds : List Nd} (he : Early ds) : ∀ (i : Nat) (need : List Bool), i ≤ ds.length → need.length = ds.length → ∀ j, (i ≤ j → (needI ds i need).getD j false = need.getD j false) ∧ (need.getD j false = true → (needI ds i need).getD j false = true)
  | 0, _, _, _, j => ⟨fun _ => rfl, fun h => h⟩
  | i + 1, need, hi, hl, j => by
    rw [needI]
    split
    · obtain ⟨h1, h2⟩ := needI_ge he i (qcf need (srcOf ds i)) (by omega) (by rw [qch]; exact hl) j
      by_cases hj : j < need.length
      · have h3 := qej (srcOf ds i) need j hj
        refine ⟨fun h => (h1 (by omega)).trans ?_, fun h => h2 (h3.2 (.inl h))⟩
        rw [Bool.eq_iff_iff, h3]
        exact ⟨fun h4 => h4.elim id fun h5 => absurd (he i (by omega) j h5) (by omega), .inl⟩
      · have e1 : (needI ds i (qcf need (srcOf ds i))).getD j false = false := by rw [List.getD_eq_getElem?_getD, List.getElem?_eq_none (by rw [needI_len, qch]; omega)]; rfl
        have e2 : need.getD j false = false := by rw [List.getD_eq_getElem?_getD, List.getElem?_eq_none (by omega)]; rfl
        unfold srcOf at e1
        rw [e1, e2]; simp
    · obtain ⟨h1, h2⟩ := needI_ge he i need (by omega) hl j
      exact ⟨fun h => h1 (by omega), h2⟩
theorem needI_closed {ds : List Nd} (he : Early ds) : ∀ (i : Nat) (need : List Bool), i ≤ ds.length → need.length = ds.length → (∀ j, i ≤ j → j < ds.length → need.getD j false = true → ∀ k ∈ srcOf ds j, need.getD k false = true) →
    ∀ j, j < ds.length → (needI ds i need).getD j false = true → ∀ k ∈ srcOf ds j, (needI ds i need).getD k false = true
  | 0, need, _, _, h => fun j hj => h j (by omega) hj
  | i + 1, need, hi, hl, h => by
    rw [needI]
    split
    · rename_i hn
      refine needI_closed he i _ (by omega) (by rw [qch]; exact hl) fun j hij hj hnj k hk => ?_
      have hkj := he j hj k hk
      change (qcf need (srcOf ds i)).getD j false = true at hnj
      change (qcf need (srcOf ds i)).getD k false = true
      rw [qej _ _ _ (by omega)] at hnj ⊢
      by_cases hji : j = i
      · subst hji; exact .inr hk
      · rcases hnj with hnj | hnj
        · exact .inl (h j (by omega) hj hnj k hk)
        · exact absurd (he i (by omega) j hnj) (by omega)
    · rename_i hn
      refine needI_closed he i _ (by omega) hl fun j hij hj hnj k hk => ?_
      by_cases hji : j = i
      · subst hji; exact absurd hnj hn
      · exact h j (by omega) hj hnj k hk
theorem needP_len (ds : List Nd) (root : Nat) : (needP ds root).length = ds.length := by unfold needP; rw [needI_len]; simp
theorem needP_root {ds : List Nd} (he : Early ds) {root : Nat} (hr : root < ds.length) : (needP ds root).getD root false = true := by
  refine (needI_ge he ds.length _ (Nat.le_refl _) (by simp) root).2 ?_
  rw [qbh, if_pos ⟨rfl, by simpa using hr⟩]
theorem qds {ds : List Nd} (he : Early ds) (root : Nat) {j : Nat} (hj : j < ds.length) (h : (needP ds root).getD j false = true) : ∀ k ∈ srcOf ds j, (needP ds root).getD k false = true :=
  needI_closed he ds.length _ (Nat.le_refl _) (by simp) (fun j h1 h2 => by omega) j hj h
def trimI (need : List Bool) : List Ins → Nat → List Ins
  | [], _ => []
  | x :: l, i => if need.getD i false then x :: trimI need l (i + 1) else trimI need l (i + 1)
def rank (need : List Bool) : Nat → Nat
  | 0 => 0
  | i + 1 => rank need i + if need.getD i false then 1 else 0
theorem rank_mono (need : List Bool) {i j : Nat} (h : i ≤ j) : rank need i ≤ rank need j := by
  induction j with
  | zero => obtain rfl : i = 0 := by omega
            exact Nat.le_refl _
  | succ j ih =>
    by_cases hij : i = j + 1
    · subst hij; exact Nat.le_refl _
    · have := ih (by omega); rw [rank]; omega
theorem rank_lt (need : List Bool) {i j : Nat} (h : i < j) (hn : need.getD i false = true) : rank need i < rank need j := by
  have h1 := rank_mono need (show i + 1 ≤ j from h)
  rw [rank, if_pos hn] at h1
  omega
theorem trimI_len (need : List Bool) : ∀ (l : List Ins) (i : Nat), (trimI need l i).length + rank need i = rank need (i + l.length)
  | [], i => by simp [trimI]
  | x :: l, i => by
    have := trimI_len need l (i + 1)
    rw [trimI, List.length_cons]
    rw [show i + (l.length + 1) = i + 1 + l.length by omega, ← this, rank]
    split <;> simp <;> omega
structure Trimmed (need : List Bool) (i : Nat) (done done' : List Bool) (last last' : List Nat) (acc acc' : List Val) : Prop where
  al : acc.length = i
  al' : acc'.length = rank need i
  dl : done'.length = done.length
  ll : last'.length = done.length
  l0 : last.length = done.length
  lt : ∀ r : Nat, done.getD r false = true → last.getD r 0 < i
  reg : ∀ r : Nat, done.getD r false = true → need.getD (last.getD r 0) false = true → done'.getD r false = true ∧ last'.getD r 0 = rank need (last.getD r 0)
  res : ∀ j, j < i → need.getD j false = true → acc'.getD (rank need j) zeroV = acc.getD j zeroV
theorem getD_snoc {α : Type} (l : List α) (a d : α) (k : Nat) : (l ++ [a]).getD k d = if k < l.length then l.getD k d else if k = l.length then a else d := by
  rw [List.getD_eq_getElem?_getD]
  split
  · rename_i h; rw [List.getElem?_append_left h, List.getD_eq_getElem?_getD]
  · rename_i h
    rw [List.getElem?_append_right (by omega)]
    split
    · rename_i h2; subst h2; simp
    · rename_i h2
      obtain ⟨m, hm⟩ : ∃ m, k - l.length = m + 1 := ⟨k - l.length - 1, by omega⟩
      rw [hm]; rfl
theorem trim_all {cols types : List Int} (need : List Bool) (time : Int) (row : List Val) : ∀ (l : List Ins) {i : Nat} {done done' : List Bool} {last last' : List Nat} {acc acc' : List Val}, AllOk cols types l done → done.length = types.length →
    (∀ k, k < l.length → need.getD (i + k) false = true → ∀ s ∈ srcOf (nodes l i last) k, need.getD s false = true) → Trimmed need i done done' last last' acc acc' →
    AllOk cols types (trimI need l i) done' ∧ Trimmed need (i + l.length) (doneL l done) (doneL (trimI need l i) done') (lastL l i last) (lastL (trimI need l i) (rank need i) last') (resN time row (nodes l i last) acc) (resN time row (nodes (trimI need l i) (rank need i) last') acc')
  | [], i, _, _, _, _, _, _, _, _, _, h => ⟨trivial, h⟩
  | x :: l, i, done, done', last, last', acc, acc', ha, hdl, hcl, h => by
    have hx := ha.1
    have h0 := hx.to0
    have h1 := hx.to1
    have hcl' : ∀ k, k < l.length → need.getD (i + 1 + k) false = true → ∀ s ∈ srcOf (nodes l (i + 1) (last.set x.to.toNat i)) k, need.getD s false = true := fun k hk hn s hs => by
      refine hcl (k + 1) (by simpa using hk) (by rw [show i + (k + 1) = i + 1 + k by omega]; exact hn) s ?_
      rw [nodes]
      unfold srcOf at hs ⊢
      rwa [List.getD_cons_succ]
    have hlt : ∀ r : Nat, (done.set x.to.toNat true).getD r false = true → (last.set x.to.toNat i).getD r 0 < i + 1 := fun r hr => by
      rw [qbh] at hr ⊢
      by_cases he : x.to.toNat = r
      · rw [if_pos ⟨he, by rw [h.l0]; omega⟩]; omega
      · rw [if_neg (fun h => he h.1)] at hr ⊢
        have := h.lt r hr; omega
    rw [show i + (x :: l).length = i + 1 + l.length by simp; omega, doneL, lastL, nodes, resN]
    by_cases hn : need.getD i false = true
    · have hsrc : ∀ r ∈ opsP x, need.getD (last.getD r.toNat 0) false = true := fun r hr => hcl 0 (by simp) hn _ (by
        rw [nodes]
        unfold srcOf
        rw [List.getD_cons_zero]
        exact List.mem_map_of_mem hr)
      have hx' : InsOk cols types done' x := ⟨hx.form, hx.to0, hx.to1, fun r hr => ⟨(hx.args r hr).1, (hx.args r hr).2.1, (h.reg r.toNat (hx.args r hr).2.2 (hsrc r hr)).1⟩, hx.col, hx.typ⟩
      have hargs : (opsP x).map (fun r => last'.getD r.toNat 0) = (opsP x).map fun r => rank need (last.getD r.toNat 0) := List.map_congr_left fun r hr => (h.reg r.toNat (hx.args r hr).2.2 (hsrc r hr)).2
      have hvals : ((opsP x).map fun r => last'.getD r.toNat 0).map (fun k => acc'.getD k zeroV) = ((opsP x).map fun r => last.getD r.toNat 0).map (fun k => acc.getD k zeroV) := by
        rw [hargs, List.map_map, List.map_map]
        exact List.map_congr_left fun r hr => h.res _ (h.lt r.toNat (hx.args r hr).2.2) (hsrc r hr)
      have hr1 : rank need (i + 1) = rank need i + 1 := by rw [rank, if_pos hn]
      have hT : Trimmed need (i + 1) (done.set x.to.toNat true) (done'.set x.to.toNat true) (last.set x.to.toNat i) (last'.set x.to.toNat (rank need i)) (acc ++ [opI time row x (((opsP x).map fun r => last.getD r.toNat 0).map fun k => acc.getD k zeroV)]) (acc' ++ [opI time row x (((opsP x).map fun r => last'.getD r.toNat 0).map fun k => acc'.getD k zeroV)]) := by
        refine ⟨by simp [h.al], by rw [hr1]; simp [h.al'], by simp [h.dl], by simp [h.ll], by simp [h.l0], hlt, fun r hr hnr => ?_, fun j hj hnj => ?_⟩
        · rw [qbh] at hr hnr ⊢
          rw [qbh, qbh]
          by_cases he : x.to.toNat = r
          · rw [if_pos ⟨he, by rw [h.dl]; omega⟩, if_pos ⟨he, by rw [h.ll]; omega⟩, if_pos ⟨he, by rw [h.l0]; omega⟩]
            exact ⟨rfl, rfl⟩
          · rw [if_neg (fun h => he h.1)] at hr hnr
            rw [if_neg (fun h => he h.1), if_neg (fun h => he h.1), if_neg (fun h => he h.1)]
            exact h.reg r hr hnr
        · rw [getD_snoc, getD_snoc, h.al, h.al']
          by_cases hji : j = i
          · subst hji
            rw [if_neg (Nat.lt_irrefl _), if_neg (Nat.lt_irrefl _), if_pos rfl, if_pos rfl, hvals]
          · rw [if_pos (rank_lt need (by omega) hnj), if_pos (by omega)]
            exact h.res j (by omega) hnj
      obtain ⟨g1, g2⟩ := trim_all need time row l ha.2 (by rw [List.length_set]; exact hdl) hcl' hT
      rw [trimI, if_pos hn, doneL, lastL, nodes, resN]
      rw [hr1] at g2
      exact ⟨⟨hx', g1⟩, g2⟩
    · have hr1 : rank need (i + 1) = rank need i := by rw [rank, if_neg hn]; rfl
      have hT : Trimmed need (i + 1) (done.set x.to.toNat true) done' (last.set x.to.toNat i) last' (acc ++ [opI time row x (((opsP x).map fun r => last.getD r.toNat 0).map fun k => acc.getD k zeroV)]) acc' := by
        refine ⟨by simp [h.al], by rw [hr1]; exact h.al', by simp [h.dl], by simp [h.ll], by simp [h.l0], hlt, fun r hr hnr => ?_, fun j hj hnj => ?_⟩
        · rw [qbh] at hr hnr
          rw [qbh]
          by_cases he : x.to.toNat = r
          · rw [if_pos ⟨he, by rw [h.l0]; omega⟩] at hnr
            exact absurd hnr hn
          · rw [if_neg (fun h => he h.1)] at hr hnr
            rw [if_neg (fun h => he h.1)]
            exact h.reg r hr hnr
        · have hji : j ≠ i := fun e => by subst e; exact hn hnj
          rw [getD_snoc, h.al, if_pos (by omega)]
          exact h.res j (by omega) hnj
      obtain ⟨g1, g2⟩ := trim_all need time row l ha.2 (by rw [List.length_set]; exact hdl) hcl' hT
      rw [trimI, if_neg hn]
      rw [hr1] at g2
      exact ⟨g1, g2⟩
theorem nodes_early {cols types : List Int} : ∀ (l : List Ins) (i : Nat) (done : List Bool) (last : List Nat), AllOk cols types l done → last.length = types.length → done.length = types.length → (∀ r : Nat, done.getD r false = true → last.getD r 0 < i) → ∀ k, k < l.length → ∀ s ∈ srcOf (nodes l i last) k, s < i + k
  | [], _, _, _, _, _, _, _ => fun k hk => by simp at hk
  | x :: l, i, done, last, ha, hl, hd, h => by
    intro k hk s hs
    rw [nodes] at hs
    unfold srcOf at hs
    cases k with
    | zero =>
      rw [List.getD_cons_zero] at hs
      obtain ⟨r, hr, rfl⟩ := List.mem_map.1 hs
      exact h r.toNat (ha.1.args r hr).2.2
    | succ k =>
      rw [List.getD_cons_succ] at hs
      have := nodes_early l (i + 1) _ _ ha.2 (by rw [List.length_set]; exact hl) (by rw [List.length_set]; exact hd) (fun r hr => by
        have h1 := ha.1.to1
        have h0 := ha.1.to0
        rw [qbh] at hr ⊢
        by_cases he : x.to.toNat = r
        · rw [if_pos ⟨he, by omega⟩]; omega
        · rw [if_neg (fun h => he h.1)] at hr ⊢
          have := h r hr; omega) k (by simpa using hk) s hs
      omega
theorem CodOk.early {c : Cod} {cols : List Int} (h : CodOk c cols) : Early (qbg c) := fun i hi k hk => by
  have := nodes_early c.ins 0 _ _ h.all (by simp) (by simp) (fun r hr => by
    rw [List.getD_eq_getElem?_getD, List.getElem?_replicate] at hr
    split at hr <;> cases hr) i (by unfold qbg at hi; rwa [qcj] at hi) k hk
  omega
theorem no_done {n r : Nat} (h : (List.replicate n false).getD r false = true) : False := by
  rw [List.getD_eq_getElem?_getD, List.getElem?_replicate] at h
  split at h <;> cases h
def trimP (c : Cod) : Cod := ⟨trimI (needP (qbg c) (rootC c)) c.ins 0, c.types, c.out⟩
theorem rank_le (need : List Bool) : ∀ i, rank need i ≤ i
  | 0 => Nat.le_refl _
  | i + 1 => by have := rank_le need i; rw [rank]; split <;> omega
theorem trim_ok {c : Cod} {cols : List Int} (h : CodOk c cols) (time : Int) (row : List Val) : CodOk (trimP c) cols ∧ valC (trimP c) time row = valC c time row ∧ (trimP c).ins.length ≤ c.ins.length := by
  have he := h.early
  obtain ⟨hroot, hval⟩ := h.val_res time row
  have hl : (qbg c).length = c.ins.length := by unfold qbg; exact qcj _ _ _
  have hneed := needP_root he (root := rootC c) (by rw [hl]; exact hroot)
  obtain ⟨g1, g2⟩ := trim_all (cols := cols) (needP (qbg c) (rootC c)) time row c.ins (i := 0) (done' := List.replicate c.types.length false) (last' := List.replicate c.types.length 0) (acc := []) (acc' := []) h.all (by simp)
    (fun k hk hn s hs => qds he _ (by rw [hl]; exact hk) (by rw [Nat.zero_add] at hn; exact hn) s hs)
    ⟨rfl, rfl, rfl, by simp, by simp, fun r hr => (no_done hr).elim, fun r hr => (no_done hr).elim, fun j hj => by omega⟩
  rw [Nat.zero_add] at g2
  have g3 := g2.reg c.out.toNat h.out2 hneed
  have hlen := trimI_len (needP (qbg c) (rootC c)) c.ins 0
  rw [rank, Nat.add_zero, Nat.zero_add] at hlen
  have hle := rank_le (needP (qbg c) (rootC c)) c.ins.length
  have hok : CodOk (trimP c) cols := ⟨by show (trimI _ _ _).length ≤ _; have := h.ni; omega, h.nt, h.kinds, g1, h.out0, h.out1, g3.1⟩
  refine ⟨hok, ?_, by show (trimI _ _ _).length ≤ _; omega⟩
  rw [(hok.val_res time row).2, hval]
  have e1 : rootC (trimP c) = rank (needP (qbg c) (rootC c)) (rootC c) := g3.2
  rw [e1]
  exact g2.res _ hroot hneed
end Go.Proofs.YtnkimlkoijfcpaaGreatDoor

/- Layer 25 on plain data: Compact keeps the value. -/
namespace Go.Proofs.YtnkimlkoijfcpaaGreatDoor
open Go.RowKit Go.Lib
structure NdOk (cols rt : List Int) (i : Nat) (d : Nd) : Prop where
  form : formedB d.x = true
  col : d.x.op = 3 → 0 ≤ d.x.n ∧ d.x.n < cols.length
  ar : d.src.length = (opsP d.x).length
  lt : ∀ s ∈ d.src, s < i
  typ : tailT [] cols [] d.x.op d.x.n d.x.s (d.src.map fun s => rt.getD s 0) = some (rt.getD i 0)
def endI : List Nd → Nat → List Nat → List Nat
  | [], _, e => e
  | d :: l, i, e => endI l (i + 1) (d.src.foldl (fun e k => e.set k i) (e.set i i))
def endP (ds : List Nd) (root : Nat) : List Nat := (endI ds 0 (List.replicate ds.length 0)).set root ds.length
def slot (e : List Nat) (i : Nat) (t : Int) : List Nat → List Int → Nat
  | h :: hs, u :: us => if i < e.getD h 0 ∨ u ≠ t then slot e i t hs us + 1 else 0
  | _, _ => 0
theorem slot_spec (e : List Nat) (i : Nat) (t : Int) : ∀ (hs : List Nat) (us : List Int), hs.length = us.length → slot e i t hs us ≤ hs.length ∧ (slot e i t hs us < hs.length → e.getD (hs.getD (slot e i t hs us) 0) 0 ≤ i ∧ us.getD (slot e i t hs us) 0 = t) ∧
    ∀ k, k < slot e i t hs us → i < e.getD (hs.getD k 0) 0 ∨ us.getD k 0 ≠ t
  | [], [], _ => ⟨by simp [slot], by simp [slot], by simp [slot]⟩
  | h :: hs, u :: us, hl => by
    obtain ⟨h1, h2, h3⟩ := slot_spec e i t hs us (by simpa using hl)
    rw [slot]
    split
    · rename_i hc
      refine ⟨by simp; omega, fun h => ?_, fun k hk => ?_⟩
      · rw [List.getD_cons_succ, List.getD_cons_succ]
        exact h2 (by simpa using h)
      · cases k with
        | zero => rw [List.getD_cons_zero, List.getD_cons_zero]; exact hc
        | succ k => rw [List.getD_cons_succ, List.getD_cons_succ]; exact h3 k (by omega)
    · rename_i hc
      refine ⟨by simp, fun _ => ?_, fun k hk => by omega⟩
      rw [List.getD_cons_zero, List.getD_cons_zero]
      rw [not_or, Decidable.not_not] at hc
      exact ⟨by omega, hc.2⟩
def newI (x : Ins) (args : List Int) (k : Nat) : Ins := ⟨x.op, k, args.getD 0 0, args.getD 1 0, args.getD 2 0, x.n, x.s⟩
structure CompS where
  ins : List Ins
  holds : List Nat
  tys : List Int
  place : List Nat
def compI (e : List Nat) (ct : List Int) : List Nd → Nat → CompS → CompS
  | [], _, s => s
  | d :: l, i, s =>
    let t := ct.getD d.x.to.toNat 0
    let k := slot e i t s.holds s.tys
    compI e ct l (i + 1) ⟨s.ins ++ [newI d.x (d.src.map fun j => ((s.place.getD j 0 : Nat) : Int)) k], if k = s.holds.length then s.holds ++ [i] else s.holds.set k i, if k = s.holds.length then s.tys ++ [t] else s.tys, s.place.set i k⟩
def compS (c : Cod) : CompS := compI (endP (qbg c) (rootC c)) c.types (qbg c) 0 ⟨[], [], [], List.replicate c.ins.length 0⟩
def compP (c : Cod) : Cod := let d := trimP c; ⟨(compS d).ins, (compS d).tys, ((compS d).place.getD (rootC d) 0 : Nat)⟩
theorem opsP_len (x : Ins) : (opsP x).length = if opOk x.op then arO x.op else 0 := by
  unfold opsP
  split
  · rw [List.length_take]; have := arO_le x.op; simp; omega
  · rfl
theorem levels_exI (x : Ins) : levels (exI x) ≤ 12 := by
  unfold exI
  rw [levels]
  have : ∀ (l : List Int) (n : Int), n ≤ 1 → qw (l.map paramE) n ≤ 1 := fun l => by
    induction l with
    | nil => intro n h; rw [List.map_nil, qw]; exact h
    | cons a l ih =>
      intro n h
      rw [List.map_cons, qw]
      refine ih _ ?_
      have : levels (paramE a) = 1 := by unfold paramE; rw [levels, qw]; rfl
      omega
  have := this (opsP x) 0 (by omega)
  omega
theorem tys_of_params {cols types : List Int} : ∀ (l : List Int), (∀ r ∈ l, 0 ≤ r ∧ r < types.length) → (∀ t ∈ types, 0 ≤ t ∧ t < 3) → tys [] cols types (l.map paramE) = some (l.map fun r => types.getD r.toNat 0)
  | [], _, _ => by rw [List.map_nil, tys]; rfl
  | r :: l, h, hk => by
    obtain ⟨h0, h1⟩ := h r (by simp)
    have hg : types[r.toNat]? = some (types.getD r.toNat 0) := by
      rw [List.getD_eq_getElem?_getD, List.getElem?_eq_getElem (by omega)]; rfl
    have hkd := hk _ (List.mem_of_getElem? hg)
    have hp : ty [] cols types (paramE r) = some (types.getD r.toNat 0) := by
      unfold paramE
      rw [ty]
      simp only [tys]
      unfold tailT
      rw [if_neg (by simp), if_neg (by decide), if_pos rfl]
      unfold leafT
      rw [if_neg (by decide), if_neg (by decide), if_neg (by decide), if_pos rfl]
      unfold pickT
      rw [if_neg (by omega), hg]
      dsimp only
      rw [if_pos]
      unfold kindB
      simp only [Bool.and_eq_true, decide_eq_true_eq]
      exact hkd
    rw [List.map_cons, tys, hp, tys_of_params l (fun x hx => h x (by simp [hx])) hk]
    rfl
theorem tyI_of {cols types : List Int} {x : Ins} {t : Int} (hr : ∀ r ∈ opsP x, 0 ≤ r ∧ r < types.length) (hk : ∀ t ∈ types, 0 ≤ t ∧ t < 3) (hop : x.op ≠ 4) (h : tailT [] cols [] x.op x.n x.s ((opsP x).map fun r => types.getD r.toNat 0) = some t) : tyI cols types x = some t := by
  unfold tyI typeP
  rw [if_pos rightF_nil]
  unfold tyD
  rw [if_neg (by have := levels_exI x; omega)]
  unfold exI
  rw [ty, tys_of_params _ hr hk]
  exact tailT_other (fun _ h => h) (fun e => absurd e hop) h
structure CompInv (e : List Nat) (rt T : List Int) (i n : Nat) (s : CompS) (done : List Bool) (last : List Nat) : Prop where
  hl : s.holds.length = s.tys.length
  alive : ∀ j, j < i → i ≤ e.getD j 0 → s.place.getD j 0 < s.holds.length ∧ s.holds.getD (s.place.getD j 0) 0 = j
  ty : ∀ j, j < i → s.place.getD j 0 < s.tys.length ∧ s.tys.getD (s.place.getD j 0) 0 = rt.getD j 0
  dl : done.length = T.length
  ll : last.length = T.length
  dn : ∀ k, k < s.holds.length → done.getD k false = true ∧ last.getD k 0 = s.holds.getD k 0
  pl : s.place.length = n
  few : s.tys.length ≤ i
end Go.Proofs.YtnkimlkoijfcpaaGreatDoor

/- Layer 25 on plain data: Trim and Compact change nothing when they are done again. -/
namespace Go.Proofs.YtnkimlkoijfcpaaGreatDoor
open Go.RowKit Go.Lib
theorem needI_why (ds : List Nd) : ∀ (i : Nat) (need : List Bool), i ≤ ds.length → need.length = ds.length → Early ds → ∀ j, (needI ds i need).getD j false = true → need.getD j false = true ∨ ∃ k, k < i ∧ (needI ds i need).getD k false = true ∧ j ∈ srcOf ds k
  | 0, _, _, _, _, j, h => .inl h
  | i + 1, need, hi, hl, he, j, h => by
    rw [needI] at h ⊢
    have hl2 : (if need.getD i false then qcf need (srcOf ds i) else need).length = ds.length := by split <;> simp [qch, hl]
    change (needI ds i (if need.getD i false then qcf need (srcOf ds i) else need)).getD j false = true at h
    change _ ∨ ∃ k, k < i + 1 ∧ (needI ds i (if need.getD i false then qcf need (srcOf ds i) else need)).getD k false = true ∧ j ∈ srcOf ds k
    rcases needI_why ds i _ (by omega) hl2 he j h with h1 | ⟨k, h1, h2, h3⟩
    · by_cases hn : need.getD i false = true
      · rw [if_pos hn] at h1 ⊢
        by_cases hj : j < need.length
        · rcases (qej _ _ _ hj).1 h1 with h1 | h1
          · exact .inl h1
          · refine .inr ⟨i, by omega, ?_, h1⟩
            refine (needI_ge he i _ (by omega) (by rw [qch]; exact hl) i).2 ?_
            exact (qej _ _ _ (by omega)).2 (.inl hn)
        · rw [List.getD_eq_getElem?_getD, List.getElem?_eq_none (by rw [qch]; omega)] at h1; cases h1
      · rw [if_neg hn] at h1; exact .inl h1
    · exact .inr ⟨k, by omega, h2, h3⟩
theorem needP_why {ds : List Nd} (he : Early ds) {root j : Nat} (hr : root < ds.length) (h : (needP ds root).getD j false = true) : j = root ∨ ∃ k, k < ds.length ∧ (needP ds root).getD k false = true ∧ j ∈ srcOf ds k := by
  rcases needI_why ds ds.length _ (Nat.le_refl _) (by simp) he j h with h1 | h1
  · rw [qbh] at h1
    split at h1
    · rename_i h2; exact .inl h2.1.symm
    · exact (no_done h1).elim
  · exact .inr h1
def trimN (need : List Bool) : List Nd → Nat → List Nd
  | [], _ => []
  | d :: l, i => if need.getD i false then ⟨d.x, d.src.map (rank need)⟩ :: trimN need l (i + 1) else trimN need l (i + 1)
theorem trim_nodes {cols types : List Int} (need : List Bool) : ∀ (l : List Ins) (i : Nat) (done : List Bool) (last last' : List Nat), AllOk cols types l done → last.length = types.length → last'.length = types.length → done.length = types.length →
    (∀ k, k < l.length → need.getD (i + k) false = true → ∀ s ∈ srcOf (nodes l i last) k, need.getD s false = true) →
    (∀ r : Nat, done.getD r false = true → need.getD (last.getD r 0) false = true → last'.getD r 0 = rank need (last.getD r 0)) →
    nodes (trimI need l i) (rank need i) last' = trimN need (nodes l i last) i ∧
    ∀ r : Nat, (doneL l done).getD r false = true → need.getD ((lastL l i last).getD r 0) false = true → (lastL (trimI need l i) (rank need i) last').getD r 0 = rank need ((lastL l i last).getD r 0)
  | [], i, done, last, last', _, _, _, _, _, h => ⟨rfl, h⟩
  | x :: l, i, done, last, last', ha, hl, hl', hd, hcl, h => by
    have hx := ha.1
    have h0 := hx.to0
    have h1 := hx.to1
    have hcl' : ∀ k, k < l.length → need.getD (i + 1 + k) false = true → ∀ s ∈ srcOf (nodes l (i + 1) (last.set x.to.toNat i)) k, need.getD s false = true := fun k hk hn s hs => by
      refine hcl (k + 1) (by simpa using hk) (by rw [show i + (k + 1) = i + 1 + k by omega]; exact hn) s ?_
      rw [nodes]
      unfold srcOf at hs ⊢
      rwa [List.getD_cons_succ]
    by_cases hn : need.getD i false = true
    · have hr1 : rank need (i + 1) = rank need i + 1 := by rw [rank, if_pos hn]
      have hsrc : ∀ r ∈ opsP x, need.getD (last.getD r.toNat 0) false = true := fun r hr => hcl 0 (by simp) hn _ (by
        rw [nodes]
        unfold srcOf
        rw [List.getD_cons_zero]
        exact List.mem_map_of_mem hr)
      obtain ⟨g1, g2⟩ := trim_nodes need l (i + 1) _ (last.set x.to.toNat i) (last'.set x.to.toNat (rank need i)) ha.2 (by rw [List.length_set]; exact hl) (by rw [List.length_set]; exact hl') (by rw [List.length_set]; exact hd) hcl' (fun r hr hnr => by
        rw [qbh] at hr hnr ⊢
        rw [qbh]
        by_cases he : x.to.toNat = r
        · rw [if_pos ⟨he, by omega⟩, if_pos ⟨he, by omega⟩]
        · rw [if_neg (fun h => he h.1)] at hr hnr
          rw [if_neg (fun h => he h.1), if_neg (fun h => he h.1)]
          exact h r hr hnr)
      rw [hr1] at g1 g2
      rw [trimI, if_pos hn, nodes, nodes, trimN, if_pos hn, doneL, lastL, lastL]
      refine ⟨?_, g2⟩
      rw [g1]
      congr 2
      rw [List.map_map]
      exact List.map_congr_left fun r hr => h r.toNat (hx.args r hr).2.2 (hsrc r hr)
    · have hr1 : rank need (i + 1) = rank need i := by rw [rank, if_neg hn]; rfl
      obtain ⟨g1, g2⟩ := trim_nodes need l (i + 1) _ (last.set x.to.toNat i) last' ha.2 (by rw [List.length_set]; exact hl) hl' (by rw [List.length_set]; exact hd) hcl' (fun r hr hnr => by
        rw [qbh] at hr hnr ⊢
        by_cases he : x.to.toNat = r
        · rw [if_pos ⟨he, by omega⟩] at hnr
          exact absurd hnr hn
        · rw [if_neg (fun h => he h.1)] at hr hnr ⊢
          exact h r hr hnr)
      rw [hr1] at g1 g2
      rw [trimI, if_neg hn, nodes, trimN, if_neg hn, doneL, lastL]
      exact ⟨g1, g2⟩
theorem trimN_len (need : List Bool) : ∀ (l : List Nd) (i : Nat), (trimN need l i).length + rank need i = rank need (i + l.length)
  | [], i => by simp [trimN]
  | d :: l, i => by
    have := trimN_len need l (i + 1)
    rw [trimN, List.length_cons]
    rw [show i + (l.length + 1) = i + 1 + l.length by omega, ← this, rank]
    split <;> simp <;> omega
theorem trimN_src (need : List Bool) : ∀ (l : List Nd) (i k : Nat), k < l.length → need.getD (i + k) false = true → srcOf (trimN need l i) (rank need (i + k) - rank need i) = (srcOf l k).map (rank need)
  | d :: l, i, 0, _, hn => by
    rw [Nat.add_zero] at hn ⊢
    rw [trimN, if_pos hn, Nat.sub_self]
    unfold srcOf
    rw [List.getD_cons_zero, List.getD_cons_zero]
  | d :: l, i, k + 1, hk, hn => by
    have ih := trimN_src need l (i + 1) k (by simpa using hk) (by rw [show i + 1 + k = i + (k + 1) by omega]; exact hn)
    rw [show i + 1 + k = i + (k + 1) by omega] at ih
    have hm := rank_mono need (show i + 1 ≤ i + (k + 1) by omega)
    rw [trimN]
    by_cases h : need.getD i false = true
    · have hr1 : rank need (i + 1) = rank need i + 1 := by rw [rank, if_pos h]
      rw [if_pos h, show rank need (i + (k + 1)) - rank need i = (rank need (i + (k + 1)) - rank need (i + 1)) + 1 by omega]
      unfold srcOf at ih ⊢
      rw [List.getD_cons_succ, List.getD_cons_succ]
      exact ih
    · have hr1 : rank need (i + 1) = rank need i := by rw [rank, if_neg h]; rfl
      rw [if_neg h, ← hr1]
      unfold srcOf at ih ⊢
      rw [List.getD_cons_succ]
      exact ih
theorem rank_onto (need : List Bool) : ∀ (n r : Nat), r < rank need n → ∃ j, j < n ∧ need.getD j false = true ∧ rank need j = r
  | 0, r, h => by simp [rank] at h
  | n + 1, r, h => by
    rw [rank] at h
    by_cases hr : r < rank need n
    · obtain ⟨j, h1, h2, h3⟩ := rank_onto need n r hr
      exact ⟨j, by omega, h2, h3⟩
    · split at h
      · rename_i hn
        exact ⟨n, by omega, hn, by omega⟩
      · omega
theorem trim_full {ds : List Nd} {root : Nat} (he : Early ds) (hr : root < ds.length) : ∀ r, r < (trimN (needP ds root) ds 0).length → (needP (trimN (needP ds root) ds 0) (rank (needP ds root) root)).getD r false = true := by
  have hlen := trimN_len (needP ds root) ds 0
  rw [rank, Nat.add_zero, Nat.zero_add] at hlen
  have hsrc : ∀ k, k < ds.length → (needP ds root).getD k false = true → srcOf (trimN (needP ds root) ds 0) (rank (needP ds root) k) = (srcOf ds k).map (rank (needP ds root)) := fun k hk hn => by
    have := trimN_src (needP ds root) ds 0 k hk (by rw [Nat.zero_add]; exact hn)
    rw [Nat.zero_add] at this
    exact this
  have he' : Early (trimN (needP ds root) ds 0) := fun i hi k hk => by
    rw [hlen] at hi
    obtain ⟨j, h1, h2, rfl⟩ := rank_onto _ _ _ hi
    rw [hsrc j h1 h2] at hk
    obtain ⟨m, hm, rfl⟩ := List.mem_map.1 hk
    exact rank_lt _ (he j h1 m hm) (qds he root h1 h2 m hm)
  have hroot : rank (needP ds root) root < (trimN (needP ds root) ds 0).length := by
    rw [hlen]; exact rank_lt _ hr (needP_root he hr)
  have key : ∀ m j, ds.length - j ≤ m → j < ds.length → (needP ds root).getD j false = true → (needP (trimN (needP ds root) ds 0) (rank (needP ds root) root)).getD (rank (needP ds root) j) false = true := fun m => by
    induction m with
    | zero => intro j h1 h2 _; omega
    | succ m ih =>
      intro j h1 h2 h3
      rcases needP_why he hr h3 with rfl | ⟨k, g1, g2, g3⟩
      · exact needP_root he' hroot
      · have hjk := he k g1 j g3
        refine qds he' _ ?_ (ih k (by omega) g1 g2) _ ?_
        · rw [hlen]; exact rank_lt _ g1 g2
        · rw [hsrc k g1 g2]; exact List.mem_map_of_mem g3
  intro r hrr
  rw [hlen] at hrr
  obtain ⟨j, h1, h2, rfl⟩ := rank_onto _ _ _ hrr
  exact key _ j (Nat.le_refl _) h1 h2
def Full (c : Cod) : Prop := ∀ r, r < c.ins.length → (needP (qbg c) (rootC c)).getD r false = true
theorem trim_nodesC {c : Cod} {cols : List Int} (h : CodOk c cols) : qbg (trimP c) = trimN (needP (qbg c) (rootC c)) (qbg c) 0 ∧ rootC (trimP c) = rank (needP (qbg c) (rootC c)) (rootC c) ∧ rootC c < (qbg c).length := by
  have he := h.early
  obtain ⟨hroot, -⟩ := h.val_res 0 []
  have hl : (qbg c).length = c.ins.length := by unfold qbg; exact qcj _ _ _
  have hneed := needP_root he (root := rootC c) (by rw [hl]; exact hroot)
  obtain ⟨g1, g2⟩ := trim_nodes (cols := cols) (needP (qbg c) (rootC c)) c.ins 0 _ (List.replicate c.types.length 0) (List.replicate c.types.length 0) h.all (by simp) (by simp) (by simp)
    (fun k hk hn s hs => qds he _ (by rw [hl]; exact hk) (by rw [Nat.zero_add] at hn; exact hn) s hs) (fun r hr => (no_done hr).elim)
  refine ⟨g1, g2 c.out.toNat h.out2 hneed, by rw [hl]; exact hroot⟩
theorem CodOk.trim_full {c : Cod} {cols : List Int} (h : CodOk c cols) : Full (trimP c) := fun r hr => by
  obtain ⟨h1, h2, h3⟩ := trim_nodesC h
  rw [h1, h2]
  refine Proofs.YtnkimlkoijfcpaaGreatDoor.trim_full h.early h3 r ?_
  rw [← h1]
  unfold qbg
  rw [qcj]
  exact hr
end Go.Proofs.YtnkimlkoijfcpaaGreatDoor

/- Sums of steps, on plain data. -/
namespace Go.Proofs.YtnkimlkoijfcpaaGreatDoor
open Go.RowKit Go.Lib
end Go.Proofs.YtnkimlkoijfcpaaGreatDoor

/- Pure: steps of typed expressions; what is evaluated. -/
namespace Go.Proofs.YtnkimlkoijfcpaaGreatDoor
open Go.RowKit Go.Lib
mutual
def wfS (m : Nat) : Ex → Bool
  | .mk op n _ l => (!decide (op = 21) || decide (l.length = 3)) && (!decide (op = 22) || (decide (0 ≤ n) && decide (n < m))) && wfSL m l
def wfSL (m : Nat) : List Ex → Bool
  | [] => true
  | e :: l => wfS m e && wfSL m l
end
theorem wfSL_all (m : Nat) : ∀ l, wfSL m l = l.all (wfS m)
  | [] => by rw [wfSL]; rfl
  | e :: l => by rw [wfSL, wfSL_all m l]; rfl
theorem tys_len {F : List Fn} {c p : List Int} : ∀ (l : List Ex) {ts : List Int}, tys F c p l = some ts → ts.length = l.length
  | [], ts, h => by rw [tys] at h; cases h; rfl
  | e :: l, ts, h => by
    rw [tys] at h
    cases he : ty F c p e with
    | none => rw [he] at h; cases h
    | some t =>
      rw [he] at h
      cases hl : tys F c p l with
      | none => rw [hl] at h; cases h
      | some us => rw [hl] at h; cases h; simp [tys_len l hl]
theorem tail_ifW {F : List Fn} {c p : List Int} {n r : Int} {s : ByteArray} {ts : List Int} (h : tailT F c p 21 n s ts = some r) : ts.length = 3 := by
  unfold tailT at h
  split at h
  · cases h
  · rw [if_neg (by decide)] at h
    split at h
    · unfold leafT at h; simp at h
    · unfold operT at h
      split at h
      · cases h
      · simp at h
        split at h
        · rfl
        · cases h
theorem tail_callW {F : List Fn} {c p : List Int} {n r : Int} {s : ByteArray} {ts : List Int} (h : tailT F c p 22 n s ts = some r) : 0 ≤ n ∧ n < F.length := by
  unfold tailT at h
  split at h
  · cases h
  · rw [if_pos rfl] at h
    unfold callT at h
    split at h
    · cases h
    · split at h
      · rename_i hf
        have := (List.getElem?_eq_some_iff.1 hf).1
        omega
      · cases h
theorem wfS_of_ty {F : List Fn} {c p : List Int} (e : Ex) : ∀ {t : Int}, ty F c p e = some t → wfS F.length e = true := by
  induction e using Ex.ind with
  | h op n s l ih =>
    intro t ht
    rw [ty] at ht
    cases hl : tys F c p l with
    | none => rw [hl] at ht; cases ht
    | some ts =>
      rw [hl] at ht
      dsimp only at ht
      rw [wfS, wfSL_all]
      simp only [Bool.and_eq_true, List.all_eq_true, Bool.or_eq_true, Bool.not_eq_true', decide_eq_false_iff_not, decide_eq_true_eq]
      refine ⟨⟨?_, ?_⟩, fun e he => ?_⟩
      · by_cases ho : op = 21
        · subst ho; right; rw [← tys_len l hl]; exact tail_ifW ht
        · left; exact ho
      · by_cases ho : op = 22
        · subst ho; right; exact tail_callW ht
        · left; exact ho
      · obtain ⟨u, hu⟩ := qer l hl e he
        exact ih e he hu
end Go.Proofs.YtnkimlkoijfcpaaGreatDoor

/- Walk: (frame).eval: what it is shown to do; a choice. -/
namespace Go.Proofs.YtnkimlkoijfcpaaGreatDoor
open Go.RowKit Go.Lib
def qx (vF : Value) (time : Int) (vR vP : Value) : Value := .agg #[vF, .int .i64 time, vR, vP]
def EvalOk (F : List Fn) (time : Int) (m : Nat) (e : Ex) : Prop :=
  ∀ (c p : List Int) (R P : List Val) (t : Int) (vF vR vP : Value) (cs : List Value) (w : World), ty (F.take m) c p e = some t → qbs c R → P.map Val.k = p → qbs c R → (∀ v ∈ P, qba v) → parts e ≤ 1000000 →
    Rd w Any (.sl (F.map Fn.d)) [vF] → Rd w Any (.sl (R.map Val.d)) [vR] → Rd w Any (.sl (P.map Val.d)) [vP] → Rd w Any e.d cs →
    Calls Tryz.prog 52 #[qx vF time vR vP, .agg cs.toArray] w fun r w' => r = .returned (ev (callN F time m) time R P e).v ∧ Ext w w'
theorem if_args {F : List Fn} {c p : List Int} {n : Int} {s : ByteArray} {l : List Ex} {t : Int} (h : ty F c p (.mk 21 n s l) = some t) :
    ∃ a b d, l = [a, b, d] ∧ ty F c p a = some 2 ∧ ty F c p b = some t ∧ ty F c p d = some t := by
  rw [ty] at h
  cases hl : tys F c p l with
  | none => rw [hl] at h; cases h
  | some ts =>
    rw [hl] at h
    dsimp only at h
    unfold tailT at h
    split at h
    · cases h
    split at h
    · rename_i h2; omega
    split at h
    · unfold leafT at h; simp at h
    · unfold operT at h
      simp only [show ¬ ((21 : Int) = 6) by decide, show ¬ ((21 : Int) = 7) by decide, show ¬ ((21 : Int) = 20) by decide, if_false] at h
      split at h
      · cases h
      rw [if_neg (by omega), if_neg (by omega), if_neg (by omega), if_neg (by omega), if_pos trivial] at h
      split at h
      · rename_i x y z
        split at h
        · rename_i hxy
          obtain ⟨rfl, rfl⟩ := hxy
          cases h
          match l, hl with
          | [a, b, d], hl =>
            simp only [tys] at hl
            cases ha : ty F c p a <;> rw [ha] at hl <;> try (cases hl; done)
            cases hb : ty F c p b <;> rw [hb] at hl <;> try (cases hl; done)
            cases hd : ty F c p d <;> rw [hd] at hl <;> try (cases hl; done)
            simp at hl
            obtain ⟨rfl, rfl, rfl⟩ := hl
            exact ⟨a, b, d, rfl, ha, hb, hd⟩
          | [], hl => simp [tys] at hl
          | [a], hl => simp only [tys] at hl; cases ha : ty F c p a <;> rw [ha] at hl <;> simp at hl
          | [a, b], hl =>
            simp only [tys] at hl
            cases ha : ty F c p a <;> rw [ha] at hl <;> try (cases hl; done)
            cases hb : ty F c p b <;> rw [hb] at hl <;> simp at hl
          | a :: b :: d :: e :: r, hl =>
            have := hl
            rw [tys] at this
            cases ha : ty F c p a <;> rw [ha] at this <;> try (cases this; done)
            rw [tys] at this
            cases hb : ty F c p b <;> rw [hb] at this <;> try (cases this; done)
            rw [tys] at this
            cases hd : ty F c p d <;> rw [hd] at this <;> try (cases this; done)
            rw [tys] at this
            cases he : ty F c p e <;> rw [he] at this <;> try (cases this; done)
            cases hr : tys F c p r <;> rw [hr] at this <;> simp at this
        · cases h
      · cases h
set_option maxRecDepth 10000 in
set_option maxHeartbeats 1000000 in
theorem eval_if (F : List Fn) (time : Int) (m : Nat) (n : Int) (s : ByteArray) (l : List Ex) (ih : ∀ x ∈ l, EvalOk F time m x) : EvalOk F time m (.mk 21 n s l) := by
  intro c p R P t vF vR vP cs w ht hR hP hsR hsP hpb hF hRr hPr hr
  obtain ⟨A, cap, b, off, rfl, hl1, hl2, hl3, hm⟩ := Ex.open hr
  simp only [Ex.args, Ex.op, Ex.n, Ex.s] at *
  obtain ⟨x, y, z, rfl, tx, tyy, tz⟩ := if_args ht
  obtain ⟨rfl, -⟩ := hl3 (by simp)
  obtain ⟨A1, cap1, b1, off1, c0, c1, c2, c3, hr1, -⟩ := Ex.at hm (k := 0) (by simp)
  obtain ⟨A2, cap2, b2, off2, d0, d1, d2, d3, hr2, -⟩ := Ex.at hm (k := 1) (by simp)
  obtain ⟨A3, cap3, b3, off3, q0, q1, q2, q3, hr3, -⟩ := Ex.at hm (k := 2) (by simp)
  simp only [List.getElem_cons_zero, List.getElem_cons_succ, List.length_cons, List.length_nil, Nat.zero_mul, Nat.one_mul, Nat.add_zero, Nat.reduceAdd, Nat.reduceMul, Nat.zero_add] at *
  have hx := fun cs w (h1 : Rd w Any (.sl (F.map Fn.d)) [vF]) h2 h3 h4 => ih x (by simp) c p R P _ vF vR vP cs w tx hR hP hsR hsP (by rw [parts] at hpb; have := qbi [x, y, z] x (by simp); omega) h1 h2 h3 h4
  have hy := fun cs w (h1 : Rd w Any (.sl (F.map Fn.d)) [vF]) h2 h3 h4 => ih y (by simp) c p R P _ vF vR vP cs w tyy hR hP hsR hsP (by rw [parts] at hpb; have := qbi [x, y, z] y (by simp); omega) h1 h2 h3 h4
  have hz := fun cs w (h1 : Rd w Any (.sl (F.map Fn.d)) [vF]) h2 h3 h4 => ih z (by simp) c p R P _ vF vR vP cs w tz hR hP hsR hsP (by rw [parts] at hpb; have := qbi [x, y, z] z (by simp); omega) h1 h2 h3 h4
  have H := Lib.hid (show ev (callN F time m) time R P (.mk 21 n s [x, y, z]) = if (ev (callN F time m) time R P x).n = 1 then ev (callN F time m) time R P y else ev (callN F time m) time R P z by
    rw [ev, if_pos rfl]; simp only [evs]; rfl)
  generalize ev (callN F time m) time R P x = X at *
  generalize ev (callN F time m) time R P y = Y at *
  generalize ev (callN F time m) time R P z = Z at *
  obtain ⟨kx, nx, sx⟩ := X
  obtain ⟨ky, ny, sy⟩ := Y
  obtain ⟨kz, nz, sz⟩ := Z
  simp only [Val.v, qx] at hx hy hz
  have hF' := Lib.hid hF; have hR' := Lib.hid hRr; have hP' := Lib.hid hPr
  have hr1' := Lib.hid hr1; have hr2' := Lib.hid hr2; have hr3' := Lib.hid hr3
  have hx' := Lib.hid hx; have hy' := Lib.hid hy; have hz' := Lib.hid hz
  clear hF hRr hPr hr hr1 hr2 hr3 hx hy hz hm hl3 ih hpb ht hsR hsP hR hP tx tyy tz
  simp only [qx]
  have hfd : ∀ W : World, (Instr.field 39 (.agg #[.int .i64 kx, .int .i64 nx, .string sx]) 1).run Tryz.prog W = .ok (.int .i64 nx) W := fun _ => by kernel_rfl
  go_enter Tryz.func52, Tryz.ntmps52
  go_wp2_with fail
  generalize hWe : World.alloc (World.alloc (World.alloc w _) _) _ = W
  have s0 : W.cell? ⟨w.heap.size, 0, none⟩ = some vF := by rw [← hWe]; clear hWe; go_simp
  have s1 : W.cell? ⟨w.heap.size, 1, none⟩ = some (.int .i64 time) := by rw [← hWe]; clear hWe; go_simp
  have s2 : W.cell? ⟨w.heap.size, 2, none⟩ = some vR := by rw [← hWe]; clear hWe; go_simp
  have s3 : W.cell? ⟨w.heap.size, 3, none⟩ = some vP := by rw [← hWe]; clear hWe; go_simp
  have e3 : W.cell? ⟨w.heap.size + 1, 3, none⟩ = some (.slice (some ⟨b, off, none⟩) 3 cap) := by rw [← hWe]; clear hWe; go_simp
  have f0 : W.cell? ⟨w.heap.size + 2, 0, none⟩ = some (.int .i64 0) := by rw [← hWe]; clear hWe; go_simp
  have f1 : W.cell? ⟨w.heap.size + 2, 1, none⟩ = some (.int .i64 0) := by rw [← hWe]; clear hWe; go_simp
  have f2 : W.cell? ⟨w.heap.size + 2, 2, none⟩ = some (.string ByteArray.empty) := by rw [← hWe]; clear hWe; go_simp; rfl
  have z0 : W.frozen? ⟨w.heap.size + 2, 0, none⟩ = false := by rw [← hWe]; clear hWe; go_simp
  have z1 : W.frozen? ⟨w.heap.size + 2, 1, none⟩ = false := by rw [← hWe]; clear hWe; go_simp
  have z2 : W.frozen? ⟨w.heap.size + 2, 2, none⟩ = false := by rw [← hWe]; clear hWe; go_simp
  have hlt : w.heap.size + 2 < W.heap.size := by rw [← hWe]; clear hWe; go_simp
  have hw : Ext w W := by rw [← hWe]; exact (by repeat' first | exact Ext.refl _ | assumption | apply Ext.alloc | apply Ext.drew | apply Ext.drewN | (refine Ext.trans ?_ (by assumption)))
  clear hWe
  have c0 := hw.at c0
  have c1 := hw.at c1
  have c2 := hw.at c2
  have c3 := hw.at c3
  have d0 := hw.at d0
  have d1 := hw.at d1
  have d2 := hw.at d2
  have d3 := hw.at d3
  have q0 := hw.at q0
  have q1 := hw.at q1
  have q2 := hw.at q2
  have q3 := hw.at q3
  have gs0 := ExtW.at s0
  have gs1 := ExtW.at s1
  have gs2 := ExtW.at s2
  have gs3 := ExtW.at s3
  have ge3 := ExtW.at e3
  have gc0 := ExtW.at c0
  have gc1 := ExtW.at c1
  have gc2 := ExtW.at c2
  have gc3 := ExtW.at c3
  refine qy (by kernel_rfl) (by kernel_rfl) ?_
  repeat (go_big_quiet_step (((go_at_call 52; exact Calls.ext_of (hx'.out _ _ (hF'.out.ext (hw.trans (ExtW.ext _))) (hR'.out.ext (hw.trans (ExtW.ext _))) (hP'.out.ext (hw.trans (ExtW.ext _))) (hr1'.out.ext (hw.trans (ExtW.ext _))))))))
  refine wpQuiet_nil ?_
  intro w1 he
  by_cases hX : nx = 1
  · subst hX
    have H2 := Lib.hid (H.out.trans (if_pos rfl))
    clear H
    have s0 := he.at s0
    have s1 := he.at s1
    have s2 := he.at s2
    have s3 := he.at s3
    have e3 := he.at e3
    have d0 := he.at d0
    have d1 := he.at d1
    have d2 := he.at d2
    have d3 := he.at d3
    have gs0 := ExtW.at s0
    have gs1 := ExtW.at s1
    have gs2 := ExtW.at s2
    have gs3 := ExtW.at s3
    have ge3 := ExtW.at e3
    have gd0 := ExtW.at d0
    have gd1 := ExtW.at d1
    have gd2 := ExtW.at d2
    have gd3 := ExtW.at d3
    go_wp2_with fail
    refine qt 6 (by kernel_rfl) (by kernel_rfl) ?_
    simp only [List.take_succ_cons, List.take_zero, List.drop_succ_cons, List.drop_zero]
    repeat (go_big_quiet_step (((go_at_call 52; exact Calls.ext_of (hy'.out _ _ (hF'.out.ext ((hw.trans he).trans (ExtW.ext _))) (hR'.out.ext ((hw.trans he).trans (ExtW.ext _))) (hP'.out.ext ((hw.trans he).trans (ExtW.ext _))) (hr2'.out.ext ((hw.trans he).trans (ExtW.ext _))))))))
    refine wpQuiet_nil ?_
    intro w2 he2
    have he3 := he.trans he2
    replace f0 := he3.at f0
    replace f1 := he3.at f1
    replace f2 := he3.at f2
    replace z0 := (he3.frozens _ _ hlt).trans z0
    replace z1 := (he3.frozens _ _ hlt).trans z1
    replace z2 := (he3.frozens _ _ hlt).trans z2
    have hw2 : Ext w w2 := hw.trans he3
    go_wp2_with fail
    exact bodyPost_ret (v := .agg #[.int .i64 ky, .int .i64 ny, .string sy]) (by simp [results, Tryz.results52, go_sem, f0, f1, f2]) rfl ⟨by rw [H2.out]; rfl, qs hw2 _ (by omega) _ _ _⟩
  · have hXb : (nx == 1) = false := by simp [hX]
    have H2 := Lib.hid (H.out.trans (if_neg hX))
    clear H
    have s0 := he.at s0
    have s1 := he.at s1
    have s2 := he.at s2
    have s3 := he.at s3
    have e3 := he.at e3
    have q0 := he.at q0
    have q1 := he.at q1
    have q2 := he.at q2
    have q3 := he.at q3
    have gs0 := ExtW.at s0
    have gs1 := ExtW.at s1
    have gs2 := ExtW.at s2
    have gs3 := ExtW.at s3
    have ge3 := ExtW.at e3
    have gq0 := ExtW.at q0
    have gq1 := ExtW.at q1
    have gq2 := ExtW.at q2
    have gq3 := ExtW.at q3
    go_wp2_with fail
    refine qt 6 (by kernel_rfl) (by kernel_rfl) ?_
    simp only [List.take_succ_cons, List.take_zero, List.drop_succ_cons, List.drop_zero]
    repeat (go_big_quiet_step (((go_at_call 52; exact Calls.ext_of (hz'.out _ _ (hF'.out.ext ((hw.trans he).trans (ExtW.ext _))) (hR'.out.ext ((hw.trans he).trans (ExtW.ext _))) (hP'.out.ext ((hw.trans he).trans (ExtW.ext _))) (hr3'.out.ext ((hw.trans he).trans (ExtW.ext _))))))))
    refine wpQuiet_nil ?_
    intro w2 he2
    have he3 := he.trans he2
    replace f0 := he3.at f0
    replace f1 := he3.at f1
    replace f2 := he3.at f2
    replace z0 := (he3.frozens _ _ hlt).trans z0
    replace z1 := (he3.frozens _ _ hlt).trans z1
    replace z2 := (he3.frozens _ _ hlt).trans z2
    have hw2 : Ext w w2 := hw.trans he3
    go_wp2_with fail
    exact bodyPost_ret (v := .agg #[.int .i64 kz, .int .i64 nz, .string sz]) (by simp [results, Tryz.results52, go_sem, f0, f1, f2]) rfl ⟨by rw [H2.out]; rfl, qs hw2 _ (by omega) _ _ _⟩
end Go.Proofs.YtnkimlkoijfcpaaGreatDoor
