/- Layer 25 on plain data: programs of the bytecode, when they are right, and what they compute. -/
import Derived.Test.YtnkimlkoijfcpaaGreatDoorGf2
import Derived.Test.YtnkimlkoijfcpaaGreatDoorGf3
set_option linter.unusedSimpArgs false
set_option linter.unusedVariables false
namespace Go.Proofs.YtnkimlkoijfcpaaGreatDoor
open Go.RowKit Go.Lib
def opOk (o : Int) : Bool := decide (0 ≤ o) && decide (o ≤ 21) && decide (o ≠ 4)
def arO (o : Int) : Nat := if o = 0 ∨ o = 1 ∨ o = 2 ∨ o = 3 ∨ o = 5 then 0 else if o = 6 ∨ o = 7 ∨ o = 20 then 1 else if o = 21 then 3 else 2
theorem arO_le (o : Int) : arO o ≤ 3 := by unfold arO; (repeat' split) <;> omega
def opsP (x : Ins) : List Int := if opOk x.op then [x.a, x.b, x.c].take (arO x.op) else []
def qbj (x : Ins) : Bool :=
  opOk x.op && (decide (arO x.op < 3 → x.c = 0) && decide (arO x.op < 2 → x.b = 0) && decide (arO x.op < 1 → x.a = 0)) &&
  (if x.op = 0 ∨ x.op = 3 then decide (x.s.size = 0) else if x.op = 2 then decide (x.s.size = 0) && decide (x.n = 0 ∨ x.n = 1)
   else if x.op = 1 then decide (x.n = 0) && decide (x.s.size ≤ 200) else decide (x.n = 0) && decide (x.s.size = 0))
def qci (r : Int) : Ex := .mk 4 r ByteArray.empty []
def exI (x : Ins) : Ex := .mk x.op x.n x.s ((opsP x).map qci)
def tyI (cols types : List Int) (x : Ins) : Option Int := typeP [] cols types (exI x)
def verI (cols types : List Int) (done : List Bool) (x : Ins) : Int :=
  if qbj x = false then 2
  else if (x.to :: opsP x).any (fun r => decide (r < 0) || decide ((types.length : Int) ≤ r)) then 3
  else if x.op = 3 ∧ (x.n < 0 ∨ (cols.length : Int) ≤ x.n) then 3
  else if (opsP x).any (fun r => !done.getD r.toNat false) then 25
  else if tyI cols types x = some (types.getD x.to.toNat 0) then 0 else 13
def verL (cols types : List Int) : List Ins → Nat → List Bool → (Int × Int) × List Bool
  | [], _, done => ((-1, 0), done)
  | x :: l, i, done => if verI cols types done x = 0 then verL cols types l (i + 1) (done.set x.to.toNat true) else (((i : Int), verI cols types done x), done)
def verP (c : Cod) (cols : List Int) : Int × Int :=
  if 1000 < c.ins.length ∨ 1000 < c.types.length then (-1, 6)
  else if c.types.any (fun t => decide (t < 0) || decide (3 ≤ t)) then (-1, 13)
  else
    let r := verL cols c.types c.ins 0 (List.replicate c.types.length false)
    if r.1.2 ≠ 0 then r.1
    else if c.out < 0 ∨ (c.types.length : Int) ≤ c.out then (-1, 3)
    else if r.2.getD c.out.toNat false = false then (-1, 25) else (-1, 0)
def opI (time : Int) (row : List Val) (x : Ins) (vs : List Val) : Val := if x.op = 21 then ifV vs else opV (fun _ _ => zeroV) time row [] x.op x.n x.s vs
def argsI (regs : List Val) (x : Ins) : List Val := (opsP x).map fun r => regs.getD r.toNat zeroV
def stepI (time : Int) (row : List Val) (regs : List Val) (x : Ins) : List Val := regs.set x.to.toNat (opI time row x (argsI regs x))
def regsI (time : Int) (row : List Val) (l : List Ins) (regs : List Val) : List Val := l.foldl (stepI time row) regs
def valC (c : Cod) (time : Int) (row : List Val) : Val := (regsI time row c.ins (List.replicate c.types.length zeroV)).getD c.out.toNat zeroV
def RegsOk (types : List Int) (done : List Bool) (regs : List Val) : Prop :=
  regs.length = types.length ∧ done.length = types.length ∧ ∀ r : Nat, done.getD r false = true → (regs.getD r zeroV).k = types.getD r 0 ∧ qba (regs.getD r zeroV)
structure InsOk (cols types : List Int) (done : List Bool) (x : Ins) : Prop where
  form : qbj x = true
  to0 : 0 ≤ x.to
  to1 : x.to < types.length
  args : ∀ r ∈ opsP x, 0 ≤ r ∧ r < types.length ∧ done.getD r.toNat false = true
  col : x.op = 3 → 0 ≤ x.n ∧ x.n < cols.length
  typ : tyI cols types x = some (types.getD x.to.toNat 0)
theorem verI_ok {cols types : List Int} {done : List Bool} {x : Ins} (h : verI cols types done x = 0) : InsOk cols types done x := by
  unfold verI at h
  split at h
  · cases h
  rename_i h1
  split at h
  · cases h
  rename_i h2
  split at h
  · cases h
  rename_i h3
  split at h
  · cases h
  rename_i h4
  split at h
  · rename_i h5
    rw [Bool.not_eq_true, List.any_eq_false] at h2 h4
    have h6 := h2 x.to (by simp)
    simp only [Bool.or_eq_true, decide_eq_true_eq, not_or] at h6
    refine ⟨by simpa using h1, by omega, by omega, fun r hr => ?_, fun h0 => by omega, h5⟩
    have h7 := h2 r (by simp [hr])
    have h8 := h4 r hr
    simp only [Bool.or_eq_true, decide_eq_true_eq, not_or] at h7
    refine ⟨by omega, by omega, by simpa using h8⟩
  · cases h
theorem InsOk.ver {cols types : List Int} {done : List Bool} {x : Ins} (h : InsOk cols types done x) : verI cols types done x = 0 := by
  unfold verI
  rw [if_neg (by rw [h.form]; simp), if_neg, if_neg, if_neg, if_pos h.typ]
  · rw [Bool.not_eq_true, List.any_eq_false]
    intro r hr
    rw [(h.args r hr).2.2]; simp
  · rintro ⟨h3, h4⟩
    have := h.col h3; omega
  · rw [Bool.not_eq_true, List.any_eq_false]
    intro r hr
    simp only [Bool.or_eq_true, decide_eq_true_eq, not_or]
    rcases List.mem_cons.1 hr with rfl | hr
    · have := h.to0; have := h.to1; omega
    · have := h.args r hr; omega
theorem InsOk.op {cols types : List Int} {done : List Bool} {x : Ins} (h : InsOk cols types done x) : 0 ≤ x.op ∧ x.op ≤ 21 ∧ x.op ≠ 4 := by
  have := h.form
  unfold qbj at this
  simp only [Bool.and_eq_true] at this
  have h2 := this.1.1
  unfold opOk at h2
  simp only [Bool.and_eq_true, decide_eq_true_eq] at h2
  exact ⟨h2.1.1, h2.1.2, h2.2⟩
theorem rightF_nil : qch [] = true := by unfold qch; simp
theorem tys_params {cols types : List Int} : ∀ (l : List Int) {ts : List Int}, tys [] cols types (l.map qci) = some ts → ts = l.map fun r => types.getD r.toNat 0
  | [], ts, h => by rw [List.map_nil, tys] at h; cases h; rfl
  | r :: l, ts, h => by
    rw [List.map_cons, tys] at h
    cases hr : ty [] cols types (qci r) with
    | none => rw [hr] at h; cases h
    | some t =>
      rw [hr] at h
      cases hl : tys [] cols types (l.map qci) with
      | none => rw [hl] at h; cases h
      | some us =>
        rw [hl] at h
        cases h
        rw [List.map_cons, ← tys_params l hl]
        congr 1
        unfold qci at hr
        rw [ty] at hr
        simp only [tys] at hr
        have h2 := qee (.inr rfl) hr
        rw [if_neg (by decide)] at h2
        obtain ⟨h3, h4⟩ : 0 ≤ r ∧ types[r.toNat]? = some t := by
          unfold pickT at h2
          split at h2
          · cases h2
          · cases hv : types[r.toNat]? with
            | none => rw [hv] at h2; cases h2
            | some v =>
              rw [hv] at h2; dsimp only at h2
              split at h2
              · cases h2; exact ⟨by omega, rfl⟩
              · cases h2
        rw [List.getD_eq_getElem?_getD, h4]; rfl
theorem InsOk.tail {cols types : List Int} {done : List Bool} {x : Ins} (h : InsOk cols types done x) : tailT [] cols types x.op x.n x.s ((opsP x).map fun r => types.getD r.toNat 0) = some (types.getD x.to.toNat 0) := by
  have := h.typ
  unfold tyI typeP at this
  rw [if_pos rightF_nil] at this
  unfold tyD at this
  split at this
  · cases this
  unfold exI at this
  rw [ty] at this
  cases hl : tys [] cols types ((opsP x).map qci) with
  | none => rw [hl] at this; cases this
  | some ts =>
    rw [hl] at this
    dsimp only at this
    rw [tys_params _ hl] at this
    exact this
theorem tail_sound {cols types : List Int} {row : List Val} (hrow : qbn cols row) {x : Ins} {t : Int} {time : Int} {vs : List Val} (hop : x.op ≠ 4) (hs : ∀ v ∈ vs, qba v) (h : tailT [] cols types x.op x.n x.s (vs.map Val.k) = some t) :
    (opI time row x vs).k = t ∧ qba (opI time row x vs) := by
  have h22 : x.op ≠ 22 := by
    intro e
    unfold tailT at h
    split at h
    · cases h
    · unfold callT at h
      split at h
      · cases h
      · simp at h
  have h2 : tailT [] cols [] x.op x.n x.s (vs.map Val.k) = some t := qeo (fun _ h => h) (fun e => absurd e hop) h
  unfold tailT at h2
  split at h2
  · cases h2
  unfold opI
  split at h2
  · rename_i hnil
    obtain rfl : vs = [] := by simpa using hnil
    obtain ⟨h21, -, h3⟩ := leaf_fit (call := fun _ _ => zeroV) (time := time) (params := []) hrow rfl (by simp) h2
    rw [if_neg h21]; exact h3
  · exact (oper_sound (call := fun _ _ => zeroV) (time := time) (row := row) (params := []) hs h2).2
theorem RegsOk.args {types : List Int} {done : List Bool} {regs : List Val} (h : RegsOk types done regs) {cols : List Int} {x : Ins} (hx : InsOk cols types done x) :
    (argsI regs x).map Val.k = (opsP x).map (fun r => types.getD r.toNat 0) ∧ ∀ v ∈ argsI regs x, qba v := by
  unfold argsI
  constructor
  · rw [List.map_map]
    exact List.map_congr_left fun r hr => (h.2.2 r.toNat (hx.args r hr).2.2).1
  · intro v hv
    obtain ⟨r, hr, rfl⟩ := List.mem_map.1 hv
    exact (h.2.2 r.toNat (hx.args r hr).2.2).2
theorem RegsOk.res {cols types : List Int} {row : List Val} (hrow : qbn cols row) {done : List Bool} {regs : List Val} (h : RegsOk types done regs) {x : Ins} (hx : InsOk cols types done x) (time : Int) :
    (opI time row x (argsI regs x)).k = types.getD x.to.toNat 0 ∧ qba (opI time row x (argsI regs x)) := by
  obtain ⟨h1, h2⟩ := h.args hx
  exact tail_sound hrow hx.op.2.2 h2 (by rw [h1]; exact hx.tail)
theorem qx {α : Type} (l : List α) (i j : Nat) (a d : α) : (l.set i a).getD j d = if i = j ∧ i < l.length then a else l.getD j d := by
  rw [List.getD_eq_getElem?_getD, List.getElem?_set]
  split
  · rename_i h; subst h
    split
    · rename_i h2; rw [if_pos ⟨rfl, h2⟩]; rfl
    · rename_i h2; rw [if_neg (by rintro ⟨-, h3⟩; exact h2 h3), List.getD_eq_getElem?_getD, List.getElem?_eq_none (by omega)]
  · rename_i h; rw [if_neg (by rintro ⟨h2, -⟩; exact h h2), List.getD_eq_getElem?_getD]
theorem RegsOk.step {cols types : List Int} {row : List Val} (hrow : qbn cols row) {done : List Bool} {regs : List Val} (h : RegsOk types done regs) {x : Ins} (hx : InsOk cols types done x) (time : Int) : RegsOk types (done.set x.to.toNat true) (stepI time row regs x) := by
  obtain ⟨h1, h2, h3⟩ := h
  refine ⟨by rw [stepI, List.length_set]; exact h1, by rw [List.length_set]; exact h2, fun r hr => ?_⟩
  have hto := hx.to1
  have hto0 := hx.to0
  rw [qx] at hr
  rw [stepI, qx]
  by_cases he : x.to.toNat = r
  · rw [if_pos ⟨he, by omega⟩, ← he]
    exact RegsOk.res hrow ⟨h1, h2, h3⟩ hx time
  · rw [if_neg (fun h => he h.1)] at hr ⊢
    exact h3 r hr
theorem regsOk_start (types : List Int) : RegsOk types (List.replicate types.length false) (List.replicate types.length zeroV) := by
  refine ⟨by simp, by simp, fun r hr => ?_⟩
  rw [List.getD_eq_getElem?_getD, List.getElem?_replicate] at hr
  split at hr <;> cases hr
def AllOk (cols types : List Int) : List Ins → List Bool → Prop
  | [], _ => True
  | x :: l, done => InsOk cols types done x ∧ AllOk cols types l (done.set x.to.toNat true)
def doneL : List Ins → List Bool → List Bool
  | [], done => done
  | x :: l, done => doneL l (done.set x.to.toNat true)
theorem verL_ok {cols types : List Int} : ∀ (l : List Ins) (i : Nat) (done : List Bool), (verL cols types l i done).1.2 = 0 → AllOk cols types l done ∧ verL cols types l i done = ((-1, 0), doneL l done)
  | [], i, done, _ => ⟨trivial, rfl⟩
  | x :: l, i, done, h => by
    rw [verL] at h ⊢
    split at h
    · rename_i h0
      rw [if_pos h0]
      obtain ⟨h1, h2⟩ := verL_ok l (i + 1) _ h
      exact ⟨⟨verI_ok h0, h1⟩, h2⟩
    · rename_i h0
      exact absurd h h0
theorem AllOk.verL {cols types : List Int} : ∀ (l : List Ins) (i : Nat) (done : List Bool), AllOk cols types l done → verL cols types l i done = ((-1, 0), doneL l done)
  | [], i, done, _ => rfl
  | x :: l, i, done, h => by
    rw [Proofs.YtnkimlkoijfcpaaGreatDoor.verL, if_pos h.1.ver]
    exact AllOk.verL l (i + 1) _ h.2
structure CodOk (c : Cod) (cols : List Int) : Prop where
  ni : c.ins.length ≤ 1000
  nt : c.types.length ≤ 1000
  kinds : ∀ t ∈ c.types, 0 ≤ t ∧ t < 3
  all : AllOk cols c.types c.ins (List.replicate c.types.length false)
  out0 : 0 ≤ c.out
  out1 : c.out < c.types.length
  out2 : (doneL c.ins (List.replicate c.types.length false)).getD c.out.toNat false = true
theorem verP_ok {c : Cod} {cols : List Int} : (verP c cols).2 = 0 ↔ CodOk c cols := by
  unfold verP
  constructor
  · intro h
    split at h
    · cases h
    rename_i h1
    split at h
    · cases h
    rename_i h2
    dsimp only at h
    split at h
    · rename_i h3; exact absurd h h3
    rename_i h3
    split at h
    · cases h
    rename_i h4
    split at h
    · cases h
    rename_i h5
    obtain ⟨h6, h7⟩ := verL_ok _ _ _ (Decidable.not_not.1 h3)
    rw [h7] at h5
    refine ⟨by omega, by omega, fun t ht => ?_, h6, by omega, by omega, by simpa using h5⟩
    rw [Bool.not_eq_true, List.any_eq_false] at h2
    have := h2 t ht
    simp only [Bool.or_eq_true, decide_eq_true_eq, not_or] at this
    omega
  · intro h
    have h7 := AllOk.verL c.ins 0 _ h.all
    rw [if_neg (by have := h.ni; have := h.nt; omega), if_neg, h7]
    · dsimp only
      rw [if_neg (by simp), if_neg (by have := h.out0; have := h.out1; omega), if_neg (by rw [h.out2]; simp)]
    · rw [Bool.not_eq_true, List.any_eq_false]
      intro t ht
      have := h.kinds t ht
      simp only [Bool.or_eq_true, decide_eq_true_eq, not_or]; omega
theorem AllOk.regs {cols types : List Int} {row : List Val} (hrow : qbn cols row) (time : Int) : ∀ (l : List Ins) {done : List Bool} {regs : List Val}, AllOk cols types l done → RegsOk types done regs → RegsOk types (doneL l done) (regsI time row l regs)
  | [], _, _, _, h => h
  | x :: l, done, regs, h, hr => AllOk.regs hrow time l h.2 (hr.step hrow h.1 time)
theorem CodOk.val {c : Cod} {cols : List Int} {row : List Val} (h : CodOk c cols) (hrow : qbn cols row) (time : Int) : (valC c time row).k = c.types.getD c.out.toNat 0 ∧ qba (valC c time row) :=
  (AllOk.regs hrow time c.ins h.all (regsOk_start c.types)).2.2 _ h.out2
end Go.Proofs.YtnkimlkoijfcpaaGreatDoor

/- Layer 25 on plain data: the results of a program, one after the other; where each operand comes from. -/
namespace Go.Proofs.YtnkimlkoijfcpaaGreatDoor
open Go.RowKit Go.Lib
structure Nd where
  x : Ins
  src : List Nat
def resN (time : Int) (row : List Val) : List Nd → List Val → List Val
  | [], acc => acc
  | d :: l, acc => resN time row l (acc ++ [opI time row d.x (d.src.map fun k => acc.getD k zeroV)])
def nodes : List Ins → Nat → List Nat → List Nd
  | [], _, _ => []
  | x :: l, i, last => ⟨x, (opsP x).map fun r => last.getD r.toNat 0⟩ :: nodes l (i + 1) (last.set x.to.toNat i)
def lastL : List Ins → Nat → List Nat → List Nat
  | [], _, last => last
  | x :: l, i, last => lastL l (i + 1) (last.set x.to.toNat i)
theorem resN_len (time : Int) (row : List Val) : ∀ (l : List Nd) (acc : List Val), (resN time row l acc).length = acc.length + l.length
  | [], acc => rfl
  | d :: l, acc => by rw [resN, resN_len time row l]; simp; omega
theorem qca : ∀ (l : List Ins) (i : Nat) (last : List Nat), (nodes l i last).length = l.length
  | [], _, _ => rfl
  | x :: l, i, last => by rw [nodes, List.length_cons, qca l, List.length_cons]
def Agree (done : List Bool) (regs : List Val) (last : List Nat) (acc : List Val) : Prop :=
  done.length = regs.length ∧ last.length = regs.length ∧ ∀ r : Nat, done.getD r false = true → last.getD r 0 < acc.length ∧ regs.getD r zeroV = acc.getD (last.getD r 0) zeroV
theorem Agree.args {cols types : List Int} {done : List Bool} {regs : List Val} {last : List Nat} {acc : List Val} (h : Agree done regs last acc) {x : Ins} (hx : InsOk cols types done x) :
    ((opsP x).map fun r => last.getD r.toNat 0).map (fun k => acc.getD k zeroV) = argsI regs x := by
  unfold argsI
  rw [List.map_map]
  exact List.map_congr_left fun r hr => (h.2.2 r.toNat (hx.args r hr).2.2).2.symm
theorem Agree.step {cols types : List Int} {done : List Bool} {regs : List Val} {last : List Nat} {acc : List Val} (h : Agree done regs last acc) {x : Ins} (hx : InsOk cols types done x) (hl : regs.length = types.length) (time : Int) (row : List Val) :
    Agree (done.set x.to.toNat true) (stepI time row regs x) (last.set x.to.toNat acc.length) (acc ++ [opI time row x (argsI regs x)]) := by
  obtain ⟨h1, h2, h3⟩ := h
  have h0 := hx.to0
  have h4 := hx.to1
  refine ⟨by simp [stepI, h1], by simp [stepI, h2], fun r hr => ?_⟩
  rw [qx] at hr
  rw [stepI, qx, qx]
  by_cases he : x.to.toNat = r
  · rw [if_pos ⟨he, by omega⟩, if_pos ⟨he, by omega⟩]
    refine ⟨by simp, ?_⟩
    rw [List.getD_eq_getElem?_getD, List.getElem?_append_right (Nat.le_refl _)]; simp
  · rw [if_neg (fun h => he h.1)] at hr
    rw [if_neg (fun h => he h.1), if_neg (fun h => he h.1)]
    obtain ⟨h5, h6⟩ := h3 r hr
    refine ⟨by rw [List.length_append]; exact Nat.lt_of_lt_of_le h5 (Nat.le_add_right _ _), ?_⟩
    rw [h6, List.getD_eq_getElem?_getD (l := acc ++ _), List.getElem?_append_left h5, List.getD_eq_getElem?_getD]
theorem agree_all {cols types : List Int} (time : Int) (row : List Val) : ∀ (l : List Ins) {done : List Bool} {regs : List Val} {last : List Nat} {acc : List Val}, AllOk cols types l done → regs.length = types.length → Agree done regs last acc →
    Agree (doneL l done) (regsI time row l regs) (lastL l acc.length last) (resN time row (nodes l acc.length last) acc)
  | [], _, _, _, _, _, _, h => h
  | x :: l, done, regs, last, acc, ha, hl, h => by
    have h1 := h.step ha.1 hl time row
    have h2 := agree_all time row l ha.2 (by rw [stepI, List.length_set]; exact hl) h1
    rw [List.length_append, List.length_singleton] at h2
    rw [doneL, lastL, nodes, resN]
    rw [h.args ha.1]
    exact h2
theorem agree_start (n : Nat) : Agree (List.replicate n false) (List.replicate n zeroV) (List.replicate n 0) [] := by
  refine ⟨by simp, by simp, fun r hr => ?_⟩
  rw [List.getD_eq_getElem?_getD, List.getElem?_replicate] at hr
  split at hr <;> cases hr
def qy (c : Cod) : List Nd := nodes c.ins 0 (List.replicate c.types.length 0)
def rootC (c : Cod) : Nat := (lastL c.ins 0 (List.replicate c.types.length 0)).getD c.out.toNat 0
theorem CodOk.val_res {c : Cod} {cols : List Int} (h : CodOk c cols) (time : Int) (row : List Val) : rootC c < c.ins.length ∧ valC c time row = (resN time row (qy c) []).getD (rootC c) zeroV := by
  have h1 := agree_all time row c.ins h.all (by simp) (agree_start c.types.length)
  obtain ⟨h2, h3⟩ := h1.2.2 _ h.out2
  rw [resN_len, qca] at h2
  simp only [List.length_nil, Nat.zero_add] at h2
  exact ⟨h2, h3⟩
end Go.Proofs.YtnkimlkoijfcpaaGreatDoor

/- Layer 25 on plain data: which instructions are needed; Trim keeps the value. -/
namespace Go.Proofs.YtnkimlkoijfcpaaGreatDoor
open Go.RowKit Go.Lib
def qcb (need : List Bool) (ks : List Nat) : List Bool := ks.foldl (fun nd k => nd.set k true) need
theorem qce : ∀ (ks : List Nat) (need : List Bool), (qcb need ks).length = need.length
  | [], _ => rfl
  | k :: ks, need => by unfold qcb; rw [List.foldl_cons]; have := qce ks (need.set k true); unfold qcb at this; rw [this]; simp
theorem qed : ∀ (ks : List Nat) (need : List Bool) (j : Nat), j < need.length → ((qcb need ks).getD j false = true ↔ need.getD j false = true ∨ j ∈ ks)
  | [], need, j, _ => by simp [qcb]
  | k :: ks, need, j, h => by
    have := qed ks (need.set k true) j (by simpa using h)
    unfold qcb at this ⊢
    rw [List.foldl_cons, this, qx, List.mem_cons]
    by_cases hk : k = j
    · subst hk; simp [h]
    · rw [if_neg (fun h => hk h.1)]
      constructor
      · rintro (h | h)
        · exact .inl h
        · exact .inr (.inr h)
      · rintro (h | h | h)
        · exact .inl h
        · exact absurd h.symm hk
        · exact .inr h
def needI (ds : List Nd) : Nat → List Bool → List Bool
  | 0, need => need
  | i + 1, need => needI ds i (if need.getD i false then qcb need ((ds.getD i ⟨⟨0, 0, 0, 0, 0, 0, ByteArray.empty⟩, []⟩).src) else need)
def needP (ds : List Nd) (root : Nat) : List Bool := needI ds ds.length ((List.replicate ds.length false).set root true)
def srcOf (ds : List Nd) (i : Nat) : List Nat := (ds.getD i ⟨⟨0, 0, 0, 0, 0, 0, ByteArray.empty⟩, []⟩).src
def Early (ds : List Nd) : Prop := ∀ i, i < ds.length → ∀ k ∈ srcOf ds i, k < i
theorem needI_len (ds : List Nd) : ∀ (i : Nat) (need : List Bool), (needI ds i need).length = need.length
  | 0, _ => rfl
  | i + 1, need => by rw [needI, needI_len ds i]; split <;> simp [qce]
theorem needI_ge {ds : List Nd} (he : Early ds) : ∀ (i : Nat) (need : List Bool), i ≤ ds.length → need.length = ds.length → ∀ j, (i ≤ j → (needI ds i need).getD j false = need.getD j false) ∧ (need.getD j false = true → (needI ds i need).getD j false = true)
  | 0, _, _, _, j => ⟨fun _ => rfl, fun h => h⟩
  | i + 1, need, hi, hl, j => by
    rw [needI]
    split
    · obtain ⟨h1, h2⟩ := needI_ge he i (qcb need (srcOf ds i)) (by omega) (by rw [qce]; exact hl) j
      by_cases hj : j < need.length
      · have h3 := qed (srcOf ds i) need j hj
        refine ⟨fun h => (h1 (by omega)).trans ?_, fun h => h2 (h3.2 (.inl h))⟩
        rw [Bool.eq_iff_iff, h3]
        exact ⟨fun h4 => h4.elim id fun h5 => absurd (he i (by omega) j h5) (by omega), .inl⟩
      · have e1 : (needI ds i (qcb need (srcOf ds i))).getD j false = false := by rw [List.getD_eq_getElem?_getD, List.getElem?_eq_none (by rw [needI_len, qce]; omega)]; rfl
        have e2 : need.getD j false = false := by rw [List.getD_eq_getElem?_getD, List.getElem?_eq_none (by omega)]; rfl
        unfold srcOf at e1
        rw [e1, e2]; simp
    · obtain ⟨h1, h2⟩ := needI_ge he i need (by omega) hl j
      exact ⟨fun h => h1 (by omega), h2⟩
theorem needI_closed {ds : List Nd} (he : Early ds) : ∀ (i : Nat) (need : List Bool), i ≤ ds.length → need.length = ds.length → (∀ j, i ≤ j → j < ds.length → need.getD j false = true → ∀ k ∈ srcOf ds j, need.getD k false = true) →
    ∀ j, j < ds.length → (needI ds i need).getD j false = true → ∀ k ∈ srcOf ds j, (needI ds i need).getD k false = true
  | 0, need, _, _, h => fun j hj => h j (by omega) hj
  | i + 1, need, hi, hl, h => by
    rw [needI]
    split
    · rename_i hn
      refine needI_closed he i _ (by omega) (by rw [qce]; exact hl) fun j hij hj hnj k hk => ?_
      have hkj := he j hj k hk
      change (qcb need (srcOf ds i)).getD j false = true at hnj
      change (qcb need (srcOf ds i)).getD k false = true
      rw [qed _ _ _ (by omega)] at hnj ⊢
      by_cases hji : j = i
      · subst hji; exact .inr hk
      · rcases hnj with hnj | hnj
        · exact .inl (h j (by omega) hj hnj k hk)
        · exact absurd (he i (by omega) j hnj) (by omega)
    · rename_i hn
      refine needI_closed he i _ (by omega) hl fun j hij hj hnj k hk => ?_
      by_cases hji : j = i
      · subst hji; exact absurd hnj hn
      · exact h j (by omega) hj hnj k hk
theorem needP_len (ds : List Nd) (root : Nat) : (needP ds root).length = ds.length := by unfold needP; rw [needI_len]; simp
theorem needP_root {ds : List Nd} (he : Early ds) {root : Nat} (hr : root < ds.length) : (needP ds root).getD root false = true := by
  refine (needI_ge he ds.length _ (Nat.le_refl _) (by simp) root).2 ?_
  rw [qx, if_pos ⟨rfl, by simpa using hr⟩]
theorem qds {ds : List Nd} (he : Early ds) (root : Nat) {j : Nat} (hj : j < ds.length) (h : (needP ds root).getD j false = true) : ∀ k ∈ srcOf ds j, (needP ds root).getD k false = true :=
  needI_closed he ds.length _ (Nat.le_refl _) (by simp) (fun j h1 h2 => by omega) j hj h
def trimI (need : List Bool) : List Ins → Nat → List Ins
  | [], _ => []
  | x :: l, i => if need.getD i false then x :: trimI need l (i + 1) else trimI need l (i + 1)
def rank (need : List Bool) : Nat → Nat
  | 0 => 0
  | i + 1 => rank need i + if need.getD i false then 1 else 0
theorem rank_mono (need : List Bool) {i j : Nat} (h : i ≤ j) : rank need i ≤ rank need j := by
  induction j with
  | zero => obtain rfl : i = 0 := by omega
            exact Nat.le_refl _
  | succ j ih =>
    by_cases hij : i = j + 1
    · subst hij; exact Nat.le_refl _
    · have := ih (by omega); rw [rank]; omega
theorem rank_lt (need : List Bool) {i j : Nat} (h : i < j) (hn : need.getD i false = true) : rank need i < rank need j := by
  have h1 := rank_mono need (show i + 1 ≤ j from h)
  rw [rank, if_pos hn] at h1
  omega
theorem trimI_len (need : List Bool) : ∀ (l : List Ins) (i : Nat), (trimI need l i).length + rank need i = rank need (i + l.length)
  | [], i => by simp [trimI]
  | x :: l, i => by
    have := trimI_len need l (i + 1)
    rw [trimI, List.length_cons]
    rw [show i + (l.length + 1) = i + 1 + l.length by omega, ← this, rank]
    split <;> simp <;> omega
structure Trimmed (need : List Bool) (i : Nat) (done done' : List Bool) (last last' : List Nat) (acc acc' : List Val) : Prop where
  al : acc.length = i
  al' : acc'.length = rank need i
  dl : done'.length = done.length
  ll : last'.length = done.length
  l0 : last.length = done.length
  lt : ∀ r : Nat, done.getD r false = true → last.getD r 0 < i
  reg : ∀ r : Nat, done.getD r false = true → need.getD (last.getD r 0) false = true → done'.getD r false = true ∧ last'.getD r 0 = rank need (last.getD r 0)
  res : ∀ j, j < i → need.getD j false = true → acc'.getD (rank need j) zeroV = acc.getD j zeroV
theorem qct {α : Type} (l : List α) (a d : α) (k : Nat) : (l ++ [a]).getD k d = if k < l.length then l.getD k d else if k = l.length then a else d := by
  rw [List.getD_eq_getElem?_getD]
  split
  · rename_i h; rw [List.getElem?_append_left h, List.getD_eq_getElem?_getD]
  · rename_i h
    rw [List.getElem?_append_right (by omega)]
    split
    · rename_i h2; subst h2; simp
    · rename_i h2
      obtain ⟨m, hm⟩ : ∃ m, k - l.length = m + 1 := ⟨k - l.length - 1, by omega⟩
      rw [hm]; rfl
theorem trim_all {cols types : List Int} (need : List Bool) (time : Int) (row : List Val) : ∀ (l : List Ins) {i : Nat} {done done' : List Bool} {last last' : List Nat} {acc acc' : List Val}, AllOk cols types l done → done.length = types.length →
    (∀ k, k < l.length → need.getD (i + k) false = true → ∀ s ∈ srcOf (nodes l i last) k, need.getD s false = true) → Trimmed need i done done' last last' acc acc' →
    AllOk cols types (trimI need l i) done' ∧ Trimmed need (i + l.length) (doneL l done) (doneL (trimI need l i) done') (lastL l i last) (lastL (trimI need l i) (rank need i) last') (resN time row (nodes l i last) acc) (resN time row (nodes (trimI need l i) (rank need i) last') acc')
  | [], i, _, _, _, _, _, _, _, _, _, h => ⟨trivial, h⟩
  | x :: l, i, done, done', last, last', acc, acc', ha, hdl, hcl, h => by
    have hx := ha.1
    have h0 := hx.to0
    have h1 := hx.to1
    have hcl' : ∀ k, k < l.length → need.getD (i + 1 + k) false = true → ∀ s ∈ srcOf (nodes l (i + 1) (last.set x.to.toNat i)) k, need.getD s false = true := fun k hk hn s hs => by
      refine hcl (k + 1) (by simpa using hk) (by rw [show i + (k + 1) = i + 1 + k by omega]; exact hn) s ?_
      rw [nodes]
      unfold srcOf at hs ⊢
      rwa [List.getD_cons_succ]
    have hlt : ∀ r : Nat, (done.set x.to.toNat true).getD r false = true → (last.set x.to.toNat i).getD r 0 < i + 1 := fun r hr => by
      rw [qx] at hr ⊢
      by_cases he : x.to.toNat = r
      · rw [if_pos ⟨he, by rw [h.l0]; omega⟩]; omega
      · rw [if_neg (fun h => he h.1)] at hr ⊢
        have := h.lt r hr; omega
    rw [show i + (x :: l).length = i + 1 + l.length by simp; omega, doneL, lastL, nodes, resN]
    by_cases hn : need.getD i false = true
    · have hsrc : ∀ r ∈ opsP x, need.getD (last.getD r.toNat 0) false = true := fun r hr => hcl 0 (by simp) hn _ (by
        rw [nodes]
        unfold srcOf
        rw [List.getD_cons_zero]
        exact List.mem_map_of_mem hr)
      have hx' : InsOk cols types done' x := ⟨hx.form, hx.to0, hx.to1, fun r hr => ⟨(hx.args r hr).1, (hx.args r hr).2.1, (h.reg r.toNat (hx.args r hr).2.2 (hsrc r hr)).1⟩, hx.col, hx.typ⟩
      have hargs : (opsP x).map (fun r => last'.getD r.toNat 0) = (opsP x).map fun r => rank need (last.getD r.toNat 0) := List.map_congr_left fun r hr => (h.reg r.toNat (hx.args r hr).2.2 (hsrc r hr)).2
      have hvals : ((opsP x).map fun r => last'.getD r.toNat 0).map (fun k => acc'.getD k zeroV) = ((opsP x).map fun r => last.getD r.toNat 0).map (fun k => acc.getD k zeroV) := by
        rw [hargs, List.map_map, List.map_map]
        exact List.map_congr_left fun r hr => h.res _ (h.lt r.toNat (hx.args r hr).2.2) (hsrc r hr)
      have hr1 : rank need (i + 1) = rank need i + 1 := by rw [rank, if_pos hn]
      have hT : Trimmed need (i + 1) (done.set x.to.toNat true) (done'.set x.to.toNat true) (last.set x.to.toNat i) (last'.set x.to.toNat (rank need i)) (acc ++ [opI time row x (((opsP x).map fun r => last.getD r.toNat 0).map fun k => acc.getD k zeroV)]) (acc' ++ [opI time row x (((opsP x).map fun r => last'.getD r.toNat 0).map fun k => acc'.getD k zeroV)]) := by
        refine ⟨by simp [h.al], by rw [hr1]; simp [h.al'], by simp [h.dl], by simp [h.ll], by simp [h.l0], hlt, fun r hr hnr => ?_, fun j hj hnj => ?_⟩
        · rw [qx] at hr hnr ⊢
          rw [qx, qx]
          by_cases he : x.to.toNat = r
          · rw [if_pos ⟨he, by rw [h.dl]; omega⟩, if_pos ⟨he, by rw [h.ll]; omega⟩, if_pos ⟨he, by rw [h.l0]; omega⟩]
            exact ⟨rfl, rfl⟩
          · rw [if_neg (fun h => he h.1)] at hr hnr
            rw [if_neg (fun h => he h.1), if_neg (fun h => he h.1), if_neg (fun h => he h.1)]
            exact h.reg r hr hnr
        · rw [qct, qct, h.al, h.al']
          by_cases hji : j = i
          · subst hji
            rw [if_neg (Nat.lt_irrefl _), if_neg (Nat.lt_irrefl _), if_pos rfl, if_pos rfl, hvals]
          · rw [if_pos (rank_lt need (by omega) hnj), if_pos (by omega)]
            exact h.res j (by omega) hnj
      obtain ⟨g1, g2⟩ := trim_all need time row l ha.2 (by rw [List.length_set]; exact hdl) hcl' hT
      rw [trimI, if_pos hn, doneL, lastL, nodes, resN]
      rw [hr1] at g2
      exact ⟨⟨hx', g1⟩, g2⟩
    · have hr1 : rank need (i + 1) = rank need i := by rw [rank, if_neg hn]; rfl
      have hT : Trimmed need (i + 1) (done.set x.to.toNat true) done' (last.set x.to.toNat i) last' (acc ++ [opI time row x (((opsP x).map fun r => last.getD r.toNat 0).map fun k => acc.getD k zeroV)]) acc' := by
        refine ⟨by simp [h.al], by rw [hr1]; exact h.al', by simp [h.dl], by simp [h.ll], by simp [h.l0], hlt, fun r hr hnr => ?_, fun j hj hnj => ?_⟩
        · rw [qx] at hr hnr
          rw [qx]
          by_cases he : x.to.toNat = r
          · rw [if_pos ⟨he, by rw [h.l0]; omega⟩] at hnr
            exact absurd hnr hn
          · rw [if_neg (fun h => he h.1)] at hr hnr
            rw [if_neg (fun h => he h.1)]
            exact h.reg r hr hnr
        · have hji : j ≠ i := fun e => by subst e; exact hn hnj
          rw [qct, h.al, if_pos (by omega)]
          exact h.res j (by omega) hnj
      obtain ⟨g1, g2⟩ := trim_all need time row l ha.2 (by rw [List.length_set]; exact hdl) hcl' hT
      rw [trimI, if_neg hn]
      rw [hr1] at g2
      exact ⟨g1, g2⟩
theorem nodes_early {cols types : List Int} : ∀ (l : List Ins) (i : Nat) (done : List Bool) (last : List Nat), AllOk cols types l done → last.length = types.length → done.length = types.length → (∀ r : Nat, done.getD r false = true → last.getD r 0 < i) → ∀ k, k < l.length → ∀ s ∈ srcOf (nodes l i last) k, s < i + k
  | [], _, _, _, _, _, _, _ => fun k hk => by simp at hk
  | x :: l, i, done, last, ha, hl, hd, h => by
    intro k hk s hs
    rw [nodes] at hs
    unfold srcOf at hs
    cases k with
    | zero =>
      rw [List.getD_cons_zero] at hs
      obtain ⟨r, hr, rfl⟩ := List.mem_map.1 hs
      exact h r.toNat (ha.1.args r hr).2.2
    | succ k =>
      rw [List.getD_cons_succ] at hs
      have := nodes_early l (i + 1) _ _ ha.2 (by rw [List.length_set]; exact hl) (by rw [List.length_set]; exact hd) (fun r hr => by
        have h1 := ha.1.to1
        have h0 := ha.1.to0
        rw [qx] at hr ⊢
        by_cases he : x.to.toNat = r
        · rw [if_pos ⟨he, by omega⟩]; omega
        · rw [if_neg (fun h => he h.1)] at hr ⊢
          have := h r hr; omega) k (by simpa using hk) s hs
      omega
theorem CodOk.early {c : Cod} {cols : List Int} (h : CodOk c cols) : Early (qy c) := fun i hi k hk => by
  have := nodes_early c.ins 0 _ _ h.all (by simp) (by simp) (fun r hr => by
    rw [List.getD_eq_getElem?_getD, List.getElem?_replicate] at hr
    split at hr <;> cases hr) i (by unfold qy at hi; rwa [qca] at hi) k hk
  omega
theorem no_done {n r : Nat} (h : (List.replicate n false).getD r false = true) : False := by
  rw [List.getD_eq_getElem?_getD, List.getElem?_replicate] at h
  split at h <;> cases h
def trimP (c : Cod) : Cod := ⟨trimI (needP (qy c) (rootC c)) c.ins 0, c.types, c.out⟩
theorem rank_le (need : List Bool) : ∀ i, rank need i ≤ i
  | 0 => Nat.le_refl _
  | i + 1 => by have := rank_le need i; rw [rank]; split <;> omega
theorem trim_ok {c : Cod} {cols : List Int} (h : CodOk c cols) (time : Int) (row : List Val) : CodOk (trimP c) cols ∧ valC (trimP c) time row = valC c time row ∧ (trimP c).ins.length ≤ c.ins.length := by
  have he := h.early
  obtain ⟨hroot, hval⟩ := h.val_res time row
  have hl : (qy c).length = c.ins.length := by unfold qy; exact qca _ _ _
  have hneed := needP_root he (root := rootC c) (by rw [hl]; exact hroot)
  obtain ⟨g1, g2⟩ := trim_all (cols := cols) (needP (qy c) (rootC c)) time row c.ins (i := 0) (done' := List.replicate c.types.length false) (last' := List.replicate c.types.length 0) (acc := []) (acc' := []) h.all (by simp)
    (fun k hk hn s hs => qds he _ (by rw [hl]; exact hk) (by rw [Nat.zero_add] at hn; exact hn) s hs)
    ⟨rfl, rfl, rfl, by simp, by simp, fun r hr => (no_done hr).elim, fun r hr => (no_done hr).elim, fun j hj => by omega⟩
  rw [Nat.zero_add] at g2
  have g3 := g2.reg c.out.toNat h.out2 hneed
  have hlen := trimI_len (needP (qy c) (rootC c)) c.ins 0
  rw [rank, Nat.add_zero, Nat.zero_add] at hlen
  have hle := rank_le (needP (qy c) (rootC c)) c.ins.length
  have hok : CodOk (trimP c) cols := ⟨by show (trimI _ _ _).length ≤ _; have := h.ni; omega, h.nt, h.kinds, g1, h.out0, h.out1, g3.1⟩
  refine ⟨hok, ?_, by show (trimI _ _ _).length ≤ _; omega⟩
  rw [(hok.val_res time row).2, hval]
  have e1 : rootC (trimP c) = rank (needP (qy c) (rootC c)) (rootC c) := g3.2
  rw [e1]
  exact g2.res _ hroot hneed
end Go.Proofs.YtnkimlkoijfcpaaGreatDoor
