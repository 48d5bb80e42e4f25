/- Putting expressions in the place of columns or parameters: types and values, on plain data. -/
import Derived.Test.YtgpcpmfdklpifaaGreatDoorGa1
set_option linter.unusedSimpArgs false
set_option linter.unusedVariables false
namespace Go.Proofs.YtgpcpmfdklpifaaGreatDoor
open Go.RowKit Go.Lib
theorem operT_col {op n : Int} {ts : List Int} (h : op = 3 ∨ op = 4) : operT op n ts = none := by
  unfold operT
  split
  · rfl
  · rw [if_neg (by omega), if_neg (by omega), if_neg (by omega), if_neg (by omega), if_neg (by omega), if_neg (by omega), if_neg (by omega), if_neg (by omega)]
theorem tailT_col {F : List Fn} {c p : List Int} {op n t : Int} {s : ByteArray} {ts : List Int} (h : op = 3 ∨ op = 4) (ht : tailT F c p op n s ts = some t) : (if op = 3 then pickT c n else pickT p n) = some t := by
  unfold tailT at ht
  split at ht
  · cases ht
  · rw [if_neg (by omega)] at ht
    split at ht
    · unfold leafT at ht
      rw [if_neg (by omega), if_neg (by omega)] at ht
      by_cases h3 : op = 3
      · rw [if_pos h3] at ht ⊢; exact ht
      · rw [if_neg h3, if_pos (by omega)] at ht; rw [if_neg h3]; exact ht
    · rw [operT_col h] at ht; cases ht
theorem qej {F : List Fn} {c p c2 p2 : List Int} {op n t : Int} {s : ByteArray} {ts : List Int} (h3 : op = 3 → pickT c n = some t → pickT c2 n = some t) (h4 : op = 4 → pickT p n = some t → pickT p2 n = some t) (ht : tailT F c p op n s ts = some t) : tailT F c2 p2 op n s ts = some t := by
  unfold tailT at ht ⊢
  split at ht
  · cases ht
  · rename_i h1
    rw [if_neg h1]
    split at ht
    · rename_i h2; rw [if_pos h2]; exact ht
    · rename_i h2
      rw [if_neg h2]
      split at ht
      · rename_i h5
        rw [if_pos h5]
        unfold leafT at ht ⊢
        by_cases e3 : op = 3
        · subst e3; exact h3 rfl ht
        · by_cases e4 : op = 4
          · subst e4; exact h4 rfl ht
          · simp only [if_neg e3, if_neg e4] at ht ⊢
            exact ht
      · rename_i h5; rw [if_neg h5]; exact ht
theorem ev_colp (call : Int → List Val → Val) (time : Int) (row params : List Val) {op : Int} (n : Int) (s : ByteArray) (l : List Ex) (h : op = 3 ∨ op = 4) : ev call time row params (.mk op n s l) = if op = 3 then row.getD n.toNat zeroV else params.getD n.toNat zeroV := by
  rw [ev, if_neg (by omega), opV]
  rw [if_neg (by omega), if_neg (by omega), if_neg (by omega)]
  by_cases h3 : op = 3
  · rw [if_pos h3, if_pos h3]
  · rw [if_neg h3, if_neg h3, if_pos (by omega)]
theorem opV_other {call : Int → List Val → Val} {time : Int} {row params row2 params2 : List Val} {op n : Int} {s : ByteArray} {vs : List Val} (h3 : op = 3 → row2.getD n.toNat zeroV = row.getD n.toNat zeroV) (h4 : op = 4 → params2.getD n.toNat zeroV = params.getD n.toNat zeroV) :
    opV call time row2 params2 op n s vs = opV call time row params op n s vs := by
  unfold opV
  by_cases e3 : op = 3
  · subst e3; rw [h3 rfl]; rfl
  · by_cases e4 : op = 4
    · subst e4; rw [h4 rfl]; rfl
    · simp only [if_neg e3, if_neg e4]
section
variable {F : List Fn} {call : Int → List Val → Val} {time : Int} {L : List Ex} {op : Int} {c1 p1 c2 p2 : List Int} {R1 P1 R2 P2 : List Val}
mutual
theorem put_sem (hop : op = 3 ∨ op = 4)
    (h3 : ∀ n t, pickT c1 n = some t → if op = 3 then (∀ x, L[n.toNat]? = some x → ty F c2 p2 x = some t ∧ ev call time R2 P2 x = R1.getD n.toNat zeroV) else (pickT c2 n = some t ∧ R2.getD n.toNat zeroV = R1.getD n.toNat zeroV))
    (h4 : ∀ n t, pickT p1 n = some t → if op = 4 then (∀ x, L[n.toNat]? = some x → ty F c2 p2 x = some t ∧ ev call time R2 P2 x = P1.getD n.toNat zeroV) else (pickT p2 n = some t ∧ P2.getD n.toNat zeroV = P1.getD n.toNat zeroV)) :
    ∀ (e : Ex) {x : Ex} {t : Int}, putP op L e = some x → ty F c1 p1 e = some t → ty F c2 p2 x = some t ∧ ev call time R2 P2 x = ev call time R1 P1 e
  | .mk o n s l, x, t, hx, ht => by
    rw [ty] at ht
    cases hl : tys F c1 p1 l with
    | none => rw [hl] at ht; cases ht
    | some ts =>
      rw [hl] at ht
      dsimp only at ht
      rw [putP] at hx
      by_cases ho : o = op
      · rw [if_pos ho] at hx
        split at hx
        · cases hx
        · subst ho
          have hp := tailT_col hop ht
          rw [ev_colp call time R1 P1 n s l hop]
          by_cases e3 : o = 3
          · rw [if_pos e3] at hp ⊢
            have := h3 n t hp
            rw [if_pos e3] at this
            exact this x hx
          · rw [if_neg e3] at hp ⊢
            have := h4 n t hp
            rw [if_pos (by omega)] at this
            exact this x hx
      · rw [if_neg ho] at hx
        cases hl2 : putPs op L l with
        | none => rw [hl2] at hx; cases hx
        | some l' =>
          rw [hl2] at hx
          cases hx
          obtain ⟨i1, i2⟩ := puts_sem hop h3 h4 l hl2 hl
          have k3 : o = 3 → pickT c1 n = some t → pickT c2 n = some t ∧ R2.getD n.toNat zeroV = R1.getD n.toNat zeroV := fun e3 hp => by
            have := h3 n t hp
            rw [if_neg (by omega)] at this
            exact this
          have k4 : o = 4 → pickT p1 n = some t → pickT p2 n = some t ∧ P2.getD n.toNat zeroV = P1.getD n.toNat zeroV := fun e4 hp => by
            have := h4 n t hp
            rw [if_neg (by omega)] at this
            exact this
          refine ⟨?_, ?_⟩
          · rw [ty, i1]
            exact qej (fun a b => (k3 a b).1) (fun a b => (k4 a b).1) ht
          · rw [ev, ev, i2]
            split
            · rfl
            · refine opV_other (fun e3 => ?_) (fun e4 => ?_)
              · have := tailT_col (.inl e3) ht
                rw [if_pos e3] at this
                exact (k3 e3 this).2
              · have := tailT_col (.inr e4) ht
                rw [if_neg (by omega)] at this
                exact (k4 e4 this).2
theorem puts_sem (hop : op = 3 ∨ op = 4)
    (h3 : ∀ n t, pickT c1 n = some t → if op = 3 then (∀ x, L[n.toNat]? = some x → ty F c2 p2 x = some t ∧ ev call time R2 P2 x = R1.getD n.toNat zeroV) else (pickT c2 n = some t ∧ R2.getD n.toNat zeroV = R1.getD n.toNat zeroV))
    (h4 : ∀ n t, pickT p1 n = some t → if op = 4 then (∀ x, L[n.toNat]? = some x → ty F c2 p2 x = some t ∧ ev call time R2 P2 x = P1.getD n.toNat zeroV) else (pickT p2 n = some t ∧ P2.getD n.toNat zeroV = P1.getD n.toNat zeroV)) :
    ∀ (l : List Ex) {xs : List Ex} {ts : List Int}, putPs op L l = some xs → tys F c1 p1 l = some ts → tys F c2 p2 xs = some ts ∧ evs call time R2 P2 xs = evs call time R1 P1 l
  | [], xs, ts, hx, ht => by
    rw [putPs] at hx; cases hx
    rw [tys] at ht; cases ht
    rw [tys, evs, evs]; exact ⟨rfl, rfl⟩
  | e :: l, xs, ts, hx, ht => by
    rw [tys] at ht
    cases he : ty F c1 p1 e with
    | none => rw [he] at ht; cases ht
    | some t =>
      rw [he] at ht
      cases hl : tys F c1 p1 l with
      | none => rw [hl] at ht; cases ht
      | some us =>
        rw [hl] at ht; cases ht
        rw [putPs] at hx
        cases hx1 : putP op L e with
        | none => rw [hx1] at hx; cases hx
        | some x =>
          rw [hx1] at hx
          cases hx2 : putPs op L l with
          | none => rw [hx2] at hx; cases hx
          | some l' =>
            rw [hx2] at hx; cases hx
            obtain ⟨i1, i2⟩ := put_sem hop h3 h4 e hx1 he
            obtain ⟨j1, j2⟩ := puts_sem hop h3 h4 l hx2 hl
            rw [tys, i1, j1, evs, evs, i2, j2]
            exact ⟨rfl, rfl⟩
end
end
end Go.Proofs.YtgpcpmfdklpifaaGreatDoor

/- Layer 25 on plain data: programs of the bytecode, when they are right, and what they compute. -/
namespace Go.Proofs.YtgpcpmfdklpifaaGreatDoor
open Go.RowKit Go.Lib
def opOk (o : Int) : Bool := decide (0 ≤ o) && decide (o ≤ 21) && decide (o ≠ 4)
def arO (o : Int) : Nat := if o = 0 ∨ o = 1 ∨ o = 2 ∨ o = 3 ∨ o = 5 then 0 else if o = 6 ∨ o = 7 ∨ o = 20 then 1 else if o = 21 then 3 else 2
theorem qdd (o : Int) : arO o ≤ 3 := by unfold arO; (repeat' split) <;> omega
def opsP (x : Ins) : List Int := if opOk x.op then [x.a, x.b, x.c].take (arO x.op) else []
def qbh (x : Ins) : Bool :=
  opOk x.op && (decide (arO x.op < 3 → x.c = 0) && decide (arO x.op < 2 → x.b = 0) && decide (arO x.op < 1 → x.a = 0)) &&
  (if x.op = 0 ∨ x.op = 3 then decide (x.s.size = 0) else if x.op = 2 then decide (x.s.size = 0) && decide (x.n = 0 ∨ x.n = 1)
   else if x.op = 1 then decide (x.n = 0) && decide (x.s.size ≤ 200) else decide (x.n = 0) && decide (x.s.size = 0))
def qba (r : Int) : Ex := .mk 4 r ByteArray.empty []
def exI (x : Ins) : Ex := .mk x.op x.n x.s ((opsP x).map qba)
def tyI (cols types : List Int) (x : Ins) : Option Int := typeP [] cols types (exI x)
def verI (cols types : List Int) (done : List Bool) (x : Ins) : Int :=
  if qbh x = false then 2
  else if (x.tgt :: opsP x).any (fun r => decide (r < 0) || decide ((types.length : Int) ≤ r)) then 3
  else if x.op = 3 ∧ (x.n < 0 ∨ (cols.length : Int) ≤ x.n) then 3
  else if (opsP x).any (fun r => !done.getD r.toNat false) then 25
  else if tyI cols types x = some (types.getD x.tgt.toNat 0) then 0 else 13
def verL (cols types : List Int) : List Ins → Nat → List Bool → (Int × Int) × List Bool
  | [], _, done => ((-1, 0), done)
  | x :: l, i, done => if verI cols types done x = 0 then verL cols types l (i + 1) (done.set x.tgt.toNat true) else (((i : Int), verI cols types done x), done)
def verP (c : Cod) (cols : List Int) : Int × Int :=
  if 1000 < c.ins.length ∨ 1000 < c.types.length then (-1, 6)
  else if c.types.any (fun t => decide (t < 0) || decide (3 ≤ t)) then (-1, 13)
  else
    let r := verL cols c.types c.ins 0 (List.replicate c.types.length false)
    if r.1.2 ≠ 0 then r.1
    else if c.out < 0 ∨ (c.types.length : Int) ≤ c.out then (-1, 3)
    else if r.2.getD c.out.toNat false = false then (-1, 25) else (-1, 0)
def opI (time : Int) (row : List Val) (x : Ins) (vs : List Val) : Val := if x.op = 21 then ifV vs else opV (fun _ _ => zeroV) time row [] x.op x.n x.s vs
def argsI (regs : List Val) (x : Ins) : List Val := (opsP x).map fun r => regs.getD r.toNat zeroV
def stepI (time : Int) (row : List Val) (regs : List Val) (x : Ins) : List Val := regs.set x.tgt.toNat (opI time row x (argsI regs x))
def regsI (time : Int) (row : List Val) (l : List Ins) (regs : List Val) : List Val := l.foldl (stepI time row) regs
def valC (c : Cod) (time : Int) (row : List Val) : Val := (regsI time row c.ins (List.replicate c.types.length zeroV)).getD c.out.toNat zeroV
def qdc (types : List Int) (done : List Bool) (regs : List Val) : Prop :=
  regs.length = types.length ∧ done.length = types.length ∧ ∀ r : Nat, done.getD r false = true → (regs.getD r zeroV).k = types.getD r 0 ∧ qbf (regs.getD r zeroV)
structure InsOk (cols types : List Int) (done : List Bool) (x : Ins) : Prop where
  form : qbh x = true
  to0 : 0 ≤ x.tgt
  to1 : x.tgt < types.length
  args : ∀ r ∈ opsP x, 0 ≤ r ∧ r < types.length ∧ done.getD r.toNat false = true
  col : x.op = 3 → 0 ≤ x.n ∧ x.n < cols.length
  typ : tyI cols types x = some (types.getD x.tgt.toNat 0)
theorem verI_ok {cols types : List Int} {done : List Bool} {x : Ins} (h : verI cols types done x = 0) : InsOk cols types done x := by
  unfold verI at h
  split at h
  · cases h
  rename_i h1
  split at h
  · cases h
  rename_i h2
  split at h
  · cases h
  rename_i h3
  split at h
  · cases h
  rename_i h4
  split at h
  · rename_i h5
    rw [Bool.not_eq_true, List.any_eq_false] at h2 h4
    have h6 := h2 x.tgt (by simp)
    simp only [Bool.or_eq_true, decide_eq_true_eq, not_or] at h6
    refine ⟨by simpa using h1, by omega, by omega, fun r hr => ?_, fun h0 => by omega, h5⟩
    have h7 := h2 r (by simp [hr])
    have h8 := h4 r hr
    simp only [Bool.or_eq_true, decide_eq_true_eq, not_or] at h7
    refine ⟨by omega, by omega, by simpa using h8⟩
  · cases h
theorem InsOk.ver {cols types : List Int} {done : List Bool} {x : Ins} (h : InsOk cols types done x) : verI cols types done x = 0 := by
  unfold verI
  rw [if_neg (by rw [h.form]; simp), if_neg, if_neg, if_neg, if_pos h.typ]
  · rw [Bool.not_eq_true, List.any_eq_false]
    intro r hr
    rw [(h.args r hr).2.2]; simp
  · rintro ⟨h3, h4⟩
    have := h.col h3; omega
  · rw [Bool.not_eq_true, List.any_eq_false]
    intro r hr
    simp only [Bool.or_eq_true, decide_eq_true_eq, not_or]
    rcases List.mem_cons.1 hr with rfl | hr
    · have := h.to0; have := h.to1; omega
    · have := h.args r hr; omega
theorem InsOk.op {cols types : List Int} {done : List Bool} {x : Ins} (h : InsOk cols types done x) : 0 ≤ x.op ∧ x.op ≤ 21 ∧ x.op ≠ 4 := by
  have := h.form
  unfold qbh at this
  simp only [Bool.and_eq_true] at this
  have h2 := this.1.1
  unfold opOk at h2
  simp only [Bool.and_eq_true, decide_eq_true_eq] at h2
  exact ⟨h2.1.1, h2.1.2, h2.2⟩
theorem rightF_nil : qdj [] = true := by unfold qdj; simp
theorem tys_params {cols types : List Int} : ∀ (l : List Int) {ts : List Int}, tys [] cols types (l.map qba) = some ts → ts = l.map fun r => types.getD r.toNat 0
  | [], ts, h => by rw [List.map_nil, tys] at h; cases h; rfl
  | r :: l, ts, h => by
    rw [List.map_cons, tys] at h
    cases hr : ty [] cols types (qba r) with
    | none => rw [hr] at h; cases h
    | some t =>
      rw [hr] at h
      cases hl : tys [] cols types (l.map qba) with
      | none => rw [hl] at h; cases h
      | some us =>
        rw [hl] at h
        cases h
        rw [List.map_cons, ← tys_params l hl]
        congr 1
        unfold qba at hr
        rw [ty] at hr
        simp only [tys] at hr
        have h2 := tailT_col (.inr rfl) hr
        rw [if_neg (by decide)] at h2
        obtain ⟨h3, h4⟩ : 0 ≤ r ∧ types[r.toNat]? = some t := by
          unfold pickT at h2
          split at h2
          · cases h2
          · cases hv : types[r.toNat]? with
            | none => rw [hv] at h2; cases h2
            | some v =>
              rw [hv] at h2; dsimp only at h2
              split at h2
              · cases h2; exact ⟨by omega, rfl⟩
              · cases h2
        rw [List.getD_eq_getElem?_getD, h4]; rfl
theorem InsOk.tail {cols types : List Int} {done : List Bool} {x : Ins} (h : InsOk cols types done x) : tailT [] cols types x.op x.n x.s ((opsP x).map fun r => types.getD r.toNat 0) = some (types.getD x.tgt.toNat 0) := by
  have := h.typ
  unfold tyI typeP at this
  rw [if_pos rightF_nil] at this
  unfold tyD at this
  split at this
  · cases this
  unfold exI at this
  rw [ty] at this
  cases hl : tys [] cols types ((opsP x).map qba) with
  | none => rw [hl] at this; cases this
  | some ts =>
    rw [hl] at this
    dsimp only at this
    rw [tys_params _ hl] at this
    exact this
theorem tail_sound {cols types : List Int} {row : List Val} (hrow : qch cols row) {x : Ins} {t : Int} {time : Int} {vs : List Val} (hop : x.op ≠ 4) (hs : ∀ v ∈ vs, qbf v) (h : tailT [] cols types x.op x.n x.s (vs.map Val.k) = some t) :
    (opI time row x vs).k = t ∧ qbf (opI time row x vs) := by
  have h22 : x.op ≠ 22 := by
    intro e
    unfold tailT at h
    split at h
    · cases h
    · unfold callT at h
      split at h
      · cases h
      · simp at h
  have h2 : tailT [] cols [] x.op x.n x.s (vs.map Val.k) = some t := qej (fun _ h => h) (fun e => absurd e hop) h
  unfold tailT at h2
  split at h2
  · cases h2
  unfold opI
  split at h2
  · rename_i hnil
    obtain rfl : vs = [] := by simpa using hnil
    obtain ⟨h21, -, h3⟩ := leaf_fit (call := fun _ _ => zeroV) (time := time) (params := []) hrow rfl (by simp) h2
    rw [if_neg h21]; exact h3
  · exact (oper_sound (call := fun _ _ => zeroV) (time := time) (row := row) (params := []) hs h2).2
theorem qdc.args {types : List Int} {done : List Bool} {regs : List Val} (h : qdc types done regs) {cols : List Int} {x : Ins} (hx : InsOk cols types done x) :
    (argsI regs x).map Val.k = (opsP x).map (fun r => types.getD r.toNat 0) ∧ ∀ v ∈ argsI regs x, qbf v := by
  unfold argsI
  constructor
  · rw [List.map_map]
    exact List.map_congr_left fun r hr => (h.2.2 r.toNat (hx.args r hr).2.2).1
  · intro v hv
    obtain ⟨r, hr, rfl⟩ := List.mem_map.1 hv
    exact (h.2.2 r.toNat (hx.args r hr).2.2).2
theorem qdc.res {cols types : List Int} {row : List Val} (hrow : qch cols row) {done : List Bool} {regs : List Val} (h : qdc types done regs) {x : Ins} (hx : InsOk cols types done x) (time : Int) :
    (opI time row x (argsI regs x)).k = types.getD x.tgt.toNat 0 ∧ qbf (opI time row x (argsI regs x)) := by
  obtain ⟨h1, h2⟩ := h.args hx
  exact tail_sound hrow hx.op.2.2 h2 (by rw [h1]; exact hx.tail)
theorem qu {α : Type} (l : List α) (i j : Nat) (a d : α) : (l.set i a).getD j d = if i = j ∧ i < l.length then a else l.getD j d := by
  rw [List.getD_eq_getElem?_getD, List.getElem?_set]
  split
  · rename_i h; subst h
    split
    · rename_i h2; rw [if_pos ⟨rfl, h2⟩]; rfl
    · rename_i h2; rw [if_neg (by rintro ⟨-, h3⟩; exact h2 h3), List.getD_eq_getElem?_getD, List.getElem?_eq_none (by omega)]
  · rename_i h; rw [if_neg (by rintro ⟨h2, -⟩; exact h h2), List.getD_eq_getElem?_getD]
theorem qdc.step {cols types : List Int} {row : List Val} (hrow : qch cols row) {done : List Bool} {regs : List Val} (h : qdc types done regs) {x : Ins} (hx : InsOk cols types done x) (time : Int) : qdc types (done.set x.tgt.toNat true) (stepI time row regs x) := by
  obtain ⟨h1, h2, h3⟩ := h
  refine ⟨by rw [stepI, List.length_set]; exact h1, by rw [List.length_set]; exact h2, fun r hr => ?_⟩
  have hto := hx.to1
  have hto0 := hx.to0
  rw [qu] at hr
  rw [stepI, qu]
  by_cases he : x.tgt.toNat = r
  · rw [if_pos ⟨he, by omega⟩, ← he]
    exact qdc.res hrow ⟨h1, h2, h3⟩ hx time
  · rw [if_neg (fun h => he h.1)] at hr ⊢
    exact h3 r hr
theorem regsOk_start (types : List Int) : qdc types (List.replicate types.length false) (List.replicate types.length zeroV) := by
  refine ⟨by simp, by simp, fun r hr => ?_⟩
  rw [List.getD_eq_getElem?_getD, List.getElem?_replicate] at hr
  split at hr <;> cases hr
def AllOk (cols types : List Int) : List Ins → List Bool → Prop
  | [], _ => True
  | x :: l, done => InsOk cols types done x ∧ AllOk cols types l (done.set x.tgt.toNat true)
def doneL : List Ins → List Bool → List Bool
  | [], done => done
  | x :: l, done => doneL l (done.set x.tgt.toNat true)
theorem verL_ok {cols types : List Int} : ∀ (l : List Ins) (i : Nat) (done : List Bool), (verL cols types l i done).1.2 = 0 → AllOk cols types l done ∧ verL cols types l i done = ((-1, 0), doneL l done)
  | [], i, done, _ => ⟨trivial, rfl⟩
  | x :: l, i, done, h => by
    rw [verL] at h ⊢
    split at h
    · rename_i h0
      rw [if_pos h0]
      obtain ⟨h1, h2⟩ := verL_ok l (i + 1) _ h
      exact ⟨⟨verI_ok h0, h1⟩, h2⟩
    · rename_i h0
      exact absurd h h0
theorem AllOk.verL {cols types : List Int} : ∀ (l : List Ins) (i : Nat) (done : List Bool), AllOk cols types l done → verL cols types l i done = ((-1, 0), doneL l done)
  | [], i, done, _ => rfl
  | x :: l, i, done, h => by
    rw [Proofs.YtgpcpmfdklpifaaGreatDoor.verL, if_pos h.1.ver]
    exact AllOk.verL l (i + 1) _ h.2
structure CodOk (c : Cod) (cols : List Int) : Prop where
  ni : c.ins.length ≤ 1000
  nt : c.types.length ≤ 1000
  kinds : ∀ t ∈ c.types, 0 ≤ t ∧ t < 3
  all : AllOk cols c.types c.ins (List.replicate c.types.length false)
  out0 : 0 ≤ c.out
  out1 : c.out < c.types.length
  out2 : (doneL c.ins (List.replicate c.types.length false)).getD c.out.toNat false = true
theorem verP_ok {c : Cod} {cols : List Int} : (verP c cols).2 = 0 ↔ CodOk c cols := by
  unfold verP
  constructor
  · intro h
    split at h
    · cases h
    rename_i h1
    split at h
    · cases h
    rename_i h2
    dsimp only at h
    split at h
    · rename_i h3; exact absurd h h3
    rename_i h3
    split at h
    · cases h
    rename_i h4
    split at h
    · cases h
    rename_i h5
    obtain ⟨h6, h7⟩ := verL_ok _ _ _ (Decidable.not_not.1 h3)
    rw [h7] at h5
    refine ⟨by omega, by omega, fun t ht => ?_, h6, by omega, by omega, by simpa using h5⟩
    rw [Bool.not_eq_true, List.any_eq_false] at h2
    have := h2 t ht
    simp only [Bool.or_eq_true, decide_eq_true_eq, not_or] at this
    omega
  · intro h
    have h7 := AllOk.verL c.ins 0 _ h.all
    rw [if_neg (by have := h.ni; have := h.nt; omega), if_neg, h7]
    · dsimp only
      rw [if_neg (by simp), if_neg (by have := h.out0; have := h.out1; omega), if_neg (by rw [h.out2]; simp)]
    · rw [Bool.not_eq_true, List.any_eq_false]
      intro t ht
      have := h.kinds t ht
      simp only [Bool.or_eq_true, decide_eq_true_eq, not_or]; omega
theorem AllOk.regs {cols types : List Int} {row : List Val} (hrow : qch cols row) (time : Int) : ∀ (l : List Ins) {done : List Bool} {regs : List Val}, AllOk cols types l done → qdc types done regs → qdc types (doneL l done) (regsI time row l regs)
  | [], _, _, _, h => h
  | x :: l, done, regs, h, hr => AllOk.regs hrow time l h.2 (hr.step hrow h.1 time)
theorem CodOk.val {c : Cod} {cols : List Int} {row : List Val} (h : CodOk c cols) (hrow : qch cols row) (time : Int) : (valC c time row).k = c.types.getD c.out.toNat 0 ∧ qbf (valC c time row) :=
  (AllOk.regs hrow time c.ins h.all (regsOk_start c.types)).2.2 _ h.out2
end Go.Proofs.YtgpcpmfdklpifaaGreatDoor

/- What inlining returns has the value of the expression, on plain data. -/
namespace Go.Proofs.YtgpcpmfdklpifaaGreatDoor
open Go.RowKit Go.Lib
end Go.Proofs.YtgpcpmfdklpifaaGreatDoor

/- What Inline returns has the value of the expression. -/
namespace Go.Proofs.YtgpcpmfdklpifaaGreatDoor
open Go.RowKit Go.Lib
end Go.Proofs.YtgpcpmfdklpifaaGreatDoor

/- Layer 16 on plain data: equal expressions. -/
namespace Go.Proofs.YtgpcpmfdklpifaaGreatDoor
open Go.RowKit Go.Lib
mutual
def sameB : Ex → Ex → Bool
  | .mk o n s l, .mk o2 n2 s2 l2 => decide (o = o2) && (decide (n = n2) && (decide (s.toList = s2.toList) && sameBs l l2))
def sameBs : List Ex → List Ex → Bool
  | [], [] => true
  | e :: l, e2 :: l2 => sameB e e2 && sameBs l l2
  | _, _ => false
end
end Go.Proofs.YtgpcpmfdklpifaaGreatDoor

/- Layer 26 on plain data: folding keeps the type and the value. -/
namespace Go.Proofs.YtgpcpmfdklpifaaGreatDoor
open Go.RowKit Go.Lib
def constE (e : Ex) : Bool := decide (e.op = 0) || (decide (e.op = 1) || decide (e.op = 2))
def constV (v : Val) : Ex := if v.k = 0 then .mk 0 v.n ByteArray.empty [] else if v.k = 1 then .mk 1 0 v.s [] else if v.k = 2 then .mk 2 v.n ByteArray.empty [] else zeroE
def choiceP (o n : Int) (s : ByteArray) (l : List Ex) : Ex := match l with
  | [a, b, c] => if (constE a = true ∧ a.n = 1) ∨ sameB b c = true then b else if constE a = true then c else .mk o n s l
  | _ => .mk o n s l
def logicP (o n : Int) (s : ByteArray) (l : List Ex) : Ex := match l with
  | [a, b] => if constE a = true then (if decide (a.n = 1) = decide (o = 17) then b else a) else if constE b = true then (if decide (b.n = 1) = decide (o = 17) then a else b) else .mk o n s l
  | _ => .mk o n s l
def notP (o n : Int) (s : ByteArray) (l : List Ex) : Ex := match l with
  | [.mk o2 n2 s2 l2] => if o2 = 6 then (match l2 with | [x] => x | _ => .mk o n s l) else .mk o n s l
  | _ => .mk o n s l
def topF (o n : Int) (s : ByteArray) (l : List Ex) : Ex :=
  if l = [] then .mk o n s []
  else if o ≠ 22 ∧ l.all constE = true then constV (evalP [] 0 [] (.mk o n s l))
  else if o = 21 then choiceP o n s l
  else if o = 17 ∨ o = 18 then logicP o n s l
  else if o = 6 then notP o n s l
  else .mk o n s l
mutual
def foldE : Ex → Ex
  | .mk o n s l => topF o n s (foldL l)
def foldL : List Ex → List Ex
  | [] => []
  | e :: l => foldE e :: foldL l
end
theorem size_empty {s : ByteArray} (h : s.size = 0) : s = ByteArray.empty := by
  apply WideShapes.bytes_inj
  have : s.data.toList.length = 0 := by rw [Array.length_toList]; exact h
  rw [List.length_eq_zero_iff.1 this]; rfl
end Go.Proofs.YtgpcpmfdklpifaaGreatDoor

/- Layer 25 on plain data: the results of a program, one after the other; where each operand comes from. -/
namespace Go.Proofs.YtgpcpmfdklpifaaGreatDoor
open Go.RowKit Go.Lib
structure Nd where
  x : Ins
  src : List Nat
def resN (time : Int) (row : List Val) : List Nd → List Val → List Val
  | [], acc => acc
  | d :: l, acc => resN time row l (acc ++ [opI time row d.x (d.src.map fun k => acc.getD k zeroV)])
def nodes : List Ins → Nat → List Nat → List Nd
  | [], _, _ => []
  | x :: l, i, last => ⟨x, (opsP x).map fun r => last.getD r.toNat 0⟩ :: nodes l (i + 1) (last.set x.tgt.toNat i)
def lastL : List Ins → Nat → List Nat → List Nat
  | [], _, last => last
  | x :: l, i, last => lastL l (i + 1) (last.set x.tgt.toNat i)
theorem resN_len (time : Int) (row : List Val) : ∀ (l : List Nd) (acc : List Val), (resN time row l acc).length = acc.length + l.length
  | [], acc => rfl
  | d :: l, acc => by rw [resN, resN_len time row l]; simp; omega
theorem qx : ∀ (l : List Ins) (i : Nat) (last : List Nat), (nodes l i last).length = l.length
  | [], _, _ => rfl
  | x :: l, i, last => by rw [nodes, List.length_cons, qx l, List.length_cons]
theorem resN_append (time : Int) (row : List Val) : ∀ (a b : List Nd) (acc : List Val), resN time row (a ++ b) acc = resN time row b (resN time row a acc)
  | [], b, acc => rfl
  | d :: a, b, acc => by rw [List.cons_append, resN, resN, resN_append time row a b]
def Agree (done : List Bool) (regs : List Val) (last : List Nat) (acc : List Val) : Prop :=
  done.length = regs.length ∧ last.length = regs.length ∧ ∀ r : Nat, done.getD r false = true → last.getD r 0 < acc.length ∧ regs.getD r zeroV = acc.getD (last.getD r 0) zeroV
theorem Agree.args {cols types : List Int} {done : List Bool} {regs : List Val} {last : List Nat} {acc : List Val} (h : Agree done regs last acc) {x : Ins} (hx : InsOk cols types done x) :
    ((opsP x).map fun r => last.getD r.toNat 0).map (fun k => acc.getD k zeroV) = argsI regs x := by
  unfold argsI
  rw [List.map_map]
  exact List.map_congr_left fun r hr => (h.2.2 r.toNat (hx.args r hr).2.2).2.symm
theorem Agree.step {cols types : List Int} {done : List Bool} {regs : List Val} {last : List Nat} {acc : List Val} (h : Agree done regs last acc) {x : Ins} (hx : InsOk cols types done x) (hl : regs.length = types.length) (time : Int) (row : List Val) :
    Agree (done.set x.tgt.toNat true) (stepI time row regs x) (last.set x.tgt.toNat acc.length) (acc ++ [opI time row x (argsI regs x)]) := by
  obtain ⟨h1, h2, h3⟩ := h
  have h0 := hx.to0
  have h4 := hx.to1
  refine ⟨by simp [stepI, h1], by simp [stepI, h2], fun r hr => ?_⟩
  rw [qu] at hr
  rw [stepI, qu, qu]
  by_cases he : x.tgt.toNat = r
  · rw [if_pos ⟨he, by omega⟩, if_pos ⟨he, by omega⟩]
    refine ⟨by simp, ?_⟩
    rw [List.getD_eq_getElem?_getD, List.getElem?_append_right (Nat.le_refl _)]; simp
  · rw [if_neg (fun h => he h.1)] at hr
    rw [if_neg (fun h => he h.1), if_neg (fun h => he h.1)]
    obtain ⟨h5, h6⟩ := h3 r hr
    refine ⟨by rw [List.length_append]; exact Nat.lt_of_lt_of_le h5 (Nat.le_add_right _ _), ?_⟩
    rw [h6, List.getD_eq_getElem?_getD (l := acc ++ _), List.getElem?_append_left h5, List.getD_eq_getElem?_getD]
theorem agree_all {cols types : List Int} (time : Int) (row : List Val) : ∀ (l : List Ins) {done : List Bool} {regs : List Val} {last : List Nat} {acc : List Val}, AllOk cols types l done → regs.length = types.length → Agree done regs last acc →
    Agree (doneL l done) (regsI time row l regs) (lastL l acc.length last) (resN time row (nodes l acc.length last) acc)
  | [], _, _, _, _, _, _, h => h
  | x :: l, done, regs, last, acc, ha, hl, h => by
    have h1 := h.step ha.1 hl time row
    have h2 := agree_all time row l ha.2 (by rw [stepI, List.length_set]; exact hl) h1
    rw [List.length_append, List.length_singleton] at h2
    rw [doneL, lastL, nodes, resN]
    rw [h.args ha.1]
    exact h2
theorem agree_start (n : Nat) : Agree (List.replicate n false) (List.replicate n zeroV) (List.replicate n 0) [] := by
  refine ⟨by simp, by simp, fun r hr => ?_⟩
  rw [List.getD_eq_getElem?_getD, List.getElem?_replicate] at hr
  split at hr <;> cases hr
def qt (c : Cod) : List Nd := nodes c.ins 0 (List.replicate c.types.length 0)
def rootC (c : Cod) : Nat := (lastL c.ins 0 (List.replicate c.types.length 0)).getD c.out.toNat 0
theorem CodOk.val_res {c : Cod} {cols : List Int} (h : CodOk c cols) (time : Int) (row : List Val) : rootC c < c.ins.length ∧ valC c time row = (resN time row (qt c) []).getD (rootC c) zeroV := by
  have h1 := agree_all time row c.ins h.all (by simp) (agree_start c.types.length)
  obtain ⟨h2, h3⟩ := h1.2.2 _ h.out2
  rw [resN_len, qx] at h2
  simp only [List.length_nil, Nat.zero_add] at h2
  exact ⟨h2, h3⟩
end Go.Proofs.YtgpcpmfdklpifaaGreatDoor

/- Layer 25 on plain data: which instructions are needed; Trim keeps the value. -/
namespace Go.Proofs.YtgpcpmfdklpifaaGreatDoor
open Go.RowKit Go.Lib
def qbi (need : List Bool) (ks : List Nat) : List Bool := ks.foldl (fun nd k => nd.set k true) need
theorem qbs : ∀ (ks : List Nat) (need : List Bool), (qbi need ks).length = need.length
  | [], _ => rfl
  | k :: ks, need => by unfold qbi; rw [List.foldl_cons]; have := qbs ks (need.set k true); unfold qbi at this; rw [this]; simp
theorem qda : ∀ (ks : List Nat) (need : List Bool) (j : Nat), j < need.length → ((qbi need ks).getD j false = true ↔ need.getD j false = true ∨ j ∈ ks)
  | [], need, j, _ => by simp [qbi]
  | k :: ks, need, j, h => by
    have := qda ks (need.set k true) j (by simpa using h)
    unfold qbi at this ⊢
    rw [List.foldl_cons, this, qu, List.mem_cons]
    by_cases hk : k = j
    · subst hk; simp [h]
    · rw [if_neg (fun h => hk h.1)]
      constructor
      · rintro (h | h)
        · exact .inl h
        · exact .inr (.inr h)
      · rintro (h | h | h)
        · exact .inl h
        · exact absurd h.symm hk
        · exact .inr h
def needI (ds : List Nd) : Nat → List Bool → List Bool
  | 0, need => need
  | i + 1, need => needI ds i (if need.getD i false then qbi need ((ds.getD i ⟨⟨0, 0, 0, 0, 0, 0, ByteArray.empty⟩, []⟩).src) else need)
def needP (ds : List Nd) (root : Nat) : List Bool := needI ds ds.length ((List.replicate ds.length false).set root true)
def srcOf (ds : List Nd) (i : Nat) : List Nat := (ds.getD i ⟨⟨0, 0, 0, 0, 0, 0, ByteArray.empty⟩, []⟩).src
def Early (ds : List Nd) : Prop := ∀ i, i < ds.length → ∀ k ∈ srcOf ds i, k < i
theorem needI_len (ds : List Nd) : ∀ (i : Nat) (need : List Bool), (needI ds i need).length = need.length
  | 0, _ => rfl
  | i + 1, need => by rw [needI, needI_len ds i]; split <;> simp [qbs]
theorem needI_ge {ds : List Nd} (he : Early ds) : ∀ (i : Nat) (need : List Bool), i ≤ ds.length → need.length = ds.length → ∀ j, (i ≤ j → (needI ds i need).getD j false = need.getD j false) ∧ (need.getD j false = true → (needI ds i need).getD j false = true)
  | 0, _, _, _, j => ⟨fun _ => rfl, fun h => h⟩
  | i + 1, need, hi, hl, j => by
    rw [needI]
    split
    · obtain ⟨h1, h2⟩ := needI_ge he i (qbi need (srcOf ds i)) (by omega) (by rw [qbs]; exact hl) j
      by_cases hj : j < need.length
      · have h3 := qda (srcOf ds i) need j hj
        refine ⟨fun h => (h1 (by omega)).trans ?_, fun h => h2 (h3.2 (.inl h))⟩
        rw [Bool.eq_iff_iff, h3]
        exact ⟨fun h4 => h4.elim id fun h5 => absurd (he i (by omega) j h5) (by omega), .inl⟩
      · have e1 : (needI ds i (qbi need (srcOf ds i))).getD j false = false := by rw [List.getD_eq_getElem?_getD, List.getElem?_eq_none (by rw [needI_len, qbs]; omega)]; rfl
        have e2 : need.getD j false = false := by rw [List.getD_eq_getElem?_getD, List.getElem?_eq_none (by omega)]; rfl
        unfold srcOf at e1
        rw [e1, e2]; simp
    · obtain ⟨h1, h2⟩ := needI_ge he i need (by omega) hl j
      exact ⟨fun h => h1 (by omega), h2⟩
theorem needI_closed {ds : List Nd} (he : Early ds) : ∀ (i : Nat) (need : List Bool), i ≤ ds.length → need.length = ds.length → (∀ j, i ≤ j → j < ds.length → need.getD j false = true → ∀ k ∈ srcOf ds j, need.getD k false = true) →
    ∀ j, j < ds.length → (needI ds i need).getD j false = true → ∀ k ∈ srcOf ds j, (needI ds i need).getD k false = true
  | 0, need, _, _, h => fun j hj => h j (by omega) hj
  | i + 1, need, hi, hl, h => by
    rw [needI]
    split
    · rename_i hn
      refine needI_closed he i _ (by omega) (by rw [qbs]; exact hl) fun j hij hj hnj k hk => ?_
      have hkj := he j hj k hk
      change (qbi need (srcOf ds i)).getD j false = true at hnj
      change (qbi need (srcOf ds i)).getD k false = true
      rw [qda _ _ _ (by omega)] at hnj ⊢
      by_cases hji : j = i
      · subst hji; exact .inr hk
      · rcases hnj with hnj | hnj
        · exact .inl (h j (by omega) hj hnj k hk)
        · exact absurd (he i (by omega) j hnj) (by omega)
    · rename_i hn
      refine needI_closed he i _ (by omega) hl fun j hij hj hnj k hk => ?_
      by_cases hji : j = i
      · subst hji; exact absurd hnj hn
      · exact h j (by omega) hj hnj k hk
theorem needP_len (ds : List Nd) (root : Nat) : (needP ds root).length = ds.length := by unfold needP; rw [needI_len]; simp
theorem needP_root {ds : List Nd} (he : Early ds) {root : Nat} (hr : root < ds.length) : (needP ds root).getD root false = true := by
  refine (needI_ge he ds.length _ (Nat.le_refl _) (by simp) root).2 ?_
  rw [qu, if_pos ⟨rfl, by simpa using hr⟩]
theorem qdp {ds : List Nd} (he : Early ds) (root : Nat) {j : Nat} (hj : j < ds.length) (h : (needP ds root).getD j false = true) : ∀ k ∈ srcOf ds j, (needP ds root).getD k false = true :=
  needI_closed he ds.length _ (Nat.le_refl _) (by simp) (fun j h1 h2 => by omega) j hj h
def trimI (need : List Bool) : List Ins → Nat → List Ins
  | [], _ => []
  | x :: l, i => if need.getD i false then x :: trimI need l (i + 1) else trimI need l (i + 1)
def rank (need : List Bool) : Nat → Nat
  | 0 => 0
  | i + 1 => rank need i + if need.getD i false then 1 else 0
theorem rank_mono (need : List Bool) {i j : Nat} (h : i ≤ j) : rank need i ≤ rank need j := by
  induction j with
  | zero => obtain rfl : i = 0 := by omega
            exact Nat.le_refl _
  | succ j ih =>
    by_cases hij : i = j + 1
    · subst hij; exact Nat.le_refl _
    · have := ih (by omega); rw [rank]; omega
theorem rank_lt (need : List Bool) {i j : Nat} (h : i < j) (hn : need.getD i false = true) : rank need i < rank need j := by
  have h1 := rank_mono need (show i + 1 ≤ j from h)
  rw [rank, if_pos hn] at h1
  omega
theorem trimI_len (need : List Bool) : ∀ (l : List Ins) (i : Nat), (trimI need l i).length + rank need i = rank need (i + l.length)
  | [], i => by simp [trimI]
  | x :: l, i => by
    have := trimI_len need l (i + 1)
    rw [trimI, List.length_cons]
    rw [show i + (l.length + 1) = i + 1 + l.length by omega, ← this, rank]
    split <;> simp <;> omega
structure Trimmed (need : List Bool) (i : Nat) (done done' : List Bool) (last last' : List Nat) (acc acc' : List Val) : Prop where
  al : acc.length = i
  al' : acc'.length = rank need i
  dl : done'.length = done.length
  ll : last'.length = done.length
  l0 : last.length = done.length
  lt : ∀ r : Nat, done.getD r false = true → last.getD r 0 < i
  reg : ∀ r : Nat, done.getD r false = true → need.getD (last.getD r 0) false = true → done'.getD r false = true ∧ last'.getD r 0 = rank need (last.getD r 0)
  res : ∀ j, j < i → need.getD j false = true → acc'.getD (rank need j) zeroV = acc.getD j zeroV
theorem qcd {α : Type} (l : List α) (a d : α) (k : Nat) : (l ++ [a]).getD k d = if k < l.length then l.getD k d else if k = l.length then a else d := by
  rw [List.getD_eq_getElem?_getD]
  split
  · rename_i h; rw [List.getElem?_append_left h, List.getD_eq_getElem?_getD]
  · rename_i h
    rw [List.getElem?_append_right (by omega)]
    split
    · rename_i h2; subst h2; simp
    · rename_i h2
      obtain ⟨m, hm⟩ : ∃ m, k - l.length = m + 1 := ⟨k - l.length - 1, by omega⟩
      rw [hm]; rfl
theorem trim_all {cols types : List Int} (need : List Bool) (time : Int) (row : List Val) : ∀ (l : List Ins) {i : Nat} {done done' : List Bool} {last last' : List Nat} {acc acc' : List Val}, AllOk cols types l done → done.length = types.length →
    (∀ k, k < l.length → need.getD (i + k) false = true → ∀ s ∈ srcOf (nodes l i last) k, need.getD s false = true) → Trimmed need i done done' last last' acc acc' →
    AllOk cols types (trimI need l i) done' ∧ Trimmed need (i + l.length) (doneL l done) (doneL (trimI need l i) done') (lastL l i last) (lastL (trimI need l i) (rank need i) last') (resN time row (nodes l i last) acc) (resN time row (nodes (trimI need l i) (rank need i) last') acc')
  | [], i, _, _, _, _, _, _, _, _, _, h => ⟨trivial, h⟩
  | x :: l, i, done, done', last, last', acc, acc', ha, hdl, hcl, h => by
    have hx := ha.1
    have h0 := hx.to0
    have h1 := hx.to1
    have hcl' : ∀ k, k < l.length → need.getD (i + 1 + k) false = true → ∀ s ∈ srcOf (nodes l (i + 1) (last.set x.tgt.toNat i)) k, need.getD s false = true := fun k hk hn s hs => by
      refine hcl (k + 1) (by simpa using hk) (by rw [show i + (k + 1) = i + 1 + k by omega]; exact hn) s ?_
      rw [nodes]
      unfold srcOf at hs ⊢
      rwa [List.getD_cons_succ]
    have hlt : ∀ r : Nat, (done.set x.tgt.toNat true).getD r false = true → (last.set x.tgt.toNat i).getD r 0 < i + 1 := fun r hr => by
      rw [qu] at hr ⊢
      by_cases he : x.tgt.toNat = r
      · rw [if_pos ⟨he, by rw [h.l0]; omega⟩]; omega
      · rw [if_neg (fun h => he h.1)] at hr ⊢
        have := h.lt r hr; omega
    rw [show i + (x :: l).length = i + 1 + l.length by simp; omega, doneL, lastL, nodes, resN]
    by_cases hn : need.getD i false = true
    · have hsrc : ∀ r ∈ opsP x, need.getD (last.getD r.toNat 0) false = true := fun r hr => hcl 0 (by simp) hn _ (by
        rw [nodes]
        unfold srcOf
        rw [List.getD_cons_zero]
        exact List.mem_map_of_mem hr)
      have hx' : InsOk cols types done' x := ⟨hx.form, hx.to0, hx.to1, fun r hr => ⟨(hx.args r hr).1, (hx.args r hr).2.1, (h.reg r.toNat (hx.args r hr).2.2 (hsrc r hr)).1⟩, hx.col, hx.typ⟩
      have hargs : (opsP x).map (fun r => last'.getD r.toNat 0) = (opsP x).map fun r => rank need (last.getD r.toNat 0) := List.map_congr_left fun r hr => (h.reg r.toNat (hx.args r hr).2.2 (hsrc r hr)).2
      have hvals : ((opsP x).map fun r => last'.getD r.toNat 0).map (fun k => acc'.getD k zeroV) = ((opsP x).map fun r => last.getD r.toNat 0).map (fun k => acc.getD k zeroV) := by
        rw [hargs, List.map_map, List.map_map]
        exact List.map_congr_left fun r hr => h.res _ (h.lt r.toNat (hx.args r hr).2.2) (hsrc r hr)
      have hr1 : rank need (i + 1) = rank need i + 1 := by rw [rank, if_pos hn]
      have hT : Trimmed need (i + 1) (done.set x.tgt.toNat true) (done'.set x.tgt.toNat true) (last.set x.tgt.toNat i) (last'.set x.tgt.toNat (rank need i)) (acc ++ [opI time row x (((opsP x).map fun r => last.getD r.toNat 0).map fun k => acc.getD k zeroV)]) (acc' ++ [opI time row x (((opsP x).map fun r => last'.getD r.toNat 0).map fun k => acc'.getD k zeroV)]) := by
        refine ⟨by simp [h.al], by rw [hr1]; simp [h.al'], by simp [h.dl], by simp [h.ll], by simp [h.l0], hlt, fun r hr hnr => ?_, fun j hj hnj => ?_⟩
        · rw [qu] at hr hnr ⊢
          rw [qu, qu]
          by_cases he : x.tgt.toNat = r
          · rw [if_pos ⟨he, by rw [h.dl]; omega⟩, if_pos ⟨he, by rw [h.ll]; omega⟩, if_pos ⟨he, by rw [h.l0]; omega⟩]
            exact ⟨rfl, rfl⟩
          · rw [if_neg (fun h => he h.1)] at hr hnr
            rw [if_neg (fun h => he h.1), if_neg (fun h => he h.1), if_neg (fun h => he h.1)]
            exact h.reg r hr hnr
        · rw [qcd, qcd, h.al, h.al']
          by_cases hji : j = i
          · subst hji
            rw [if_neg (Nat.lt_irrefl _), if_neg (Nat.lt_irrefl _), if_pos rfl, if_pos rfl, hvals]
          · rw [if_pos (rank_lt need (by omega) hnj), if_pos (by omega)]
            exact h.res j (by omega) hnj
      obtain ⟨g1, g2⟩ := trim_all need time row l ha.2 (by rw [List.length_set]; exact hdl) hcl' hT
      rw [trimI, if_pos hn, doneL, lastL, nodes, resN]
      rw [hr1] at g2
      exact ⟨⟨hx', g1⟩, g2⟩
    · have hr1 : rank need (i + 1) = rank need i := by rw [rank, if_neg hn]; rfl
      have hT : Trimmed need (i + 1) (done.set x.tgt.toNat true) done' (last.set x.tgt.toNat i) last' (acc ++ [opI time row x (((opsP x).map fun r => last.getD r.toNat 0).map fun k => acc.getD k zeroV)]) acc' := by
        refine ⟨by simp [h.al], by rw [hr1]; exact h.al', by simp [h.dl], by simp [h.ll], by simp [h.l0], hlt, fun r hr hnr => ?_, fun j hj hnj => ?_⟩
        · rw [qu] at hr hnr
          rw [qu]
          by_cases he : x.tgt.toNat = r
          · rw [if_pos ⟨he, by rw [h.l0]; omega⟩] at hnr
            exact absurd hnr hn
          · rw [if_neg (fun h => he h.1)] at hr hnr
            rw [if_neg (fun h => he h.1)]
            exact h.reg r hr hnr
        · have hji : j ≠ i := fun e => by subst e; exact hn hnj
          rw [qcd, h.al, if_pos (by omega)]
          exact h.res j (by omega) hnj
      obtain ⟨g1, g2⟩ := trim_all need time row l ha.2 (by rw [List.length_set]; exact hdl) hcl' hT
      rw [trimI, if_neg hn]
      rw [hr1] at g2
      exact ⟨g1, g2⟩
theorem nodes_early {cols types : List Int} : ∀ (l : List Ins) (i : Nat) (done : List Bool) (last : List Nat), AllOk cols types l done → last.length = types.length → done.length = types.length → (∀ r : Nat, done.getD r false = true → last.getD r 0 < i) → ∀ k, k < l.length → ∀ s ∈ srcOf (nodes l i last) k, s < i + k
  | [], _, _, _, _, _, _, _ => fun k hk => by simp at hk
  | x :: l, i, done, last, ha, hl, hd, h => by
    intro k hk s hs
    rw [nodes] at hs
    unfold srcOf at hs
    cases k with
    | zero =>
      rw [List.getD_cons_zero] at hs
      obtain ⟨r, hr, rfl⟩ := List.mem_map.1 hs
      exact h r.toNat (ha.1.args r hr).2.2
    | succ k =>
      rw [List.getD_cons_succ] at hs
      have := nodes_early l (i + 1) _ _ ha.2 (by rw [List.length_set]; exact hl) (by rw [List.length_set]; exact hd) (fun r hr => by
        have h1 := ha.1.to1
        have h0 := ha.1.to0
        rw [qu] at hr ⊢
        by_cases he : x.tgt.toNat = r
        · rw [if_pos ⟨he, by omega⟩]; omega
        · rw [if_neg (fun h => he h.1)] at hr ⊢
          have := h r hr; omega) k (by simpa using hk) s hs
      omega
theorem CodOk.early {c : Cod} {cols : List Int} (h : CodOk c cols) : Early (qt c) := fun i hi k hk => by
  have := nodes_early c.ins 0 _ _ h.all (by simp) (by simp) (fun r hr => by
    rw [List.getD_eq_getElem?_getD, List.getElem?_replicate] at hr
    split at hr <;> cases hr) i (by unfold qt at hi; rwa [qx] at hi) k hk
  omega
theorem no_done {n r : Nat} (h : (List.replicate n false).getD r false = true) : False := by
  rw [List.getD_eq_getElem?_getD, List.getElem?_replicate] at h
  split at h <;> cases h
def trimP (c : Cod) : Cod := ⟨trimI (needP (qt c) (rootC c)) c.ins 0, c.types, c.out⟩
theorem doneL_len : ∀ (l : List Ins) (done : List Bool), (doneL l done).length = done.length
  | [], _ => rfl
  | x :: l, done => by rw [doneL, doneL_len l]; simp
theorem rank_le (need : List Bool) : ∀ i, rank need i ≤ i
  | 0 => Nat.le_refl _
  | i + 1 => by have := rank_le need i; rw [rank]; split <;> omega
theorem trim_ok {c : Cod} {cols : List Int} (h : CodOk c cols) (time : Int) (row : List Val) : CodOk (trimP c) cols ∧ valC (trimP c) time row = valC c time row ∧ (trimP c).ins.length ≤ c.ins.length := by
  have he := h.early
  obtain ⟨hroot, hval⟩ := h.val_res time row
  have hl : (qt c).length = c.ins.length := by unfold qt; exact qx _ _ _
  have hneed := needP_root he (root := rootC c) (by rw [hl]; exact hroot)
  obtain ⟨g1, g2⟩ := trim_all (cols := cols) (needP (qt c) (rootC c)) time row c.ins (i := 0) (done' := List.replicate c.types.length false) (last' := List.replicate c.types.length 0) (acc := []) (acc' := []) h.all (by simp)
    (fun k hk hn s hs => qdp he _ (by rw [hl]; exact hk) (by rw [Nat.zero_add] at hn; exact hn) s hs)
    ⟨rfl, rfl, rfl, by simp, by simp, fun r hr => (no_done hr).elim, fun r hr => (no_done hr).elim, fun j hj => by omega⟩
  rw [Nat.zero_add] at g2
  have g3 := g2.reg c.out.toNat h.out2 hneed
  have hlen := trimI_len (needP (qt c) (rootC c)) c.ins 0
  rw [rank, Nat.add_zero, Nat.zero_add] at hlen
  have hle := rank_le (needP (qt c) (rootC c)) c.ins.length
  have hok : CodOk (trimP c) cols := ⟨by show (trimI _ _ _).length ≤ _; have := h.ni; omega, h.nt, h.kinds, g1, h.out0, h.out1, g3.1⟩
  refine ⟨hok, ?_, by show (trimI _ _ _).length ≤ _; omega⟩
  rw [(hok.val_res time row).2, hval]
  have e1 : rootC (trimP c) = rank (needP (qt c) (rootC c)) (rootC c) := g3.2
  rw [e1]
  exact g2.res _ hroot hneed
end Go.Proofs.YtgpcpmfdklpifaaGreatDoor
