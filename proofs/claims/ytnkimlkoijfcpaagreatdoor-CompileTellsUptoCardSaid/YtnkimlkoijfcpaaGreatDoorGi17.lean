/- Layer 26 on plain data: the raw program of an expression is right, and has its value. -/
import Derived.Test.YtnkimlkoijfcpaaGreatDoorGiShelf
import Derived.Lib.OwnBridge
import Derived.Sort.OwnSortedInts
import Derived.Test.YtnkimlkoijfcpaaGreatDoorGi2
import Derived.Test.YtnkimlkoijfcpaaGreatDoorGi3
import Derived.Test.YtnkimlkoijfcpaaGreatDoorGi4
import Derived.Test.YtnkimlkoijfcpaaGreatDoorGi5
import Derived.Test.YtnkimlkoijfcpaaGreatDoorGi12
import Derived.Test.YtnkimlkoijfcpaaGreatDoorGi14
import Derived.Test.YtnkimlkoijfcpaaGreatDoorGi15
import Derived.Test.YtnkimlkoijfcpaaGreatDoorGi16
set_option linter.unusedSimpArgs false
set_option linter.unusedVariables false
namespace Go.Proofs.YtnkimlkoijfcpaaGreatDoor
open Go.RowKit Go.Lib
def findE (L : List Ex) (e : Ex) : Int := idxP (fun x => sameB x e) L
mutual
def qbc : Ex → List Ex → List Ex
  | .mk o n s l, L => if findE (qt l L) (.mk o n s l) < 0 then qt l L ++ [.mk o n s l] else qt l L
def qt : List Ex → List Ex → List Ex
  | [], L => L
  | e :: l, L => qt l (qbc e L)
end
theorem qdf {L : List Ex} {e : Ex} {k : Nat} (h : findE L e = k) : L[k]? = some e := by
  obtain ⟨hk, h1, -⟩ := idxP_lt h
  rw [List.getElem?_eq_getElem hk, sameB_eq h1]
theorem findE_ge (L : List Ex) (e : Ex) : -1 ≤ findE L e := idxP_ge L
theorem qbv {L : List Ex} {e : Ex} : 0 ≤ findE L e ↔ e ∈ L := by
  constructor
  · intro h
    exact List.mem_of_getElem? (qdf (k := (findE L e).toNat) (by omega))
  · intro h
    have h1 := idxP_any (p := fun x => sameB x e) L
    have h2 : L.any (fun x => sameB x e) = true := List.any_eq_true.2 ⟨e, h, sameB_self e⟩
    rw [h2] at h1
    exact of_decide_eq_true h1
def qda (L : List Ex) : Prop := ∀ (i : Nat) (y : Ex), L[i]? = some y → ∀ x ∈ y.args, ∃ j, j < i ∧ L[j]? = some x
def DistE (L : List Ex) : Prop := ∀ (i j : Nat) (y : Ex), L[i]? = some y → L[j]? = some y → i = j
theorem findE_at {L : List Ex} (hd : DistE L) {e : Ex} {k : Nat} (h : L[k]? = some e) : findE L e = k := by
  have h1 : 0 ≤ findE L e := qbv.2 (List.mem_of_getElem? h)
  have h2 := qdf (L := L) (e := e) (k := (findE L e).toNat) (by omega)
  have := hd _ _ _ h2 h
  omega
theorem closed_snoc {L : List Ex} {e : Ex} (h : qda L) (he : ∀ x ∈ e.args, x ∈ L) : qda (L ++ [e]) := by
  intro i y hy x hx
  by_cases hi : i < L.length
  · rw [List.getElem?_append_left hi] at hy
    obtain ⟨j, hj, h2⟩ := h i y hy x hx
    exact ⟨j, hj, by rw [List.getElem?_append_left (by omega)]; exact h2⟩
  · rw [List.getElem?_append_right (by omega)] at hy
    have hi2 : i - L.length = 0 := by
      by_cases h0 : i - L.length = 0
      · exact h0
      · rw [List.getElem?_eq_none (by simp; omega)] at hy; cases hy
    rw [hi2] at hy
    cases hy
    obtain ⟨j, hj, h2⟩ := List.mem_iff_getElem.1 (he x hx)
    exact ⟨j, by omega, by rw [List.getElem?_append_left hj, List.getElem?_eq_getElem hj, h2]⟩
theorem dist_snoc {L : List Ex} {e : Ex} (h : DistE L) (he : e ∉ L) : DistE (L ++ [e]) := by
  have hlast : ∀ i y, (L ++ [e])[i]? = some y → (i < L.length ∧ L[i]? = some y) ∨ (i = L.length ∧ y = e) := fun i y hy => by
    by_cases hi : i < L.length
    · rw [List.getElem?_append_left hi] at hy; exact .inl ⟨hi, hy⟩
    · rw [List.getElem?_append_right (by omega)] at hy
      by_cases h0 : i - L.length = 0
      · rw [h0] at hy; cases hy; exact .inr ⟨by omega, rfl⟩
      · rw [List.getElem?_eq_none (by simp; omega)] at hy; cases hy
  intro i j y h1 h2
  rcases hlast i y h1 with ⟨g1, g2⟩ | ⟨g1, g2⟩ <;> rcases hlast j y h2 with ⟨g3, g4⟩ | ⟨g3, g4⟩
  · exact h i j y g2 g4
  · exact absurd (g4 ▸ List.mem_of_getElem? g2) he
  · exact absurd (g2 ▸ List.mem_of_getElem? g4) he
  · omega
structure PartsOk (P : Ex → Prop) (L M : List Ex) : Prop where
  pre : ∃ r, M = L ++ r
  cl : qda M
  di : DistE M
  all : ∀ y ∈ M, P y
theorem PartsOk.mem {P : Ex → Prop} {L M : List Ex} (h : PartsOk P L M) {x : Ex} (hx : x ∈ L) : x ∈ M := by
  obtain ⟨r, rfl⟩ := h.pre; exact List.mem_append_left _ hx
theorem partsP_ok {P : Ex → Prop} (hP : ∀ e, P e → ∀ x ∈ e.args, P x) (e : Ex) : ∀ L, qda L → DistE L → (∀ y ∈ L, P y) → P e → PartsOk P L (qbc e L) ∧ e ∈ qbc e L := by
  induction e using Ex.ind with
  | h o n s l ih =>
    intro L hc hd ha he
    have : ∀ (l : List Ex) (L : List Ex), (∀ x ∈ l, ∀ L, qda L → DistE L → (∀ y ∈ L, P y) → P x → PartsOk P L (qbc x L) ∧ x ∈ qbc x L) → qda L → DistE L → (∀ y ∈ L, P y) → (∀ x ∈ l, P x) → PartsOk P L (qt l L) ∧ ∀ x ∈ l, x ∈ qt l L := fun l => by
      induction l with
      | nil => intro L _ hc hd ha _; rw [qt]; exact ⟨⟨⟨[], by simp⟩, hc, hd, ha⟩, by simp⟩
      | cons x l ih2 =>
        intro L hx hc hd ha hp
        obtain ⟨g1, g2⟩ := hx x (by simp) L hc hd ha (hp x (by simp))
        obtain ⟨g3, g4⟩ := ih2 (qbc x L) (fun z hz => hx z (by simp [hz])) g1.cl g1.di g1.all (fun z hz => hp z (by simp [hz]))
        rw [qt]
        obtain ⟨r1, e1⟩ := g1.pre
        obtain ⟨r2, e2⟩ := g3.pre
        refine ⟨⟨⟨r1 ++ r2, by rw [e2, e1, List.append_assoc]⟩, g3.cl, g3.di, g3.all⟩, fun z hz => ?_⟩
        rcases List.mem_cons.1 hz with rfl | hz
        · exact g3.mem g2
        · exact g4 z hz
    obtain ⟨g1, g2⟩ := this l L ih hc hd ha (hP _ he)
    rw [qbc]
    split
    · rename_i hf
      obtain ⟨r, e1⟩ := g1.pre
      refine ⟨⟨⟨r ++ [.mk o n s l], by rw [e1, List.append_assoc]⟩, closed_snoc g1.cl g2, dist_snoc g1.di fun hm => ?_, fun y hy => ?_⟩, by simp⟩
      · have := qbv.2 hm; omega
      · rcases List.mem_append.1 hy with hy | hy
        · exact g1.all y hy
        · rw [List.mem_singleton] at hy; rw [hy]; exact he
    · rename_i hf
      exact ⟨g1, qbv.1 (by omega)⟩
theorem partsP_len (e : Ex) : ∀ L, (qbc e L).length ≤ L.length + parts e := by
  induction e using Ex.ind with
  | h o n s l ih =>
    intro L
    have : ∀ (l : List Ex) (L : List Ex), (∀ x ∈ l, ∀ L, (qbc x L).length ≤ L.length + parts x) → (qt l L).length ≤ L.length + qu l := fun l => by
      induction l with
      | nil => intro L _; rw [qt, qu]; omega
      | cons x l ih2 =>
        intro L hx
        have h1 := hx x (by simp) L
        have h2 := ih2 (qbc x L) fun z hz => hx z (by simp [hz])
        rw [qt, qu]; omega
    have := this l L ih
    rw [qbc, parts]
    split
    · simp; omega
    · omega
def argI (L : List Ex) (e : Ex) (k : Nat) : Int := match e.args[k]? with
  | some x => findE L x
  | none => 0
def insE (L : List Ex) (i : Nat) (e : Ex) : Ins := ⟨e.op, i, argI L e 0, argI L e 1, argI L e 2, e.n, e.s⟩
def typE (cols : List Int) (e : Ex) : Int := (typeP [] cols [] e).getD 0
def rawI (L : List Ex) : List Ex → Nat → List Ins
  | [], _ => []
  | e :: l, i => insE L i e :: rawI L l (i + 1)
def rawP (cols : List Int) (e : Ex) : Cod := ⟨rawI (qbc e []) (qbc e []) 0, (qbc e []).map (typE cols), findE (qbc e []) e⟩
theorem rawI_len (L : List Ex) : ∀ (l : List Ex) (i : Nat), (rawI L l i).length = l.length
  | [], _ => rfl
  | e :: l, i => by rw [rawI, List.length_cons, rawI_len L l, List.length_cons]
def TypE (cols : List Int) (e : Ex) : Prop := (∃ t, ty [] cols [] e = some t) ∧ levels e ≤ 12
theorem levels_arg {o n : Int} {s : ByteArray} {l : List Ex} {x : Ex} (hx : x ∈ l) : levels x < levels (.mk o n s l) := by
  have := qdm l 0 x hx
  rw [levels.eq_1 o n s l]; omega
theorem TypE.arg {cols : List Int} {e : Ex} (h : TypE cols e) : ∀ x ∈ e.args, TypE cols x := by
  obtain ⟨o, n, s, l⟩ := e
  intro x hx
  simp only [Ex.args] at hx
  obtain ⟨⟨t, ht⟩, hl⟩ := h
  obtain ⟨ts, h1, -⟩ := ty_mk ht
  have := levels_arg (o := o) (n := n) (s := s) hx
  exact ⟨qet l h1 x hx, by omega⟩
theorem TypE.typ {cols : List Int} {e : Ex} (h : TypE cols e) : ty [] cols [] e = some (typE cols e) := by
  obtain ⟨⟨t, ht⟩, hl⟩ := h
  unfold typE typeP
  rw [if_pos rightF_nil]
  unfold tyD
  rw [if_neg (by omega), ht]; rfl
theorem ty_kind {cols : List Int} (e : Ex) : ∀ {t : Int}, ty [] cols [] e = some t → 0 ≤ t ∧ t < 3 := by
  induction e using Ex.ind with
  | h o n s l ih =>
    intro t h
    obtain ⟨ts, h1, h2⟩ := ty_mk h
    unfold tailT at h2
    split at h2
    · cases h2
    split at h2
    · unfold callT at h2
      split at h2
      · cases h2
      · simp at h2
    split at h2
    · have hp : ∀ {c : List Int} {t : Int}, pickT c n = some t → 0 ≤ t ∧ t < 3 := fun {c t} h => by
        unfold pickT at h
        split at h
        · cases h
        · split at h
          · split at h
            · cases h
              rename_i hk
              unfold kindB at hk
              simpa using hk
            · cases h
          · cases h
      unfold leafT at h2
      split at h2
      · cases h2; decide
      split at h2
      · split at h2 <;> cases h2
        decide
      split at h2
      · exact hp h2
      split at h2
      · exact hp h2
      split at h2
      · split at h2 <;> cases h2
        decide
      split at h2
      · split at h2 <;> cases h2
        decide
      · cases h2
    · by_cases h21 : o = 21
      · obtain rfl := op21_ts h2 h21
        obtain ⟨x, y, z, rfl, -, hy, -⟩ := tys3 h1
        exact ih y (by simp) hy
      · unfold operT at h2
        rw [if_neg h21] at h2
        split at h2
        · cases h2
        split at h2
        · split at h2 <;> cases h2
          decide
        split at h2
        · split at h2 <;> cases h2
          decide
        split at h2
        · split at h2 <;> cases h2
          decide
        split at h2
        · split at h2 <;> cases h2
          decide
        split at h2
        · split at h2
          · split at h2 <;> cases h2
            decide
          · cases h2
        split at h2
        · split at h2 <;> cases h2
          decide
        split at h2
        · split at h2 <;> cases h2
          decide
        try rw [if_neg h21] at h2
        cases h2
theorem op_len {o n t : Int} {ts : List Int} (h : operT o n ts = some t) : arO o = ts.length := by
  unfold operT at h
  split at h
  · cases h
  split at h
  · rename_i e1
    split at h <;> cases h
    rename_i e2; rw [e2, e1]; rfl
  split at h
  · rename_i e1
    split at h <;> cases h
    rename_i e2; rw [e2, e1]; rfl
  split at h
  · rename_i e1
    split at h <;> cases h
    rename_i e2; rw [e2, e1]; rfl
  have h2 : ∀ k : Int, 8 ≤ k ∧ k ≤ 19 → arO k = 2 := fun k hk => by
    unfold arO; rw [if_neg (by omega), if_neg (by omega), if_neg (by omega)]
  split at h
  · split at h <;> cases h
    rename_i e2; rw [e2, h2 o (by omega)]; rfl
  split at h
  · split at h
    · rw [h2 o (by omega)]; rfl
    · cases h
  split at h
  · split at h <;> cases h
    rename_i e2; rw [e2, h2 o (by omega)]; rfl
  split at h
  · split at h <;> cases h
    rename_i e2; rw [e2, h2 o (by omega)]; rfl
  split at h
  · rename_i e1
    split at h
    · rw [e1]; rfl
    · cases h
  · cases h
theorem ty_form' {cols : List Int} {o n t : Int} {s : ByteArray} {l : List Ex} (h : ty [] cols [] (.mk o n s l) = some t) : opOk o = true ∧ arO o = l.length ∧
    (if o = 0 ∨ o = 3 then s.size = 0 else if o = 2 then s.size = 0 ∧ (n = 0 ∨ n = 1) else if o = 1 then n = 0 ∧ s.size ≤ 200 else n = 0 ∧ s.size = 0) ∧ (o = 3 → 0 ≤ n ∧ n < cols.length) := by
  by_cases hl : l = []
  · subst hl
    obtain ⟨ts, h1, h2⟩ := ty_mk h
    rw [tys] at h1
    cases h1
    unfold tailT at h2
    split at h2
    · cases h2
    rename_i hs
    split at h2
    · unfold callT at h2
      split at h2
      · cases h2
      · simp at h2
    rw [if_pos rfl] at h2
    unfold leafT at h2
    have e0 : ∀ k : Int, o = k → opOk k = true → opOk o = true := fun k hk h => by rw [hk]; exact h
    have e1 : ∀ k : Int, o = k → arO k = 0 → arO o = ([] : List Ex).length := fun k hk h => by rw [hk]; exact h
    split at h2
    · rename_i ho
      exact ⟨e0 _ ho rfl, e1 _ ho rfl, by rw [if_pos (.inl ho)]; omega, by omega⟩
    split at h2
    · rename_i ho
      split at h2
      · exact ⟨e0 _ ho rfl, e1 _ ho rfl, by rw [if_neg (by omega), if_pos ho]; omega, by omega⟩
      · cases h2
    split at h2
    · rename_i ho
      obtain ⟨g1, g2⟩ := pickT_get h2
      have := (List.getElem?_eq_some_iff.1 g2).1
      exact ⟨e0 _ ho rfl, e1 _ ho rfl, by rw [if_pos (.inr ho)]; omega, fun _ => ⟨g1, by omega⟩⟩
    split at h2
    · unfold pickT at h2
      split at h2
      · cases h2
      · simp at h2
    split at h2
    · rename_i ho
      split at h2
      · rename_i hh
        exact ⟨e0 _ ho rfl, e1 _ ho rfl, by rw [if_neg (by omega), if_neg (by omega), if_pos ho]; omega, by omega⟩
      · cases h2
    split at h2
    · rename_i ho
      split at h2
      · exact ⟨e0 _ ho rfl, e1 _ ho rfl, by rw [if_neg (by omega), if_neg (by omega), if_neg (by omega)]; omega, by omega⟩
      · cases h2
    · cases h2
  · have ho : o ≠ 22 := by
      rintro rfl
      obtain ⟨ts, h1, h2⟩ := ty_mk h
      unfold tailT at h2
      split at h2
      · cases h2
      rw [if_pos rfl] at h2
      unfold callT at h2
      split at h2
      · cases h2
      · simp at h2
    obtain ⟨ts, h1, h2, hn, hs, h6, h21⟩ := ty_oper h ho hl
    have hlen := qcw _ h1
    refine ⟨by unfold opOk; simp; omega, ?_, by rw [if_neg (by omega), if_neg (by omega), if_neg (by omega)]; omega, by omega⟩
    rw [← hlen]
    exact op_len h2
theorem ty_form {cols : List Int} {e : Ex} {t : Int} (h : ty [] cols [] e = some t) : opOk e.op = true ∧ arO e.op = e.args.length ∧
    (if e.op = 0 ∨ e.op = 3 then e.s.size = 0 else if e.op = 2 then e.s.size = 0 ∧ (e.n = 0 ∨ e.n = 1) else if e.op = 1 then e.n = 0 ∧ e.s.size ≤ 200 else e.n = 0 ∧ e.s.size = 0) ∧ (e.op = 3 → 0 ≤ e.n ∧ e.n < cols.length) := by
  obtain ⟨o, n, s, l⟩ := e
  exact ty_form' h
theorem take3 {L : List Ex} {e : Ex} (h : e.args.length ≤ 3) : [argI L e 0, argI L e 1, argI L e 2].take e.args.length = e.args.map (findE L) := by
  unfold argI
  match e.args, h with
  | [], _ => rfl
  | [a], _ => rfl
  | [a, b], _ => rfl
  | [a, b, c], _ => rfl
theorem insE_ops {cols : List Int} {L : List Ex} {i : Nat} {e : Ex} (h : TypE cols e) : opsP (insE L i e) = e.args.map (findE L) := by
  obtain ⟨h1, h2, -, -⟩ := ty_form h.typ
  unfold opsP
  show (if opOk e.op then [argI L e 0, argI L e 1, argI L e 2].take (arO e.op) else []) = _
  rw [if_pos h1, h2, take3 (by rw [← h2]; exact arO_le _)]
theorem insE_form {cols : List Int} {L : List Ex} {i : Nat} {e : Ex} (h : TypE cols e) : qcd (insE L i e) = true := by
  obtain ⟨h1, h2, h3, -⟩ := ty_form h.typ
  have hz : ∀ k, arO e.op ≤ k → argI L e k = 0 := fun k hk => by
    unfold argI
    rw [List.getElem?_eq_none (by rw [← h2]; exact hk)]
  unfold qcd insE
  dsimp only
  simp only [Bool.and_eq_true, decide_eq_true_eq]
  refine ⟨⟨h1, ⟨fun h => hz 2 (by omega), fun h => hz 1 (by omega)⟩, fun h => hz 0 (by omega)⟩, ?_⟩
  split at h3
  · rename_i hh; rw [if_pos hh]; exact decide_eq_true h3
  · rename_i hh
    rw [if_neg hh]
    split at h3
    · rename_i hh2; rw [if_pos hh2]; simp only [Bool.and_eq_true, decide_eq_true_eq]; exact h3
    · rename_i hh2
      rw [if_neg hh2]
      split at h3
      · rename_i hh3; rw [if_pos hh3]; simp only [Bool.and_eq_true, decide_eq_true_eq]; exact h3
      · rename_i hh3; rw [if_neg hh3]; simp only [Bool.and_eq_true, decide_eq_true_eq]; exact h3
theorem getD_get {α : Type} {l : List α} {k : Nat} {x d : α} (h : l[k]? = some x) : l.getD k d = x := by rw [List.getD_eq_getElem?_getD, h]; rfl
theorem tys_map {cols : List Int} : ∀ l : List Ex, (∀ x ∈ l, TypE cols x) → tys [] cols [] l = some (l.map (typE cols))
  | [], _ => by rw [tys]; rfl
  | x :: l, h => by rw [tys, (h x (by simp)).typ, tys_map l fun y hy => h y (by simp [hy])]; rfl
theorem arg_at {L : List Ex} (hc : qda L) (hd : DistE L) {i : Nat} {y : Ex} (hy : L[i]? = some y) {x : Ex} (hx : x ∈ y.args) : ∃ j, j < i ∧ L[j]? = some x ∧ findE L x = j := by
  obtain ⟨j, hj, h⟩ := hc i y hy x hx
  exact ⟨j, hj, h, findE_at hd h⟩
section
variable {cols : List Int} {L : List Ex} (hc : qda L) (hd : DistE L) (ha : ∀ y ∈ L, TypE cols y)
include hc hd ha
theorem raw_ins {i : Nat} {y : Ex} (hy : L[i]? = some y) {done : List Bool} (hdone : ∀ j, j < i → done.getD j false = true) : InsOk cols (L.map (typE cols)) done (insE L i y) := by
  have hm := ha y (List.mem_of_getElem? hy)
  have hi : i < L.length := (List.getElem?_eq_some_iff.1 hy).1
  obtain ⟨h1, h2, h3, h4⟩ := ty_form hm.typ
  have hops := insE_ops (L := L) (i := i) hm
  have hargs : ∀ r ∈ opsP (insE L i y), 0 ≤ r ∧ r < (L.map (typE cols)).length ∧ done.getD r.toNat false = true := fun r hr => by
    rw [hops] at hr
    obtain ⟨x, hx, rfl⟩ := List.mem_map.1 hr
    obtain ⟨j, hj, g1, g2⟩ := arg_at hc hd hy hx
    rw [g2]
    exact ⟨by omega, by simp; omega, by rw [Int.toNat_natCast]; exact hdone j hj⟩
  refine ⟨insE_form hm, by show (0 : Int) ≤ i; omega, by show (i : Int) < _; simp; omega, hargs, h4, ?_⟩
  have hkinds : ∀ t ∈ L.map (typE cols), 0 ≤ t ∧ t < 3 := fun t ht => by
    obtain ⟨x, hx, rfl⟩ := List.mem_map.1 ht
    exact ty_kind x (ha x hx).typ
  have hti : (L.map (typE cols)).getD (insE L i y).to.toNat 0 = typE cols y := by
    show (L.map (typE cols)).getD ((i : Int).toNat) 0 = _
    rw [Int.toNat_natCast]
    exact getD_get (by rw [List.getElem?_map, hy]; rfl)
  rw [hti]
  refine tyI_of (fun r hr => ⟨(hargs r hr).1, (hargs r hr).2.1⟩) hkinds ?_ ?_
  · have : y.op ≠ 4 := by unfold opOk at h1; simp at h1; exact h1.2
    exact this
  · have hmap : ((opsP (insE L i y)).map fun r => (L.map (typE cols)).getD r.toNat 0) = y.args.map (typE cols) := by
      rw [hops, List.map_map]
      refine List.map_congr_left fun x hx => ?_
      obtain ⟨j, hj, g1, g2⟩ := arg_at hc hd hy hx
      show (L.map (typE cols)).getD (findE L x).toNat 0 = _
      rw [g2, Int.toNat_natCast]
      exact getD_get (by rw [List.getElem?_map, g1]; rfl)
    rw [hmap]
    obtain ⟨o, n, s, l⟩ := y
    obtain ⟨ts, e1, e2⟩ := ty_mk hm.typ
    rw [tys_map l fun x hx => hm.arg x hx] at e1
    cases e1
    exact e2
theorem raw_all : ∀ (l pre : List Ex) (done : List Bool), L = pre ++ l → done.length = L.length → (∀ j, j < pre.length → done.getD j false = true) →
    AllOk cols (L.map (typE cols)) (rawI L l pre.length) done ∧ ∀ j, j < L.length → (doneL (rawI L l pre.length) done).getD j false = true
  | [], pre, done, hL, hl, hdone => ⟨trivial, fun j hj => hdone j (by rw [hL] at hj; simpa using hj)⟩
  | e :: l, pre, done, hL, hl, hdone => by
    have hy : L[pre.length]? = some e := by rw [hL, List.getElem?_append_right (Nat.le_refl _), Nat.sub_self]; rfl
    have hi : pre.length < L.length := (List.getElem?_eq_some_iff.1 hy).1
    have h1 := raw_ins hc hd ha hy hdone
    obtain ⟨g1, g2⟩ := raw_all l (pre ++ [e]) (done.set pre.length true) (by rw [hL]; simp) (by rw [List.length_set]; exact hl) (fun j hj => by
      rw [qy]
      by_cases hji : pre.length = j
      · rw [if_pos ⟨hji, by omega⟩]
      · rw [if_neg fun h => hji h.1]
        exact hdone j (by simp at hj; omega))
    rw [List.length_append, List.length_singleton] at g1 g2
    exact ⟨⟨h1, g1⟩, g2⟩
theorem raw_regs (time : Int) (row : List Val) : ∀ (l pre : List Ex) (regs : List Val), L = pre ++ l → regs.length = L.length → (∀ (j : Nat) x, j < pre.length → L[j]? = some x → regs.getD j zeroV = ev (fun _ _ => zeroV) time row [] x) →
    ∀ (j : Nat) x, L[j]? = some x → (regsI time row (rawI L l pre.length) regs).getD j zeroV = ev (fun _ _ => zeroV) time row [] x
  | [], pre, regs, hL, hl, hr => fun j x hx => hr j x (by have := (List.getElem?_eq_some_iff.1 hx).1; rw [hL] at this; simpa using this) hx
  | e :: l, pre, regs, hL, hl, hr => by
    have hy : L[pre.length]? = some e := by rw [hL, List.getElem?_append_right (Nat.le_refl _), Nat.sub_self]; rfl
    have hi : pre.length < L.length := (List.getElem?_eq_some_iff.1 hy).1
    have hm := ha e (List.mem_of_getElem? hy)
    have hval : opI time row (insE L pre.length e) (argsI regs (insE L pre.length e)) = ev (fun _ _ => zeroV) time row [] e := by
      have hargs : argsI regs (insE L pre.length e) = evs (fun _ _ => zeroV) time row [] e.args := by
        unfold argsI
        rw [insE_ops hm, List.map_map, qen]
        refine List.map_congr_left fun x hx => ?_
        obtain ⟨j, hj, g1, g2⟩ := arg_at hc hd hy hx
        show regs.getD (findE L x).toNat zeroV = _
        rw [g2, Int.toNat_natCast]
        exact hr j x hj g1
      rw [hargs]
      obtain ⟨o, n, s, l⟩ := e
      rw [ev_mk]
      rfl
    intro j x hx
    have := raw_regs time row l (pre ++ [e]) (stepI time row regs (insE L pre.length e)) (by rw [hL]; simp) (by unfold stepI; rw [List.length_set]; exact hl) (fun j x hj hx => by
      unfold stepI
      show (regs.set ((pre.length : Int).toNat) _).getD j zeroV = _
      rw [Int.toNat_natCast, qy]
      by_cases hji : pre.length = j
      · rw [if_pos ⟨hji, by omega⟩, hval]
        rw [← hji, hy] at hx
        cases hx; rfl
      · rw [if_neg fun h => hji h.1]
        exact hr j x (by simp at hj; omega) hx) j x hx
    rw [List.length_append, List.length_singleton] at this
    exact this
end
theorem parts_typ {cols : List Int} {e : Ex} (h : TypE cols e) : qda (qbc e []) ∧ DistE (qbc e []) ∧ (∀ y ∈ qbc e [], TypE cols y) ∧ e ∈ qbc e [] := by
  obtain ⟨g1, g2⟩ := partsP_ok (P := TypE cols) (fun e he x hx => he.arg x hx) e [] (by intro i y hy; simp at hy) (by intro i j y hy; simp at hy) (by simp) h
  exact ⟨g1.cl, g1.di, g1.all, g2⟩
theorem raw_ok {cols : List Int} {e : Ex} (h : TypE cols e) (hp : parts e ≤ 1000) : CodOk (rawP cols e) cols ∧ (∀ time row, valC (rawP cols e) time row = ev (fun _ _ => zeroV) time row [] e) ∧ (rawP cols e).types.getD (rawP cols e).out.toNat 0 = typE cols e := by
  obtain ⟨hc, hd, ha, hm⟩ := parts_typ h
  have hlen := partsP_len e []
  simp only [List.length_nil, Nat.zero_add] at hlen
  have h0 := qbv.2 hm
  have hk := qdf (L := qbc e []) (e := e) (k := (findE (qbc e []) e).toNat) (by omega)
  have hlt := (List.getElem?_eq_some_iff.1 hk).1
  obtain ⟨g1, g2⟩ := raw_all hc hd ha (qbc e []) [] (List.replicate (qbc e []).length false) (by simp) (by simp) (by simp)
  refine ⟨⟨?_, ?_, ?_, ?_, h0, ?_, ?_⟩, fun time row => ?_, ?_⟩
  · show (rawI _ _ 0).length ≤ _; rw [rawI_len]; omega
  · show (List.map _ _).length ≤ _; rw [List.length_map]; omega
  · intro t ht
    obtain ⟨x, hx, rfl⟩ := List.mem_map.1 ht
    exact ty_kind x (ha x hx).typ
  · show AllOk cols _ (rawI _ _ 0) (List.replicate (List.map _ _).length false)
    rw [List.length_map]; exact g1
  · show findE _ _ < ((List.map _ _).length : Int)
    rw [List.length_map]; omega
  · show (doneL (rawI _ _ 0) (List.replicate (List.map _ _).length false)).getD (findE _ _).toNat false = true
    rw [List.length_map]; exact g2 _ hlt
  · show (regsI time row (rawI _ _ 0) (List.replicate (List.map _ _).length zeroV)).getD (findE _ _).toNat zeroV = _
    rw [List.length_map]
    exact raw_regs hc hd ha time row (qbc e []) [] (List.replicate (qbc e []).length zeroV) (by simp) (by simp) (by simp) _ e hk
  · show (List.map _ _).getD (findE _ _).toNat 0 = _
    exact getD_get (by rw [List.getElem?_map, hk]; rfl)
end Go.Proofs.YtnkimlkoijfcpaaGreatDoor

/- The contract of the reference's Same, as an abstract one. -/
namespace Go.Proofs.YtnkimlkoijfcpaaGreatDoor
open Go.RowKit Go.Lib
theorem rsame_g (a e : Ex) (he : parts a ≤ 1000000) : Gives Tryz.prog 11 [a.av, e.av] (.bool (sameB a e)) :=
  gives_v fun X vals ha => by
    obtain ⟨v0, _, rfl, h0, v1, _, rfl, h1, h3⟩ := ha
    cases h3
    obtain ⟨cs, rfl, hr⟩ := arg_ex h0
    obtain ⟨cs1, rfl, hr1⟩ := arg_ex h1
    exact rsame_any a e Any Any cs cs1 X.w hr hr1 he
end Go.Proofs.YtnkimlkoijfcpaaGreatDoor

/- Layer 26 on plain data: the names of the parts, and the state of the one that makes registers. -/
namespace Go.Proofs.YtnkimlkoijfcpaaGreatDoor
open Go.RowKit Go.Lib
def regK (L : List Ex) (e : Ex) (k : Nat) : Int := match e.args[k]? with
  | some x => findE L x + 1
  | none => 0
def keyE (L : List Ex) (e : Ex) : Value := partV e.op e.n e.s (regK L e 0) (regK L e 1) (regK L e 2)
def entI (L : List Ex) : List Ex → Nat → List (Value × Int)
  | [], _ => []
  | e :: l, i => (keyE L e, (i : Int)) :: entI L l (i + 1)
theorem find_pre {L r : List Ex} (hd : DistE (L ++ r)) {x : Ex} (hx : x ∈ L) : findE (L ++ r) x = findE L x := by
  have h0 := qbv.2 hx
  have h1 := qdf (L := L) (e := x) (k := (findE L x).toNat) (by omega)
  have h2 : (L ++ r)[(findE L x).toNat]? = some x := by
    rw [List.getElem?_append_left (List.getElem?_eq_some_iff.1 h1).1]; exact h1
  rw [findE_at hd h2]; omega
theorem qdg {L M : List Ex} {e : Ex} (h : ∀ x ∈ e.args, findE M x = findE L x) (k : Nat) : argI M e k = argI L e k ∧ regK M e k = regK L e k := by
  unfold argI regK
  cases hk : e.args[k]? with
  | none => exact ⟨rfl, rfl⟩
  | some x => have := h x (List.mem_of_getElem? hk); exact ⟨this, by dsimp only; rw [this]⟩
theorem keyE_congr {L M : List Ex} {e : Ex} (h : ∀ x ∈ e.args, findE M x = findE L x) : keyE M e = keyE L e := by
  unfold keyE; rw [(qdg h 0).2, (qdg h 1).2, (qdg h 2).2]
theorem insE_congr {L M : List Ex} {e : Ex} (h : ∀ x ∈ e.args, findE M x = findE L x) (i : Nat) : insE M i e = insE L i e := by
  unfold insE; rw [(qdg h 0).1, (qdg h 1).1, (qdg h 2).1]
theorem raw_congr {L M : List Ex} : ∀ (l : List Ex) (i : Nat), (∀ e ∈ l, ∀ x ∈ e.args, findE M x = findE L x) → rawI M l i = rawI L l i ∧ entI M l i = entI L l i
  | [], i, _ => ⟨rfl, rfl⟩
  | e :: l, i, h => by
    obtain ⟨h1, h2⟩ := raw_congr l (i + 1) fun y hy => h y (by simp [hy])
    rw [rawI, rawI, entI, entI, h1, h2, insE_congr (h e (by simp)), keyE_congr (h e (by simp))]
    exact ⟨rfl, rfl⟩
theorem raw_app (M : List Ex) : ∀ (l l' : List Ex) (i : Nat), rawI M (l ++ l') i = rawI M l i ++ rawI M l' (i + l.length) ∧ entI M (l ++ l') i = entI M l i ++ entI M l' (i + l.length)
  | [], l', i => ⟨rfl, rfl⟩
  | e :: l, l', i => by
    obtain ⟨h1, h2⟩ := raw_app M l l' (i + 1)
    rw [List.cons_append, rawI, rawI, entI, entI, h1, h2, List.length_cons, show i + 1 + l.length = i + (l.length + 1) by omega]
    exact ⟨rfl, rfl⟩
theorem closed_arg {L : List Ex} (hc : qda L) {y x : Ex} (hy : y ∈ L) (hx : x ∈ y.args) : x ∈ L := by
  obtain ⟨i, hi, h⟩ := List.mem_iff_getElem.1 hy
  obtain ⟨j, -, h2⟩ := hc i y (by rw [List.getElem?_eq_getElem hi, h]) x hx
  exact List.mem_of_getElem? h2
theorem raw_snoc {L : List Ex} {e : Ex} (hc : qda L) (hd : DistE (L ++ [e])) (he : ∀ x ∈ e.args, x ∈ L) :
    rawI (L ++ [e]) (L ++ [e]) 0 = rawI L L 0 ++ [insE L L.length e] ∧ entI (L ++ [e]) (L ++ [e]) 0 = entI L L 0 ++ [(keyE L e, (L.length : Int))] := by
  obtain ⟨h1, h2⟩ := raw_app (L ++ [e]) L [e] 0
  obtain ⟨h3, h4⟩ := raw_congr (L := L) (M := L ++ [e]) L 0 fun y hy x hx => find_pre hd (closed_arg hc hy hx)
  have h5 : ∀ x ∈ e.args, findE (L ++ [e]) x = findE L x := fun x hx => find_pre hd (he x hx)
  rw [h1, h2, h3, h4, rawI, rawI, entI, entI, insE_congr h5, keyE_congr h5, Nat.zero_add]
  exact ⟨rfl, rfl⟩
theorem ent_len (M : List Ex) : ∀ (l : List Ex) (i : Nat), (entI M l i).length = l.length
  | [], _ => rfl
  | e :: l, i => by rw [entI, List.length_cons, ent_len M l, List.length_cons]
theorem ent_mem {M : List Ex} : ∀ (l : List Ex) (i : Nat) (p : Value × Int), p ∈ entI M l i ↔ ∃ (k : Nat) (y : Ex), l[k]? = some y ∧ p = (keyE M y, ((i + k : Nat) : Int))
  | [], i, p => by rw [entI]; simp
  | e :: l, i, p => by
    rw [entI, List.mem_cons, ent_mem l (i + 1)]
    constructor
    · rintro (rfl | ⟨k, y, h1, rfl⟩)
      · exact ⟨0, e, rfl, rfl⟩
      · exact ⟨k + 1, y, by simpa using h1, by rw [show i + 1 + k = i + (k + 1) by omega]⟩
    · rintro ⟨k, y, h1, rfl⟩
      cases k with
      | zero => cases h1; exact .inl rfl
      | succ k => exact .inr ⟨k, y, by simpa using h1, by rw [show i + 1 + k = i + (k + 1) by omega]⟩
theorem reg_inj {L : List Ex} {e f : Ex} (h1 : ∀ x ∈ e.args, x ∈ L) (h2 : ∀ x ∈ f.args, x ∈ L) {k : Nat} (h : regK L e k = regK L f k) : e.args[k]? = f.args[k]? := by
  unfold regK at h
  cases hk : e.args[k]? with
  | none =>
    cases hk' : f.args[k]? with
    | none => rfl
    | some y =>
      simp only [hk, hk'] at h
      have := qbv.2 (h2 y (List.mem_of_getElem? hk'))
      omega
  | some x =>
    have hx := qbv.2 (h1 x (List.mem_of_getElem? hk))
    cases hk' : f.args[k]? with
    | none => simp only [hk, hk'] at h; omega
    | some y =>
      simp only [hk, hk'] at h
      have hy := qbv.2 (h2 y (List.mem_of_getElem? hk'))
      have e1 := qdf (L := L) (e := x) (k := (findE L x).toNat) (by omega)
      have e2 := qdf (L := L) (e := y) (k := (findE L x).toNat) (by omega)
      rw [e1] at e2; exact e2
theorem keyE_inj {L : List Ex} {e f : Ex} (he : ∀ x ∈ e.args, x ∈ L) (hf : ∀ x ∈ f.args, x ∈ L) (h3 : e.args.length ≤ 3) (g3 : f.args.length ≤ 3) (h : keyE L e = keyE L f) : e = f := by
  obtain ⟨o, n, s, l⟩ := e
  obtain ⟨o', n', s', l'⟩ := f
  obtain ⟨h0, h1, h2, a0, a1, a2⟩ := partV_inj h
  simp only [Ex.op, Ex.n, Ex.s] at h0 h1 h2
  subst h0 h1 h2
  have r0 := reg_inj he hf a0
  have r1 := reg_inj he hf a1
  have r2 := reg_inj he hf a2
  simp only [Ex.args] at h3 g3 r0 r1 r2
  have : l = l' := by
    apply List.ext_getElem?
    intro k
    match k with
    | 0 => exact r0
    | 1 => exact r1
    | 2 => exact r2
    | k + 3 => rw [List.getElem?_eq_none (by omega), List.getElem?_eq_none (by omega)]
  rw [this]
structure PartsG (cols : List Int) (L : List Ex) : Prop where
  cl : qda L
  di : DistE L
  all : ∀ y ∈ L, TypE cols y ∧ n64 y
theorem arO_le26 (o : Int) : arO o ≤ 3 := by
  unfold arO
  repeat' split
  all_goals omega
theorem typ_args {cols : List Int} {e : Ex} (h : TypE cols e) : e.args.length ≤ 3 := by
  have h1 := (ty_form h.typ).2.1
  have := arO_le26 e.op
  omega
theorem typ_op {cols : List Int} {e : Ex} (h : TypE cols e) : I64 e.op := by
  have h1 := (ty_form h.typ).1
  unfold opOk at h1
  simp at h1
  unfold I64; omega
theorem regK_i64 {L : List Ex} (hl : L.length ≤ 1000000) (e : Ex) (k : Nat) : I64 (regK L e k) := by
  unfold regK
  split
  · rename_i x hx
    have h0 := findE_ge L x
    have h1 : findE L x ≤ L.length := by
      by_cases h : 0 ≤ findE L x
      · have := qdf (L := L) (e := x) (k := (findE L x).toNat) (by omega)
        have := (List.getElem?_eq_some_iff.1 this).1
        omega
      · omega
    unfold I64; omega
  · exact i64_0
theorem keyE_key {cols : List Int} {L : List Ex} {e : Ex} (he : TypE cols e) (hn : n64 e) (hl : L.length ≤ 1000000) : ∃ kl, keyOf Tryz.prog 145 (keyE L e) = some kl := by
  obtain ⟨o, n, s, l⟩ := e
  obtain ⟨h1, -⟩ := qcn.1 hn
  exact partV_key (typ_op he) h1.1 (regK_i64 hl _ _) (regK_i64 hl _ _) (regK_i64 hl _ _) h1.2
def keyA (L : List Ex) (e : Ex) : AV := .agg [.v (.int .i64 e.op), .v (.int .i64 e.n), .v (.string e.s), .v (.int .i64 (regK L e 0)), .v (.int .i64 (regK L e 1)), .v (.int .i64 (regK L e 2))]
theorem keyA_whole (L : List Ex) (e : Ex) : (keyA L e).whole = some (keyE L e) := rfl
theorem ents_distinct {cols : List Int} {L : List Ex} (hg : PartsG cols L) : ∀ p ∈ entI L L 0, ∀ q ∈ entI L L 0, p.1 = q.1 → p = q := fun p hp q hq h => by
  obtain ⟨i, y, hi, rfl⟩ := (ent_mem L 0 p).1 hp
  obtain ⟨j, z, hj, rfl⟩ := (ent_mem L 0 q).1 hq
  have hy := List.mem_of_getElem? hi
  have hz := List.mem_of_getElem? hj
  have := keyE_inj (fun x hx => closed_arg hg.cl hy hx) (fun x hx => closed_arg hg.cl hz hx) (typ_args (hg.all y hy).1) (typ_args (hg.all z hz).1) h
  subst this
  rw [hg.di i j y hi hj]
theorem part_hit {cols : List Int} {L : List Ex} (hg : PartsG cols L) (hl : L.length ≤ 1000000) {e : Ex} (he : e ∈ L) :
    LookOk Tryz.prog 98 (mapI (entI L L 0)) true (keyA L e) (.tup [.v (.int .i64 (findE L e)), .v (.bool true)]) := by
  obtain ⟨kl, hk⟩ := keyE_key (L := L) (hg.all e he).1 (hg.all e he).2 hl
  have h0 := qbv.2 he
  have h1 := qdf (L := L) (e := e) (k := (findE L e).toNat) (by omega)
  refine look_hit (ents_distinct hg) (keyA_whole L e) hk ((ent_mem L 0 _).2 ⟨_, e, h1, ?_⟩)
  rw [Nat.zero_add, Int.toNat_of_nonneg h0]
theorem part_fresh {cols : List Int} {L : List Ex} (hg : PartsG cols L) {e : Ex} (hT : TypE cols e) (ha : ∀ x ∈ e.args, x ∈ L) (he : e ∉ L) : ∀ p ∈ entI L L 0, p.1 ≠ keyE L e := fun p hp h => by
  obtain ⟨i, y, hi, rfl⟩ := (ent_mem L 0 p).1 hp
  have hy := List.mem_of_getElem? hi
  have := keyE_inj (fun x hx => closed_arg hg.cl hy hx) ha (typ_args (hg.all y hy).1) (typ_args hT) h
  subst this
  exact he hy
theorem part_miss {cols : List Int} {L : List Ex} (hg : PartsG cols L) (hl : L.length ≤ 1000000) {e : Ex} (hT : TypE cols e) (hn : n64 e) (ha : ∀ x ∈ e.args, x ∈ L) (he : e ∉ L) :
    LookOk Tryz.prog 98 (mapI (entI L L 0)) true (keyA L e) (.tup [.v (.int .i64 0), .v (.bool false)]) := by
  obtain ⟨kl, hk⟩ := keyE_key (L := L) hT hn hl
  exact look_miss (keyA_whole L e) hk (part_fresh hg hT ha he)
theorem part_upd {cols : List Int} {L : List Ex} (hg : PartsG cols L) (hl : L.length ≤ 1000000) {e : Ex} (hT : TypE cols e) (hn : n64 e) (ha : ∀ x ∈ e.args, x ∈ L) (he : e ∉ L) :
    IsMap (mapI (entI L L 0)) ∧ UpdOk Tryz.prog 98 (mapI (entI L L 0)) (keyA L e) (.v (.int .i64 L.length)) (mapI (entI (L ++ [e]) (L ++ [e]) 0)) := by
  obtain ⟨kl, hk⟩ := keyE_key (L := L) hT hn hl
  rw [(raw_snoc hg.cl (dist_snoc hg.di he) ha).2]
  exact map_upd (keyA_whole L e) hk (part_fresh hg hT ha he) (by rw [ent_len]; unfold maxLen; omega) (by unfold I64; omega)
theorem parts_good {cols : List Int} {e : Ex} {L : List Ex} (hg : PartsG cols L) (hT : TypE cols e) (hn : n64 e) : PartsG cols (qbc e L) ∧ e ∈ qbc e L ∧ ∃ r, qbc e L = L ++ r := by
  obtain ⟨h1, h2⟩ := partsP_ok (P := fun e => TypE cols e ∧ n64 e) (fun e h x hx => ⟨h.1.arg x hx, by obtain ⟨o, n, s, l⟩ := e; exact (qcn.1 h.2).2 x hx⟩) e L hg.cl hg.di hg.all ⟨hT, hn⟩
  exact ⟨⟨h1.cl, h1.di, h1.all⟩, h2, h1.pre⟩
theorem qcy {cols : List Int} : ∀ {l : List Ex} {L : List Ex}, PartsG cols L → (∀ x ∈ l, TypE cols x ∧ n64 x) → PartsG cols (qt l L) ∧ (∀ x ∈ l, x ∈ qt l L) ∧ ∃ r, qt l L = L ++ r
  | [], L, hg, _ => by rw [qt]; exact ⟨hg, by simp, [], by simp⟩
  | e :: l, L, hg, h => by
    obtain ⟨g1, g2, r1, e1⟩ := parts_good hg (h e (by simp)).1 (h e (by simp)).2
    obtain ⟨g3, g4, r2, e2⟩ := qcy (l := l) g1 fun x hx => h x (by simp [hx])
    rw [qt]
    refine ⟨g3, fun x hx => ?_, r1 ++ r2, by rw [e2, e1, List.append_assoc]⟩
    rcases List.mem_cons.1 hx with rfl | hx
    · rw [e2]; exact List.mem_append_left _ g2
    · exact g4 x hx
theorem partsPs_snoc : ∀ (l : List Ex) (e : Ex) (L : List Ex), qt (l ++ [e]) L = qbc e (qt l L)
  | [], e, L => by rw [List.nil_append, qt, qt, qt]
  | x :: l, e, L => by rw [List.cons_append, qt, partsPs_snoc l e, qt]
theorem qeq : ∀ (l l' : List Ex) (L : List Ex), qt (l ++ l') L = qt l' (qt l L)
  | [], l', L => by rw [List.nil_append, qt]
  | x :: l, l', L => by rw [List.cons_append, qt, qeq l l', qt]
theorem qca : ∀ (l : List Ex) (L : List Ex), (qt l L).length ≤ L.length + qu l
  | [], L => by rw [qt, qu]; omega
  | e :: l, L => by
    have h1 := qca l (qbc e L)
    have h2 := partsP_len e L
    rw [qt, qu]; omega
end Go.Proofs.YtnkimlkoijfcpaaGreatDoor

/- Layer 26 on plain data: what Compile returns. -/
namespace Go.Proofs.YtnkimlkoijfcpaaGreatDoor
open Go.RowKit Go.Lib
mutual
def allP (P : Int → Int → Prop) : Ex → Prop
  | .mk o n _ l => P o n ∧ allPs P l
def allPs (P : Int → Int → Prop) : List Ex → Prop
  | [] => True
  | e :: l => allP P e ∧ allPs P l
end
theorem allPs_iff {P : Int → Int → Prop} : ∀ {l : List Ex}, allPs P l ↔ ∀ x ∈ l, allP P x
  | [] => by rw [allPs]; simp
  | e :: l => by rw [allPs, allPs_iff]; simp
theorem qei {P : Int → Int → Prop} {o n : Int} {s : ByteArray} {l : List Ex} : allP P (.mk o n s l) ↔ P o n ∧ ∀ x ∈ l, allP P x := by rw [allP, allPs_iff]
section
variable {P : Int → Int → Prop}
theorem put_allP {op : Int} {L : List Ex} (hL : ∀ x ∈ L, allP P x) (e : Ex) : ∀ {y : Ex}, allP P e → putP op L e = some y → allP P y := by
  induction e using Ex.ind with
  | h o n s l ih =>
    intro y h hy
    obtain ⟨hn, hl⟩ := qei.1 h
    rw [putP] at hy
    split at hy
    · split at hy
      · cases hy
      · exact hL _ (List.mem_of_getElem? hy)
    · cases hp : putPs op L l with
      | none => rw [hp] at hy; cases hy
      | some l' =>
        rw [hp] at hy; cases hy
        refine qei.2 ⟨hn, fun x hx => ?_⟩
        obtain ⟨z, hz, h2⟩ := putPs_mem l hp x hx
        exact ih z hz (hl z hz) h2
theorem inl_allP (h0 : P 0 0) {bs : List (Option Ex)} (hbs : ∀ b ∈ bs, ∀ y, b = some y → allP P y) (e : Ex) : ∀ {y : Ex}, allP P e → inlE bs e = some y → allP P y := by
  induction e using Ex.ind with
  | h o n s l ih =>
    intro y h hy
    obtain ⟨hn, hl⟩ := qei.1 h
    rw [inlE] at hy
    cases hp : inlL bs l with
    | none => rw [hp] at hy; cases hy
    | some ys =>
      rw [hp] at hy
      have hys : ∀ x ∈ ys, allP P x := fun x hx => by
        obtain ⟨z, hz, h2⟩ := inlL_mem26 l hp x hx
        exact ih z hz (hl z hz) h2
      dsimp only at hy
      split at hy
      · cases hb : bs.getD n.toNat none with
        | none => rw [hb] at hy; cases hy
        | some b =>
          rw [hb] at hy
          have hbm : some b ∈ bs := by
            rw [List.getD_eq_getElem?_getD] at hb
            cases hg : bs[n.toNat]? with
            | none => rw [hg] at hb; cases hb
            | some z => rw [hg] at hb; cases hb; exact List.mem_of_getElem? hg
          rw [← fitX_some hy]
          cases hq : putP 4 ys b with
          | none => exact qei.2 ⟨h0, by simp⟩
          | some z => exact put_allP hys b (hbs _ hbm b rfl) hq
      · rw [← fitX_some hy]
        exact qei.2 ⟨hn, hys⟩
theorem inlB_allP (h0 : P 0 0) : ∀ (F : List Fn) (bs : List (Option Ex)), (∀ b ∈ bs, ∀ y, b = some y → allP P y) → (∀ f ∈ F, allP P f.body) → ∀ b ∈ inlB bs F, ∀ y, b = some y → allP P y
  | [], bs, h, _ => by rw [inlB]; exact h
  | f :: F, bs, h, hF => by
    rw [inlB]
    refine inlB_allP h0 F _ (fun b hb y hy => ?_) fun g hg => hF g (by simp [hg])
    rcases List.mem_append.1 hb with hb | hb
    · exact h b hb y hy
    · rw [List.mem_singleton] at hb
      rw [hb] at hy
      exact inl_allP h0 h f.body (hF f (by simp)) hy
theorem inlineP_some {F : List Fn} {e y : Ex} (h : qby F e = some y) : inlE (inlB [] F) e = some y ∧ levels y ≤ 12 := by
  unfold qby at h
  split at h
  · rename_i x hx
    split at h
    · cases h
    · cases h; exact ⟨hx, by omega⟩
  · cases h
end
theorem ty_cols {F : List Fn} {c p : List Int} (e : Ex) : ∀ {t : Int}, ty F c p e = some t → allP (fun o n => o = 3 → ∃ u, pickT c n = some u) e := by
  induction e using Ex.ind with
  | h o n s l ih =>
    intro t h
    obtain ⟨ts, h1, h2⟩ := ty_mk h
    refine qei.2 ⟨fun ho => ?_, fun x hx => ?_⟩
    · have := qef (.inl ho) h2
      rw [if_pos ho] at this
      exact ⟨_, this⟩
    · obtain ⟨u, hu⟩ := qet l h1 x hx
      exact ih x hx hu
theorem ty_swap {F : List Fn} {c c' p : List Int} (h : ∀ n u, pickT c n = some u → pickT c' n = some u) (e : Ex) : allP (fun o n => o = 3 → ∃ u, pickT c n = some u) e → ty F c' p e = ty F c p e := by
  induction e using Ex.ind with
  | h o n s l ih =>
    intro ha
    obtain ⟨h1, h2⟩ := qei.1 ha
    have hts : ∀ l : List Ex, (∀ x ∈ l, ty F c' p x = ty F c p x) → tys F c' p l = tys F c p l := fun l => by
      induction l with
      | nil => intro _; rw [tys, tys]
      | cons x l ih2 => intro hx; rw [tys, tys, hx x (by simp), ih2 fun z hz => hx z (by simp [hz])]
    have ht : ∀ ts, tailT F c' p o n s ts = tailT F c p o n s ts := fun ts => by
      unfold tailT leafT
      by_cases ho : o = 3
      · obtain ⟨u, hu⟩ := h1 ho
        rw [hu, h n u hu]
      · simp only [if_neg ho]
    rw [ty, ty, hts l fun x hx => ih x hx (h2 x hx)]
    cases tys F c p l with
    | none => rfl
    | some ts => exact ht ts
theorem typeP_all {F : List Fn} {c p : List Int} {e : Ex} {t : Int} (h : typeP F c p e = some t) : F.length ≤ 20 ∧ (∀ i, i < F.length → okF F i = true) ∧ ty F c p e = some t ∧ levels e ≤ 12 := by
  unfold typeP at h
  split at h
  · rename_i hF
    unfold qdc at hF
    simp only [Bool.and_eq_true, decide_eq_true_eq, List.all_eq_true, List.mem_range] at hF
    unfold tyD at h
    split at h
    · cases h
    · exact ⟨by omega, hF.2, h, by omega⟩
  · cases h
theorem okF_wfS {F : List Fn} (hOk : ∀ i, i < F.length → okF F i = true) : ∀ i (h : i < F.length), wfS i F[i].body = true := fun i h => by
  have h1 := okF_body (hOk i h) (List.getElem?_eq_getElem h)
  have h2 := wfS_of_ty _ h1
  rw [List.length_take, Nat.min_eq_left (by omega)] at h2
  exact h2
theorem pick_nil (n : Int) : pickT [] n = none := by
  unfold pickT
  split <;> simp
theorem pick_fix {c : List Int} {n u : Int} (h : pickT c n = some u) : pickT (c.map fun k => if kindB k = true then k else 0) n = some u := by
  unfold pickT at h ⊢
  split at h
  · cases h
  · rename_i hn
    rw [if_neg hn, List.getElem?_map]
    split at h
    · rename_i v hv
      rw [hv]
      split at h
      · rename_i hk
        simp only [Option.map_some, if_pos hk]
        exact h
      · cases h
    · cases h
theorem inline_ty {F : List Fn} {c : List Int} {e y : Ex} {t : Int} (hOk : ∀ i, i < F.length → okF F i = true) (ht : ty F c [] e = some t) (hy : qby F e = some y) : ty [] c [] y = some t := by
  have hc0 : ∀ n u, pickT c n = some u → pickT (c.map fun k => if kindB k = true then k else 0) n = some u := fun n u h => pick_fix h
  have he := ty_cols e ht
  have hF : ∀ f ∈ F, allP (fun o n => o = 3 → ∃ u, pickT c n = some u) f.body := fun f hf => by
    obtain ⟨i, hi, rfl⟩ := List.mem_iff_getElem.1 hf
    have h1 := ty_cols _ (okF_body (hOk i hi) (List.getElem?_eq_getElem hi))
    have mono : ∀ e : Ex, allP (fun o n => o = 3 → ∃ u, pickT [] n = some u) e → allP (fun o n => o = 3 → ∃ u, pickT c n = some u) e := fun e => by
      induction e using Ex.ind with
      | h o n s l ih =>
        intro h
        obtain ⟨g1, g2⟩ := qei.1 h
        refine qei.2 ⟨fun ho => ?_, fun x hx => ih x hx (g2 x hx)⟩
        obtain ⟨u, hu⟩ := g1 ho
        rw [pick_nil] at hu; cases hu
    exact mono _ h1
  have hyc := inl_allP (P := fun o n => o = 3 → ∃ u, pickT c n = some u) (fun h => by cases h) (inlB_allP (fun h => by cases h) F [] (by simp) hF) e he (inlineP_some hy).1
  have ht' : ty F (c.map fun k => if kindB k = true then k else 0) [] e = some t := by rw [ty_swap hc0 e he]; exact ht
  have hk : ((c.map fun k => if kindB k = true then k else 0).map someV).map Val.k = c.map fun k => if kindB k = true then k else 0 := by
    rw [List.map_map, List.map_map]
    apply List.map_congr_left
    intro k _
    show (someV (if kindB k = true then k else 0)).k = _
    split
    · exact someV_k ‹_›
    · exact someV_k (by decide)
  have h3 := (inline_sem (time := 0) (R := (c.map fun k => if kindB k = true then k else 0).map someV) hOk (fun v hv => by
    obtain ⟨k, -, rfl⟩ := List.mem_map.1 hv
    exact someV_sound k) (by rw [hk]; exact ht') hy).1
  rw [hk, ty_swap hc0 y hyc] at h3
  exact h3
def zeroCd : Cod := ⟨[], [], 0⟩
def qbm (F : List Fn) (cols : List Int) (e : Ex) : Cod × Int := match typeP F cols [] e with
  | none => (zeroCd, 13)
  | some _ => match qby F e with
    | none => (zeroCd, 6)
    | some y => (compP (rawP cols (foldE y)), 0)
theorem compile_typ {F : List Fn} {cols : List Int} {e y : Ex} {t : Int} (ht : typeP F cols [] e = some t) (hy : qby F e = some y) :
    ty [] cols [] y = some t ∧ parts y ≤ 1000 ∧ TypE cols (foldE y) ∧ parts (foldE y) ≤ 1000 ∧ ty [] cols [] (foldE y) = some t := by
  obtain ⟨h1, h2, h3, h4⟩ := typeP_all ht
  have h5 := inline_ty h2 h3 hy
  have h6 := qcs (inlineP_some hy).1
  have h7 := (fold_ok y h5).1
  have h8 := fold_parts y
  have h9 := fold_levels y
  have h10 := (inlineP_some hy).2
  exact ⟨h5, h6, ⟨⟨t, h7⟩, by omega⟩, by omega, h7⟩
end Go.Proofs.YtnkimlkoijfcpaaGreatDoor

/- Layer 26 on plain data: Compact keeps the type of the result. -/
namespace Go.Proofs.YtnkimlkoijfcpaaGreatDoor
open Go.RowKit Go.Lib
end Go.Proofs.YtnkimlkoijfcpaaGreatDoor

/- Walk: the columns that an expression reads, of the program (expr.Reads). -/
namespace Go.Proofs.YtnkimlkoijfcpaaGreatDoor
open Go.RowKit Go.Lib Go.Maps Go.Sort Go.Shelf
end Go.Proofs.YtnkimlkoijfcpaaGreatDoor

/- Slices of ints of the call's own that the library turns in place: slices.Sort, slices.Compact. -/
namespace Go.Proofs.YtnkimlkoijfcpaaGreatDoor
open Go.RowKit Go.Lib Go.Sort
end Go.Proofs.YtnkimlkoijfcpaaGreatDoor

/- Walk of layer 25: code.Reads. -/
namespace Go.Proofs.YtnkimlkoijfcpaaGreatDoor
open Go.RowKit Go.Lib
end Go.Proofs.YtnkimlkoijfcpaaGreatDoor

/- Layer 26 on plain data: how many instructions a program has, and which columns it reads. -/
namespace Go.Proofs.YtnkimlkoijfcpaaGreatDoor
open Go.RowKit Go.Lib
mutual
theorem partsP_sub : ∀ (e : Ex) (L : List Ex) (y : Ex), y ∈ qbc e L → y ∈ L ∨ y ∈ pre e
  | .mk o n s l, L, y, h => by
    rw [qbc] at h
    rw [pre]
    split at h
    · rcases List.mem_append.1 h with h | h
      · rcases partsPs_sub l L y h with h | h
        · exact .inl h
        · exact .inr (List.mem_cons_of_mem _ h)
      · obtain rfl := List.mem_singleton.1 h
        exact .inr (by simp)
    · rcases partsPs_sub l L y h with h | h
      · exact .inl h
      · exact .inr (List.mem_cons_of_mem _ h)
theorem partsPs_sub : ∀ (l L : List Ex) (y : Ex), y ∈ qt l L → y ∈ L ∨ y ∈ preL l
  | [], L, y, h => by rw [qt] at h; exact .inl h
  | e :: l, L, y, h => by
    rw [qt] at h
    rw [preL]
    rcases partsPs_sub l _ y h with h | h
    · rcases partsP_sub e L y h with h | h
      · exact .inl h
      · exact .inr (List.mem_append_left _ h)
    · exact .inr (List.mem_append_right _ h)
end
end Go.Proofs.YtnkimlkoijfcpaaGreatDoor
