/- Layer 16 on plain data: equal expressions. -/
import Derived.ChangeArms
import Derived.Lib.LaidU8
import Derived.Test.YtnkakofcejkhiaaDoorRows
import Derived.ProofKit
import Derived.Below
import Derived.ChangeSame
import Derived.HandedShaped
import Derived.Lay
import Derived.Shelf.Vars
import Derived.LaidMore
import Derived.Test.YtnkakofcejkhiaaDoorGa1
import Derived.Test.YtnkakofcejkhiaaDoorGa4
set_option linter.unusedSimpArgs false
set_option linter.unusedVariables false
namespace Go.Proofs.YtnkakofcejkhiaaDoor
open Go.RowKit Go.Lib
mutual
def sameB : Ex → Ex → Bool
  | .mk o n s l, .mk o2 n2 s2 l2 => decide (o = o2) && (decide (n = n2) && (decide (s.toList = s2.toList) && sameBs l l2))
def sameBs : List Ex → List Ex → Bool
  | [], [] => true
  | e :: l, e2 :: l2 => sameB e e2 && sameBs l l2
  | _, _ => false
end
mutual
theorem sameB_self : ∀ e : Ex, sameB e e = true
  | .mk o n s l => by rw [sameB, sameBs_self l]; simp
theorem sameBs_self : ∀ l : List Ex, sameBs l l = true
  | [] => by rw [sameBs]
  | e :: l => by rw [sameBs, sameB_self e, sameBs_self l]; rfl
end
end Go.Proofs.YtnkakofcejkhiaaDoor

/- What inlining returns has the value of the expression, on plain data. -/
namespace Go.Proofs.YtnkakofcejkhiaaDoor
open Go.RowKit Go.Lib
theorem tys_length {F : List Fn} {c p : List Int} : ∀ (l : List Ex) {ts : List Int}, tys F c p l = some ts → ts.length = l.length
  | [], ts, h => by rw [tys] at h; cases h; rfl
  | e :: l, ts, h => by
    rw [tys] at h
    split at h
    · split at h
      · rename_i us hl
        cases h
        rw [List.length_cons, List.length_cons, tys_length l hl]
      · cases h
    · cases h
theorem tys_get {F : List Fn} {c p : List Int} : ∀ (l : List Ex) {ts : List Int}, tys F c p l = some ts → ∀ (i : Nat) (x : Ex), l[i]? = some x → ∃ t, ts[i]? = some t ∧ ty F c p x = some t
  | [], ts, _, i, x, hx => by simp at hx
  | e :: l, ts, h, i, x, hx => by
    rw [tys] at h
    split at h
    · rename_i t he
      split at h
      · rename_i us hl
        cases h
        cases i with
        | zero => simp at hx; subst hx; exact ⟨t, rfl, he⟩
        | succ i => simpa using tys_get l hl i x (by simpa using hx)
      · cases h
    · cases h
theorem pickT_get {l : List Int} {n t : Int} (h : pickT l n = some t) : 0 ≤ n ∧ l[n.toNat]? = some t := by
  unfold pickT at h
  split at h
  · cases h
  · split at h
    · rename_i u hu
      split at h
      · cases h; exact ⟨by omega, hu⟩
      · cases h
    · cases h
mutual
theorem put_total {F : List Fn} {c p : List Int} {L : List Ex} (hL : L.length = p.length) : ∀ (e : Ex) {t : Int}, ty F c p e = some t → ∃ x, putP 4 L e = some x
  | .mk o n s l, t, ht => by
    rw [ty] at ht
    cases hl : tys F c p l with
    | none => rw [hl] at ht; cases ht
    | some ts =>
      rw [hl] at ht
      dsimp only at ht
      rw [putP]
      by_cases ho : o = 4
      · have hp := tailT_col (.inr ho) ht
        rw [if_neg (by omega)] at hp
        obtain ⟨h0, h1⟩ := pickT_get hp
        rw [if_pos ho, if_neg (by omega)]
        have : n.toNat < L.length := by rw [hL]; exact (List.getElem?_eq_some_iff.1 h1).1
        exact ⟨L[n.toNat], List.getElem?_eq_getElem this⟩
      · rw [if_neg ho]
        obtain ⟨xs, hx⟩ := puts_total hL l hl
        rw [hx]; exact ⟨_, rfl⟩
theorem puts_total {F : List Fn} {c p : List Int} {L : List Ex} (hL : L.length = p.length) : ∀ (l : List Ex) {ts : List Int}, tys F c p l = some ts → ∃ xs, putPs 4 L l = some xs
  | [], ts, _ => ⟨[], by rw [putPs]⟩
  | e :: l, ts, h => by
    rw [tys] at h
    split at h
    · rename_i t he
      split at h
      · rename_i us hl
        obtain ⟨x, hx⟩ := put_total hL e he
        obtain ⟨xs, hxs⟩ := puts_total hL l hl
        rw [putPs, hx, hxs]; exact ⟨_, rfl⟩
      · cases h
    · cases h
end
theorem opV_call {call call2 : Int → List Val → Val} {time : Int} {row params : List Val} {op n : Int} {s : ByteArray} {vs : List Val} (h : op = 22 → call n vs = call2 n vs) : opV call time row params op n s vs = opV call2 time row params op n s vs := by
  unfold opV
  by_cases e : op = 22
  · subst e; rw [h rfl]
  · simp only [if_neg e]
def InlOk (F : List Fn) (time : Int) (M : Nat) (bs : List (Option Ex)) : Prop :=
  ∀ (i : Nat) (b : Ex), bs[i]? = some (some b) → ∃ f : Fn, F[i]? = some f ∧ ty [] [] f.params b = some f.res ∧ ∀ (call : Int → List Val → Val) (P : List Val), P.map Val.k = f.params → (∀ v ∈ P, qbh v) → ev call time [] P b = callN F time M (i : Int) P
mutual
theorem inl_sem {F : List Fn} {time : Int} {M m : Nat} {bs : List (Option Ex)} (hOk : ∀ i, i < F.length → okF F i = true) (hbs : InlOk F time M bs) (hm : m = bs.length) (hM : m ≤ M) {c p : List Int} {R P : List Val} (hR : R.map Val.k = c) (hP : P.map Val.k = p) (sR : ∀ v ∈ R, qbh v) (sP : ∀ v ∈ P, qbh v) (call : Int → List Val → Val) :
    ∀ (e : Ex) {y : Ex} {t : Int}, ty (F.take m) c p e = some t → inlE bs e = some y → ty [] c p y = some t ∧ ev call time R P y = ev (callN F time M) time R P e
  | .mk o n s l, y, t, ht, hy => by
    rw [ty] at ht
    cases hl : tys (F.take m) c p l with
    | none => rw [hl] at ht; cases ht
    | some ts =>
      rw [hl] at ht
      dsimp only at ht
      rw [inlE] at hy
      cases hl2 : inlL bs l with
      | none => rw [hl2] at hy; cases hy
      | some ys =>
        rw [hl2] at hy
        dsimp only at hy
        obtain ⟨i1, i2⟩ := inls_sem hOk hbs hm hM hR hP sR sP call l hl hl2
        by_cases ho : o = 22
        · subst ho
          unfold tailT at ht
          split at ht
          · cases ht
          · rw [if_pos rfl] at ht
            obtain ⟨h0, hlt, f, hf, hpar, hres⟩ := callT_some ht
            rw [if_pos ⟨rfl, h0, by omega⟩] at hy
            have hn : n.toNat < bs.length := by omega
            rw [List.getD_eq_getElem?_getD, List.getElem?_eq_getElem hn, Option.getD_some] at hy
            cases hb : bs[n.toNat] with
            | none => rw [hb] at hy; cases hy
            | some b =>
              rw [hb] at hy
              dsimp only at hy
              obtain ⟨f', hf', hty, hev⟩ := hbs n.toNat b (by rw [List.getElem?_eq_getElem hn, hb])
              rw [hf] at hf'; cases hf'
              obtain ⟨x, hx⟩ := put_total (L := ys) (by rw [hpar, tys_length ys i1]) b hty
              rw [hx, Option.getD_some] at hy
              obtain ⟨rfl, -⟩ := fitX_parts hy
              have hk : (evs (callN F time M) time R P l).map Val.k = ts ∧ ∀ v ∈ evs (callN F time M) time R P l, qbh v := by
                refine evs_kinds (F := F.take m) (c := c) (p := p) l hl fun e he u hu => ?_
                exact ev_sound time hOk M e (ty_mono hM e hu) hR hP sR sP
              obtain ⟨j1, j2⟩ := put_sem (F := []) (call := call) (time := time) (c2 := c) (p2 := p) (R1 := []) (P1 := evs call time R P ys) (R2 := R) (P2 := P) (.inr rfl)
                (fun k u hp => by unfold pickT at hp; simp at hp)
                (fun k u hp => by
                  rw [if_pos rfl]
                  intro z hz
                  obtain ⟨-, h5⟩ := pickT_get hp
                  obtain ⟨u', h6, h7⟩ := tys_get ys i1 _ z hz
                  rw [hpar, h6] at h5
                  cases h5
                  refine ⟨h7, ?_⟩
                  rw [evs_map]
                  simp [List.getD_eq_getElem?_getD, hz]) b hx hty
              rw [j1, j2, hres]
              refine ⟨rfl, ?_⟩
              rw [i2, hev call _ (by rw [hk.1, hpar]) hk.2, ev, if_neg (by omega)]
              simp only [opV]
              rw [Int.toNat_of_nonneg h0]
              rfl
        · rw [if_neg (fun h => ho h.1)] at hy
          obtain ⟨rfl, -⟩ := fitX_parts hy
          refine ⟨?_, ?_⟩
          · rw [ty, i1]
            dsimp only
            unfold tailT at ht ⊢
            split at ht
            · cases ht
            · rename_i h1
              rw [if_neg h1]
              first | (rw [if_neg ho] at ht ⊢; exact ht) | (rw [if_neg ho] at ht; exact ht) | (rw [if_neg ho]; exact ht) | exact ht
          · rw [ev, ev, i2]
            split
            · rfl
            · exact opV_call fun h => absurd h ho
theorem inls_sem {F : List Fn} {time : Int} {M m : Nat} {bs : List (Option Ex)} (hOk : ∀ i, i < F.length → okF F i = true) (hbs : InlOk F time M bs) (hm : m = bs.length) (hM : m ≤ M) {c p : List Int} {R P : List Val} (hR : R.map Val.k = c) (hP : P.map Val.k = p) (sR : ∀ v ∈ R, qbh v) (sP : ∀ v ∈ P, qbh v) (call : Int → List Val → Val) :
    ∀ (l : List Ex) {ys : List Ex} {ts : List Int}, tys (F.take m) c p l = some ts → inlL bs l = some ys → tys [] c p ys = some ts ∧ evs call time R P ys = evs (callN F time M) time R P l
  | [], ys, ts, ht, hy => by
    rw [inlL] at hy; cases hy
    rw [tys] at ht; cases ht
    rw [tys, evs, evs]; exact ⟨rfl, rfl⟩
  | e :: l, ys, ts, ht, hy => by
    rw [tys] at ht
    cases he : ty (F.take m) c p e with
    | none => rw [he] at ht; cases ht
    | some t =>
      rw [he] at ht
      cases hl : tys (F.take m) c p l with
      | none => rw [hl] at ht; cases ht
      | some us =>
        rw [hl] at ht; cases ht
        rw [inlL] at hy
        cases hx1 : inlE bs e with
        | none => rw [hx1] at hy; cases hy
        | some x =>
          rw [hx1] at hy
          cases hx2 : inlL bs l with
          | none => rw [hx2] at hy; cases hy
          | some l' =>
            rw [hx2] at hy; cases hy
            obtain ⟨i1, i2⟩ := inl_sem hOk hbs hm hM hR hP sR sP call e he hx1
            obtain ⟨j1, j2⟩ := inls_sem hOk hbs hm hM hR hP sR sP call l hl hx2
            rw [tys, i1, j1, evs, evs, i2, j2]
            exact ⟨rfl, rfl⟩
end
end Go.Proofs.YtnkakofcejkhiaaDoor

/- What Inline returns has the value of the expression. -/
namespace Go.Proofs.YtnkakofcejkhiaaDoor
open Go.RowKit Go.Lib
end Go.Proofs.YtnkakofcejkhiaaDoor

/- Layer 26 on plain data: folding keeps the type and the value. -/
namespace Go.Proofs.YtnkakofcejkhiaaDoor
open Go.RowKit Go.Lib
def constE (e : Ex) : Bool := decide (e.op = 0) || (decide (e.op = 1) || decide (e.op = 2))
def constV (v : Val) : Ex := if v.k = 0 then .mk 0 v.n ByteArray.empty [] else if v.k = 1 then .mk 1 0 v.s [] else if v.k = 2 then .mk 2 v.n ByteArray.empty [] else zeroE
def choiceP (o n : Int) (s : ByteArray) (l : List Ex) : Ex := match l with
  | [a, b, c] => if (constE a = true ∧ a.n = 1) ∨ sameB b c = true then b else if constE a = true then c else .mk o n s l
  | _ => .mk o n s l
def logicP (o n : Int) (s : ByteArray) (l : List Ex) : Ex := match l with
  | [a, b] => if constE a = true then (if decide (a.n = 1) = decide (o = 17) then b else a) else if constE b = true then (if decide (b.n = 1) = decide (o = 17) then a else b) else .mk o n s l
  | _ => .mk o n s l
def notP (o n : Int) (s : ByteArray) (l : List Ex) : Ex := match l with
  | [.mk o2 n2 s2 l2] => if o2 = 6 then (match l2 with | [x] => x | _ => .mk o n s l) else .mk o n s l
  | _ => .mk o n s l
def topF (o n : Int) (s : ByteArray) (l : List Ex) : Ex :=
  if l = [] then .mk o n s []
  else if o ≠ 22 ∧ l.all constE = true then constV (evalP [] 0 [] (.mk o n s l))
  else if o = 21 then choiceP o n s l
  else if o = 17 ∨ o = 18 then logicP o n s l
  else if o = 6 then notP o n s l
  else .mk o n s l
mutual
def foldE : Ex → Ex
  | .mk o n s l => topF o n s (foldL l)
def foldL : List Ex → List Ex
  | [] => []
  | e :: l => foldE e :: foldL l
end
theorem size_empty {s : ByteArray} (h : s.size = 0) : s = ByteArray.empty := by
  apply WideShapes.bytes_inj
  have : s.data.toList.length = 0 := by rw [Array.length_toList]; exact h
  rw [List.length_eq_zero_iff.1 this]; rfl
end Go.Proofs.YtnkakofcejkhiaaDoor

/- Layer 25 on plain data: one more instruction. -/
namespace Go.Proofs.YtnkakofcejkhiaaDoor
open Go.RowKit Go.Lib
theorem regsI_snoc (time : Int) (row : List Val) (l : List Ins) (x : Ins) (regs : List Val) : regsI time row (l ++ [x]) regs = stepI time row (regsI time row l regs) x := by unfold regsI; rw [List.foldl_append]; rfl
theorem doneL_snoc : ∀ (l : List Ins) (x : Ins) (done : List Bool), doneL (l ++ [x]) done = (doneL l done).set x.to.toNat true
  | [], _, _ => rfl
  | y :: l, x, done => by rw [List.cons_append, doneL, doneL_snoc l]; rfl
theorem AllOk.at {cols types : List Int} : ∀ (l : List Ins) (k : Nat) (done : List Bool) (h : k < l.length), AllOk cols types l done → InsOk cols types (doneL (l.take k) done) l[k]
  | x :: l, 0, done, _, ha => ha.1
  | x :: l, k + 1, done, h, ha => by
    have := AllOk.at l k _ (by simpa using h) ha.2
    rw [List.take_succ_cons, doneL]
    exact this
theorem AllOk.take {cols types : List Int} : ∀ (l : List Ins) (k : Nat) (done : List Bool), AllOk cols types l done → AllOk cols types (l.take k) done
  | [], k, done, _ => by simp [AllOk]
  | x :: l, 0, done, _ => trivial
  | x :: l, k + 1, done, ha => ⟨ha.1, AllOk.take l k _ ha.2⟩
theorem nodes_snoc : ∀ (l : List Ins) (x : Ins) (i : Nat) (last : List Nat), nodes (l ++ [x]) i last = nodes l i last ++ [⟨x, (opsP x).map fun r => (lastL l i last).getD r.toNat 0⟩]
  | [], _, _, _ => rfl
  | y :: l, x, i, last => by rw [List.cons_append, nodes, nodes_snoc l]; rfl
end Go.Proofs.YtnkakofcejkhiaaDoor

/- From the statement's readings (DataW.trod) to trees of plain data (Rd): ints, bools, strings, structs, slices. -/
namespace Go.Proofs.YtnkakofcejkhiaaDoor
open Go.RowKit Go.Lib
theorem qbc.of_get {w : World} {b : Nat} : ∀ (cs : List Value) (off : Nat), (∀ i v, cs[i]? = some v → w.cell? ⟨b, off + i, none⟩ = some v) → qbc w b off cs
  | [], _, _ => trivial
  | v :: cs, off, h => ⟨h 0 v rfl, qbc.of_get cs (off + 1) fun i u hi => by rw [Nat.add_assoc, Nat.add_comm 1 i]; exact h (i + 1) u (by simpa using hi)⟩
theorem mapM_get {α β : Type} {f : α → Option β} : ∀ (l : List α) (ys : List β), l.mapM f = some ys → ∀ i : Nat, (l[i]?).bind f = ys[i]?
  | [], ys, h, i => by simp at h; subst h; simp
  | a :: l, ys, h, i => by
    rw [List.mapM_cons] at h
    cases hf : f a with
    | none => rw [hf] at h; simp at h
    | some b =>
      rw [hf] at h
      cases hl : l.mapM f with
      | none => rw [hl] at h; simp at h
      | some zs =>
        rw [hl] at h
        simp at h
        subst h
        cases i with
        | zero => simpa using hf
        | succ i => simpa using mapM_get l zs hl i
theorem mapM_len {α β : Type} {f : α → Option β} : ∀ (l : List α) (ys : List β), l.mapM f = some ys → ys.length = l.length
  | [], ys, h => by simp at h; subst h; rfl
  | a :: l, ys, h => by
    rw [List.mapM_cons] at h
    cases hf : f a with
    | none => rw [hf] at h; simp at h
    | some b =>
      rw [hf] at h
      cases hl : l.mapM f with
      | none => rw [hl] at h; simp at h
      | some zs =>
        rw [hl] at h
        simp at h
        subst h
        simp [mapM_len l zs hl]
theorem cells_open {w : World} {base : Nat} {a : Addr} {n : Nat} {cs : List Value} (h : w.cells? base a n = some cs) (hn : 0 < n) : a.spot = none ∧ qbc w a.block a.off cs := by
  unfold World.cells? at h
  split at h
  · have hg := mapM_get _ _ h
    obtain ⟨b, o, sp⟩ := a
    have h0 := hg 0
    rw [List.getElem?_range (by omega)] at h0
    have hlen : cs.length = n := by
      have := mapM_len _ _ h
      simpa using this
    have h0' : cs[0]? = some (cs[0]'(by omega)) := List.getElem?_eq_getElem (by omega)
    rw [h0'] at h0
    have hs : sp = none := cell_spot (w := w) (b := b) (o := o) (v := cs[0]'(by omega)) (by simpa [Addr.add] using h0)
    subst hs
    refine ⟨rfl, qbc.of_get _ _ fun i v hi => ?_⟩
    have hi' : i < n := by
      have := (List.getElem?_eq_some_iff.1 hi).1; omega
    have := hg i
    rw [List.getElem?_range hi', hi] at this
    cases i with
    | zero => simpa [Addr.add] using this
    | succ i => simpa [Addr.add] using this
  · cases h
theorem RdM.of_get {w : World} {S : Nat → Prop} {sz : Nat} : ∀ (l : List D) (b off : Nat), (∀ d ∈ l, d.width = sz) → (∀ i (h : i < l.length), ∃ cs, qbc w b (off + i * sz) cs ∧ Rd w S l[i] cs) → RdM w S l b off
  | [], _, _, _, _ => by rw [RdM]; trivial
  | d :: l, b, off, hw, h => by
    rw [RdM]
    refine ⟨?_, RdM.of_get l b _ (fun x hx => hw x (by simp [hx])) fun i hi => ?_⟩
    · obtain ⟨cs, h1, h2⟩ := h 0 (by simp)
      exact ⟨cs, by simpa using h1, by simpa using h2⟩
    have := h (i + 1) (by simpa using hi)
    rw [hw d (by simp)]
    rw [Nat.succ_mul] at this
    rw [show off + sz + i * sz = off + (i * sz + sz) by omega]
    simpa using this
section
variable {H : Type} {enc : TypeId × Value → H} {P : Program} {w : World} {sp : Nat → Bool} {hd : Bool}
def Trods (enc : TypeId × Value → H) (P : Program) (w : World) (sp : Nat → Bool) (hd : Bool) (t : TypeId) {α : Type} (f : α → D) (N : Nat) : Prop :=
  ∀ n cs x, n < N → DataW.trod enc P w 0 sp hd n t cs = some x → ∃ a, Rd w Any (f a) cs
theorem qbl {t : TypeId} (ht : P.underlying t = some (.int .i64)) (N : Nat) : Trods enc P w sp hd t D.int N := by
  intro n cs x _ h
  obtain ⟨m, rfl, -, -⟩ := DataW.trod_int ht h
  exact ⟨m, by rw [Rd]⟩
theorem trods_str {t : TypeId} (ht : P.underlying t = some .string) (N : Nat) : Trods enc P w sp hd t D.str N := by
  intro n cs x _ h
  obtain ⟨m, rfl, -, -⟩ := DataW.trod_string ht h
  exact ⟨m, by rw [Rd]⟩
theorem trods_sl {t e : TypeId} {α : Type} {f : α → D} {sz N : Nat} (ht : P.underlying t = some (.slice e)) (hc : P.cellsOf e = sz) (hsz : 0 < sz) (hw : ∀ x, (f x).width = sz) (h : Trods enc P w sp hd e f N) :
    Trods enc P w sp hd t (fun l : List α => .sl (l.map f)) (N + 1) := by
  intro n cs x hn hx
  rcases DataW.trod_slice ht hx with ⟨rfl, -⟩ | ⟨a, len, cap, elems, rest, m, rfl, rfl, -, hb, hl, hm, hlen, hel, -, -⟩
  · exact ⟨[], Rd.nil none (by omega)⟩
  · have hmax : cap ≤ 9223372036854775807 := by unfold maxLen at hm; omega
    have hget : ∀ i, i < len → ∃ cs' y, w.cells? 0 (a.add (i * sz)) sz = some cs' ∧ DataW.trod enc P w 0 sp hd m e cs' = some y := by
      intro i hi
      have := hel i hi
      rw [hc, List.getElem?_eq_getElem (by omega)] at this
      obtain ⟨cs', h1, h2⟩ := Option.bind_eq_some_iff.1 this
      exact ⟨cs', _, h1, h2⟩
    have hget2 : ∀ i, i < len → ∃ (z : α) (cs' : List Value), w.cells? 0 (a.add (i * sz)) sz = some cs' ∧ Rd w Any (f z) cs' := by
      intro i hi
      obtain ⟨cs', y, h1, h2⟩ := hget i hi
      obtain ⟨z, hz⟩ := h m cs' y (by omega) h2
      exact ⟨z, cs', h1, hz⟩
    by_cases h0 : len = 0
    · subst h0; exact ⟨[], Rd.nil _ hmax⟩
    have hsp : a.spot = none := by
      obtain ⟨z, cs', h1, -⟩ := hget2 0 (by omega)
      have := (cells_open h1 hsz).1
      simpa [Addr.add] using this
    obtain ⟨b, off, spt⟩ := a
    subst hsp
    have hg3 : ∀ i, ∃ (z : α), i < len → ∃ cs', qbc w b (off + i * sz) cs' ∧ Rd w Any (f z) cs' := by
      obtain ⟨z0, -⟩ := hget2 0 (by omega)
      intro i
      by_cases hi : i < len
      · obtain ⟨z, cs', h1, h2⟩ := hget2 i hi
        refine ⟨z, fun _ => ⟨cs', ?_, h2⟩⟩
        have := (cells_open h1 hsz).2
        by_cases hz : i * sz = 0
        · rw [hz] at this ⊢; simpa [Addr.add] using this
        · simpa [Addr.add, hz] using this
      · exact ⟨z0, fun h => absurd h hi⟩
    let g : Nat → α := fun i => Classical.choose (hg3 i)
    have hgs : ∀ i, i < len → ∃ cs', qbc w b (off + i * sz) cs' ∧ Rd w Any (f (g i)) cs' := fun i => Classical.choose_spec (hg3 i)
    refine ⟨(List.range len).map g, Rd.sl_mk (b := b) (off := off) (by simp) (by simpa using hl) hmax (fun _ => ⟨rfl, trivial⟩) (RdM.of_get _ _ _ (sz := sz) ?_ ?_)⟩
    · intro d hd
      obtain ⟨x, -, rfl⟩ := List.mem_map.1 hd
      exact hw x
    · intro i hi
      have hi' : i < len := by simpa using hi
      have := hgs i hi'
      simpa using this
theorem qbx {S : Nat → Prop} {d : D} {l : List D} {cs : List Value} {o k : Nat} (h1 : Rd w S d ((cs.drop o).take k)) (h2 : RdS w S l (cs.drop (o + k))) : RdS w S (d :: l) (cs.drop o) := by
  rw [RdS]
  exact ⟨_, _, by rw [← List.drop_drop]; exact (List.take_append_drop k _).symm, h1, h2⟩
theorem rdS_end {S : Nat → Prop} {cs : List Value} {o : Nat} (h : cs.length ≤ o) : RdS w S [] (cs.drop o) := by
  rw [RdS]; exact List.drop_eq_nil_of_le h
theorem rd_st {S : Nat → Prop} {l : List D} {cs : List Value} (h : RdS w S l (cs.drop 0)) : Rd w S (.st l) cs := by
  rw [Rd]; simpa using h
theorem qbe {fs : Array Field} {n : Nat} {cs : List Value} {xs : List (DataW H × List MemPlace)} (i : Nat) (T : TypeId) (o k : Nat) (hlen : xs.length = fs.size)
    (hf : ∀ (i : Nat) (f : Field), fs[i]? = some f → DataW.trod enc P w 0 sp hd n f.type ((cs.drop f.offset).take (P.cellsOf f.type)) = xs[i]?)
    (hi : ∃ f : Field, fs[i]? = some f ∧ f.type = T ∧ f.offset = o) (hk : P.cellsOf T = k) :
    ∃ y, DataW.trod enc P w 0 sp hd n T ((cs.drop o).take k) = some y := by
  obtain ⟨f, hi, rfl, rfl⟩ := hi
  subst hk
  have hlt : i < fs.size := (Array.getElem?_eq_some_iff.1 hi).1
  have := hf i f hi
  rw [List.getElem?_eq_getElem (by omega)] at this
  exact ⟨_, this⟩
end
end Go.Proofs.YtnkakofcejkhiaaDoor

/- A law's entry: the arguments' readings as trees; and its end: true, and nothing that was there has changed. -/
namespace Go.Proofs.YtnkakofcejkhiaaDoor
open Go.ChangeShapes Go.WideShapes Go.ChangeAt Go.RowKit Go.Lib
theorem Tryd.own : ownKnob Tryd.prog.godebug = none := by kernel_rfl
theorem Tryd.laidOut : laidOutB Tryd.prog = true := by kernel_rfl
section
variable {H : Type} {enc : TypeId × Value → H} {P : Program}
theorem post_of_below {f : Func} {s : ChangeSpec} {apart fresh handsOn again : Bool} {W W' : World} {args : Array Value} {v : Value} {ds gs : List (DataW H)} {before pa pv : List MemPlace}
    (hW : DataW.Whole enc P f.params.toList s.vars apart W args.toList ds gs before)
    (hres : ∀ (b : Nat) (sp : Nat → Bool) (hd : Bool), DataW.TrodAll enc P W' b sp hd f.resultTypes.toList (v.resultList f.resultTypes.size) (s.fn H (ds ++ gs)).results [])
    (hargs : ∀ sp : Nat → Bool, (∀ p ∈ before, sp p.block = true) → DataW.TrodAll enc P W' 0 sp true f.params.toList args.toList (s.fn H (ds ++ gs)).args pa)
    (hvars : ∀ sp : Nat → Bool, (∀ p ∈ before, sp p.block = true) → DataW.TrodVars enc P W' sp s.vars (s.fn H (ds ++ gs)).vars pv)
    (hps : before = pa ++ pv) (hb : Below W.heap.size W W')
    (hok : ∀ (j : Nat) (t : TypeId) (r : Value), f.resultTypes[j]? = some t → (v.resultList f.resultTypes.size)[j]? = some r → Value.okWide P W' .any 0 t r) :
    s.post enc P f apart fresh handsOn again W args v W' := by
  have hlt : ∀ p ∈ before, p.block < W.heap.size := fun p hp => hW.lt p hp
  have hold : ∀ p ∈ before, (fun b => decide (b < W.heap.size)) p.block = true := fun p hp => by simpa using hlt p hp
  refine ⟨ds, gs, before, [], pa, pv, hW, hres _ _ _, hargs _ hold, hvars _ hold, World.keptBut_mono (fun p hp => ⟨hp, ?_⟩) (hb.frame (· ∈ before)), fun _ => ?_⟩
  · rw [hps, List.mem_append] at hp
    exact Or.inr hp
  · obtain ⟨_, _, _, _, _, hz, hn⟩ := hW
    refine ⟨hok, _, _, ([] ++ pa) ++ pv, ⟨[] ++ pa, pv, trodAll_append (hargs _ (fun _ _ => rfl)) (hres _ _ _), hvars _ (fun _ _ => rfl), rfl, ?_, ?_⟩, ?_⟩
    · intro b off hp
      have hin : MemPlace.cell b off ∈ before := by rw [hps]; simpa using hp
      rw [hb.frozen (hlt _ hin)]
      exact hz b off hin
    · intro ha
      have := hn ha
      rw [hps] at this
      simpa using this
    · intro p hp _
      rw [hps]
      simpa using hp
theorem args_stay (hl : laidOutB P = true) {W W' : World} {sp : Nat → Bool} (hb : Below W.heap.size W W') : ∀ {ts : List TypeId} {vs : List Value} {ds : List (DataW H)} {ps : List MemPlace},
    (∀ t ∈ ts, P.readableRec t = true ∧ t < P.types.size) → DataW.TrodAll enc P W 0 (fun _ => true) true ts vs ds ps → (∀ p ∈ ps, p.block < W.heap.size) → (∀ p ∈ ps, sp p.block = true) →
    DataW.TrodAll enc P W' 0 sp true ts vs ds ps
  | [], [], [], _, _, h, _, _ => h
  | [], _ :: _, _, _, _, h, _, _ => h.elim
  | [], [], _ :: _, _, _, h, _, _ => h.elim
  | _ :: _, [], _, _, _, h, _, _ => h.elim
  | _ :: _, _ :: _, [], _, _, h, _, _ => h.elim
  | t :: ts, v :: vs, d :: ds, ps, ht, h, hlt, hsp => by
    obtain ⟨p, q, h1, h2, rfl⟩ := h
    refine ⟨p, q, WideElems.Trod_stays hl (ht t (by simp)).1 (ht t (by simp)).2 h1 (fun x hx => hb.same (hlt x (by simp [hx]))) (fun x hx => hsp x (by simp [hx])), ?_, rfl⟩
    exact args_stay hl hb (fun t h => ht t (by simp [h])) h2 (fun x hx => hlt x (by simp [hx])) (fun x hx => hsp x (by simp [hx]))
theorem law_post (hl : laidOutB P = true) {f : Func} {s : ChangeSpec} {apart fresh handsOn again : Bool} {W W' : World} {args : Array Value} {ds gs : List (DataW H)} {before : List MemPlace} {tb : TypeId}
    (hW : DataW.Whole enc P f.params.toList s.vars apart W args.toList ds gs before) (hv : s.vars = []) (hs : s.fn H (ds ++ gs) = { results := [.lit (.bool true)], args := ds })
    (hrt : f.resultTypes = #[tb]) (htb : P.underlying tb = some .bool) (hts0 : (f.params.toList.all fun t => P.readableRec t && decide (t < P.types.size)) = true) (hb : Below W.heap.size W W') :
    s.post enc P f apart fresh handsOn again W args (.bool true) W' := by
  have hts : ∀ t ∈ f.params.toList, P.readableRec t = true ∧ t < P.types.size := by
    intro t ht
    have := List.all_eq_true.1 hts0 t ht
    simpa using this
  have hlt : ∀ p ∈ before, p.block < W.heap.size := fun p hp => hW.lt p hp
  have hW2 := hW
  obtain ⟨p, q, hA, hV, rfl, -, -⟩ := hW
  rw [hv] at hV
  obtain ⟨rfl, rfl⟩ := trodVars_none hV
  refine post_of_below (pa := p) (pv := []) hW2 ?_ ?_ ?_ (by simp) hb ?_
  · intro b sp hd
    rw [hs, hrt]
    exact trodAll_mk1 ⟨1, by simp [DataW.trod, Value.cells, htb]⟩
  · intro sp hsp
    rw [hs]
    exact args_stay hl hb hts hA (fun x hx => hlt x (by simp [hx])) (fun x hx => hsp x (by simp [hx]))
  · intro sp hsp
    rw [hs, hv]
    exact rfl
  · intro j t r hj hr
    rw [hrt] at hj hr
    obtain rfl : j = 0 := by
      have := (Array.getElem?_eq_some_iff.1 hj).1
      simpa using this
    simp at hj
    subst hj
    have : r = .bool true := by simpa [Value.resultList] using hr.symm
    subst this
    simp [Value.okWide, htb, Cell.okWide, Cell.ok]
variable {w w0 : World} {sp : Nat → Bool} {hd : Bool} {b0 : Nat} {t : TypeId} {v : Value} {d : DataW H} {ps : List MemPlace}
theorem par_sl {e : TypeId} (ht : P.underlying t = some (.slice e)) (hval : Value.okWide P w0 .any b0 t v) (h : DataW.Trod enc P w 0 sp hd t v d ps) {α : Type} {f : α → D} (hf : ∀ N, Trods enc P w sp hd t f N) : ∃ x, Rd w Any (f x) [v] := by
  obtain ⟨a, len, cap, rfl⟩ := okWide_slice ht hval
  obtain ⟨fuel, h⟩ := h
  exact hf (fuel + 1) fuel _ _ (by omega) h
theorem par_st {fs : Array Field} (ht : P.underlying t = some (.struct fs)) (hval : Value.okWide P w0 .any b0 t v) (h : DataW.Trod enc P w 0 sp hd t v d ps) {α : Type} {f : α → D} (hf : ∀ N, Trods enc P w sp hd t f N) : ∃ x cs, v = .agg cs.toArray ∧ Rd w Any (f x) cs := by
  obtain ⟨cs, rfl, -⟩ := okWide_struct ht hval
  obtain ⟨fuel, h⟩ := h
  obtain ⟨x, hx⟩ := hf (fuel + 1) fuel _ _ (by omega) h
  exact ⟨x, cs.toList, rfl, hx⟩
end
end Go.Proofs.YtnkakofcejkhiaaDoor

/- Lifting a law whose row lists variables: the world's shape and what the variables hold, both handed on. -/
namespace Go.Proofs.YtnkakofcejkhiaaDoor
open Go.ChangeShapes Go.WideShapes Go.ChangeAt Go.RowKit Go.Lib
section
variable {H : Type} {enc : TypeId × Value → H}
end
end Go.Proofs.YtnkakofcejkhiaaDoor
