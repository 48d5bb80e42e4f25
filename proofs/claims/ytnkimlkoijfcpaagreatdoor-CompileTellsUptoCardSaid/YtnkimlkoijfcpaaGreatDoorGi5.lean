/- Sums of steps, on plain data. -/
import Derived.Maps.Own
import Derived.Lib.SlKeysI
import Derived.Shelf.SlIterI.Nil
import Derived.Shelf.SortM.Plain
import Derived.Shelf.SortM.SortNone
import Derived.Ground.GgzProg
import Derived.Ground.SlgmProg
import Derived.Test.YtnkimlkoijfcpaaGreatDoorProg
import Derived.Test.YtnkimlkoijfcpaaGreatDoorGi1
import Derived.Test.YtnkimlkoijfcpaaGreatDoorGi2
import Derived.Test.YtnkimlkoijfcpaaGreatDoorGi3
import Derived.Test.YtnkimlkoijfcpaaGreatDoorGi4
set_option linter.unusedSimpArgs false
set_option linter.unusedVariables false
namespace Go.Proofs.YtnkimlkoijfcpaaGreatDoor
open Go.RowKit Go.Lib
end Go.Proofs.YtnkimlkoijfcpaaGreatDoor

/- Pure: steps of typed expressions; what is evaluated. -/
namespace Go.Proofs.YtnkimlkoijfcpaaGreatDoor
open Go.RowKit Go.Lib
mutual
def wfS (m : Nat) : Ex → Bool
  | .mk op n _ l => (!decide (op = 21) || decide (l.length = 3)) && (!decide (op = 22) || (decide (0 ≤ n) && decide (n < m))) && wfSL m l
def wfSL (m : Nat) : List Ex → Bool
  | [] => true
  | e :: l => wfS m e && wfSL m l
end
theorem wfSL_all (m : Nat) : ∀ l, wfSL m l = l.all (wfS m)
  | [] => by rw [wfSL]; rfl
  | e :: l => by rw [wfSL, wfSL_all m l]; rfl
theorem tys_len {F : List Fn} {c p : List Int} : ∀ (l : List Ex) {ts : List Int}, tys F c p l = some ts → ts.length = l.length
  | [], ts, h => by rw [tys] at h; cases h; rfl
  | e :: l, ts, h => by
    rw [tys] at h
    cases he : ty F c p e with
    | none => rw [he] at h; cases h
    | some t =>
      rw [he] at h
      cases hl : tys F c p l with
      | none => rw [hl] at h; cases h
      | some us => rw [hl] at h; cases h; simp [tys_len l hl]
theorem tail_ifW {F : List Fn} {c p : List Int} {n r : Int} {s : ByteArray} {ts : List Int} (h : tailT F c p 21 n s ts = some r) : ts.length = 3 := by
  unfold tailT at h
  split at h
  · cases h
  · rw [if_neg (by decide)] at h
    split at h
    · unfold leafT at h; simp at h
    · unfold operT at h
      split at h
      · cases h
      · simp at h
        split at h
        · rfl
        · cases h
theorem tail_callW {F : List Fn} {c p : List Int} {n r : Int} {s : ByteArray} {ts : List Int} (h : tailT F c p 22 n s ts = some r) : 0 ≤ n ∧ n < F.length := by
  unfold tailT at h
  split at h
  · cases h
  · rw [if_pos rfl] at h
    unfold callT at h
    split at h
    · cases h
    · split at h
      · rename_i hf
        have := (List.getElem?_eq_some_iff.1 hf).1
        omega
      · cases h
theorem wfS_of_ty {F : List Fn} {c p : List Int} (e : Ex) : ∀ {t : Int}, ty F c p e = some t → wfS F.length e = true := by
  induction e using Ex.ind with
  | h op n s l ih =>
    intro t ht
    rw [ty] at ht
    cases hl : tys F c p l with
    | none => rw [hl] at ht; cases ht
    | some ts =>
      rw [hl] at ht
      dsimp only at ht
      rw [wfS, wfSL_all]
      simp only [Bool.and_eq_true, List.all_eq_true, Bool.or_eq_true, Bool.not_eq_true', decide_eq_false_iff_not, decide_eq_true_eq]
      refine ⟨⟨?_, ?_⟩, fun e he => ?_⟩
      · by_cases ho : op = 21
        · subst ho; right; rw [← tys_len l hl]; exact tail_ifW ht
        · left; exact ho
      · by_cases ho : op = 22
        · subst ho; right; exact tail_callW ht
        · left; exact ho
      · obtain ⟨u, hu⟩ := qet l hl e he
        exact ih e he hu
end Go.Proofs.YtnkimlkoijfcpaaGreatDoor

/- Walks: whether an expression reads the time, of the reference. -/
namespace Go.Proofs.YtnkimlkoijfcpaaGreatDoor
open Go.RowKit Go.Lib
end Go.Proofs.YtnkimlkoijfcpaaGreatDoor

/- Walk: expr.walk calls a function for each part, the expression first. -/
namespace Go.Proofs.YtnkimlkoijfcpaaGreatDoor
open Go.RowKit Go.Lib
mutual
def pre : Ex → List Ex
  | .mk o n s l => .mk o n s l :: preL l
def preL : List Ex → List Ex
  | [] => []
  | e :: l => pre e ++ preL l
end
end Go.Proofs.YtnkimlkoijfcpaaGreatDoor

/- Walk: the function that notes a part's column in a map (expr.Reads). -/
namespace Go.Proofs.YtnkimlkoijfcpaaGreatDoor
open Go.RowKit Go.Lib Go.Maps
def RInv (m pb : Nat) (L : List Ex) (w : World) : Prop :=
  (∃ D : DataW Unit, w.ownsMap Tryz.prog 3 (plainElem Tryz.prog 4) m L.length D ∧ ∀ x : Int, has D (.int .i64 x) = true ↔ ∃ y ∈ L, y.op = 3 ∧ y.n = x) ∧ w.cell? ⟨pb, 0, none⟩ = some (.map (some m))
theorem RInv.alloc {m pb : Nat} {L : List Ex} {w : World} (h : RInv m pb L w) (o : Obj) : RInv m pb L (w.alloc o) := by
  obtain ⟨⟨D, h1, h2⟩, h3⟩ := h
  exact ⟨⟨D, h1.alloc o, h2⟩, ((Ext.refl w).alloc o).at h3⟩
theorem RInv.same {m pb : Nat} {L : List Ex} {x : Ex} {w : World} (h : RInv m pb L w) (hx : x.op ≠ 3) : RInv m pb (L ++ [x]) w := by
  obtain ⟨⟨D, h1, h2⟩, h3⟩ := h
  refine ⟨⟨D, h1.mono (by simp), fun z => ?_⟩, h3⟩
  rw [h2 z]
  constructor
  · rintro ⟨y, hy, h⟩
    exact ⟨y, by simp [hy], h⟩
  · rintro ⟨y, hy, h⟩
    rcases List.mem_append.1 hy with hy | hy
    · exact ⟨y, hy, h⟩
    · rw [List.mem_singleton] at hy
      subst hy
      exact absurd h.1 hx
theorem RInv.put {m pb : Nat} {L : List Ex} {x : Ex} {w' : World} {D : DataW Unit} (h2 : ∀ x : Int, has D (.int .i64 x) = true ↔ ∃ y ∈ L, y.op = 3 ∧ y.n = x) (hD : IsMap D) (hx : x.op = 3) (d : DataW Unit)
    (h1 : w'.ownsMap Tryz.prog 3 (plainElem Tryz.prog 4) m (L.length + 1) (D.put (.int .i64 x.n) d)) (h3 : w'.cell? ⟨pb, 0, none⟩ = some (.map (some m))) : RInv m pb (L ++ [x]) w' := by
  refine ⟨⟨_, by rw [List.length_append]; exact h1, fun z => ?_⟩, h3⟩
  by_cases hz : z = x.n
  · subst hz
    rw [has_put_same hD (by trivial)]
    exact ⟨fun _ => ⟨x, by simp, hx, rfl⟩, fun _ => rfl⟩
  · rw [has_put_other (by simpa using hz), h2 z]
    constructor
    · rintro ⟨y, hy, h⟩
      exact ⟨y, by simp [hy], h⟩
    · rintro ⟨y, hy, h⟩
      rcases List.mem_append.1 hy with hy | hy
      · exact ⟨y, hy, h⟩
      · rw [List.mem_singleton] at hy
        subst hy
        exact absurd h.2.symm hz
end Go.Proofs.YtnkimlkoijfcpaaGreatDoor

/- The layings of maps.Keys, slices.Sorted and slices.Sort at ints. -/
namespace Go.Proofs
open Go.Shelf
end Go.Proofs

/- Walks: whether an expression reads the time, of the program. -/
namespace Go.Proofs.YtnkimlkoijfcpaaGreatDoor
open Go.RowKit Go.Lib
def tpart (B : List Bool) (x : Ex) : Bool := decide (x.op = 5) || (if x.op = 22 ∧ 0 ≤ x.n ∧ x.n < B.length then B.getD x.n.toNat false else false)
def TInv (B : List Bool) (S : Nat → Prop) (m pb : Nat) (vB : Value) (L : List Ex) (w : World) : Prop :=
  w.cell? ⟨m, 0, none⟩ = some (.bool (L.any (tpart B))) ∧ w.frozen? ⟨m, 0, none⟩ = false ∧ w.cell? ⟨pb, 0, none⟩ = some vB ∧ Rd w S (.sl (B.map D.bool)) [vB]
theorem TInv.ext {B : List Bool} {S : Nat → Prop} {m pb : Nat} {vB : Value} {L : List Ex} {w w' : World} (h : TInv B S m pb vB L w) (hm : m < w.heap.size) (he : Ext w w') : TInv B S m pb vB L w' :=
  ⟨he.at h.1, (he.frozens _ _ hm).trans h.2.1, he.at h.2.2.1, Rd.ext h.2.2.2 he⟩
end Go.Proofs.YtnkimlkoijfcpaaGreatDoor

/- Layer 25 on plain data: one more instruction. -/
namespace Go.Proofs.YtnkimlkoijfcpaaGreatDoor
open Go.RowKit Go.Lib
theorem doneL_snoc : ∀ (l : List Ins) (x : Ins) (done : List Bool), doneL (l ++ [x]) done = (doneL l done).set x.to.toNat true
  | [], _, _ => rfl
  | y :: l, x, done => by rw [List.cons_append, doneL, doneL_snoc l]; rfl
theorem AllOk.at {cols types : List Int} : ∀ (l : List Ins) (k : Nat) (done : List Bool) (h : k < l.length), AllOk cols types l done → InsOk cols types (doneL (l.take k) done) l[k]
  | x :: l, 0, done, _, ha => ha.1
  | x :: l, k + 1, done, h, ha => by
    have := AllOk.at l k _ (by simpa using h) ha.2
    rw [List.take_succ_cons, doneL]
    exact this
theorem AllOk.take {cols types : List Int} : ∀ (l : List Ins) (k : Nat) (done : List Bool), AllOk cols types l done → AllOk cols types (l.take k) done
  | [], k, done, _ => by simp [AllOk]
  | x :: l, 0, done, _ => trivial
  | x :: l, k + 1, done, ha => ⟨ha.1, AllOk.take l k _ ha.2⟩
theorem nodes_snoc : ∀ (l : List Ins) (x : Ins) (i : Nat) (last : List Nat), nodes (l ++ [x]) i last = nodes l i last ++ [⟨x, (opsP x).map fun r => (lastL l i last).getD r.toNat 0⟩]
  | [], _, _, _ => rfl
  | y :: l, x, i, last => by rw [List.cons_append, nodes, nodes_snoc l]; rfl
theorem lastL_snoc : ∀ (l : List Ins) (x : Ins) (i : Nat) (last : List Nat), lastL (l ++ [x]) i last = (lastL l i last).set x.to.toNat (i + l.length)
  | [], _, _, _ => rfl
  | y :: l, x, i, last => by
    rw [List.cons_append, lastL, lastL_snoc l, List.length_cons]
    rw [show i + 1 + l.length = i + (l.length + 1) by omega]; rfl
theorem lastL_len : ∀ (l : List Ins) (i : Nat) (last : List Nat), (lastL l i last).length = last.length
  | [], _, _ => rfl
  | y :: l, i, last => by rw [lastL, lastL_len l, List.length_set]
end Go.Proofs.YtnkimlkoijfcpaaGreatDoor

/- Layer 25 on plain data: the last instruction that writes a register, as the reference looks for it. -/
namespace Go.Proofs.YtnkimlkoijfcpaaGreatDoor
open Go.RowKit Go.Lib
def insZ : Ins := ⟨0, 0, 0, 0, 0, 0, ByteArray.empty⟩
def lastP (l : List Ins) : Nat → Int → Int
  | 0, _ => -1
  | i + 1, r => if (l.getD i insZ).to = r then i else lastP l i r
theorem lastP_spec (l : List Ins) (r : Int) : ∀ i, (lastP l i r = -1 ∧ ∀ j, j < i → (l.getD j insZ).to ≠ r) ∨ ∃ j : Nat, lastP l i r = j ∧ j < i ∧ (l.getD j insZ).to = r ∧ ∀ k, j < k → k < i → (l.getD k insZ).to ≠ r
  | 0 => .inl ⟨rfl, fun j hj => by omega⟩
  | i + 1 => by
    rw [lastP]
    by_cases h : (l.getD i insZ).to = r
    · rw [if_pos h]
      exact .inr ⟨i, rfl, by omega, h, fun k h1 h2 => by omega⟩
    · rw [if_neg h]
      rcases lastP_spec l r i with ⟨h1, h2⟩ | ⟨j, h1, h2, h3, h4⟩
      · refine .inl ⟨h1, fun j hj => ?_⟩
        by_cases e : j = i
        · subst e; exact h
        · exact h2 j (by omega)
      · refine .inr ⟨j, h1, by omega, h3, fun k h5 h6 => ?_⟩
        by_cases e : k = i
        · subst e; exact h
        · exact h4 k h5 (by omega)
theorem getD_ins {l : List Ins} {k : Nat} (h : k < l.length) : l.getD k insZ = l[k] := by rw [List.getD_eq_getElem?_getD, List.getElem?_eq_getElem h]; rfl
theorem last_at' : ∀ (l : List Ins) (i0 : Nat) (last : List Nat) (r i : Nat) (hi : i < l.length), l[i].to.toNat = r → (∀ j (h : j < l.length), i < j → l[j].to.toNat ≠ r) → r < last.length → (lastL l i0 last).getD r 0 = i0 + i
  | x :: l, i0, last, r, 0, _, hx, hn, hr => by
    rw [lastL]
    have keep : ∀ (l : List Ins) (k : Nat) (last : List Nat), (∀ j (h : j < l.length), l[j].to.toNat ≠ r) → (lastL l k last).getD r 0 = last.getD r 0 := fun l => by
      induction l with
      | nil => intro _ _ _; rfl
      | cons y l ih =>
        intro k last h
        rw [lastL, ih _ _ fun j hj => h (j + 1) (by simpa using hj), qy, if_neg (fun e => h 0 (by simp) e.1)]
    rw [keep l _ _ fun j hj => hn (j + 1) (by simpa using hj) (by omega), qy, if_pos ⟨hx, by have hx2 : x.to.toNat = r := hx; rw [hx2]; exact hr⟩]; rfl
  | x :: l, i0, last, r, i + 1, hi, hx, hn, hr => by
    rw [lastL, last_at' l (i0 + 1) _ r i (by simpa using hi) hx (fun j hj hij => hn (j + 1) (by simpa using hj) (by omega)) (by rw [List.length_set]; exact hr)]
    omega
theorem done_some' : ∀ (l : List Ins) (done : List Bool) (r : Nat), (doneL l done).getD r false = true → done.getD r false = false → ∃ i, ∃ h : i < l.length, l[i].to.toNat = r
  | [], done, r, h1, h2 => by rw [doneL] at h1; rw [h1] at h2; cases h2
  | x :: l, done, r, h1, h2 => by
    by_cases hx : x.to.toNat = r
    · exact ⟨0, by simp, hx⟩
    · rw [doneL] at h1
      obtain ⟨i, hi, h⟩ := done_some' l _ r h1 (by rw [qy, if_neg (fun e => hx e.1)]; exact h2)
      exact ⟨i + 1, by simpa using hi, h⟩
theorem lastP_eq {c : Cod} {cols : List Int} (h : CodOk c cols) {i : Nat} (hi : i ≤ c.ins.length) {r : Int} (h0 : 0 ≤ r) (h1 : r < c.types.length) (hd : (doneL (c.ins.take i) (List.replicate c.types.length false)).getD r.toNat false = true) :
    lastP c.ins i r = ((lastL (c.ins.take i) 0 (List.replicate c.types.length 0)).getD r.toNat 0 : Nat) ∧ 0 ≤ lastP c.ins i r := by
  have hto : ∀ i (hi : i < c.ins.length), 0 ≤ c.ins[i].to := fun i hi => (AllOk.at c.ins i _ hi h.all).to0
  obtain ⟨j0, hj0, e0⟩ := done_some' _ _ _ hd (by rw [List.getD_eq_getElem?_getD, List.getElem?_replicate]; split <;> rfl)
  rw [List.length_take] at hj0
  rw [List.getElem_take] at e0
  rcases lastP_spec c.ins r i with ⟨-, h3⟩ | ⟨j, h3, h4, h5, h6⟩
  · exfalso
    have := h3 j0 (by omega)
    rw [getD_ins (by omega)] at this
    have := hto j0 (by omega)
    omega
  · rw [getD_ins (by omega)] at h5
    rw [h3, last_at' (c.ins.take i) 0 _ r.toNat j (by rw [List.length_take]; omega) (by rw [List.getElem_take, h5]) (fun k hk hjk => by
      rw [List.length_take] at hk
      rw [List.getElem_take]
      have := h6 k hjk (by omega)
      rw [getD_ins (by omega)] at this
      have := hto k (by omega)
      omega) (by simp; omega)]
    exact ⟨by omega, by omega⟩
theorem nodes_at : ∀ (l : List Ins) (i0 : Nat) (last : List Nat) (i : Nat) (hi : i < l.length), (nodes l i0 last)[i]? = some ⟨l[i], (opsP l[i]).map fun r => (lastL (l.take i) i0 last).getD r.toNat 0⟩
  | x :: l, i0, last, 0, _ => by rw [nodes]; simp [lastL]
  | x :: l, i0, last, i + 1, hi => by
    rw [nodes, List.getElem?_cons_succ, nodes_at l _ _ i (by simpa using hi)]
    simp [lastL]
theorem src_last {c : Cod} {cols : List Int} (h : CodOk c cols) {i : Nat} (hi : i < c.ins.length) : (opsP c.ins[i]).map (lastP c.ins i) = (srcOf (qv c) i).map fun k : Nat => (k : Int) := by
  unfold srcOf qv
  rw [List.getD_eq_getElem?_getD, nodes_at c.ins 0 _ i hi]
  simp only [Option.getD_some, List.map_map]
  refine List.map_congr_left fun r hr => ?_
  obtain ⟨h1, h2, h3⟩ := (AllOk.at c.ins i _ hi h.all).args r hr
  exact (lastP_eq h (by omega) h1 h2 h3).1
theorem root_last {c : Cod} {cols : List Int} (h : CodOk c cols) : lastP c.ins c.ins.length c.out = rootC c := by
  have := (lastP_eq h (Nat.le_refl _) h.out0 h.out1 (by rw [List.take_length]; exact h.out2)).1
  rw [List.take_length] at this
  exact this
def laterB (c : Cod) (a : Nat) (v : Int) : Bool := lastP c.ins c.ins.length c.out == v || (List.range c.ins.length).any fun i => decide (a < i) && (opsP (c.ins.getD i insZ)).any fun r => lastP c.ins i r == v
theorem endI_gt : ∀ (l : List Nd) (i : Nat) (e : List Nat) (k a : Nat), k < e.length → e.getD k 0 ≤ i → (a < (endI l i e).getD k 0 ↔ a < e.getD k 0 ∨ ∃ j, j < l.length ∧ (k ∈ srcOf l j ∨ k = i + j) ∧ a < i + j)
  | [], i, e, k, a, hk, he => by rw [endI]; simp
  | d :: l, i, e, k, a, hk, he => by
    rw [endI]
    obtain ⟨h1, h2⟩ := fold_end d.src (e.set i i) i
    obtain ⟨h3, h4⟩ := h2 k (by simpa using hk)
    have hs0 : srcOf (d :: l) 0 = d.src := rfl
    have hss : ∀ j, srcOf (d :: l) (j + 1) = srcOf l j := fun j => by unfold srcOf; rw [List.getD_cons_succ]
    have key : (d.src.foldl (fun e k => e.set k i) (e.set i i)).getD k 0 = if k ∈ d.src ∨ k = i then i else e.getD k 0 := by
      by_cases hm : k ∈ d.src
      · rw [h3 hm, if_pos (.inl hm)]
      · rw [h4 hm, qy]
        by_cases hki : k = i
        · subst hki; rw [if_pos ⟨rfl, hk⟩, if_pos (.inr rfl)]
        · rw [if_neg (fun e => hki e.1.symm), if_neg (fun e => e.elim hm hki)]
    rw [endI_gt l (i + 1) _ k a (by rw [h1]; simpa using hk) (by rw [key]; split <;> omega), key]
    constructor
    · rintro (h | ⟨j, h5, h6, h7⟩)
      · split at h
        · rename_i hc
          exact .inr ⟨0, by simp, by rw [hs0]; simpa using hc, by omega⟩
        · exact .inl h
      · exact .inr ⟨j + 1, by simpa using h5, by rw [hss]; rcases h6 with h6 | h6; exact .inl h6; exact .inr (by omega), by omega⟩
    · rintro (h | ⟨j, h5, h6, h7⟩)
      · left; split <;> omega
      · cases j with
        | zero =>
          left
          rw [hs0] at h6
          rw [if_pos (by simpa using h6)]; omega
        | succ j => exact .inr ⟨j, by simpa using h5, by rw [hss] at h6; rcases h6 with h6 | h6; exact .inl h6; exact .inr (by omega), by omega⟩
theorem later_end {c : Cod} {cols : List Int} (h : CodOk c cols) {a v : Nat} (hva : v ≤ a) (ha : a < c.ins.length) : laterB c a v = decide (a < (endP (qv c) (rootC c)).getD v 0) := by
  have hnl : (qv c).length = c.ins.length := by unfold qv; exact qbp _ _ _
  rw [Bool.eq_iff_iff, decide_eq_true_iff]
  unfold laterB endP
  rw [root_last h, qy, endI_len, List.length_replicate, hnl]
  have hend := endI_gt (qv c) 0 (List.replicate c.ins.length 0) v a (by simp; omega) (by rw [List.getD_eq_getElem?_getD, List.getElem?_replicate]; split <;> simp)
  by_cases hr : rootC c = v
  · rw [if_pos ⟨hr, by omega⟩]
    simp [hr, ha]
  · rw [if_neg (fun e => hr e.1), hend]
    simp only [Bool.or_eq_true, beq_iff_eq, List.any_eq_true, List.mem_range, Bool.and_eq_true, decide_eq_true_eq]
    have hsrc : ∀ i, i < c.ins.length → ((∃ r ∈ opsP (c.ins.getD i insZ), lastP c.ins i r = v) ↔ v ∈ srcOf (qv c) i) := fun i hi => by
      rw [getD_ins hi]
      have hm := src_last h hi
      constructor
      · rintro ⟨r, hr1, hr2⟩
        have : lastP c.ins i r ∈ (srcOf (qv c) i).map fun k : Nat => (k : Int) := by rw [← hm]; exact List.mem_map_of_mem hr1
        obtain ⟨k, hk1, hk2⟩ := List.mem_map.1 this
        have : k = v := by omega
        rw [← this]; exact hk1
      · intro hv
        have : (v : Int) ∈ (opsP c.ins[i]).map (lastP c.ins i) := by rw [hm]; exact List.mem_map.2 ⟨v, hv, rfl⟩
        obtain ⟨r, hr1, hr2⟩ := List.mem_map.1 this
        exact ⟨r, hr1, hr2⟩
    constructor
    · rintro (h1 | ⟨i, hi, h1, h2⟩)
      · exact absurd (by omega) hr
      · exact .inr ⟨i, by omega, .inl ((hsrc i hi).1 h2), by omega⟩
    · rintro (h1 | ⟨j, h1, h2, h3⟩)
      · rw [List.getD_eq_getElem?_getD, List.getElem?_replicate] at h1
        split at h1 <;> simp at h1
      · rcases h2 with h2 | h2
        · exact .inr ⟨j, by omega, by omega, (hsrc j (by omega)).2 h2⟩
        · omega
end Go.Proofs.YtnkimlkoijfcpaaGreatDoor

/- Walks: the program's steps. -/
namespace Go.Proofs.YtnkimlkoijfcpaaGreatDoor
open Go.RowKit Go.Lib
end Go.Proofs.YtnkimlkoijfcpaaGreatDoor
