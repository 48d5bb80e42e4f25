/- Slices of trees that the call itself makes: appending an element whose memory is new. -/
import Derived.Maps.AppendAt
import Derived.Test.YtnkakofcejkhiaaDoorGa1
import Derived.Test.YtnkakofcejkhiaaDoorGa4
import Derived.Test.YtnkakofcejkhiaaDoorGa5
import Derived.Test.YtnkakofcejkhiaaDoorGa6
set_option linter.unusedSimpArgs false
set_option linter.unusedVariables false
namespace Go.Proofs.YtnkakofcejkhiaaDoor
open Go.RowKit Go.Lib

theorem grown_cell {W w' : World} {own : Option Nat} (hg : W.grownBy w' own) {p : Addr} {v : Value} (hc : W.cell? p = some v) (hne : some p.block ≠ own) : w'.cell? p = some v :=
  (World.cell?_of_block (hg.block p.block (World.block_lt_of_cell? W p hc) hne)).trans hc
theorem grown_frozen {W w' : World} {own : Option Nat} (hg : W.grownBy w' own) {p : Addr} (hlt : p.block < W.heap.size) (hne : some p.block ≠ own) : w'.frozen? p = W.frozen? p :=
  World.frozen?_of_block (hg.block p.block hlt hne)
theorem own_ne {w : World} {B : Nat} {e : TypeId} {size n : Nat} {v : Value} {xs : List Value} (h : w.ownsRow B e size v n xs) : some w.heap.size ≠ v.ownBlock := fun e => by
  have := (h.lt _ e.symm).2; omega

/-- the slice is the call's own, and its elements lie in memory that is new since B -/
def OwnE (w : World) (B : Nat) (e : TypeId) (size : Nat) (v : Value) (ds : List D) : Prop :=
  ∃ xs, w.ownsRow B e size v ds.length xs ∧ RdS w (fun b => B ≤ b ∧ b < w.heap.size ∧ some b ≠ v.ownBlock) ds xs

theorem OwnE.nil (w : World) (B : Nat) (e : TypeId) (size : Nat) : OwnE w B e size (.slice none 0 0) [] := ⟨[], World.ownsRow_nil _ _ _ _, by rw [RdS]⟩
theorem OwnE.ext {w w' : World} {B : Nat} {e : TypeId} {size : Nat} {v : Value} {ds : List D} (h : OwnE w B e size v ds) (he : Ext w w') : OwnE w' B e size v ds := by
  obtain ⟨xs, h1, h2⟩ := h
  exact ⟨xs, own_ext h1 he, RdS.keep (fun b hb _ => he.block b hb.2.1) (fun b hb => ⟨hb.1, Nat.lt_of_lt_of_le hb.2.1 he.size, hb.2.2⟩) ds xs h2⟩
theorem OwnE.set {w : World} {B : Nat} {e : TypeId} {size : Nat} {v : Value} {ds : List D} (h : OwnE w B e size v ds) {p : Addr} (hp : p.block < B) (u : Value) : OwnE (w.setCell p u) B e size v ds := by
  obtain ⟨xs, h1, h2⟩ := h
  have hb : ∀ b, B ≤ b → (w.setCell p u).heap[b]? = w.heap[b]? := fun b hb => by
    exact Below.heap_setCell w p u b (by omega)
  have hs : (w.setCell p u).heap.size = w.heap.size := by simp
  refine ⟨xs, ⟨h1.1, ?_⟩, RdS.keep (fun b hx _ => hb b hx.1) (fun b hx => by rw [hs]; exact hx) ds xs h2⟩
  rcases h1.2 with h3 | ⟨g, cap, cur, hv, hg, hh, r⟩
  · exact Or.inl h3
  · exact Or.inr ⟨g, cap, cur, hv, hg, (hb g hg).trans hh, r⟩
theorem OwnE.rd {w : World} {B : Nat} {e : TypeId} {size : Nat} {v : Value} {ds : List D} (h : OwnE w B e size v ds) : Rd w (fun b => B ≤ b ∧ b < w.heap.size) (.sl ds) [v] := by
  obtain ⟨xs, h1, h2⟩ := h
  exact own_rd h1 h2 (fun b hb => ⟨hb.1, hb.2.1⟩) (fun b hb => by have := h1.lt b hb; exact this)
theorem OwnE.own {w : World} {B : Nat} {e : TypeId} {size : Nat} {v : Value} {ds : List D} (h : OwnE w B e size v ds) : ∀ b, v.ownBlock = some b → B ≤ b ∧ b < w.heap.size := by
  obtain ⟨xs, h1, h2⟩ := h
  exact fun b hb => h1.lt b hb
theorem OwnE.ne {w : World} {B : Nat} {e : TypeId} {size : Nat} {v : Value} {ds : List D} (h : OwnE w B e size v ds) {b : Nat} (hb : b < B) : some b ≠ v.ownBlock := fun hx => by
  have := h.own b hx.symm; omega

theorem OwnE.form {w : World} {B : Nat} {e : TypeId} {size : Nat} {v : Value} {ds : List D} (h : OwnE w B e size v ds) {n : Nat} (hn : ds.length = n) : ∃ A cap, v = .slice A n cap ∧ n ≤ cap ∧ cap ≤ 9223372036854775807 := by
  subst hn
  obtain ⟨A, cap, b, off, h1, h2, h3, -⟩ := Rd.sl_open h.rd
  exact ⟨A, cap, h1, h2, h3⟩

theorem RdS.snoc {w : World} {S : Nat → Prop} {d : D} {c2 : List Value} (hd : Rd w S d c2) : ∀ (l : List D) (c1 : List Value), RdS w S l c1 → RdS w S (l ++ [d]) (c1 ++ c2)
  | [], c1, h => by
    rw [RdS] at h; subst h
    rw [List.nil_append, List.nil_append, RdS]
    exact ⟨c2, [], by simp, hd, by rw [RdS]⟩
  | x :: l, c1, h => by
    rw [RdS] at h
    obtain ⟨a, b, rfl, h1, h2⟩ := h
    rw [List.cons_append, RdS]
    exact ⟨a, b ++ c2, by simp, h1, RdS.snoc hd l b h2⟩

theorem wp_append_e {P : Program} {ops : Array Oper} {rest : List Oper} {o : Oper} {a : Act} {Q : Exit → Act → World → Prop} (W : World) (cs : Array Value) (et : TypeId)
    (hgd : o.guard = none) (s x : Operand) (t : TypeId) (ho : o.op = .call { callee := .builtin .append, args := #[s, x], argTypes := #[t, t] })
    (B : Nat) (e : TypeId) (size bytes : Nat) (z : Value) (ht : P.underlying t = some (.slice e)) (hinfo : (P.info? e).map (fun i => (i.zero, i.size, i.bytes)) = some (some z, size, bytes))
    (hz : z.cells.size = size) (hsz : 0 < size) (hby : 0 < bytes)
    (v : Value) (ds : List D) (hs : a.eval s = v) (hown : OwnE W B e size v ds) (g : Nat) (hx : a.eval x = .slice (some ⟨g, 0, none⟩) 1 1) (hg : g = W.heap.size) (hcs : cs.size = size) (h1 : ∀ u ∈ cs.toList, u.oneCell' = true)
    (d : D) (hd : Rd W (fun b => B ≤ b ∧ b < W.heap.size ∧ some b ≠ v.ownBlock) d cs.toList)
    (hb : (ds.length + 1) * bytes ≤ 140737488355328) (hB : B ≤ W.heap.size)
    (h : ∀ v' w', OwnE w' B e size v' (ds ++ [d]) → W.grownBy w' v.ownBlock → v' ≠ .slice none 0 0 → wpList P ops Q rest (a.put o.dst v') w') : wpList P ops Q (o :: rest) a (W.alloc (.cells cs et)) := by
  subst hg
  obtain ⟨i, hi, hz0, hz1, hz2⟩ := info_parts hinfo
  obtain ⟨xs, hrow, hrd⟩ := hown
  have hbb : ds.length + 1 ≤ 140737488355328 := Nat.le_trans (Nat.le_mul_of_pos_right _ hby) hb
  refine wpList_append_own_at (w := W.alloc (.cells cs et)) hgd s x t ho B e i z size bytes ht hi hz0 hz1 hz2 hz hsz v ds.length xs hs (hrow.alloc _) ⟨W.heap.size, 0, none⟩ 1 1 cs.toList hx (by simpa using hcs) (cells_new W cs et) h1
    (by unfold maxLen; omega) hb (by simp; omega) ?_
  intro v' w' h2 h3 h4 h5
  have h6 := World.grownBy_alloc W (.cells cs et) v.ownBlock
  have hgr : W.grownBy w' v.ownBlock := ⟨h3.os.trans h6.os, h3.tape.trans h6.tape, h3.output.trans h6.output, Nat.le_trans h6.size h3.size, fun k hk hne => (h3.block k (Nat.lt_of_lt_of_le hk h6.size) hne).trans (h6.block k hk hne)⟩
  refine h v' w' ⟨xs ++ cs.toList, by simpa using h2, ?_⟩ hgr (fun e => by have := h4.1 e; omega)
  refine RdS.snoc ?_ ds xs ?_
  · refine Rd.keep (fun b hb hlt => hgr.block b hlt hb.2.2) (fun b hb => ⟨hb.1, Nat.lt_of_lt_of_le hb.2.1 hgr.size, fun hx => ?_⟩) d _ hd
    rcases h5 with h5 | h5
    · rw [h5] at hx; exact hb.2.2 hx
    · rw [h5] at hx
      have : b = (W.alloc (.cells cs et)).heap.size := by simpa using hx
      have hh : (W.alloc (.cells cs et)).heap.size = W.heap.size + 1 := by simp
      omega
  · refine RdS.keep (fun b hb hlt => hgr.block b hlt hb.2.2) (fun b hb => ⟨hb.1, Nat.lt_of_lt_of_le hb.2.1 hgr.size, fun hx => ?_⟩) ds _ hrd
    rcases h5 with h5 | h5
    · rw [h5] at hx; exact hb.2.2 hx
    · rw [h5] at hx
      have : b = (W.alloc (.cells cs et)).heap.size := by simpa using hx
      have hh : (W.alloc (.cells cs et)).heap.size = W.heap.size + 1 := by simp
      omega

/-- the steps of a mixed region -/
theorem wpReads_nil {P : Program} {ops : Array Oper} {C : World → Prop} {Q : Act → Prop} {a : Act} (h : Q a) : wpReads P ops C Q [] a := h
theorem wpReads_cons {P : Program} {ops : Array Oper} {C : World → Prop} {Q : Act → Prop} {a : Act} {o : Oper} {rest : List Oper} {v : Value} (hw : Region.wanted o (yielded ops a.tmps) = true)
    (hy : ∀ w, C w → (execOp a.eval o).run P w = .ok (.value v) w) (h : wpReads P ops C Q rest (a.put o.dst v)) : wpReads P ops C Q (o :: rest) a := ⟨v, .inl ⟨hw, hy⟩, h⟩
theorem wpSpec_nil {P : Program} {ops : Array Oper} {C : World → Prop} {Q : Exit → Act → World → Prop} {fin : Act → World → Prop} {a : Act} {w : World} (h : fin a w) : wpSpec P ops C Q fin [] a w := h
theorem wpSpec_cons {P : Program} {ops : Array Oper} {C : World → Prop} {Q : Exit → Act → World → Prop} {fin : Act → World → Prop} {a : Act} {w : World} {o : Oper} {rest : List Oper} (hw : Region.wanted o (yielded ops a.tmps) = true)
    (h : ∀ K' : Act → World → Prop, Shut (∀ a w, C w → wpSpec P ops C Q fin rest a w → K' a w) → Oper.wp P o a w K' Q) : wpSpec P ops C Q fin (o :: rest) a w := by
  rw [wpSpec, if_pos hw]
  exact h _ (fun a w h1 h2 => ⟨h1, h2⟩)
theorem wp_region_mixed_ext {P : Program} {id : Nat} {Q : Exit → Act → World → Prop} {a : Act} {w : World} {l : List Oper} (n m : Nat) (hnm : n ≤ m) (hf : P.follows .mixedOrders = true) (hB : Region.lexTailB .any l.toArray m = true)
    (hB2 : Region.lexHead .any l.toArray (l.length - n) n 0 (Array.replicate l.toArray.size false) = true)
    (h : wpReads P l.toArray (fun w' => ∃ x : ExtW w, w' = x.val) (fun a' => wpSpec P l.toArray (fun w' => ∃ x : ExtW w, w' = x.val) (NoPanic Q) (fun a'' w'' => wpList P l.toArray (NoPanic Q) (l.drop m) a'' w'') ((l.take m).drop n) a' w.drew) (l.take n) a) : (Code.region id l.toArray true).wp P Q a w :=
  wp_region_noPanic (wp_region_mixed n m hnm hf hB hB2 (fun _ _ _ _ _ h => h) ⟨⟨w.drew, (Ext.refl w).drew⟩, rfl⟩ h)
theorem ext_in {w w' : World} (h : Ext w w') : ∃ x : ExtW w, w' = x.val := ⟨⟨w', h⟩, rfl⟩
end Go.Proofs.YtnkakofcejkhiaaDoor

/- Regions that draw their order: reads (also late ones) and operations that stand alone, in any sequence; then a tail in one order. -/
namespace Go.Proofs.YtnkakofcejkhiaaDoor
open Go.RowKit Go.Lib

section
variable {P : Program} {ops : Array Oper} {md : Region.Mode} {C : World → Prop} {Q : Exit → Act → World → Prop}

/-- true: a read; false: an operation that stands alone -/
def wpMix (P : Program) (ops : Array Oper) (C : World → Prop) (Q : Exit → Act → World → Prop) (fin : Act → World → Prop) : List Bool → List Oper → Act → World → Prop
  | true :: fl, o :: rest, a, w => ∃ v, YieldsIf P ops C o v a ∧ wpMix P ops C Q fin fl rest (a.put o.dst v) w
  | false :: fl, o :: rest, a, w => if Region.wanted o (yielded ops a.tmps) = true then Oper.wp P o a w (fun a' w' => C w' ∧ wpMix P ops C Q fin fl rest a' w') Q else C w ∧ wpMix P ops C Q fin fl rest (a.put o.dst undef) w
  | _, [], a, w => fin a w
  | [], _ :: _, _, _ => False
def mixB (md : Region.Mode) (ops : Array Oper) (g m : Nat) : List Bool → Nat → Array Bool → Bool
  | [], k, listed => decide (k = m) && Region.seqB md ops g m listed
  | true :: fl, k, listed => (Region.ready md ops listed).contains k && Region.free md ops listed k && mixB md ops g m fl (k + 1) (listed.setIfInBounds k true)
  | false :: fl, k, listed => decide (Region.ready md ops listed = [k]) && mixB md ops g m fl (k + 1) (listed.setIfInBounds k true)

theorem wpHeadW_mix {m g : Nat} {fin : Act → World → Prop} (hsel : Region.noSelect ops = true) (hs : Region.sinkB md ops m = true) (hc : Region.chainB md ops m = true) (hm : m < ops.size)
    (hQ : ∀ c a d u w, Q (.panic c) (Act.put a d u) w → Q (.panic c) a w) :
    ∀ (fl : List Bool) (l : List Oper) (k : Nat) (listed : Array Bool) (a : Act) (w : World), fl.length = l.length → (∀ j, j < l.length → l[j]? = ops[k + j]?) → k + l.length = m → HeadInv md ops m listed → C w →
    mixB md ops g m fl k listed = true → wpMix P ops C Q fin fl l a w →
    wpHeadW P md ops C Q m (fun listed' a' w' => Region.seqB md ops g m listed' = true ∧ fin a' w') l.length listed a w
  | [], [], k, listed, a, w, _, _, hk, _, _, hB, h => by
    simp only [mixB, Bool.and_eq_true, decide_eq_true_eq] at hB
    exact ⟨hB.2, by simpa [wpMix] using h⟩
  | [], _ :: _, _, _, _, _, hl, _, _, _, _, _, _ => by simp at hl
  | _ :: _, [], _, _, _, _, hl, _, _, _, _, _, _ => by simp at hl
  | true :: fl, o :: l, k, listed, a, w, hlen, hl, hk, inv, hC, hB, h => by
    have h0 : ops[k]? = some o := by simpa using (hl 0 (by simp)).symm
    simp only [mixB, Bool.and_eq_true] at hB
    obtain ⟨⟨hr, hf⟩, hB'⟩ := hB
    have hkm : k < m := by simp only [List.length_cons] at hk; omega
    have hr' : k ∈ Region.ready md ops listed := by simpa using hr
    rw [wpMix] at h
    obtain ⟨v, hy, hK⟩ := h
    exact wpHeadW_first h0 (Region.noSelect_spec hsel) hs hc hm hkm hQ (fun listed' a' w' hL => seqB_ready hL.1) l.length listed a w inv (Region.free_spec h0 hf) hr' hy hC
      (wpHeadW_mix hsel hs hc hm hQ fl l (k + 1) _ _ w (by simpa using hlen) (fun j hj => by have := hl (j + 1) (by simp; omega); simpa [Nat.add_assoc, Nat.add_comm 1 j] using this) (by simp only [List.length_cons] at hk; omega) (inv.set hr' hkm) hC hB' hK)
  | false :: fl, o :: l, k, listed, a, w, hlen, hl, hk, inv, hC, hB, h => by
    have h0 : ops[k]? = some o := by simpa using (hl 0 (by simp)).symm
    simp only [mixB, Bool.and_eq_true, decide_eq_true_eq] at hB
    have hkm : k < m := by simp only [List.length_cons] at hk; omega
    have hr' : k ∈ Region.ready md ops listed := by rw [hB.1]; simp
    have hnext := fun a' w' (hC' : C w') h4 => wpHeadW_mix (g := g) (fin := fin) hsel hs hc hm hQ fl l (k + 1) (listed.setIfInBounds k true) a' w' (by simpa using hlen) (fun j hj => by have := hl (j + 1) (by simp; omega); simpa [Nat.add_assoc, Nat.add_comm 1 j] using this) (by simp only [List.length_cons] at hk; omega) (inv.set hr' hkm) hC' hB.2 h4
    refine ⟨fun h1 => (by rw [hB.1] at h1; cases h1), fun i hi => ?_⟩
    rw [hB.1] at hi
    obtain rfl : i = k := by simpa using hi
    refine ⟨hkm, wpOp_step h0 fun K' hK => ?_⟩
    rw [wpMix] at h
    by_cases hw : Region.wanted o (yielded ops a.tmps) = true
    · rw [if_pos hw] at h ⊢
      refine Oper.wp_mono (fun a1 w1 h1 => hK a1 w1 ⟨h1.1, hnext a1 w1 h1.1 h1.2⟩) h
    · rw [if_neg hw] at h ⊢
      exact hK _ _ ⟨h.1, hnext _ _ h.1 h.2⟩

theorem wp_region_mix {id : Nat} {a : Act} {w : World} {l : List Oper} (fl : List Bool) (hfl : fl.length ≤ l.length) (hf : P.follows .mixedOrders = true) (hB : Region.lexTailB .any l.toArray fl.length = true)
    (hB2 : mixB .any l.toArray (l.length - fl.length) fl.length fl 0 (Array.replicate l.toArray.size false) = true)
    (h : wpMix P l.toArray (fun w' => ∃ x : ExtW w, w' = x.val) (NoPanic Q) (fun a'' w'' => wpList P l.toArray (NoPanic Q) (l.drop fl.length) a'' w'') fl (l.take fl.length) a w.drew) : (Code.region id l.toArray true).wp P Q a w := by
  refine wp_region_noPanic ?_
  simp only [Region.lexTailB, Bool.and_eq_true, decide_eq_true_eq] at hB
  obtain ⟨⟨⟨⟨hsel, hm⟩, hs⟩, hc⟩, -⟩ := hB
  have htl : (l.take fl.length).length = fl.length := by simp; omega
  have inv0 : HeadInv .any l.toArray fl.length (Array.replicate l.toArray.size false) :=
    ⟨by simp, fun j oj _ hl => (by rw [getD_replicate_false] at hl; cases hl), fun t _ ht => getD_in (by simpa using ht) (getD_replicate_false _ _)⟩
  have H := wpHeadW_mix (P := P) (Q := NoPanic Q) (C := fun w' => ∃ x : ExtW w, w' = x.val) (md := .any) (m := fl.length) (g := l.length - fl.length) (fin := fun a'' w'' => wpList P l.toArray (NoPanic Q) (l.drop fl.length) a'' w'') hsel hs hc hm (fun _ _ _ _ _ h => h)
    fl (l.take fl.length) 0 _ a w.drew htl.symm (fun j hj => by rw [htl] at hj; simp [hj]) (by simpa using htl) inv0 ⟨⟨w.drew, (Ext.refl w).drew⟩, rfl⟩ hB2 h
  refine wp_region_any hf ?_
  have := wpAny_of_headW (Q := NoPanic Q) (g := l.length - fl.length) (fun listed a' w' hL => by
    have := wpAny_of_seq (md := .any) (Q' := NoPanic Q) (l.drop fl.length) fl.length listed a' w' (fun j => by simp [List.getElem?_drop]) (by simpa using hL.1) hL.2
    simpa using this) _ _ _ _ H
  rw [htl, show fl.length + (l.length - fl.length) = l.toArray.size by simp; omega] at this
  exact this
theorem wpMix_read {fin : Act → World → Prop} {fl : List Bool} {a : Act} {w : World} {o : Oper} {rest : List Oper} {v : Value} (hw : Region.wanted o (yielded ops a.tmps) = true)
    (hy : ∀ w, C w → (execOp a.eval o).run P w = .ok (.value v) w) (h : wpMix P ops C Q fin fl rest (a.put o.dst v) w) : wpMix P ops C Q fin (true :: fl) (o :: rest) a w := by
  rw [wpMix]; exact ⟨v, .inl ⟨hw, hy⟩, h⟩
theorem wpMix_do {fin : Act → World → Prop} {fl : List Bool} {a : Act} {w : World} {o : Oper} {rest : List Oper} (hw : Region.wanted o (yielded ops a.tmps) = true)
    (h : ∀ K' : Act → World → Prop, Shut (∀ a w, C w → wpMix P ops C Q fin fl rest a w → K' a w) → Oper.wp P o a w K' Q) : wpMix P ops C Q fin (false :: fl) (o :: rest) a w := by
  rw [wpMix, if_pos hw]
  exact h _ (fun a w h1 h2 => ⟨h1, h2⟩)
theorem wpMix_end {fin : Act → World → Prop} {a : Act} {w : World} (h : fin a w) : wpMix P ops C Q fin [] [] a w := by rw [wpMix]; exact h
end
end Go.Proofs.YtnkakofcejkhiaaDoor

/- Walks: the number of parts, of the reference. -/
namespace Go.Proofs.YtnkakofcejkhiaaDoor
open Go.RowKit Go.Lib

set_option maxRecDepth 10000 in
set_option maxHeartbeats 2000000 in
theorem rparts_any (e : Ex) : ∀ (S : Nat → Prop) (cs : List Value) (w : World), Rd w S e.d cs → parts e ≤ 1000000 →
    Calls Tryd.prog 77 #[.agg cs.toArray] w fun r w' => r = .returned (.int .i64 (parts e)) ∧ Ext w w' := by
  induction e using Ex.ind with | h o n s l ih => ?_
  intro S cs w hr hpb
  obtain ⟨A, cap, b, off, rfl, hl1, hl2, hl3, hm⟩ := Ex.open hr
  have ih' := Lib.hid ih
  clear ih
  simp only [Ex.args, Ex.op, Ex.n, Ex.s] at hl1 hl2 hl3 hm ⊢
  rw [parts] at hpb
  have hll : l.length ≤ 1000000 := by have := partsL_len l; omega
  have hl3' := Lib.hid hl3; have hm' := Lib.hid hm
  have H := Lib.hid (show parts (.mk o n s l) = partsL l + 1 by rw [parts])
  clear hr hl3 hm
  go_enter Tryd.func77, Tryd.ntmps77
  go_wp2_with fail
  go_loopw [3, 4] (fun x i wr => ∃ (k q : Nat), k ≤ l.length ∧ i = .int .i64 k ∧ x = .int .i64 q ∧ q ≤ 1000000 ∧ Hid (q = partsL (l.take k) + 1) ∧ Ext (w.alloc (.cells #[.int .i64 o, .int .i64 n, .string s, .slice A l.length cap] 52)) wr) (fun _ i _ => l.length - (RowKit.intOf i).toNat)
  case atStart => exact ⟨0, 1, by omega, rfl, rfl, by omega, Lib.hid (by simp [partsL]), Ext.refl _⟩
  case round =>
    obtain ⟨k, q, hk, rfl, rfl, hq, HH, hb⟩ := hrel
    have e3 : wr.cell? ⟨w.heap.size, 3, none⟩ = some (.slice A l.length cap) := hb.at (by go_simp)
    have hw : Ext w wr := ((Ext.refl _).alloc _).trans hb
    by_cases hlt : k < l.length
    · obtain ⟨rfl, hSb⟩ := hl3'.out (by omega)
      obtain ⟨A1, cap1, b1, off1, c0, c1, c2, c3, hr', -⟩ := Ex.at (hm'.out.ext (fun _ => hSb) hw) hlt
      have hr2 := Lib.hid hr'
      have hSb' := Lib.hid hSb
      have hpk : parts l[k] ≤ 1000000 := by have := partsL_mem l l[k] (List.getElem_mem hlt); omega
      have hqn : q + parts l[k] ≤ 1000000 := by
        have h1 := partsL_take l k hlt; have h2 := partsL_take_le l (k + 1); have h3 := HH.out; omega
      have HH2 := Lib.hid (show q + parts l[k] = partsL (l.take (k + 1)) + 1 by have h1 := partsL_take l k hlt; have h3 := HH.out; omega)
      have hcall := Lib.hid (ih'.out l[k] (List.getElem_mem hlt) S _ wr hr' hpk)
      clear hr' hSb HH
      generalize parts l[k] = NP at *
      go_wp2_with fail
      refine (hcall.out).mono ?_
      rintro r w1 ⟨rfl, he⟩
      go_wp2_with fail
      go_roundw
      case rel => exact ⟨k + 1, q + NP, by omega, by go_num, by go_num, hqn, HH2, hb.trans he⟩
      case measure => simp [RowKit.intOf]; omega
    · have hkl : k = l.length := by omega
      subst hkl
      go_wp2_with fail
      go_ret
      exact ⟨ret_int (by rw [H.out]; have := HH.out; rw [List.take_length] at this; omega), hw⟩

end Go.Proofs.YtnkakofcejkhiaaDoor

/- Layer 16 on plain data: equal expressions. -/
namespace Go.Proofs.YtnkakofcejkhiaaDoor
open Go.RowKit Go.Lib

mutual
def sameB : Ex → Ex → Bool
  | .mk o n s l, .mk o2 n2 s2 l2 => decide (o = o2) && (decide (n = n2) && (decide (s.toList = s2.toList) && sameBs l l2))
def sameBs : List Ex → List Ex → Bool
  | [], [] => true
  | e :: l, e2 :: l2 => sameB e e2 && sameBs l l2
  | _, _ => false
end
mutual
theorem sameB_self : ∀ e : Ex, sameB e e = true
  | .mk o n s l => by rw [sameB, sameBs_self l]; simp
theorem sameBs_self : ∀ l : List Ex, sameBs l l = true
  | [] => by rw [sameBs]
  | e :: l => by rw [sameBs, sameB_self e, sameBs_self l]; rfl
end
theorem sameBs_len : ∀ (l l2 : List Ex), l.length ≠ l2.length → sameBs l l2 = false
  | [], [], h => absurd rfl h
  | [], _ :: _, _ => by rw [sameBs]; all_goals simp
  | _ :: _, [], _ => by rw [sameBs]; all_goals simp
  | e :: l, e2 :: l2, h => by rw [sameBs, sameBs_len l l2 (by simpa using h)]; simp
theorem sameBs_at : ∀ (l l2 : List Ex) (k : Nat) (h : k < l.length) (h2 : k < l2.length), sameB l[k] l2[k] = false → sameBs l l2 = false
  | e :: l, e2 :: l2, 0, _, _, hk => by rw [sameBs, show sameB e e2 = false from hk]; rfl
  | e :: l, e2 :: l2, k + 1, h, h2, hk => by rw [sameBs, sameBs_at l l2 k (by simpa using h) (by simpa using h2) (by simpa using hk)]; simp
theorem sameBs_all : ∀ (l l2 : List Ex), l.length = l2.length → (∀ (k : Nat) (h : k < l.length) (h2 : k < l2.length), sameB l[k] l2[k] = true) → sameBs l l2 = true
  | [], [], _, _ => by rw [sameBs]
  | [], _ :: _, h, _ => by simp at h
  | _ :: _, [], h, _ => by simp at h
  | e :: l, e2 :: l2, h, hk => by
    rw [sameBs, show sameB e e2 = true from hk 0 (by simp) (by simp), sameBs_all l l2 (by simpa using h) (fun k h1 h2 => hk (k + 1) (by simpa using h1) (by simpa using h2))]; rfl

end Go.Proofs.YtnkakofcejkhiaaDoor

/- What inlining returns has the value of the expression, on plain data. -/
namespace Go.Proofs.YtnkakofcejkhiaaDoor
open Go.RowKit Go.Lib

theorem tys_length {F : List Fn} {c p : List Int} : ∀ (l : List Ex) {ts : List Int}, tys F c p l = some ts → ts.length = l.length
  | [], ts, h => by rw [tys] at h; cases h; rfl
  | e :: l, ts, h => by
    rw [tys] at h
    split at h
    · split at h
      · rename_i us hl
        cases h
        rw [List.length_cons, List.length_cons, tys_length l hl]
      · cases h
    · cases h
theorem tys_get {F : List Fn} {c p : List Int} : ∀ (l : List Ex) {ts : List Int}, tys F c p l = some ts → ∀ (i : Nat) (x : Ex), l[i]? = some x → ∃ t, ts[i]? = some t ∧ ty F c p x = some t
  | [], ts, _, i, x, hx => by simp at hx
  | e :: l, ts, h, i, x, hx => by
    rw [tys] at h
    split at h
    · rename_i t he
      split at h
      · rename_i us hl
        cases h
        cases i with
        | zero => simp at hx; subst hx; exact ⟨t, rfl, he⟩
        | succ i => simpa using tys_get l hl i x (by simpa using hx)
      · cases h
    · cases h
theorem pickT_get {l : List Int} {n t : Int} (h : pickT l n = some t) : 0 ≤ n ∧ l[n.toNat]? = some t := by
  unfold pickT at h
  split at h
  · cases h
  · split at h
    · rename_i u hu
      split at h
      · cases h; exact ⟨by omega, hu⟩
      · cases h
    · cases h
mutual
theorem put_total {F : List Fn} {c p : List Int} {L : List Ex} (hL : L.length = p.length) : ∀ (e : Ex) {t : Int}, ty F c p e = some t → ∃ x, putP 4 L e = some x
  | .mk o n s l, t, ht => by
    rw [ty] at ht
    cases hl : tys F c p l with
    | none => rw [hl] at ht; cases ht
    | some ts =>
      rw [hl] at ht
      dsimp only at ht
      rw [putP]
      by_cases ho : o = 4
      · have hp := tailT_col (.inr ho) ht
        rw [if_neg (by omega)] at hp
        obtain ⟨h0, h1⟩ := pickT_get hp
        rw [if_pos ho, if_neg (by omega)]
        have : n.toNat < L.length := by rw [hL]; exact (List.getElem?_eq_some_iff.1 h1).1
        exact ⟨L[n.toNat], List.getElem?_eq_getElem this⟩
      · rw [if_neg ho]
        obtain ⟨xs, hx⟩ := puts_total hL l hl
        rw [hx]; exact ⟨_, rfl⟩
theorem puts_total {F : List Fn} {c p : List Int} {L : List Ex} (hL : L.length = p.length) : ∀ (l : List Ex) {ts : List Int}, tys F c p l = some ts → ∃ xs, putPs 4 L l = some xs
  | [], ts, _ => ⟨[], by rw [putPs]⟩
  | e :: l, ts, h => by
    rw [tys] at h
    split at h
    · rename_i t he
      split at h
      · rename_i us hl
        obtain ⟨x, hx⟩ := put_total hL e he
        obtain ⟨xs, hxs⟩ := puts_total hL l hl
        rw [putPs, hx, hxs]; exact ⟨_, rfl⟩
      · cases h
    · cases h
end

theorem opV_call {call call2 : Int → List Val → Val} {time : Int} {row params : List Val} {op n : Int} {s : ByteArray} {vs : List Val} (h : op = 22 → call n vs = call2 n vs) : opV call time row params op n s vs = opV call2 time row params op n s vs := by
  unfold opV
  by_cases e : op = 22
  · subst e; rw [h rfl]
  · simp only [if_neg e]

/-- more fuel changes nothing -/
theorem ev_fuel {F : List Fn} {time : Int} (hOk : ∀ i, i < F.length → okF F i = true) : ∀ (m : Nat) (e : Ex) {M : Nat} {c p : List Int} {R P : List Val} {t : Int}, m ≤ M → ty (F.take m) c p e = some t → ev (callN F time M) time R P e = ev (callN F time m) time R P e := by
  intro m
  induction m using Nat.strongRecOn with
  | ind m ihm =>
    have hcall : ∀ (M : Nat) (n : Int) (vs : List Val), m ≤ M → 0 ≤ n → n.toNat < m → n.toNat < F.length → callN F time M n vs = callN F time m n vs := fun M n vs hM h0 hlt hF => by
      obtain ⟨M, rfl⟩ : ∃ k, M = k + 1 := ⟨M - 1, by omega⟩
      obtain ⟨k, rfl⟩ : ∃ k, m = k + 1 := ⟨m - 1, by omega⟩
      have hf := List.getElem?_eq_getElem hF
      have hb := okF_body (hOk n.toNat hF) hf
      simp only [callN, hf]
      rw [ihm n.toNat hlt _ (M := M) (by omega) hb, ihm n.toNat hlt _ (M := k) (by omega) hb]
    intro e
    induction e using Ex.ind with
    | h o n s l ih =>
      intro M c p R P t hM ht
      rw [ty] at ht
      cases hl : tys (F.take m) c p l with
      | none => rw [hl] at ht; cases ht
      | some ts =>
        rw [hl] at ht
        dsimp only at ht
        have hvs : evs (callN F time M) time R P l = evs (callN F time m) time R P l := by
          rw [evs_map, evs_map]
          refine List.map_congr_left fun x hx => ?_
          obtain ⟨u, hu⟩ := tys_mem l hl x hx
          exact ih x hx hM hu
        rw [ev, ev, hvs]
        split
        · rfl
        · refine opV_call fun e22 => ?_
          subst e22
          unfold tailT at ht
          split at ht
          · cases ht
          · rw [if_pos rfl] at ht
            obtain ⟨h0, hlt, f, hf, -, -⟩ := callT_some ht
            exact hcall M n _ hM h0 hlt (List.getElem?_eq_some_iff.1 hf).1

/-- bodies that are inlined mean what the functions mean -/
def InlOk (F : List Fn) (time : Int) (M : Nat) (bs : List (Option Ex)) : Prop :=
  ∀ (i : Nat) (b : Ex), bs[i]? = some (some b) → ∃ f : Fn, F[i]? = some f ∧ ty [] [] f.params b = some f.res ∧ ∀ (call : Int → List Val → Val) (P : List Val), P.map Val.k = f.params → (∀ v ∈ P, soundV v) → ev call time [] P b = callN F time M (i : Int) P

mutual
theorem inl_sem {F : List Fn} {time : Int} {M m : Nat} {bs : List (Option Ex)} (hOk : ∀ i, i < F.length → okF F i = true) (hbs : InlOk F time M bs) (hm : m = bs.length) (hM : m ≤ M) {c p : List Int} {R P : List Val} (hR : R.map Val.k = c) (hP : P.map Val.k = p) (sR : ∀ v ∈ R, soundV v) (sP : ∀ v ∈ P, soundV v) (call : Int → List Val → Val) :
    ∀ (e : Ex) {y : Ex} {t : Int}, ty (F.take m) c p e = some t → inlE bs e = some y → ty [] c p y = some t ∧ ev call time R P y = ev (callN F time M) time R P e
  | .mk o n s l, y, t, ht, hy => by
    rw [ty] at ht
    cases hl : tys (F.take m) c p l with
    | none => rw [hl] at ht; cases ht
    | some ts =>
      rw [hl] at ht
      dsimp only at ht
      rw [inlE] at hy
      cases hl2 : inlL bs l with
      | none => rw [hl2] at hy; cases hy
      | some ys =>
        rw [hl2] at hy
        dsimp only at hy
        obtain ⟨i1, i2⟩ := inls_sem hOk hbs hm hM hR hP sR sP call l hl hl2
        by_cases ho : o = 22
        · subst ho
          unfold tailT at ht
          split at ht
          · cases ht
          · rw [if_pos rfl] at ht
            obtain ⟨h0, hlt, f, hf, hpar, hres⟩ := callT_some ht
            rw [if_pos ⟨rfl, h0, by omega⟩] at hy
            have hn : n.toNat < bs.length := by omega
            rw [List.getD_eq_getElem?_getD, List.getElem?_eq_getElem hn, Option.getD_some] at hy
            cases hb : bs[n.toNat] with
            | none => rw [hb] at hy; cases hy
            | some b =>
              rw [hb] at hy
              dsimp only at hy
              obtain ⟨f', hf', hty, hev⟩ := hbs n.toNat b (by rw [List.getElem?_eq_getElem hn, hb])
              rw [hf] at hf'; cases hf'
              obtain ⟨x, hx⟩ := put_total (L := ys) (by rw [hpar, tys_length ys i1]) b hty
              rw [hx, Option.getD_some] at hy
              obtain ⟨rfl, -⟩ := fitX_parts hy
              have hk : (evs (callN F time M) time R P l).map Val.k = ts ∧ ∀ v ∈ evs (callN F time M) time R P l, soundV v := by
                refine evs_kinds (F := F.take m) (c := c) (p := p) l hl fun e he u hu => ?_
                exact ev_sound time hOk M e (ty_mono hM e hu) hR hP sR sP
              obtain ⟨j1, j2⟩ := put_sem (F := []) (call := call) (time := time) (c2 := c) (p2 := p) (R1 := []) (P1 := evs call time R P ys) (R2 := R) (P2 := P) (.inr rfl)
                (fun k u hp => by unfold pickT at hp; simp at hp)
                (fun k u hp => by
                  rw [if_pos rfl]
                  intro z hz
                  obtain ⟨-, h5⟩ := pickT_get hp
                  obtain ⟨u', h6, h7⟩ := tys_get ys i1 _ z hz
                  rw [hpar, h6] at h5
                  cases h5
                  refine ⟨h7, ?_⟩
                  rw [evs_map]
                  simp [List.getD_eq_getElem?_getD, hz]) b hx hty
              rw [j1, j2, hres]
              refine ⟨rfl, ?_⟩
              rw [i2, hev call _ (by rw [hk.1, hpar]) hk.2, ev, if_neg (by omega)]
              simp only [opV]
              rw [Int.toNat_of_nonneg h0]
              rfl
        · rw [if_neg (fun h => ho h.1)] at hy
          obtain ⟨rfl, -⟩ := fitX_parts hy
          refine ⟨?_, ?_⟩
          · rw [ty, i1]
            dsimp only
            unfold tailT at ht ⊢
            split at ht
            · cases ht
            · rename_i h1
              rw [if_neg h1]
              first | (rw [if_neg ho] at ht ⊢; exact ht) | (rw [if_neg ho] at ht; exact ht) | (rw [if_neg ho]; exact ht) | exact ht
          · rw [ev, ev, i2]
            split
            · rfl
            · exact opV_call fun h => absurd h ho
theorem inls_sem {F : List Fn} {time : Int} {M m : Nat} {bs : List (Option Ex)} (hOk : ∀ i, i < F.length → okF F i = true) (hbs : InlOk F time M bs) (hm : m = bs.length) (hM : m ≤ M) {c p : List Int} {R P : List Val} (hR : R.map Val.k = c) (hP : P.map Val.k = p) (sR : ∀ v ∈ R, soundV v) (sP : ∀ v ∈ P, soundV v) (call : Int → List Val → Val) :
    ∀ (l : List Ex) {ys : List Ex} {ts : List Int}, tys (F.take m) c p l = some ts → inlL bs l = some ys → tys [] c p ys = some ts ∧ evs call time R P ys = evs (callN F time M) time R P l
  | [], ys, ts, ht, hy => by
    rw [inlL] at hy; cases hy
    rw [tys] at ht; cases ht
    rw [tys, evs, evs]; exact ⟨rfl, rfl⟩
  | e :: l, ys, ts, ht, hy => by
    rw [tys] at ht
    cases he : ty (F.take m) c p e with
    | none => rw [he] at ht; cases ht
    | some t =>
      rw [he] at ht
      cases hl : tys (F.take m) c p l with
      | none => rw [hl] at ht; cases ht
      | some us =>
        rw [hl] at ht; cases ht
        rw [inlL] at hy
        cases hx1 : inlE bs e with
        | none => rw [hx1] at hy; cases hy
        | some x =>
          rw [hx1] at hy
          cases hx2 : inlL bs l with
          | none => rw [hx2] at hy; cases hy
          | some l' =>
            rw [hx2] at hy; cases hy
            obtain ⟨i1, i2⟩ := inl_sem hOk hbs hm hM hR hP sR sP call e he hx1
            obtain ⟨j1, j2⟩ := inls_sem hOk hbs hm hM hR hP sR sP call l hl hx2
            rw [tys, i1, j1, evs, evs, i2, j2]
            exact ⟨rfl, rfl⟩
end
end Go.Proofs.YtnkakofcejkhiaaDoor

/- What Inline returns has the value of the expression. -/
namespace Go.Proofs.YtnkakofcejkhiaaDoor
open Go.RowKit Go.Lib

def someV (k : Int) : Val := if k = 0 then numV 0 else if k = 1 then textV ByteArray.empty else boolV false
theorem someV_k {k : Int} (h : kindB k = true) : (someV k).k = k := by
  unfold kindB at h
  unfold someV
  simp only [Bool.or_eq_true, decide_eq_true_eq, Bool.and_eq_true] at h
  by_cases h0 : k = 0
  · rw [if_pos h0, h0]; rfl
  · by_cases h1 : k = 1
    · rw [if_neg h0, if_pos h1, h1]; rfl
    · rw [if_neg h0, if_neg h1]; show (2 : Int) = k; omega
theorem someV_sound (k : Int) : soundV (someV k) := by
  unfold someV
  split
  · exact sound_num 0
  · split
    · exact sound_text (by decide)
    · exact sound_bool false
theorem inlB_ok {F : List Fn} {time : Int} (hOk : ∀ i, i < F.length → okF F i = true) : ∀ k, k ≤ F.length → InlOk F time F.length (inlB [] (F.take k))
  | 0, _ => by
    intro i b h
    rw [List.take_zero, inlB] at h
    simp at h
  | k + 1, hk => by
    have hkF : k < F.length := hk
    have ih := inlB_ok (time := time) hOk k (Nat.le_of_lt hkF)
    have hlen : (inlB [] (F.take k)).length = k := by rw [inlB_len]; simp; omega
    intro i b h
    rw [List.take_succ_eq_append_getElem hkF, inlB_snoc] at h
    generalize inlB [] (F.take k) = bs at ih hlen h
    by_cases hi : i < bs.length
    · rw [List.getElem?_append_left hi] at h
      exact ih i b h
    · have hik : i = k := by
        have := (List.getElem?_eq_some_iff.1 h).1
        simp at this
        omega
      subst hik
      rw [List.getElem?_append_right (by omega), hlen] at h
      simp at h
      have hf : F[i]? = some F[i] := List.getElem?_eq_getElem (by omega)
      have hb := okF_body (hOk i (by omega)) hf
      have hpk : ∀ k ∈ F[i].params, kindB k = true := by
        have := hOk i (by omega)
        unfold okF at this
        rw [hf] at this
        simp only [Bool.and_eq_true, List.all_eq_true] at this
        exact this.1.1
      have main := fun (call : Int → List Val → Val) (P : List Val) (h1 : P.map Val.k = F[i].params) (h2 : ∀ v ∈ P, soundV v) => inl_sem (time := time) (M := F.length) (m := i) (R := []) (P := P) hOk ih hlen.symm (by omega) rfl h1 (by simp) h2 call F[i].body hb h
      refine ⟨F[i], hf, ?_, fun call P h1 h2 => ?_⟩
      · refine (main (fun _ _ => zeroV) (F[i].params.map someV) ?_ ?_).1
        · rw [List.map_map]
          conv => rhs; rw [← List.map_id F[i].params]
          exact List.map_congr_left fun k hk => someV_k (hpk k hk)
        · intro v hv
          obtain ⟨k, -, rfl⟩ := List.mem_map.1 hv
          exact someV_sound k
      · rw [(main call P h1 h2).2]
        obtain ⟨j, hj⟩ : ∃ j, F.length = j + 1 := ⟨F.length - 1, by omega⟩
        rw [ev_fuel hOk i F[i].body (by omega) hb, hj]
        simp only [callN, Int.toNat_natCast, hf]
        rw [ev_fuel hOk i F[i].body (M := j) (by omega) hb]
theorem inline_sem {F : List Fn} {time : Int} {R : List Val} {e y : Ex} {t : Int} (hOk : ∀ i, i < F.length → okF F i = true) (hR : ∀ v ∈ R, soundV v) (ht : ty F (R.map Val.k) [] e = some t) (hy : inlineP F e = some y) :
    ty [] (R.map Val.k) [] y = some t ∧ evalP [] time R y = evalP F time R e := by
  have hy' : inlE (inlB [] F) e = some y := by
    unfold inlineP at hy
    split at hy
    · rename_i x hx
      split at hy
      · cases hy
      · cases hy; exact hx
    · cases hy
  have hok := inlB_ok (time := time) hOk F.length (Nat.le_refl _)
  rw [List.take_length] at hok
  exact inl_sem (M := F.length) (m := F.length) (P := []) hOk hok (by rw [inlB_len]; simp) (Nat.le_refl _) rfl rfl hR (by simp) _ e (by rw [List.take_length]; exact ht) hy'
end Go.Proofs.YtnkakofcejkhiaaDoor

/- Layer 26 on plain data: folding keeps the type and the value. -/
namespace Go.Proofs.YtnkakofcejkhiaaDoor
open Go.RowKit Go.Lib

def constE (e : Ex) : Bool := decide (e.op = 0) || (decide (e.op = 1) || decide (e.op = 2))
theorem constE_iff (e : Ex) : constE e = true ↔ e.op = 0 ∨ e.op = 1 ∨ e.op = 2 := by unfold constE; simp
/-- the constant of a value -/
def constV (v : Val) : Ex := if v.k = 0 then .mk 0 v.n ByteArray.empty [] else if v.k = 1 then .mk 1 0 v.s [] else if v.k = 2 then .mk 2 v.n ByteArray.empty [] else zeroE
def choiceP (o n : Int) (s : ByteArray) (l : List Ex) : Ex := match l with
  | [a, b, c] => if (constE a = true ∧ a.n = 1) ∨ sameB b c = true then b else if constE a = true then c else .mk o n s l
  | _ => .mk o n s l
def logicP (o n : Int) (s : ByteArray) (l : List Ex) : Ex := match l with
  | [a, b] => if constE a = true then (if decide (a.n = 1) = decide (o = 17) then b else a) else if constE b = true then (if decide (b.n = 1) = decide (o = 17) then a else b) else .mk o n s l
  | _ => .mk o n s l
def notP (o n : Int) (s : ByteArray) (l : List Ex) : Ex := match l with
  | [.mk o2 n2 s2 l2] => if o2 = 6 then (match l2 with | [x] => x | _ => .mk o n s l) else .mk o n s l
  | _ => .mk o n s l
/-- folding an expression whose parts are folded -/
def topF (o n : Int) (s : ByteArray) (l : List Ex) : Ex :=
  if l = [] then .mk o n s []
  else if o ≠ 22 ∧ l.all constE = true then constV (evalP [] 0 [] (.mk o n s l))
  else if o = 21 then choiceP o n s l
  else if o = 17 ∨ o = 18 then logicP o n s l
  else if o = 6 then notP o n s l
  else .mk o n s l
mutual
def foldE : Ex → Ex
  | .mk o n s l => topF o n s (foldL l)
def foldL : List Ex → List Ex
  | [] => []
  | e :: l => foldE e :: foldL l
end
theorem foldL_map : ∀ l, foldL l = l.map foldE
  | [] => by rw [foldL]; rfl
  | e :: l => by rw [foldL, foldL_map l]; rfl

theorem const_ev {call call2 : Int → List Val → Val} {t t2 : Int} {r r2 p p2 : List Val} (e : Ex) (h : constE e = true) : ev call t r p e = ev call2 t2 r2 p2 e := by
  obtain ⟨o, n, s, l⟩ := e
  rw [constE_iff] at h
  simp only [Ex.op] at h
  rw [ev, ev, if_neg (by omega), if_neg (by omega)]
  rcases h with rfl | rfl | rfl <;> simp [opV]
/-- right values, all of them -/
def Snd (F : List Fn) (c p : List Int) (call : Int → List Val → Val) (time : Int) (row params : List Val) : Prop := ∀ e t, ty F c p e = some t → (ev call time row params e).k = t ∧ soundV (ev call time row params e)
theorem snd_nil {c : List Int} {time : Int} {row : List Val} (h : RowFit c row) : Snd [] c [] (fun _ _ => zeroV) time row [] := fun e t ht =>
  ev_fit (F := []) time (by intro i hi; simp at hi) 0 e (by simpa using ht) h rfl (by simp)
theorem sound_kind {v : Val} (h : soundV v) : v.k = 0 ∨ v.k = 1 ∨ v.k = 2 := by
  obtain ⟨h, -⟩ := h
  unfold okV at h
  split at h
  · exact .inl ‹_›
  · split at h
    · exact .inr (.inl ‹_›)
    · simp only [Bool.and_eq_true, decide_eq_true_eq] at h; omega
theorem bytes_nil {s : ByteArray} (h : s.toList = []) : s = ByteArray.empty := by
  apply WideShapes.bytes_inj
  rw [← ByteArray.toList_eq, h, ← ByteArray.toList_eq, empty_list]
theorem sound_num' {v : Val} (h : soundV v) (hk : v.k = 0) : v = numV v.n := by
  obtain ⟨k, n, s⟩ := v
  obtain ⟨h, -⟩ := h
  simp only at hk; subst hk
  simp [okV] at h
  rw [bytes_nil h]; rfl
theorem sound_text' {v : Val} (h : soundV v) (hk : v.k = 1) : v = textV v.s ∧ v.s.size ≤ 200 := by
  obtain ⟨k, n, s⟩ := v
  obtain ⟨h, h2⟩ := h
  simp only at hk; subst hk
  simp [okV] at h
  exact ⟨by rw [h.1]; rfl, h2⟩
theorem sound_bool' {v : Val} (h : soundV v) (hk : v.k = 2) : v = boolV (decide (v.n = 1)) ∧ (v.n = 0 ∨ v.n = 1) := by
  obtain ⟨k, n, s⟩ := v
  obtain ⟨h, -⟩ := h
  simp only at hk; subst hk
  simp [okV] at h
  obtain ⟨h1, h2⟩ := h
  rw [bytes_nil h2]
  refine ⟨?_, h1⟩
  rcases h1 with rfl | rfl <;> rfl
theorem constV_ok {v : Val} (h : soundV v) (F : List Fn) (c p : List Int) : ty F c p (constV v) = some v.k ∧ (∀ call time row params, ev call time row params (constV v) = v) ∧ constE (constV v) = true ∧ (constV v).args = [] := by
  have e0 : ByteArray.empty.size = 0 := rfl
  rcases sound_kind h with hk | hk | hk
  · have := sound_num' h hk
    generalize v.n = n at this
    subst this
    refine ⟨?_, ?_, rfl, rfl⟩
    · simp [constV, numV, ty, tys, tailT, leafT, e0]
    · intros; simp [constV, numV, ev, evs, opV]
  · obtain ⟨this, hs⟩ := sound_text' h hk
    generalize v.s = s at this hs
    subst this
    refine ⟨?_, ?_, rfl, rfl⟩
    · simp [constV, textV, ty, tys, tailT, leafT]; omega
    · intros; simp [constV, textV, ev, evs, opV]
  · obtain ⟨this, hb⟩ := sound_bool' h hk
    generalize decide (v.n = 1) = b at this
    subst this
    refine ⟨?_, ?_, rfl, rfl⟩
    · cases b <;> simp [constV, boolV, ty, tys, tailT, leafT, e0]
    · intros; cases b <;> simp [constV, boolV, ev, evs, opV]
theorem sameB_eq {a b : Ex} (h : sameB a b = true) : a = b := by
  revert b
  induction a using Ex.ind with
  | h o n s l ih =>
    rintro ⟨o2, n2, s2, l2⟩ h
    rw [sameB] at h
    simp only [Bool.and_eq_true, decide_eq_true_eq] at h
    obtain ⟨rfl, rfl, hs, hl⟩ := h
    have hs2 : s = s2 := WideShapes.bytes_inj (by rw [← ByteArray.toList_eq, hs, ByteArray.toList_eq])
    subst hs2
    have : ∀ (l l2 : List Ex), (∀ x ∈ l, ∀ {b : Ex}, sameB x b = true → x = b) → sameBs l l2 = true → l = l2 := fun l => by
      induction l with
      | nil => intro l2 _ h; cases l2 with
        | nil => rfl
        | cons y l2 => simp [sameBs] at h
      | cons x l ih2 =>
        intro l2 hx h
        cases l2 with
        | nil => simp [sameBs] at h
        | cons y l2 =>
          rw [sameBs, Bool.and_eq_true] at h
          rw [hx x (by simp) h.1, ih2 l2 (fun z hz => hx z (by simp [hz])) h.2]
    rw [this l l2 ih hl]
theorem size_empty {s : ByteArray} (h : s.size = 0) : s = ByteArray.empty := by
  apply WideShapes.bytes_inj
  have : s.data.toList.length = 0 := by rw [Array.length_toList]; exact h
  rw [List.length_eq_zero_iff.1 this]; rfl
theorem tys_nil {F : List Fn} {c p : List Int} {l : List Ex} (h : tys F c p l = some []) : l = [] := by
  have := tys_length l h
  exact List.length_eq_zero_iff.1 this.symm
/-- a constant that has a type is that of a right value -/
theorem const_is {F : List Fn} {c p : List Int} {e : Ex} {t : Int} (hc : constE e = true) (h : ty F c p e = some t) : ∃ v, soundV v ∧ v.k = t ∧ constV v = e := by
  obtain ⟨o, n, s, l⟩ := e
  rw [constE_iff] at hc
  simp only [Ex.op] at hc
  rw [ty] at h
  cases hl : tys F c p l with
  | none => rw [hl] at h; cases h
  | some ts =>
    rw [hl] at h
    dsimp only at h
    unfold tailT at h
    split at h
    · cases h
    rename_i hs
    rw [if_neg (by omega)] at h
    split at h
    · rename_i hts
      subst hts
      obtain rfl := tys_nil hl
      unfold leafT at h
      rcases hc with rfl | rfl | rfl
      · obtain rfl := size_empty (s := s) (by omega)
        simp at h
        exact ⟨numV n, sound_num n, h, rfl⟩
      · simp at h
        obtain ⟨⟨rfl, h2⟩, rfl⟩ := h
        exact ⟨textV s, sound_text (by omega), rfl, rfl⟩
      · obtain rfl := size_empty (s := s) (by omega)
        simp at h
        obtain ⟨h1, rfl⟩ := h
        refine ⟨boolV (decide (n = 1)), sound_bool _, rfl, ?_⟩
        rcases h1 with rfl | rfl <;> rfl
    · exfalso
      unfold operT at h
      split at h
      · cases h
      rw [if_neg (by omega), if_neg (by omega), if_neg (by omega), if_neg (by omega), if_neg (by omega), if_neg (by omega), if_neg (by omega), if_neg (by omega)] at h
      cases h
/-- what a type says of the parts -/
theorem ty_mk {F : List Fn} {c p : List Int} {o n t : Int} {s : ByteArray} {l : List Ex} (h : ty F c p (.mk o n s l) = some t) : ∃ ts, tys F c p l = some ts ∧ tailT F c p o n s ts = some t := by
  rw [ty] at h
  cases hl : tys F c p l with
  | none => rw [hl] at h; cases h
  | some ts => rw [hl] at h; exact ⟨ts, rfl, h⟩
theorem ty_oper {F : List Fn} {c p : List Int} {o n t : Int} {s : ByteArray} {l : List Ex} (h : ty F c p (.mk o n s l) = some t) (ho : o ≠ 22) (hl : l ≠ []) : ∃ ts, tys F c p l = some ts ∧ operT o n ts = some t ∧ n = 0 ∧ (o = 1 ∨ s.size = 0) ∧ 6 ≤ o ∧ o ≤ 21 := by
  obtain ⟨ts, h1, h2⟩ := ty_mk h
  unfold tailT at h2
  split at h2
  · cases h2
  rename_i hs
  try rw [if_neg ho] at h2
  split at h2
  · rename_i hts
    subst hts
    exact absurd (tys_nil h1) hl
  · have h3 := h2
    unfold operT at h3
    split at h3
    · cases h3
    rename_i hn
    refine ⟨ts, h1, h2, by omega, by omega, ?_⟩
    by_cases hh : 6 ≤ o ∧ o ≤ 21
    · exact hh
    · exfalso
      rw [if_neg (by omega), if_neg (by omega), if_neg (by omega), if_neg (by omega), if_neg (by omega), if_neg (by omega), if_neg (by omega), if_neg (by omega)] at h3
      cases h3
theorem tys1 {F : List Fn} {c p : List Int} {l : List Ex} {a : Int} (h : tys F c p l = some [a]) : ∃ x, l = [x] ∧ ty F c p x = some a := by
  match l, h with
  | [], h => rw [tys] at h; cases h
  | [x], h =>
    simp only [tys] at h
    cases hx : ty F c p x with
    | none => rw [hx] at h; cases h
    | some t => rw [hx] at h; cases h; exact ⟨x, rfl, hx⟩
  | x :: y :: r, h => have := tys_length _ h; simp at this
theorem tys_cons' {F : List Fn} {c p : List Int} {x : Ex} {l : List Ex} {ts : List Int} (h : tys F c p (x :: l) = some ts) : ∃ t us, ts = t :: us ∧ ty F c p x = some t ∧ tys F c p l = some us := by
  rw [tys] at h
  cases hx : ty F c p x with
  | none => rw [hx] at h; cases h
  | some t =>
    rw [hx] at h
    cases hl : tys F c p l with
    | none => rw [hl] at h; cases h
    | some us => rw [hl] at h; cases h; exact ⟨t, us, rfl, rfl, rfl⟩
theorem tys2 {F : List Fn} {c p : List Int} {l : List Ex} {a b : Int} (h : tys F c p l = some [a, b]) : ∃ x y, l = [x, y] ∧ ty F c p x = some a ∧ ty F c p y = some b := by
  match l, h with
  | [], h => rw [tys] at h; cases h
  | x :: l, h =>
    obtain ⟨t, us, e, h1, h2⟩ := tys_cons' h
    cases e
    obtain ⟨y, rfl, h3⟩ := tys1 h2
    exact ⟨x, y, rfl, h1, h3⟩
theorem tys3 {F : List Fn} {c p : List Int} {l : List Ex} {a b d : Int} (h : tys F c p l = some [a, b, d]) : ∃ x y z, l = [x, y, z] ∧ ty F c p x = some a ∧ ty F c p y = some b ∧ ty F c p z = some d := by
  match l, h with
  | [], h => rw [tys] at h; cases h
  | x :: l, h =>
    obtain ⟨t, us, e, h1, h2⟩ := tys_cons' h
    cases e
    obtain ⟨y, z, rfl, h3, h4⟩ := tys2 h2
    exact ⟨x, y, z, rfl, h1, h3, h4⟩
theorem op6_ts {o n t : Int} {ts : List Int} (h : operT o n ts = some t) (ho : o = 6) : ts = [2] ∧ t = 2 := by
  subst ho
  unfold operT at h
  split at h
  · cases h
  rw [if_pos rfl] at h
  split at h <;> cases h
  exact ⟨‹_›, rfl⟩
theorem op1718_ts {o n t : Int} {ts : List Int} (h : operT o n ts = some t) (ho : o = 17 ∨ o = 18) : ts = [2, 2] ∧ t = 2 := by
  unfold operT at h
  split at h
  · cases h
  rw [if_neg (by omega), if_neg (by omega), if_neg (by omega), if_neg (by omega), if_neg (by omega), if_pos (by omega)] at h
  split at h <;> cases h
  exact ⟨‹_›, rfl⟩
theorem op21_ts {o n t : Int} {ts : List Int} (h : operT o n ts = some t) (ho : o = 21) : ts = [2, t, t] := by
  subst ho
  unfold operT at h
  split at h
  · cases h
  rw [if_neg (by omega), if_neg (by omega), if_neg (by omega), if_neg (by omega), if_neg (by omega), if_neg (by omega), if_neg (by omega), if_pos rfl] at h
  split at h
  · split at h
    · rename_i hab; cases h; rw [hab.1, hab.2]
    · cases h
  · cases h
/-- constants have the same type without functions, columns and parameters -/
theorem consts_ty {F : List Fn} {c p : List Int} : ∀ (l : List Ex) {ts : List Int}, tys F c p l = some ts → l.all constE = true → tys [] [] [] l = some ts
  | [], ts, h, _ => by rw [tys] at h ⊢; exact h
  | x :: l, ts, h, hc => by
    obtain ⟨t, us, rfl, h1, h2⟩ := tys_cons' h
    rw [List.all_cons, Bool.and_eq_true] at hc
    obtain ⟨v, hv, rfl, rfl⟩ := const_is hc.1 h1
    rw [tys, (constV_ok hv [] [] []).1, consts_ty l h2 hc.2]
theorem consts_ev {call call2 : Int → List Val → Val} {t t2 : Int} {r r2 p p2 : List Val} : ∀ l : List Ex, l.all constE = true → evs call t r p l = evs call2 t2 r2 p2 l
  | [], _ => by rw [evs, evs]
  | x :: l, h => by
    rw [List.all_cons, Bool.and_eq_true] at h
    rw [evs, evs, const_ev x h.1, consts_ev l h.2]
theorem const_of {v : Val} : constE (constV v) = true := by
  unfold constV
  split
  · rfl
  · split
    · rfl
    · split <;> rfl
theorem ev_mk (call : Int → List Val → Val) (time : Int) (row params : List Val) (o n : Int) (s : ByteArray) (l : List Ex) : ev call time row params (.mk o n s l) = if o = 21 then ifV (evs call time row params l) else opV call time row params o n s (evs call time row params l) := by rw [ev]
/-- all parts are constants: the value -/
theorem closed_ok {F : List Fn} {c p : List Int} {o n t : Int} {s : ByteArray} {l : List Ex} (h : ty F c p (.mk o n s l) = some t) (ho : o ≠ 22) (hl : l ≠ []) (hc : l.all constE = true) :
    ty [] [] [] (.mk o n s l) = some t ∧ soundV (evalP [] 0 [] (.mk o n s l)) ∧ (evalP [] 0 [] (.mk o n s l)).k = t ∧ ∀ call time row params, ev call time row params (.mk o n s l) = evalP [] 0 [] (.mk o n s l) := by
  obtain ⟨ts, h1, h2, rfl, hs, h6, h21⟩ := ty_oper h ho hl
  have h3 : ty [] [] [] (.mk o 0 s l) = some t := by
    rw [ty, consts_ty l h1 hc]
    dsimp only
    unfold tailT
    rw [if_neg (by omega), if_neg ho, if_neg, h2]
    rintro rfl
    exact hl (tys_nil h1)
  obtain ⟨h4, h5⟩ := snd_nil (time := 0) (RowFit.nil []) _ _ h3
  refine ⟨h3, h5, h4, fun call time row params => ?_⟩
  show _ = ev (callN [] 0 0) 0 [] [] _
  rw [ev_mk, ev_mk, consts_ev (call2 := callN [] 0 0) (t2 := 0) (r2 := []) (p2 := []) l hc]
  split
  · rfl
  · have a0 : ¬ o = 0 := by omega
    have a1 : ¬ o = 1 := by omega
    have a2 : ¬ o = 2 := by omega
    have a3 : ¬ o = 3 := by omega
    have a4 : ¬ o = 4 := by omega
    have a5 : ¬ o = 5 := by omega
    simp only [opV, a0, a1, a2, a3, a4, a5, ho, if_false]
theorem bool_of {v : Val} (h : soundV v) (hk : v.k = 2) : boolV (decide (v.n = 1)) = v := (sound_bool' h hk).1.symm
/-- folding at the top keeps type and value -/
theorem top_ok {F : List Fn} {c p : List Int} {o n t : Int} {s : ByteArray} {l : List Ex} (h : ty F c p (.mk o n s l) = some t) :
    ty F c p (topF o n s l) = some t ∧ ∀ call time row params, Snd F c p call time row params → ev call time row params (topF o n s l) = ev call time row params (.mk o n s l) := by
  unfold topF
  split
  · rename_i hl; subst hl; exact ⟨h, fun _ _ _ _ _ => rfl⟩
  rename_i hl
  split
  · rename_i hc
    obtain ⟨-, h1, h2, h3⟩ := closed_ok h hc.1 hl hc.2
    obtain ⟨g1, g2, -, -⟩ := constV_ok h1 F c p
    exact ⟨by rw [g1, h2], fun call time row params _ => by rw [g2, h3]⟩
  rename_i hnc
  split
  · rename_i ho
    subst ho
    obtain ⟨ts, h1, h2, rfl, hs, -, -⟩ := ty_oper h (by omega) hl
    obtain rfl := op21_ts h2 rfl
    obtain ⟨x, y, z, rfl, hx, hy, hz⟩ := tys3 h1
    unfold choiceP
    dsimp only
    have hev : ∀ call time row params, ev call time row params (.mk 21 0 s [x, y, z]) = if (ev call time row params x).n = 1 then ev call time row params y else ev call time row params z := fun call time row params => by
      rw [ev_mk, if_pos rfl]; simp only [evs]; rfl
    split
    · rename_i hc
      refine ⟨hy, fun call time row params hS => ?_⟩
      rw [hev]
      rcases hc with hc | hc
      · obtain ⟨v, hv, hvk, rfl⟩ := const_is hc.1 hx
        rw [(constV_ok hv F c p).2.1]
        have hn : (constV v).n = v.n := by unfold constV; rw [if_neg (by omega), if_neg (by omega), if_pos hvk]; rfl
        rw [if_pos (by rw [← hn]; exact hc.2)]
      · rw [sameB_eq hc]; split <;> rfl
    · rename_i hc
      split
      · rename_i hcx
        refine ⟨hz, fun call time row params hS => ?_⟩
        rw [hev]
        obtain ⟨v, hv, hvk, rfl⟩ := const_is hcx hx
        have hn : (constV v).n = v.n := by unfold constV; rw [if_neg (by omega), if_neg (by omega), if_pos hvk]; rfl
        rw [(constV_ok hv F c p).2.1, if_neg (fun h1 => hc (.inl ⟨hcx, by rw [hn]; exact h1⟩))]
      · exact ⟨h, fun _ _ _ _ _ => rfl⟩
  split
  · rename_i ho
    obtain ⟨ts, h1, h2, rfl, hs, -, -⟩ := ty_oper h (by omega) hl
    obtain ⟨rfl, rfl⟩ := op1718_ts h2 ho
    obtain ⟨x, y, rfl, hx, hy⟩ := tys2 h1
    unfold logicP
    dsimp only
    have hev : ∀ call time row params, ev call time row params (.mk o 0 s [x, y]) = if o = 17 then boolV (decide ((ev call time row params x).n = 1) && decide ((ev call time row params y).n = 1)) else boolV (decide ((ev call time row params x).n = 1) || decide ((ev call time row params y).n = 1)) := fun call time row params => by
      rw [ev_mk, if_neg (by omega)]
      rcases ho with rfl | rfl <;> simp [evs, opV, binV]
    have hcn : ∀ v : Val, soundV v → v.k = 2 → (constV v).n = v.n := fun v _ hvk => by unfold constV; rw [if_neg (by omega), if_neg (by omega), if_pos hvk]; rfl
    split
    · rename_i hcx
      obtain ⟨v, hv, hvk, rfl⟩ := const_is hcx hx
      rw [hcn v hv hvk]
      split
      · rename_i hd
        refine ⟨hy, fun call time row params hS => ?_⟩
        obtain ⟨k1, k2⟩ := hS _ _ hy
        rw [hev, (constV_ok hv F c p).2.1]
        rcases ho with rfl | rfl
        · simp at hd; simp [hd, bool_of k2 k1]
        · simp at hd; simp [hd, bool_of k2 k1]
      · rename_i hd
        refine ⟨hx, fun call time row params hS => ?_⟩
        rw [hev, (constV_ok hv F c p).2.1]
        have hb := bool_of hv hvk
        rcases ho with rfl | rfl
        · simp at hd; simp [hd] at hb ⊢; exact hb.symm
        · simp at hd; simp [hd] at hb ⊢; exact hb.symm
    · rename_i hcx
      split
      · rename_i hcy
        obtain ⟨v, hv, hvk, rfl⟩ := const_is hcy hy
        rw [hcn v hv hvk]
        split
        · rename_i hd
          refine ⟨hx, fun call time row params hS => ?_⟩
          obtain ⟨k1, k2⟩ := hS _ _ hx
          rw [hev, (constV_ok hv F c p).2.1]
          rcases ho with rfl | rfl
          · simp at hd; simp [hd, bool_of k2 k1]
          · simp at hd; simp [hd, bool_of k2 k1]
        · rename_i hd
          refine ⟨hy, fun call time row params hS => ?_⟩
          rw [hev, (constV_ok hv F c p).2.1]
          have hb := bool_of hv hvk
          rcases ho with rfl | rfl
          · simp at hd; simp [hd] at hb ⊢; exact hb.symm
          · simp at hd; simp [hd] at hb ⊢; exact hb.symm
      · exact ⟨h, fun _ _ _ _ _ => rfl⟩
  split
  · rename_i ho
    subst ho
    obtain ⟨ts, h1, h2, rfl, hs, -, -⟩ := ty_oper h (by omega) hl
    obtain ⟨rfl, rfl⟩ := op6_ts h2 rfl
    obtain ⟨x, rfl, hx⟩ := tys1 h1
    obtain ⟨o2, n2, s2, l2⟩ := x
    unfold notP
    dsimp only
    split
    · rename_i ho2
      subst ho2
      obtain ⟨ts2, g1, g2, rfl, -, -, -⟩ := ty_oper hx (by omega) (by
        rintro rfl
        rw [ty] at hx
        simp [tys, tailT, leafT] at hx)
      obtain ⟨rfl, -⟩ := op6_ts g2 rfl
      obtain ⟨y, rfl, hy⟩ := tys1 g1
      dsimp only
      refine ⟨hy, fun call time row params hS => ?_⟩
      obtain ⟨k1, k2⟩ := hS _ _ hy
      have hb := (sound_bool' k2 k1)
      rw [ev_mk, if_neg (by omega)]
      simp only [evs, ev_mk]
      obtain ⟨e1, e2⟩ := hb
      rcases e2 with e2 | e2 <;> simp [opV, e2, boolV] <;> rw [e1, e2] <;> rfl
    · exact ⟨h, fun _ _ _ _ _ => rfl⟩
  · exact ⟨h, fun _ _ _ _ _ => rfl⟩
/-- folding keeps type and value -/
theorem fold_ok {F : List Fn} {c p : List Int} (e : Ex) : ∀ {t : Int}, ty F c p e = some t → ty F c p (foldE e) = some t ∧ ∀ call time row params, Snd F c p call time row params → ev call time row params (foldE e) = ev call time row params e := by
  induction e using Ex.ind with
  | h o n s l ih =>
    intro t h
    obtain ⟨ts, h1, h2⟩ := ty_mk h
    have : ∀ (l : List Ex) {ts : List Int}, (∀ x ∈ l, ∀ {t : Int}, ty F c p x = some t → ty F c p (foldE x) = some t ∧ ∀ call time row params, Snd F c p call time row params → ev call time row params (foldE x) = ev call time row params x) → tys F c p l = some ts →
        tys F c p (foldL l) = some ts ∧ ∀ call time row params, Snd F c p call time row params → evs call time row params (foldL l) = evs call time row params l := fun l => by
      induction l with
      | nil => intro ts _ h; rw [foldL]; exact ⟨h, fun _ _ _ _ _ => rfl⟩
      | cons x l ih2 =>
        intro ts hx h
        obtain ⟨t, us, rfl, g1, g2⟩ := tys_cons' h
        obtain ⟨g3, g4⟩ := hx x (by simp) g1
        obtain ⟨g5, g6⟩ := ih2 (fun z hz => hx z (by simp [hz])) g2
        rw [foldL]
        refine ⟨by rw [tys, g3, g5], fun call time row params hS => ?_⟩
        rw [evs, evs, g4 _ _ _ _ hS, g6 _ _ _ _ hS]
    obtain ⟨g1, g2⟩ := this l ih h1
    have h3 : ty F c p (.mk o n s (foldL l)) = some t := by rw [ty, g1]; exact h2
    obtain ⟨g3, g4⟩ := top_ok h3
    rw [foldE]
    refine ⟨g3, fun call time row params hS => ?_⟩
    rw [g4 _ _ _ _ hS, ev_mk, ev_mk, g2 _ _ _ _ hS]
end Go.Proofs.YtnkakofcejkhiaaDoor

/- Layer 25 on plain data: one more instruction. -/
namespace Go.Proofs.YtnkakofcejkhiaaDoor
open Go.RowKit Go.Lib

theorem regsI_snoc (time : Int) (row : List Val) (l : List Ins) (x : Ins) (regs : List Val) : regsI time row (l ++ [x]) regs = stepI time row (regsI time row l regs) x := by unfold regsI; rw [List.foldl_append]; rfl
theorem doneL_snoc : ∀ (l : List Ins) (x : Ins) (done : List Bool), doneL (l ++ [x]) done = (doneL l done).set x.to.toNat true
  | [], _, _ => rfl
  | y :: l, x, done => by rw [List.cons_append, doneL, doneL_snoc l]; rfl
theorem AllOk.at {cols types : List Int} : ∀ (l : List Ins) (k : Nat) (done : List Bool) (h : k < l.length), AllOk cols types l done → InsOk cols types (doneL (l.take k) done) l[k]
  | x :: l, 0, done, _, ha => ha.1
  | x :: l, k + 1, done, h, ha => by
    have := AllOk.at l k _ (by simpa using h) ha.2
    rw [List.take_succ_cons, doneL]
    exact this
theorem AllOk.take {cols types : List Int} : ∀ (l : List Ins) (k : Nat) (done : List Bool), AllOk cols types l done → AllOk cols types (l.take k) done
  | [], k, done, _ => by simp [AllOk]
  | x :: l, 0, done, _ => trivial
  | x :: l, k + 1, done, ha => ⟨ha.1, AllOk.take l k _ ha.2⟩
theorem nodes_snoc : ∀ (l : List Ins) (x : Ins) (i : Nat) (last : List Nat), nodes (l ++ [x]) i last = nodes l i last ++ [⟨x, (opsP x).map fun r => (lastL l i last).getD r.toNat 0⟩]
  | [], _, _, _ => rfl
  | y :: l, x, i, last => by rw [List.cons_append, nodes, nodes_snoc l]; rfl
theorem lastL_snoc : ∀ (l : List Ins) (x : Ins) (i : Nat) (last : List Nat), lastL (l ++ [x]) i last = (lastL l i last).set x.to.toNat (i + l.length)
  | [], _, _, _ => rfl
  | y :: l, x, i, last => by
    rw [List.cons_append, lastL, lastL_snoc l, List.length_cons]
    rw [show i + 1 + l.length = i + (l.length + 1) by omega]; rfl
theorem lastL_len : ∀ (l : List Ins) (i : Nat) (last : List Nat), (lastL l i last).length = last.length
  | [], _, _ => rfl
  | y :: l, i, last => by rw [lastL, lastL_len l, List.length_set]
theorem nodes_take : ∀ (l : List Ins) (k i : Nat) (last : List Nat), nodes (l.take k) i last = (nodes l i last).take k
  | [], k, _, _ => by simp [nodes]
  | y :: l, 0, _, _ => by simp [nodes]
  | y :: l, k + 1, i, last => by rw [List.take_succ_cons, nodes, nodes, List.take_succ_cons, nodes_take l]
end Go.Proofs.YtnkakofcejkhiaaDoor
