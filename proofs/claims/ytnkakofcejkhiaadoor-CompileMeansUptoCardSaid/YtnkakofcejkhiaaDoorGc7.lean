/- What is known of the variables of the program, in every world: nobody writes them. -/
import Derived.StillTail
import Derived.OrdersHeld
import Derived.Deep.RegionHeld3
import Derived.Maps.AppendAt
import Derived.Test.YtnkakofcejkhiaaDoorGc1
import Derived.Test.YtnkakofcejkhiaaDoorGc4
import Derived.Test.YtnkakofcejkhiaaDoorGc5
set_option linter.unusedSimpArgs false
set_option linter.unusedVariables false
namespace Go.Proofs.YtnkakofcejkhiaaDoor
def qbe : List Value := [.string ⟨#[105, 110, 116]⟩, .string ⟨#[116, 101, 120, 116]⟩, .string ⟨#[98, 111, 111, 108]⟩, .string ⟨#[99, 111, 108]⟩, .string ⟨#[]⟩, .string ⟨#[116, 105, 109, 101]⟩, .string ⟨#[110, 111, 116]⟩, .string ⟨#[110, 101, 103]⟩, .string ⟨#[97, 100, 100]⟩, .string ⟨#[115, 117, 98]⟩, .string ⟨#[109, 117, 108]⟩, .string ⟨#[100, 105, 118]⟩, .string ⟨#[109, 111, 100]⟩, .string ⟨#[101, 113]⟩, .string ⟨#[110, 101]⟩, .string ⟨#[108, 116]⟩, .string ⟨#[108, 101]⟩, .string ⟨#[97, 110, 100]⟩, .string ⟨#[111, 114]⟩, .string ⟨#[99, 111, 110, 99, 97, 116]⟩, .string ⟨#[108, 101, 110]⟩, .string ⟨#[105, 102]⟩, .string ⟨#[]⟩]
def globsOk (C : Nat → Nat → List Value → Prop) : Prop := (∃ _m : Unit, C 0 0 qbe) ∧ True
theorem globsOk.mono {C C' : Nat → Nat → List Value → Prop} (hC : ∀ b o cs, C b o cs → C' b o cs) (h : globsOk C) : globsOk C' := by
  obtain ⟨⟨m0, h0⟩, -⟩ := h
  exact ⟨⟨m0, hC _ _ _ h0⟩, trivial⟩
def gtab (g : Nat) : Option (List Value) := if g = 0 then some qbe else none
theorem gtab_ok {C : Nat → Nat → List Value → Prop} (h : globsOk C) {g : Nat} {cs : List Value} (hg : gtab g = some cs) : C g 0 cs := by
  unfold gtab at hg
  obtain ⟨⟨m0, h0⟩, -⟩ := h
  split at hg
  · rename_i e; subst e; cases hg; exact h0
  cases hg
@[simp] theorem gtab_namesTab : gtab 0 = some qbe := rfl
@[simp] theorem namesTab_0 : qbe[0]? = some (.string ⟨#[105, 110, 116]⟩) := rfl
@[simp] theorem namesTab_1 : qbe[1]? = some (.string ⟨#[116, 101, 120, 116]⟩) := rfl
@[simp] theorem namesTab_2 : qbe[2]? = some (.string ⟨#[98, 111, 111, 108]⟩) := rfl
@[simp] theorem namesTab_3 : qbe[3]? = some (.string ⟨#[99, 111, 108]⟩) := rfl
@[simp] theorem namesTab_4 : qbe[4]? = some (.string ⟨#[]⟩) := rfl
@[simp] theorem namesTab_5 : qbe[5]? = some (.string ⟨#[116, 105, 109, 101]⟩) := rfl
@[simp] theorem namesTab_6 : qbe[6]? = some (.string ⟨#[110, 111, 116]⟩) := rfl
@[simp] theorem namesTab_7 : qbe[7]? = some (.string ⟨#[110, 101, 103]⟩) := rfl
@[simp] theorem namesTab_8 : qbe[8]? = some (.string ⟨#[97, 100, 100]⟩) := rfl
@[simp] theorem namesTab_9 : qbe[9]? = some (.string ⟨#[115, 117, 98]⟩) := rfl
@[simp] theorem namesTab_10 : qbe[10]? = some (.string ⟨#[109, 117, 108]⟩) := rfl
@[simp] theorem namesTab_11 : qbe[11]? = some (.string ⟨#[100, 105, 118]⟩) := rfl
@[simp] theorem namesTab_12 : qbe[12]? = some (.string ⟨#[109, 111, 100]⟩) := rfl
@[simp] theorem namesTab_13 : qbe[13]? = some (.string ⟨#[101, 113]⟩) := rfl
@[simp] theorem namesTab_14 : qbe[14]? = some (.string ⟨#[110, 101]⟩) := rfl
@[simp] theorem namesTab_15 : qbe[15]? = some (.string ⟨#[108, 116]⟩) := rfl
@[simp] theorem namesTab_16 : qbe[16]? = some (.string ⟨#[108, 101]⟩) := rfl
@[simp] theorem namesTab_17 : qbe[17]? = some (.string ⟨#[97, 110, 100]⟩) := rfl
@[simp] theorem namesTab_18 : qbe[18]? = some (.string ⟨#[111, 114]⟩) := rfl
@[simp] theorem namesTab_19 : qbe[19]? = some (.string ⟨#[99, 111, 110, 99, 97, 116]⟩) := rfl
@[simp] theorem namesTab_20 : qbe[20]? = some (.string ⟨#[108, 101, 110]⟩) := rfl
@[simp] theorem namesTab_21 : qbe[21]? = some (.string ⟨#[105, 102]⟩) := rfl
@[simp] theorem namesTab_22 : qbe[22]? = some (.string ⟨#[]⟩) := rfl
end Go.Proofs.YtnkakofcejkhiaaDoor

/- Walk: the columns that an expression reads, of the reference. -/
namespace Go.Proofs.YtnkakofcejkhiaaDoor
open Go.RowKit Go.Lib
def withP : List Int → Int → List Int
  | [], n => [n]
  | a :: l, n => if a < n then a :: withP l n else if a = n then a :: l else n :: a :: l
def addAll (l ns : List Int) : List Int := ns.foldl withP l
mutual
def readsP : Ex → List Int
  | .mk o n _ l => readsL (if o = 3 then [n] else []) l
def readsL (acc : List Int) : List Ex → List Int
  | [] => acc
  | e :: l => readsL (addAll acc (readsP e)) l
end
end Go.Proofs.YtnkakofcejkhiaaDoor

/- Layer 16 on plain data: what depends on the time. -/
namespace Go.Proofs.YtnkakofcejkhiaaDoor
open Go.RowKit Go.Lib
mutual
def timE (B : List Bool) : Ex → Bool
  | .mk o n _ l => decide (o = 5) || (if o = 22 ∧ 0 ≤ n ∧ n < B.length then B.getD n.toNat false else false) || timL B l
def timL (B : List Bool) : List Ex → Bool
  | [] => false
  | e :: l => timE B e || timL B l
end
end Go.Proofs.YtnkakofcejkhiaaDoor

/- A value depends on the columns that are read, and on the time only if it is read. -/
namespace Go.Proofs.YtnkakofcejkhiaaDoor
open Go.RowKit Go.Lib
end Go.Proofs.YtnkakofcejkhiaaDoor

/- Layer 26 on plain data: folding again changes nothing; sizes; what is folded and reads nothing is a constant. -/
namespace Go.Proofs.YtnkakofcejkhiaaDoor
open Go.RowKit Go.Lib
inductive NF : Ex → Prop
  | mk (o n : Int) (s : ByteArray) (l : List Ex) (h : ∀ x ∈ l, NF x) (ht : topF o n s l = .mk o n s l) : NF (.mk o n s l)
theorem NF.arg {o n : Int} {s : ByteArray} {l : List Ex} (h : NF (.mk o n s l)) : ∀ x ∈ l, NF x := by cases h; assumption
theorem top_cases (o n : Int) (s : ByteArray) (l : List Ex) : topF o n s l = .mk o n s l ∨ (∃ v, topF o n s l = qbh v) ∨ topF o n s l ∈ l ∨ ∃ n2 s2, l = [.mk 6 n2 s2 [topF o n s l]] := by
  unfold topF
  split
  · rename_i h; subst h; exact .inl rfl
  split
  · exact .inr (.inl ⟨_, rfl⟩)
  split
  · unfold choiceP
    split
    · split
      · exact .inr (.inr (.inl (by simp)))
      · split
        · exact .inr (.inr (.inl (by simp)))
        · exact .inl rfl
    · exact .inl rfl
  split
  · unfold logicP
    split
    · split
      · split
        · exact .inr (.inr (.inl (by simp)))
        · exact .inr (.inr (.inl (by simp)))
      · split
        · split
          · exact .inr (.inr (.inl (by simp)))
          · exact .inr (.inr (.inl (by simp)))
        · exact .inl rfl
    · exact .inl rfl
  split
  · unfold notP
    split
    · split
      · rename_i ho2
        subst ho2
        split
        · exact .inr (.inr (.inr ⟨_, _, rfl⟩))
        · exact .inl rfl
      · exact .inl rfl
    · exact .inl rfl
  · exact .inl rfl
theorem partsL_map {f : Ex → Ex} : ∀ l : List Ex, (∀ x ∈ l, parts (f x) ≤ parts x) → qu (l.map f) ≤ qu l
  | [], _ => by simp [qu]
  | x :: l, h => by
    have h1 := h x (by simp)
    have h2 := partsL_map l fun y hy => h y (by simp [hy])
    rw [List.map_cons, qu, qu]; omega
theorem const_parts (v : Val) : parts (qbh v) = 1 ∧ levels (qbh v) = 1 := by
  unfold qbh zeroE
  split
  · exact ⟨by rw [parts, qu], by rw [levels, qz]; rfl⟩
  · split
    · exact ⟨by rw [parts, qu], by rw [levels, qz]; rfl⟩
    · split <;> exact ⟨by rw [parts, qu], by rw [levels, qz]; rfl⟩
theorem top_parts (o n : Int) (s : ByteArray) (l : List Ex) : parts (topF o n s l) ≤ parts (.mk o n s l) := by
  rcases top_cases o n s l with h1 | ⟨v, h1⟩ | h1 | ⟨n2, s2, h1⟩
  · rw [h1]; exact Nat.le_refl _
  · rw [h1, (const_parts v).1, parts]; omega
  · have := qbi l _ h1
    rw [parts.eq_1 o n s l]; omega
  · have h2 : parts (.mk o n s l) = qu l + 1 := by rw [parts]
    have h3 : qu l = qu [.mk 6 n2 s2 [topF o n s l]] := by rw [← h1]
    simp only [qu, parts] at h3
    omega
theorem fold_parts (e : Ex) : parts (foldE e) ≤ parts e := by
  induction e using Ex.ind with
  | h o n s l ih =>
    rw [foldE]
    refine Nat.le_trans (top_parts o n s _) ?_
    rw [parts, parts, foldL_map]
    have := partsL_map (f := foldE) l ih
    omega
theorem levelsL_map {f : Ex → Ex} : ∀ (l : List Ex) (n m : Int), n ≤ m → (∀ x ∈ l, levels (f x) ≤ levels x) → qz (l.map f) n ≤ qz l m
  | [], n, m, h, _ => by rw [List.map_nil, qz, qz]; exact h
  | x :: l, n, m, h, hx => by
    rw [List.map_cons, qz, qz]
    exact levelsL_map l _ _ (by have := hx x (by simp); omega) fun y hy => hx y (by simp [hy])
theorem top_levels (o n : Int) (s : ByteArray) (l : List Ex) : levels (topF o n s l) ≤ levels (.mk o n s l) := by
  have h0 := qdp (.mk o n s l)
  rcases top_cases o n s l with h1 | ⟨v, h1⟩ | h1 | ⟨n2, s2, h1⟩
  · rw [h1]; omega
  · rw [h1, (const_parts v).2]; omega
  · have := qdo l 0 _ h1
    rw [levels.eq_1 o n s l]; omega
  · have h2 : levels (.mk o n s l) = qz l 0 + 1 := by rw [levels]
    have h3 : qz l 0 = qz [.mk 6 n2 s2 [topF o n s l]] 0 := by rw [← h1]
    simp only [qz, levels] at h3
    omega
theorem fold_levels (e : Ex) : levels (foldE e) ≤ levels e := by
  induction e using Ex.ind with
  | h o n s l ih =>
    rw [foldE]
    refine Int.le_trans (top_levels o n s _) ?_
    rw [levels, levels, foldL_map]
    have := levelsL_map (f := foldE) l 0 0 (by omega) ih
    omega
end Go.Proofs.YtnkakofcejkhiaaDoor

/- Regions that draw their order: all operations but the last ones read or call quietly (in a class of worlds), the last ones stand in one order. -/
namespace Go.Proofs.YtnkakofcejkhiaaDoor
open Go.RowKit Go.Lib
section
variable {P : Program} {ops : Array Oper} {md : Region.Mode} {C : World → Prop}
def wpHeadQ (P : Program) (md : Region.Mode) (ops : Array Oper) (C : World → Prop) (n : Nat) (L : Array Bool → Act → Prop) : Nat → Array Bool → Act → Prop
  | 0, listed, a => L listed a
  | f + 1, listed, a =>
    Region.ready md ops listed ≠ [] ∧ ∀ i ∈ Region.ready md ops listed, i < n ∧ qOp P ops C i (wpHeadQ P md ops C n L f (listed.setIfInBounds i true)) a
theorem wpAny_of_headQ {n g : Nat} {L : Array Bool → Act → Prop} {Q' : Exit → Act → World → Prop} (hL : ∀ listed a w, C w → L listed a → wpAny P md ops Q' g listed a w) :
    ∀ (f : Nat) (listed : Array Bool) (a : Act) (w : World), C w → wpHeadQ P md ops C n L f listed a → wpAny P md ops Q' (f + g) listed a w
  | 0, listed, a, w, hw, h => by rw [Nat.zero_add]; exact hL _ _ _ hw h
  | f + 1, listed, a, w, hw, h => by
    rw [show f + 1 + g = (f + g) + 1 by omega]
    exact ⟨fun h0 => absurd h0 h.1, fun i hi => wpOp_of_qOp hw (fun a' w' hw' h' => wpAny_of_headQ hL f _ a' w' hw' h') (h.2 i hi).2⟩
theorem wpHeadQ_first {n i : Nat} {oi : Oper} {v : Value} {L : Array Bool → Act → Prop} (hi : ops[i]? = some oi) (hsel : ∀ (j : Nat) (o : Oper) cs b, ops[j]? = some o → o.op ≠ .select cs b)
    (hs : Region.sinkB md ops n = true) (hc : Region.chainB md ops n = true) (hn : n < ops.size) (hin : i < n)
    (hdone : ∀ listed a, L listed a → ∀ j ∈ Region.ready md ops listed, n ≤ j) :
    ∀ (f : Nat) (listed : Array Bool) (a : Act), HeadInv md ops n listed →
      (∀ j oj, ops[j]? = some oj → j ≠ i → listed.getD j true = false → (∀ e ∈ oj.after, Region.binds md e = true → e.on ≠ i) → oi.apart ops oj = true) →
      i ∈ Region.ready md ops listed → YieldsIn P ops C oi v a →
      wpHeadQ P md ops C n L f (listed.setIfInBounds i true) (a.put oi.dst v) → wpHeadQ P md ops C n L (f + 1) listed a := by
  intro f
  induction f with
  | zero =>
    intro listed a inv _ hr hy H
    have hun := (mem_ready.1 hr).1
    refine ⟨fun h => (by rw [h] at hr; cases hr), fun j hj => ?_⟩
    have hjn : j < n := by
      rcases Nat.lt_or_ge j n with h | h
      · exact h
      · exact absurd hj (tail_waits hs hc hn inv _ i rfl hin hun j h)
    refine ⟨hjn, ?_⟩
    by_cases hji : j = i
    · subst hji; exact hy.qOp hi H
    · have := hdone _ _ H j (ready_mono hj hji)
      omega
  | succ f ih =>
    intro listed a inv hfree hr hy H
    have hun := (mem_ready.1 hr).1
    refine ⟨fun h => (by rw [h] at hr; cases hr), fun j hj => ?_⟩
    have hjn : j < n := by
      rcases Nat.lt_or_ge j n with h | h
      · exact h
      · exact absurd hj (tail_waits hs hc hn inv _ i rfl hin hun j h)
    refine ⟨hjn, ?_⟩
    by_cases hji : j = i
    · subst hji; exact hy.qOp hi H
    · have h1 := (H.2 j (ready_mono hj hji)).2
      obtain ⟨hjun, oj, hoj, hall⟩ := mem_ready.1 hj
      have hnot : ∀ e ∈ oj.after, Region.binds md e = true → e.on ≠ i := fun e he hb heq => by
        have h1 := hall e he hb
        rw [heq, getD_both hun] at h1
        cases h1
      have h2 := qOp_put hoj (hfree j oj hoj hji hjun hnot) (fun cs b => hsel i oi cs b hi) (fun cs b => hsel j oj cs b hoj) hy h1
      have hfree' : ∀ k ok, ops[k]? = some ok → k ≠ i → (listed.setIfInBounds j true).getD k true = false →
          (∀ e ∈ ok.after, Region.binds md e = true → e.on ≠ i) → oi.apart ops ok = true := fun k ok hk hki hun hno => by
        refine hfree k ok hk hki ?_ hno
        by_cases hjk : j = k
        · subst hjk; exact hjun
        · rw [getD_set_ne true hjk] at hun; exact hun
      refine qOp_mono (fun a' h3 => ih (listed.setIfInBounds j true) a' (inv.set hj hjn) hfree' (ready_mono hr (Ne.symm hji)) h3.1 ?_) h2
      rw [Array.setIfInBounds_comm _ _ hji]
      exact h3.2
theorem wpHeadQ_lex {n g : Nat} {Lq : Act → Prop} (hsel : Region.noSelect ops = true) (hs : Region.sinkB md ops n = true) (hc : Region.chainB md ops n = true) (hn : n < ops.size) :
    ∀ (l : List Oper) (k : Nat) (listed : Array Bool) (a : Act), (∀ j, j < l.length → l[j]? = ops[k + j]?) → k + l.length = n → HeadInv md ops n listed →
    Region.lexHead md ops g l.length k listed = true → wpQuiet P ops C Lq l a →
    wpHeadQ P md ops C n (fun listed' a' => Region.seqB md ops g n listed' = true ∧ Lq a') l.length listed a
  | [], k, listed, a, _, hk, _, hB, h => by
    have : k = n := by simpa using hk
    subst this
    exact ⟨by simpa [Region.lexHead] using hB, h⟩
  | o :: l, k, listed, a, hl, hk, inv, hB, h => by
    have h0 : ops[k]? = some o := by simpa using (hl 0 (by simp)).symm
    simp only [List.length_cons, Region.lexHead, Bool.and_eq_true] at hB
    obtain ⟨⟨hr, hf⟩, hB'⟩ := hB
    have hkn : k < n := by simp only [List.length_cons] at hk; omega
    have hr' : k ∈ Region.ready md ops listed := by simpa using hr
    have hst : qOp P ops C k (wpQuiet P ops C Lq l) a := by unfold qOp; simp only [h0]; exact h
    obtain ⟨v, hy, hK⟩ := yieldsIn_of_qOp h0 hst
    exact wpHeadQ_first h0 (Region.noSelect_spec hsel) hs hc hn hkn (fun listed' a' hL => seqB_ready hL.1) l.length listed a inv (Region.free_spec h0 hf) hr' hy
      (wpHeadQ_lex hsel hs hc hn l (k + 1) _ _ (fun j hj => by have := hl (j + 1) (by simp; omega); simpa [Nat.add_assoc, Nat.add_comm 1 j] using this) (by simp only [List.length_cons] at hk; omega) (inv.set hr' hkn) hB' hK)
theorem wp_region_quiet_tail {id : Nat} {Q : Exit → Act → World → Prop} {a : Act} {w : World} {l : List Oper} (n : Nat) (hm : P.follows .mixedOrders = true) (hB : Region.lexTailB .any l.toArray n = true)
    (hC : C { w with drawn := w.drawn + 1 })
    (h : wpQuiet P l.toArray C (fun a' => ∀ w', C w' → wpList P l.toArray Q (l.drop n) a' w') (l.take n) a) : (Code.region id l.toArray true).wp P Q a w := by
  simp only [Region.lexTailB, Bool.and_eq_true, decide_eq_true_eq] at hB
  obtain ⟨⟨⟨⟨hsel, hn⟩, hs⟩, hc⟩, hlex⟩ := hB
  have hn' : n < l.length := by simpa using hn
  have htl : (l.take n).length = n := by simp; omega
  have hdl : (l.drop n).length = l.toArray.size - n := by simp
  have inv0 : HeadInv .any l.toArray n (Array.replicate l.toArray.size false) :=
    ⟨by simp, fun j oj _ hl => (by rw [getD_replicate_false] at hl; cases hl), fun t _ ht => getD_in (by simpa using ht) (getD_replicate_false _ _)⟩
  have H := wpHeadQ_lex (md := .any) (g := l.toArray.size - n) hsel hs hc hn (l.take n) 0 _ a (fun j hj => by
    have hj' : j < n := by rw [htl] at hj; exact hj
    simp [hj']) (by simpa using htl) inv0 (by rw [htl]; exact hlex) h
  refine wp_region_any hm ?_
  have := wpAny_of_headQ (Q' := Q) (g := l.toArray.size - n) (fun listed a' w' hw' hL => by
    have := wpAny_of_seq (md := .any) (Q' := Q) (l.drop n) n listed a' w' (fun j => by simp [List.getElem?_drop]) (by rw [hdl]; exact hL.1) (hL.2 w' hw')
    rwa [hdl] at this) _ _ _ _ hC H
  rw [htl, show n + (l.toArray.size - n) = l.toArray.size by omega] at this
  exact this
end
theorem qt {P : Program} {id : Nat} {Q : Exit → Act → World → Prop} {a : Act} {w : World} {l : List Oper} (n : Nat) (hm : P.follows .mixedOrders = true) (hB : Region.lexTailB .any l.toArray n = true)
    (h : wpQuiet P l.toArray (fun w' => ∃ x : ExtW w, w' = x.val) (fun a' => ∀ w', Ext w w' → wpList P l.toArray Q (l.drop n) a' w') (l.take n) a) : (Code.region id l.toArray true).wp P Q a w :=
  wp_region_quiet_tail (C := fun w' => ∃ x : ExtW w, w' = x.val) n hm hB ⟨⟨{ w with drawn := w.drawn + 1 }, ⟨rfl, rfl, rfl, Nat.le_refl _, fun _ _ => rfl⟩⟩, rfl⟩
    (qdy (fun a' h' w' hx => by obtain ⟨x, rfl⟩ := hx; exact h' x.val x.ext) _ _ h)
end Go.Proofs.YtnkakofcejkhiaaDoor

/- Regions that draw their order: reads, then operations in one order that make new memory while the reads may still come between them, then a tail in one order. -/
namespace Go.Proofs.YtnkakofcejkhiaaDoor
open Go.RowKit Go.Lib
section
variable {P : Program} {ops : Array Oper} {md : Region.Mode} {C : World → Prop} {Q : Exit → Act → World → Prop}
end
end Go.Proofs.YtnkakofcejkhiaaDoor

/- Slices of trees that the call itself makes: appending an element whose memory is new. -/
namespace Go.Proofs.YtnkakofcejkhiaaDoor
open Go.RowKit Go.Lib
def OwnE (w : World) (B : Nat) (e : TypeId) (size : Nat) (v : Value) (ds : List D) : Prop :=
  ∃ xs, w.ownsRow B e size v ds.length xs ∧ RdS w (fun b => B ≤ b ∧ b < w.heap.size ∧ some b ≠ v.ownBlock) ds xs
theorem OwnE.nil (w : World) (B : Nat) (e : TypeId) (size : Nat) : OwnE w B e size (.slice none 0 0) [] := ⟨[], World.ownsRow_nil _ _ _ _, by rw [RdS]⟩
theorem OwnE.ext {w w' : World} {B : Nat} {e : TypeId} {size : Nat} {v : Value} {ds : List D} (h : OwnE w B e size v ds) (he : Ext w w') : OwnE w' B e size v ds := by
  obtain ⟨xs, h1, h2⟩ := h
  exact ⟨xs, own_ext h1 he, RdS.keep (fun b hb _ => he.block b hb.2.1) (fun b hb => ⟨hb.1, Nat.lt_of_lt_of_le hb.2.1 he.size, hb.2.2⟩) ds xs h2⟩
theorem OwnE.set {w : World} {B : Nat} {e : TypeId} {size : Nat} {v : Value} {ds : List D} (h : OwnE w B e size v ds) {p : Addr} (hp : p.block < B) (u : Value) : OwnE (w.setCell p u) B e size v ds := by
  obtain ⟨xs, h1, h2⟩ := h
  have hb : ∀ b, B ≤ b → (w.setCell p u).heap[b]? = w.heap[b]? := fun b hb => by
    exact Below.heap_setCell w p u b (by omega)
  have hs : (w.setCell p u).heap.size = w.heap.size := by simp
  refine ⟨xs, ⟨h1.1, ?_⟩, RdS.keep (fun b hx _ => hb b hx.1) (fun b hx => by rw [hs]; exact hx) ds xs h2⟩
  rcases h1.2 with h3 | ⟨g, cap, cur, hv, hg, hh, r⟩
  · exact Or.inl h3
  · exact Or.inr ⟨g, cap, cur, hv, hg, (hb g hg).trans hh, r⟩
theorem OwnE.rd {w : World} {B : Nat} {e : TypeId} {size : Nat} {v : Value} {ds : List D} (h : OwnE w B e size v ds) : Rd w (fun b => B ≤ b ∧ b < w.heap.size) (.sl ds) [v] := by
  obtain ⟨xs, h1, h2⟩ := h
  exact own_rd h1 h2 (fun b hb => ⟨hb.1, hb.2.1⟩) (fun b hb => by have := h1.lt b hb; exact this)
theorem OwnE.own {w : World} {B : Nat} {e : TypeId} {size : Nat} {v : Value} {ds : List D} (h : OwnE w B e size v ds) : ∀ b, v.ownBlock = some b → B ≤ b ∧ b < w.heap.size := by
  obtain ⟨xs, h1, h2⟩ := h
  exact fun b hb => h1.lt b hb
theorem OwnE.ne {w : World} {B : Nat} {e : TypeId} {size : Nat} {v : Value} {ds : List D} (h : OwnE w B e size v ds) {b : Nat} (hb : b < B) : some b ≠ v.ownBlock := fun hx => by
  have := h.own b hx.symm; omega
theorem OwnE.form {w : World} {B : Nat} {e : TypeId} {size : Nat} {v : Value} {ds : List D} (h : OwnE w B e size v ds) {n : Nat} (hn : ds.length = n) : ∃ A cap, v = .slice A n cap ∧ n ≤ cap ∧ cap ≤ 9223372036854775807 := by
  subst hn
  obtain ⟨A, cap, b, off, h1, h2, h3, -⟩ := Rd.sl_open h.rd
  exact ⟨A, cap, h1, h2, h3⟩
end Go.Proofs.YtnkakofcejkhiaaDoor

/- Regions that draw their order: reads (also late ones) and operations that stand alone, in any sequence; then a tail in one order. -/
namespace Go.Proofs.YtnkakofcejkhiaaDoor
open Go.RowKit Go.Lib
section
variable {P : Program} {ops : Array Oper} {md : Region.Mode} {C : World → Prop} {Q : Exit → Act → World → Prop}
end
end Go.Proofs.YtnkakofcejkhiaaDoor

/- Walks: the number of parts, of the reference. -/
namespace Go.Proofs.YtnkakofcejkhiaaDoor
open Go.RowKit Go.Lib
set_option maxRecDepth 10000 in
set_option maxHeartbeats 2000000 in
theorem rparts_any (e : Ex) : ∀ (S : Nat → Prop) (cs : List Value) (w : World), Rd w S e.d cs → parts e ≤ 1000000 →
    Calls Tryd.prog 77 #[.agg cs.toArray] w fun r w' => r = .returned (.int .i64 (parts e)) ∧ Ext w w' := by
  induction e using Ex.ind with | h o n s l ih => ?_
  intro S cs w hr hpb
  obtain ⟨A, cap, b, off, rfl, hl1, hl2, hl3, hm⟩ := Ex.open hr
  have ih' := Lib.hid ih
  clear ih
  simp only [Ex.args, Ex.op, Ex.n, Ex.s] at hl1 hl2 hl3 hm ⊢
  rw [parts] at hpb
  have hll : l.length ≤ 1000000 := by have := qbu l; omega
  have hl3' := Lib.hid hl3; have hm' := Lib.hid hm
  have H := Lib.hid (show parts (.mk o n s l) = qu l + 1 by rw [parts])
  clear hr hl3 hm
  go_enter Tryd.func77, Tryd.ntmps77
  go_wp2_with fail
  go_loopw [3, 4] (fun x i wr => ∃ (k q : Nat), k ≤ l.length ∧ i = .int .i64 k ∧ x = .int .i64 q ∧ q ≤ 1000000 ∧ Hid (q = qu (l.take k) + 1) ∧ Ext (w.alloc (.cells #[.int .i64 o, .int .i64 n, .string s, .slice A l.length cap] 52)) wr) (fun _ i _ => l.length - (RowKit.intOf i).toNat)
  case atStart => exact ⟨0, 1, by omega, rfl, rfl, by omega, Lib.hid (by simp [qu]), Ext.refl _⟩
  case round =>
    obtain ⟨k, q, hk, rfl, rfl, hq, HH, hb⟩ := hrel
    have e3 : wr.cell? ⟨w.heap.size, 3, none⟩ = some (.slice A l.length cap) := hb.at (by go_simp)
    have hw : Ext w wr := ((Ext.refl _).alloc _).trans hb
    by_cases hlt : k < l.length
    · obtain ⟨rfl, hSb⟩ := hl3'.out (by omega)
      obtain ⟨A1, cap1, b1, off1, c0, c1, c2, c3, hr', -⟩ := Ex.at (hm'.out.ext (fun _ => hSb) hw) hlt
      have hr2 := Lib.hid hr'
      have hSb' := Lib.hid hSb
      have hpk : parts l[k] ≤ 1000000 := by have := qbi l l[k] (List.getElem_mem hlt); omega
      have hqn : q + parts l[k] ≤ 1000000 := by
        have h1 := qew l k hlt; have h2 := qda l (k + 1); have h3 := HH.out; omega
      have HH2 := Lib.hid (show q + parts l[k] = qu (l.take (k + 1)) + 1 by have h1 := qew l k hlt; have h3 := HH.out; omega)
      have hcall := Lib.hid (ih'.out l[k] (List.getElem_mem hlt) S _ wr hr' hpk)
      clear hr' hSb HH
      generalize parts l[k] = NP at *
      go_wp2_with fail
      refine (hcall.out).mono ?_
      rintro r w1 ⟨rfl, he⟩
      go_wp2_with fail
      go_roundw
      case rel => exact ⟨k + 1, q + NP, by omega, by go_num, by go_num, hqn, HH2, hb.trans he⟩
      case measure => simp [RowKit.intOf]; omega
    · have hkl : k = l.length := by omega
      subst hkl
      go_wp2_with fail
      go_ret
      exact ⟨qdr (by rw [H.out]; have := HH.out; rw [List.take_length] at this; omega), hw⟩
end Go.Proofs.YtnkakofcejkhiaaDoor

/- Sums of steps, on plain data. -/
namespace Go.Proofs.YtnkakofcejkhiaaDoor
open Go.RowKit Go.Lib
theorem sumS_take (n : Int) (ks : List Int) (k : Nat) (h : k < ks.length) : sumS n (ks.take (k + 1)) = capS (sumS n (ks.take k) + ks[k]) := by
  induction ks generalizing n k with
  | nil => simp at h
  | cons x l ih =>
    cases k with
    | zero => simp [sumS]
    | succ k =>
      rw [List.take_succ_cons, List.take_succ_cons, sumS, sumS, ih _ k (by simpa using h)]; rfl
theorem stepsOf_if (B ks : List Int) (n : Int) {a b c : Int} (h : ks = [a, b, c]) : qey B 21 n ks = capS (1 + a + max b c) := by
  subst h; simp [qey]
theorem stepsOf_sum (B ks : List Int) (op n : Int) (h : op ≠ 21 ∨ ks.length ≠ 3) : qey B op n ks = if op = 22 ∧ 0 ≤ n ∧ n < B.length then capS (sumS 1 ks + B.getD n.toNat 0) else sumS 1 ks := by
  unfold qey
  split
  · rename_i a b c hx
    exfalso
    by_cases ho : op = 21
    · simp [ho] at hx; subst hx; simp [ho] at h
    · simp [ho] at hx
  · rfl
theorem len_3s {l : List Int} (h : l.length = 3) : ∃ a b c, l = [a, b, c] := by
  match l, h with | [a, b, c], _ => exact ⟨a, b, c, rfl⟩
end Go.Proofs.YtnkakofcejkhiaaDoor

/- Pure: steps of typed expressions; what is evaluated. -/
namespace Go.Proofs.YtnkakofcejkhiaaDoor
open Go.RowKit Go.Lib
mutual
def wfS (m : Nat) : Ex → Bool
  | .mk op n _ l => (!decide (op = 21) || decide (l.length = 3)) && (!decide (op = 22) || (decide (0 ≤ n) && decide (n < m))) && wfSL m l
def wfSL (m : Nat) : List Ex → Bool
  | [] => true
  | e :: l => wfS m e && wfSL m l
end
theorem wfSL_all (m : Nat) : ∀ l, wfSL m l = l.all (wfS m)
  | [] => by rw [wfSL]; rfl
  | e :: l => by rw [wfSL, wfSL_all m l]; rfl
theorem tys_len {F : List Fn} {c p : List Int} : ∀ (l : List Ex) {ts : List Int}, tys F c p l = some ts → ts.length = l.length
  | [], ts, h => by rw [tys] at h; cases h; rfl
  | e :: l, ts, h => by
    rw [tys] at h
    cases he : ty F c p e with
    | none => rw [he] at h; cases h
    | some t =>
      rw [he] at h
      cases hl : tys F c p l with
      | none => rw [hl] at h; cases h
      | some us => rw [hl] at h; cases h; simp [tys_len l hl]
theorem tail_ifW {F : List Fn} {c p : List Int} {n r : Int} {s : ByteArray} {ts : List Int} (h : tailT F c p 21 n s ts = some r) : ts.length = 3 := by
  unfold tailT at h
  split at h
  · cases h
  · rw [if_neg (by decide)] at h
    split at h
    · unfold leafT at h; simp at h
    · unfold operT at h
      split at h
      · cases h
      · simp at h
        split at h
        · rfl
        · cases h
theorem tail_callW {F : List Fn} {c p : List Int} {n r : Int} {s : ByteArray} {ts : List Int} (h : tailT F c p 22 n s ts = some r) : 0 ≤ n ∧ n < F.length := by
  unfold tailT at h
  split at h
  · cases h
  · rw [if_pos rfl] at h
    unfold callT at h
    split at h
    · cases h
    · split at h
      · rename_i hf
        have := (List.getElem?_eq_some_iff.1 hf).1
        omega
      · cases h
theorem wfS_of_ty {F : List Fn} {c p : List Int} (e : Ex) : ∀ {t : Int}, ty F c p e = some t → wfS F.length e = true := by
  induction e using Ex.ind with
  | h op n s l ih =>
    intro t ht
    rw [ty] at ht
    cases hl : tys F c p l with
    | none => rw [hl] at ht; cases ht
    | some ts =>
      rw [hl] at ht
      dsimp only at ht
      rw [wfS, wfSL_all]
      simp only [Bool.and_eq_true, List.all_eq_true, Bool.or_eq_true, Bool.not_eq_true', decide_eq_false_iff_not, decide_eq_true_eq]
      refine ⟨⟨?_, ?_⟩, fun e he => ?_⟩
      · by_cases ho : op = 21
        · subst ho; right; rw [← tys_len l hl]; exact tail_ifW ht
        · left; exact ho
      · by_cases ho : op = 22
        · subst ho; right; exact tail_callW ht
        · left; exact ho
      · obtain ⟨u, hu⟩ := tys_mem l hl e he
        exact ih e he hu
def sumI : List Int → Int
  | [] => 0
  | k :: l => k + sumI l
theorem sumI_nonneg : ∀ {l : List Int}, GoodS l → 0 ≤ sumI l
  | [], _ => by simp [sumI]
  | k :: l, h => by have := h k (by simp); have := sumI_nonneg (l := l) (fun x hx => h x (by simp [hx])); rw [sumI]; omega
theorem sumS_eq : ∀ (l : List Int) (n : Int), GoodS l → 0 ≤ n → n ≤ 1099511627776 → sumS n l = capS (n + sumI l)
  | [], n, _, h1, h2 => by rw [sumS, sumI]; unfold capS; omega
  | k :: l, n, hg, h1, h2 => by
    have hk := hg k (by simp)
    have hl : GoodS l := fun x hx => hg x (by simp [hx])
    have := capS_bd (n := n + k) (by omega)
    have h0 := sumI_nonneg hl
    rw [sumS, sumS_eq l _ hl this.1 this.2, sumI]
    unfold capS; omega
theorem sumS_swap {l : List Int} {b : Int} (h : GoodS l) (hb : 0 ≤ b) (hb2 : b ≤ 1099511627776) : sumS (capS (1 + b)) l = capS (sumS 1 l + b) := by
  have := capS_bd (n := 1 + b) (by omega)
  have h0 := sumI_nonneg h
  rw [sumS_eq l _ h this.1 this.2, sumS_eq l 1 h (by omega) (by omega)]
  unfold capS; omega
end Go.Proofs.YtnkakofcejkhiaaDoor

/- Walk: (frame).eval: what it is shown to do; a choice. -/
namespace Go.Proofs.YtnkakofcejkhiaaDoor
open Go.RowKit Go.Lib
def qbb (vF : Value) (time : Int) (vR vP : Value) : Value := .agg #[vF, .int .i64 time, vR, vP]
def EvalOk (F : List Fn) (time : Int) (m : Nat) (e : Ex) : Prop :=
  ∀ (c p : List Int) (R P : List Val) (t : Int) (vF vR vP : Value) (cs : List Value) (w : World), ty (F.take m) c p e = some t → qbn c R → P.map Val.k = p → qbn c R → (∀ v ∈ P, qbc v) → parts e ≤ 1000000 →
    Rd w Any (.sl (F.map Fn.d)) [vF] → Rd w Any (.sl (R.map Val.d)) [vR] → Rd w Any (.sl (P.map Val.d)) [vP] → Rd w Any e.d cs →
    Calls Tryd.prog 55 #[qbb vF time vR vP, .agg cs.toArray] w fun r w' => r = .returned (ev (callN F time m) time R P e).v ∧ Ext w w'
theorem if_args {F : List Fn} {c p : List Int} {n : Int} {s : ByteArray} {l : List Ex} {t : Int} (h : ty F c p (.mk 21 n s l) = some t) :
    ∃ a b d, l = [a, b, d] ∧ ty F c p a = some 2 ∧ ty F c p b = some t ∧ ty F c p d = some t := by
  rw [ty] at h
  cases hl : tys F c p l with
  | none => rw [hl] at h; cases h
  | some ts =>
    rw [hl] at h
    dsimp only at h
    unfold tailT at h
    split at h
    · cases h
    split at h
    · rename_i h2; omega
    split at h
    · unfold leafT at h; simp at h
    · unfold operT at h
      simp only [show ¬ ((21 : Int) = 6) by decide, show ¬ ((21 : Int) = 7) by decide, show ¬ ((21 : Int) = 20) by decide, if_false] at h
      split at h
      · cases h
      rw [if_neg (by omega), if_neg (by omega), if_neg (by omega), if_neg (by omega), if_pos trivial] at h
      split at h
      · rename_i x y z
        split at h
        · rename_i hxy
          obtain ⟨rfl, rfl⟩ := hxy
          cases h
          match l, hl with
          | [a, b, d], hl =>
            simp only [tys] at hl
            cases ha : ty F c p a <;> rw [ha] at hl <;> try (cases hl; done)
            cases hb : ty F c p b <;> rw [hb] at hl <;> try (cases hl; done)
            cases hd : ty F c p d <;> rw [hd] at hl <;> try (cases hl; done)
            simp at hl
            obtain ⟨rfl, rfl, rfl⟩ := hl
            exact ⟨a, b, d, rfl, ha, hb, hd⟩
          | [], hl => simp [tys] at hl
          | [a], hl => simp only [tys] at hl; cases ha : ty F c p a <;> rw [ha] at hl <;> simp at hl
          | [a, b], hl =>
            simp only [tys] at hl
            cases ha : ty F c p a <;> rw [ha] at hl <;> try (cases hl; done)
            cases hb : ty F c p b <;> rw [hb] at hl <;> simp at hl
          | a :: b :: d :: e :: r, hl =>
            have := hl
            rw [tys] at this
            cases ha : ty F c p a <;> rw [ha] at this <;> try (cases this; done)
            rw [tys] at this
            cases hb : ty F c p b <;> rw [hb] at this <;> try (cases this; done)
            rw [tys] at this
            cases hd : ty F c p d <;> rw [hd] at this <;> try (cases this; done)
            rw [tys] at this
            cases he : ty F c p e <;> rw [he] at this <;> try (cases this; done)
            cases hr : tys F c p r <;> rw [hr] at this <;> simp at this
        · cases h
      · cases h
set_option maxRecDepth 10000 in
set_option maxHeartbeats 1000000 in
theorem eval_if (F : List Fn) (time : Int) (m : Nat) (n : Int) (s : ByteArray) (l : List Ex) (ih : ∀ x ∈ l, EvalOk F time m x) : EvalOk F time m (.mk 21 n s l) := by
  intro c p R P t vF vR vP cs w ht hR hP hsR hsP hpb hF hRr hPr hr
  obtain ⟨A, cap, b, off, rfl, hl1, hl2, hl3, hm⟩ := Ex.open hr
  simp only [Ex.args, Ex.op, Ex.n, Ex.s] at *
  obtain ⟨x, y, z, rfl, tx, tyy, tz⟩ := if_args ht
  obtain ⟨rfl, -⟩ := hl3 (by simp)
  obtain ⟨A1, cap1, b1, off1, c0, c1, c2, c3, hr1, -⟩ := Ex.at hm (k := 0) (by simp)
  obtain ⟨A2, cap2, b2, off2, d0, d1, d2, d3, hr2, -⟩ := Ex.at hm (k := 1) (by simp)
  obtain ⟨A3, cap3, b3, off3, q0, q1, q2, q3, hr3, -⟩ := Ex.at hm (k := 2) (by simp)
  simp only [List.getElem_cons_zero, List.getElem_cons_succ, List.length_cons, List.length_nil, Nat.zero_mul, Nat.one_mul, Nat.add_zero, Nat.reduceAdd, Nat.reduceMul, Nat.zero_add] at *
  have hx := fun cs w (h1 : Rd w Any (.sl (F.map Fn.d)) [vF]) h2 h3 h4 => ih x (by simp) c p R P _ vF vR vP cs w tx hR hP hsR hsP (by rw [parts] at hpb; have := qbi [x, y, z] x (by simp); omega) h1 h2 h3 h4
  have hy := fun cs w (h1 : Rd w Any (.sl (F.map Fn.d)) [vF]) h2 h3 h4 => ih y (by simp) c p R P _ vF vR vP cs w tyy hR hP hsR hsP (by rw [parts] at hpb; have := qbi [x, y, z] y (by simp); omega) h1 h2 h3 h4
  have hz := fun cs w (h1 : Rd w Any (.sl (F.map Fn.d)) [vF]) h2 h3 h4 => ih z (by simp) c p R P _ vF vR vP cs w tz hR hP hsR hsP (by rw [parts] at hpb; have := qbi [x, y, z] z (by simp); omega) h1 h2 h3 h4
  have H := Lib.hid (show ev (callN F time m) time R P (.mk 21 n s [x, y, z]) = if (ev (callN F time m) time R P x).n = 1 then ev (callN F time m) time R P y else ev (callN F time m) time R P z by
    rw [ev, if_pos rfl]; simp only [evs]; rfl)
  generalize ev (callN F time m) time R P x = X at *
  generalize ev (callN F time m) time R P y = Y at *
  generalize ev (callN F time m) time R P z = Z at *
  obtain ⟨kx, nx, sx⟩ := X
  obtain ⟨ky, ny, sy⟩ := Y
  obtain ⟨kz, nz, sz⟩ := Z
  simp only [Val.v, qbb] at hx hy hz
  have hF' := Lib.hid hF; have hR' := Lib.hid hRr; have hP' := Lib.hid hPr
  have hr1' := Lib.hid hr1; have hr2' := Lib.hid hr2; have hr3' := Lib.hid hr3
  have hx' := Lib.hid hx; have hy' := Lib.hid hy; have hz' := Lib.hid hz
  clear hF hRr hPr hr hr1 hr2 hr3 hx hy hz hm hl3 ih hpb ht hsR hsP hR hP tx tyy tz
  simp only [qbb]
  have hfd : ∀ W : World, (Instr.field 39 (.agg #[.int .i64 kx, .int .i64 nx, .string sx]) 1).run Tryd.prog W = .ok (.int .i64 nx) W := fun _ => by kernel_rfl
  go_enter Tryd.func55, Tryd.ntmps55
  go_wp2_with fail
  generalize hWe : World.alloc (World.alloc (World.alloc w _) _) _ = W
  have s0 : W.cell? ⟨w.heap.size, 0, none⟩ = some vF := by rw [← hWe]; clear hWe; go_simp
  have s1 : W.cell? ⟨w.heap.size, 1, none⟩ = some (.int .i64 time) := by rw [← hWe]; clear hWe; go_simp
  have s2 : W.cell? ⟨w.heap.size, 2, none⟩ = some vR := by rw [← hWe]; clear hWe; go_simp
  have s3 : W.cell? ⟨w.heap.size, 3, none⟩ = some vP := by rw [← hWe]; clear hWe; go_simp
  have e3 : W.cell? ⟨w.heap.size + 1, 3, none⟩ = some (.slice (some ⟨b, off, none⟩) 3 cap) := by rw [← hWe]; clear hWe; go_simp
  have f0 : W.cell? ⟨w.heap.size + 2, 0, none⟩ = some (.int .i64 0) := by rw [← hWe]; clear hWe; go_simp
  have f1 : W.cell? ⟨w.heap.size + 2, 1, none⟩ = some (.int .i64 0) := by rw [← hWe]; clear hWe; go_simp
  have f2 : W.cell? ⟨w.heap.size + 2, 2, none⟩ = some (.string ByteArray.empty) := by rw [← hWe]; clear hWe; go_simp; rfl
  have z0 : W.frozen? ⟨w.heap.size + 2, 0, none⟩ = false := by rw [← hWe]; clear hWe; go_simp
  have z1 : W.frozen? ⟨w.heap.size + 2, 1, none⟩ = false := by rw [← hWe]; clear hWe; go_simp
  have z2 : W.frozen? ⟨w.heap.size + 2, 2, none⟩ = false := by rw [← hWe]; clear hWe; go_simp
  have hlt : w.heap.size + 2 < W.heap.size := by rw [← hWe]; clear hWe; go_simp
  have hw : Ext w W := by rw [← hWe]; exact (by repeat' first | exact Ext.refl _ | assumption | apply Ext.alloc | apply Ext.drew | apply Ext.drewN | (refine Ext.trans ?_ (by assumption)))
  clear hWe
  have c0 := hw.at c0
  have c1 := hw.at c1
  have c2 := hw.at c2
  have c3 := hw.at c3
  have d0 := hw.at d0
  have d1 := hw.at d1
  have d2 := hw.at d2
  have d3 := hw.at d3
  have q0 := hw.at q0
  have q1 := hw.at q1
  have q2 := hw.at q2
  have q3 := hw.at q3
  have gs0 := ExtW.at s0
  have gs1 := ExtW.at s1
  have gs2 := ExtW.at s2
  have gs3 := ExtW.at s3
  have ge3 := ExtW.at e3
  have gc0 := ExtW.at c0
  have gc1 := ExtW.at c1
  have gc2 := ExtW.at c2
  have gc3 := ExtW.at c3
  refine qbd (by kernel_rfl) (by kernel_rfl) ?_
  repeat (go_big_quiet_step (((go_at_call 55; exact Calls.ext_of (hx'.out _ _ (hF'.out.ext (hw.trans (ExtW.ext _))) (hR'.out.ext (hw.trans (ExtW.ext _))) (hP'.out.ext (hw.trans (ExtW.ext _))) (hr1'.out.ext (hw.trans (ExtW.ext _))))))))
  refine wpQuiet_nil ?_
  intro w1 he
  by_cases hX : nx = 1
  · subst hX
    have H2 := Lib.hid (H.out.trans (if_pos rfl))
    clear H
    have s0 := he.at s0
    have s1 := he.at s1
    have s2 := he.at s2
    have s3 := he.at s3
    have e3 := he.at e3
    have d0 := he.at d0
    have d1 := he.at d1
    have d2 := he.at d2
    have d3 := he.at d3
    have gs0 := ExtW.at s0
    have gs1 := ExtW.at s1
    have gs2 := ExtW.at s2
    have gs3 := ExtW.at s3
    have ge3 := ExtW.at e3
    have gd0 := ExtW.at d0
    have gd1 := ExtW.at d1
    have gd2 := ExtW.at d2
    have gd3 := ExtW.at d3
    go_wp2_with fail
    refine qt 6 (by kernel_rfl) (by kernel_rfl) ?_
    simp only [List.take_succ_cons, List.take_zero, List.drop_succ_cons, List.drop_zero]
    repeat (go_big_quiet_step (((go_at_call 55; exact Calls.ext_of (hy'.out _ _ (hF'.out.ext ((hw.trans he).trans (ExtW.ext _))) (hR'.out.ext ((hw.trans he).trans (ExtW.ext _))) (hP'.out.ext ((hw.trans he).trans (ExtW.ext _))) (hr2'.out.ext ((hw.trans he).trans (ExtW.ext _))))))))
    refine wpQuiet_nil ?_
    intro w2 he2
    have he3 := he.trans he2
    replace f0 := he3.at f0
    replace f1 := he3.at f1
    replace f2 := he3.at f2
    replace z0 := (he3.frozens _ _ hlt).trans z0
    replace z1 := (he3.frozens _ _ hlt).trans z1
    replace z2 := (he3.frozens _ _ hlt).trans z2
    have hw2 : Ext w w2 := hw.trans he3
    go_wp2_with fail
    exact bodyPost_ret (v := .agg #[.int .i64 ky, .int .i64 ny, .string sy]) (by simp [results, Tryd.results55, go_sem, f0, f1, f2]) rfl ⟨by rw [H2.out]; rfl, qs hw2 _ (by omega) _ _ _⟩
  · have hXb : (nx == 1) = false := by simp [hX]
    have H2 := Lib.hid (H.out.trans (if_neg hX))
    clear H
    have s0 := he.at s0
    have s1 := he.at s1
    have s2 := he.at s2
    have s3 := he.at s3
    have e3 := he.at e3
    have q0 := he.at q0
    have q1 := he.at q1
    have q2 := he.at q2
    have q3 := he.at q3
    have gs0 := ExtW.at s0
    have gs1 := ExtW.at s1
    have gs2 := ExtW.at s2
    have gs3 := ExtW.at s3
    have ge3 := ExtW.at e3
    have gq0 := ExtW.at q0
    have gq1 := ExtW.at q1
    have gq2 := ExtW.at q2
    have gq3 := ExtW.at q3
    go_wp2_with fail
    refine qt 6 (by kernel_rfl) (by kernel_rfl) ?_
    simp only [List.take_succ_cons, List.take_zero, List.drop_succ_cons, List.drop_zero]
    repeat (go_big_quiet_step (((go_at_call 55; exact Calls.ext_of (hz'.out _ _ (hF'.out.ext ((hw.trans he).trans (ExtW.ext _))) (hR'.out.ext ((hw.trans he).trans (ExtW.ext _))) (hP'.out.ext ((hw.trans he).trans (ExtW.ext _))) (hr3'.out.ext ((hw.trans he).trans (ExtW.ext _))))))))
    refine wpQuiet_nil ?_
    intro w2 he2
    have he3 := he.trans he2
    replace f0 := he3.at f0
    replace f1 := he3.at f1
    replace f2 := he3.at f2
    replace z0 := (he3.frozens _ _ hlt).trans z0
    replace z1 := (he3.frozens _ _ hlt).trans z1
    replace z2 := (he3.frozens _ _ hlt).trans z2
    have hw2 : Ext w w2 := hw.trans he3
    go_wp2_with fail
    exact bodyPost_ret (v := .agg #[.int .i64 kz, .int .i64 nz, .string sz]) (by simp [results, Tryd.results55, go_sem, f0, f1, f2]) rfl ⟨by rw [H2.out]; rfl, qs hw2 _ (by omega) _ _ _⟩
end Go.Proofs.YtnkakofcejkhiaaDoor
