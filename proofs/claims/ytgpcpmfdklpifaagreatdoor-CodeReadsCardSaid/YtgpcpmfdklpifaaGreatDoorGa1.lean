/- Universal readings of plain Go data (ints, bools, strings, structs, slices) as trees, and how they are kept while the heap grows. -/
import Derived.WalkKit
import Derived.WalkSpells
import Derived.WalkLawsBesides
import Derived.Deep.LoopGhost
import Derived.Lib.Hide
import Derived.Deep.Draws
import Derived.Deep.Slices
import Derived.WalkSmall
import Derived.Lib.ItoaNum
import Derived.Deep.QuietTactic
import Derived.BigQuiet
import Derived.StillTail
import Derived.OrdersHeld
import Derived.Deep.RegionHeld3
import Derived.Test.YtgpcpmfdklpifaaGreatDoorGaShelf
set_option linter.unusedSimpArgs false
set_option linter.unusedVariables false
namespace Go.Proofs.YtgpcpmfdklpifaaGreatDoor
open Go.RowKit Go.Lib
inductive D where
  | int (n : Int)
  | bool (b : Bool)
  | str (s : ByteArray)
  | st (l : List D)
  | sl (l : List D)
mutual
def D.width : D → Nat
  | .int _ => 1
  | .bool _ => 1
  | .str _ => 1
  | .sl _ => 1
  | .st l => D.widths l
def D.widths : List D → Nat
  | [] => 0
  | d :: l => d.width + D.widths l
end
def qy (w : World) (b off : Nat) : List Value → Prop
  | [] => True
  | v :: cs => w.cell? ⟨b, off, none⟩ = some v ∧ qy w b (off + 1) cs
mutual
def Rd (w : World) (S : Nat → Prop) : D → List Value → Prop
  | .int n, cs => cs = [.int .i64 n]
  | .bool b, cs => cs = [.bool b]
  | .str s, cs => cs = [.string s]
  | .st l, cs => RdS w S l cs
  | .sl l, cs => ∃ A cap b off, cs = [.slice A l.length cap] ∧ l.length ≤ cap ∧ cap ≤ 9223372036854775807 ∧ (0 < l.length → A = some ⟨b, off, none⟩ ∧ S b) ∧ RdM w S l b off
def RdS (w : World) (S : Nat → Prop) : List D → List Value → Prop
  | [], cs => cs = []
  | d :: l, cs => ∃ c1 c2, cs = c1 ++ c2 ∧ Rd w S d c1 ∧ RdS w S l c2
def RdM (w : World) (S : Nat → Prop) : List D → Nat → Nat → Prop
  | [], _, _ => True
  | d :: l, b, off => (∃ cs, qy w b off cs ∧ Rd w S d cs) ∧ RdM w S l b (off + d.width)
end
mutual
theorem Rd.length {w : World} {S : Nat → Prop} : ∀ (d : D) (cs : List Value), Rd w S d cs → cs.length = d.width
  | .int _, _, h => by rw [Rd] at h; subst h; rfl
  | .bool _, _, h => by rw [Rd] at h; subst h; rfl
  | .str _, _, h => by rw [Rd] at h; subst h; rfl
  | .st l, cs, h => by rw [Rd] at h; rw [D.width]; exact RdS.length l cs h
  | .sl _, _, h => by rw [Rd] at h; obtain ⟨A, cap, b, off, rfl, _⟩ := h; rfl
theorem RdS.length {w : World} {S : Nat → Prop} : ∀ (l : List D) (cs : List Value), RdS w S l cs → cs.length = D.widths l
  | [], _, h => by rw [RdS] at h; subst h; rfl
  | d :: l, cs, h => by
    rw [RdS] at h; obtain ⟨c1, c2, rfl, h1, h2⟩ := h
    rw [List.length_append, Rd.length d c1 h1, RdS.length l c2 h2, D.widths]
end
def Keeps (S : Nat → Prop) (w w' : World) : Prop := ∀ b, S b → b < w.heap.size → w'.heap[b]? = w.heap[b]?
theorem Keeps.cell {S : Nat → Prop} {w w' : World} (h : Keeps S w w') {b off : Nat} {v : Value} (hs : S b) (hc : w.cell? ⟨b, off, none⟩ = some v) : w'.cell? ⟨b, off, none⟩ = some v :=
  (World.cell?_of_block (w := w) (w' := w') (a := ⟨b, off, none⟩) (h b hs (World.block_lt_of_cell? w _ hc))).trans hc
theorem qy.keep {S : Nat → Prop} {w w' : World} (h : Keeps S w w') {b : Nat} (hs : S b) : ∀ (off : Nat) (cs : List Value), qy w b off cs → qy w' b off cs
  | _, [], _ => trivial
  | off, _ :: cs, hc => ⟨h.cell hs hc.1, qy.keep h hs (off + 1) cs hc.2⟩
mutual
theorem Rd.keep {S S' : Nat → Prop} {w w' : World} (h : Keeps S w w') (hS : ∀ b, S b → S' b) : ∀ (d : D) (cs : List Value), Rd w S d cs → Rd w' S' d cs
  | .int _, _, hr => hr
  | .bool _, _, hr => hr
  | .str _, _, hr => hr
  | .st l, cs, hr => by rw [Rd] at hr ⊢; exact RdS.keep h hS l cs hr
  | .sl l, cs, hr => by
    rw [Rd] at hr ⊢
    obtain ⟨A, cap, b, off, h1, h2, h3, h4, h5⟩ := hr
    refine ⟨A, cap, b, off, h1, h2, h3, fun hl => ⟨(h4 hl).1, hS _ (h4 hl).2⟩, ?_⟩
    cases l with
    | nil => rw [RdM]; trivial
    | cons d l => exact RdM.keep h hS (d :: l) b off (h4 (by simp)).2 h5
theorem RdS.keep {S S' : Nat → Prop} {w w' : World} (h : Keeps S w w') (hS : ∀ b, S b → S' b) : ∀ (l : List D) (cs : List Value), RdS w S l cs → RdS w' S' l cs
  | [], _, hr => hr
  | d :: l, cs, hr => by
    rw [RdS] at hr ⊢
    obtain ⟨c1, c2, h1, h2, h3⟩ := hr
    exact ⟨c1, c2, h1, Rd.keep h hS d c1 h2, RdS.keep h hS l c2 h3⟩
theorem RdM.keep {S S' : Nat → Prop} {w w' : World} (h : Keeps S w w') (hS : ∀ b, S b → S' b) : ∀ (l : List D) (b off : Nat), S b → RdM w S l b off → RdM w' S' l b off
  | [], _, _, _, _ => by rw [RdM]; trivial
  | d :: l, b, off, hb, hr => by
    rw [RdM] at hr ⊢
    obtain ⟨⟨cs, h1, h2⟩, h3⟩ := hr
    exact ⟨⟨cs, h1.keep h hb, Rd.keep h hS d cs h2⟩, RdM.keep h hS l b _ hb h3⟩
end
theorem RdM.get {w : World} {S : Nat → Prop} {sz : Nat} : ∀ (l : List D) (b off : Nat), RdM w S l b off → (∀ d ∈ l, d.width = sz) → ∀ i (h : i < l.length), ∃ cs, qy w b (off + i * sz) cs ∧ Rd w S l[i] cs
  | [], _, _, _, _, _, h => absurd h (by simp)
  | d :: l, b, off, hr, hw, i, hi => by
    rw [RdM] at hr
    cases i with
    | zero => simpa using hr.1
    | succ i =>
      have hd : d.width = sz := hw d (by simp)
      have := RdM.get l b (off + d.width) hr.2 (fun x hx => hw x (by simp [hx])) i (by simpa using hi)
      rw [hd] at this
      rw [show off + (i + 1) * sz = off + sz + i * sz by rw [Nat.succ_mul]; omega]
      exact this
theorem Keeps.refl (S : Nat → Prop) (w : World) : Keeps S w w := fun _ _ _ => rfl
theorem Below.keeps {S : Nat → Prop} {w w' : World} (h : Below w.heap.size w w') : Keeps S w w' := fun b _ hlt => h.block b hlt
abbrev Ext (w w' : World) : Prop := Below w.heap.size w w'
theorem Ext.refl (w : World) : Ext w w := Below.refl _ _
theorem Ext.trans {a b c : World} (h : Ext a b) (k : Ext b c) : Ext a c := Below.trans h (k.mono h.size)
theorem Ext.alloc {a b : World} (h : Ext a b) (o : Obj) : Ext a (b.alloc o) := Below.alloc h h.size o
theorem Ext.drew {a b : World} (h : Ext a b) : Ext a b.drew := Below.drew h
theorem Ext.drewN {a b : World} (h : Ext a b) (n : Nat) : Ext a (b.drewN n) := ⟨h.os, h.tape, h.output, h.size, h.block⟩
theorem Ext.setCell {a b : World} (h : Ext a b) {p : Addr} (hp : a.heap.size ≤ p.block) (u : Value) : Ext a (b.setCell p u) := Below.setCell h hp u
theorem Ext.cells {W w1 : World} (h : Ext W w1) : ∀ b o, b < W.heap.size → w1.cell? ⟨b, o, none⟩ = W.cell? ⟨b, o, none⟩ := fun b o hb => Below.cell (p := ⟨b, o, none⟩) h hb
theorem Ext.at {W w1 : World} (h : Ext W w1) {p : Addr} {v : Value} (hc : W.cell? p = some v) : w1.cell? p = some v := (Below.cell h (World.block_lt_of_cell? W _ hc)).trans hc
theorem Rd.ext {S : Nat → Prop} {w w' : World} {d : D} {cs : List Value} (hr : Rd w S d cs) (h : Ext w w') : Rd w' S d cs := Rd.keep (Below.keeps h) (fun _ h => h) d cs hr
theorem RdM.ext {S : Nat → Prop} {w w' : World} {l : List D} {b off : Nat} (hr : RdM w S l b off) (hb : 0 < l.length → S b) (h : Ext w w') : RdM w' S l b off := by
  cases l with
  | nil => rw [RdM]; trivial
  | cons d l => exact RdM.keep (Below.keeps h) (fun _ h => h) _ b off (hb (by simp)) hr
theorem Rd.sl_mk {w : World} {S : Nat → Prop} {l : List D} {A : Option Addr} {n cap b off : Nat} (hn : n = l.length) (h1 : l.length ≤ cap) (h2 : cap ≤ 9223372036854775807) (h3 : 0 < l.length → A = some ⟨b, off, none⟩ ∧ S b) (h4 : RdM w S l b off) : Rd w S (.sl l) [.slice A n cap] := by
  rw [Rd]; exact ⟨A, cap, b, off, by rw [hn], h1, h2, h3, h4⟩
def Any : Nat → Prop := fun _ => True
theorem any (b : Nat) : Any b := trivial
theorem Rd.any {S : Nat → Prop} {w : World} {d : D} {cs : List Value} (hr : Rd w S d cs) : Rd w Any d cs := Rd.keep (Keeps.refl S w) (fun _ _ => trivial) d cs hr
end Go.Proofs.YtgpcpmfdklpifaaGreatDoor

/- Slices that a call builds by append: what they own, and one append. -/
namespace Go.Proofs.YtgpcpmfdklpifaaGreatDoor
open Go.RowKit Go.Lib
theorem cells_new (W : World) (cs : Array Value) (et : TypeId) : ∀ j u, cs.toList[j]? = some u → (W.alloc (.cells cs et)).cell? ((⟨W.heap.size, 0, none⟩ : Addr).add j) = some u := by
  intro j u hu
  have h1 : (W.alloc (.cells cs et)).heap[W.heap.size]? = some (.cells cs et (0, 0)) := heap_alloc_new W _
  have h2 : ((⟨W.heap.size, 0, none⟩ : Addr).add j) = ⟨W.heap.size, j, none⟩ := by
    unfold Addr.add; split
    · rename_i h; subst h; rfl
    · simp
  rw [h2]
  simp only [World.cell?, h1]
  simpa using hu
theorem Ext.grown {w W w' : World} {B : Nat} {e : TypeId} {size n : Nat} {v : Value} {xs : List Value} (h : Ext w W) (hown : W.ownsRow B e size v n xs) (hB : w.heap.size ≤ B) (hg : W.grownBy w' v.ownBlock) : Ext w w' :=
  Below.grown h hg h.size (fun k hk => Nat.le_trans hB (hown.lt k hk).1)
theorem cellsAt_of {w : World} {g : Nat} : ∀ (cs : List Value) (off : Nat), (∀ j u, cs[j]? = some u → w.cell? ⟨g, off + j, none⟩ = some u) → qy w g off cs
  | [], _, _ => trivial
  | v :: cs, off, h => ⟨by simpa using h 0 v rfl, cellsAt_of cs (off + 1) fun j u hu => by
      have := h (j + 1) u (by simpa using hu)
      rwa [show off + (j + 1) = off + 1 + j by omega] at this⟩
theorem RdS.append {w : World} {S : Nat → Prop} : ∀ (l : List D) (xs : List Value) (d : D) (cs : List Value), RdS w S l xs → Rd w S d cs → RdS w S (l ++ [d]) (xs ++ cs)
  | [], xs, d, cs, h, hd => by
    rw [RdS] at h; subst h
    rw [List.nil_append, List.nil_append, RdS]
    exact ⟨cs, [], by simp, hd, by rw [RdS]⟩
  | y :: l, xs, d, cs, h, hd => by
    rw [RdS] at h
    obtain ⟨c1, c2, rfl, h1, h2⟩ := h
    rw [List.cons_append, RdS]
    exact ⟨c1, c2 ++ cs, by simp, h1, RdS.append l c2 d cs h2 hd⟩
theorem RdS.ext {S : Nat → Prop} {w w' : World} {l : List D} {cs : List Value} (hr : RdS w S l cs) (h : Ext w w') : RdS w' S l cs := RdS.keep (Below.keeps h) (fun _ h => h) l cs hr
end Go.Proofs.YtgpcpmfdklpifaaGreatDoor

/- What is known of the variables of the program, in every world: nobody writes them. -/
namespace Go.Proofs.YtgpcpmfdklpifaaGreatDoor
def qv : List Value := [.string ⟨#[105, 110, 116]⟩, .string ⟨#[116, 101, 120, 116]⟩, .string ⟨#[98, 111, 111, 108]⟩, .string ⟨#[99, 111, 108]⟩, .string ⟨#[]⟩, .string ⟨#[116, 105, 109, 101]⟩, .string ⟨#[110, 111, 116]⟩, .string ⟨#[110, 101, 103]⟩, .string ⟨#[97, 100, 100]⟩, .string ⟨#[115, 117, 98]⟩, .string ⟨#[109, 117, 108]⟩, .string ⟨#[100, 105, 118]⟩, .string ⟨#[109, 111, 100]⟩, .string ⟨#[101, 113]⟩, .string ⟨#[110, 101]⟩, .string ⟨#[108, 116]⟩, .string ⟨#[108, 101]⟩, .string ⟨#[97, 110, 100]⟩, .string ⟨#[111, 114]⟩, .string ⟨#[99, 111, 110, 99, 97, 116]⟩, .string ⟨#[108, 101, 110]⟩, .string ⟨#[105, 102]⟩, .string ⟨#[]⟩]
def globsOk (C : Nat → Nat → List Value → Prop) : Prop := (∃ m : Int, C 1 0 [.int .i64 m]) ∧ (∃ _m : Unit, C 6 0 (Go.Lib.pow10Tab.map fun z => Value.int .u64 z)) ∧ (∃ m : {x : Value // x = .nilIface ∨ ∃ te pe, x = .iface te pe}, C 4 0 [m.1]) ∧ (∃ m : {x : Value // x = .nilIface ∨ ∃ te pe, x = .iface te pe}, C 5 0 [m.1]) ∧ (∃ _m : Unit, C 0 0 qv) ∧ True
theorem globsOk.mono {C C' : Nat → Nat → List Value → Prop} (hC : ∀ b o cs, C b o cs → C' b o cs) (h : globsOk C) : globsOk C' := by
  obtain ⟨⟨m0, h0⟩, ⟨m1, h1⟩, ⟨m2, h2⟩, ⟨m3, h3⟩, ⟨m4, h4⟩, -⟩ := h
  exact ⟨⟨m0, hC _ _ _ h0⟩, ⟨m1, hC _ _ _ h1⟩, ⟨m2, hC _ _ _ h2⟩, ⟨m3, hC _ _ _ h3⟩, ⟨m4, hC _ _ _ h4⟩, trivial⟩
def gtab (g : Nat) : Option (List Value) := if g = 0 then some qv else none
theorem gtab_ok {C : Nat → Nat → List Value → Prop} (h : globsOk C) {g : Nat} {cs : List Value} (hg : gtab g = some cs) : C g 0 cs := by
  unfold gtab at hg
  obtain ⟨⟨m0, h0⟩, ⟨m1, h1⟩, ⟨m2, h2⟩, ⟨m3, h3⟩, ⟨m4, h4⟩, -⟩ := h
  split at hg
  · rename_i e; subst e; cases hg; exact h4
  cases hg
@[simp] theorem gtab_namesTab : gtab 0 = some qv := rfl
@[simp] theorem namesTab_0 : qv[0]? = some (.string ⟨#[105, 110, 116]⟩) := rfl
@[simp] theorem namesTab_1 : qv[1]? = some (.string ⟨#[116, 101, 120, 116]⟩) := rfl
@[simp] theorem namesTab_2 : qv[2]? = some (.string ⟨#[98, 111, 111, 108]⟩) := rfl
@[simp] theorem namesTab_3 : qv[3]? = some (.string ⟨#[99, 111, 108]⟩) := rfl
@[simp] theorem namesTab_4 : qv[4]? = some (.string ⟨#[]⟩) := rfl
@[simp] theorem namesTab_5 : qv[5]? = some (.string ⟨#[116, 105, 109, 101]⟩) := rfl
@[simp] theorem namesTab_6 : qv[6]? = some (.string ⟨#[110, 111, 116]⟩) := rfl
@[simp] theorem namesTab_7 : qv[7]? = some (.string ⟨#[110, 101, 103]⟩) := rfl
@[simp] theorem namesTab_8 : qv[8]? = some (.string ⟨#[97, 100, 100]⟩) := rfl
@[simp] theorem namesTab_9 : qv[9]? = some (.string ⟨#[115, 117, 98]⟩) := rfl
@[simp] theorem namesTab_10 : qv[10]? = some (.string ⟨#[109, 117, 108]⟩) := rfl
@[simp] theorem namesTab_11 : qv[11]? = some (.string ⟨#[100, 105, 118]⟩) := rfl
@[simp] theorem namesTab_12 : qv[12]? = some (.string ⟨#[109, 111, 100]⟩) := rfl
@[simp] theorem namesTab_13 : qv[13]? = some (.string ⟨#[101, 113]⟩) := rfl
@[simp] theorem namesTab_14 : qv[14]? = some (.string ⟨#[110, 101]⟩) := rfl
@[simp] theorem namesTab_15 : qv[15]? = some (.string ⟨#[108, 116]⟩) := rfl
@[simp] theorem namesTab_16 : qv[16]? = some (.string ⟨#[108, 101]⟩) := rfl
@[simp] theorem namesTab_17 : qv[17]? = some (.string ⟨#[97, 110, 100]⟩) := rfl
@[simp] theorem namesTab_18 : qv[18]? = some (.string ⟨#[111, 114]⟩) := rfl
@[simp] theorem namesTab_19 : qv[19]? = some (.string ⟨#[99, 111, 110, 99, 97, 116]⟩) := rfl
@[simp] theorem namesTab_20 : qv[20]? = some (.string ⟨#[108, 101, 110]⟩) := rfl
@[simp] theorem namesTab_21 : qv[21]? = some (.string ⟨#[105, 102]⟩) := rfl
@[simp] theorem namesTab_22 : qv[22]? = some (.string ⟨#[]⟩) := rfl
end Go.Proofs.YtgpcpmfdklpifaaGreatDoor

/- Typed views of api.Ins. -/
namespace Go.Proofs.YtgpcpmfdklpifaaGreatDoor
open Go.RowKit Go.Lib
structure Ins where
  op : Int
  tgt : Int
  a : Int
  b : Int
  c : Int
  n : Int
  s : ByteArray
  deriving DecidableEq
def Ins.d (x : Ins) : D := .st [.int x.op, .int x.tgt, .int x.a, .int x.b, .int x.c, .int x.n, .str x.s]
theorem Ins.width (x : Ins) : x.d.width = 7 := by
  simp [Ins.d, D.width, D.widths]
theorem Ins.widths (l : List Ins) : ∀ d ∈ l.map Ins.d, d.width = 7 := by
  intro d hd; obtain ⟨x, -, rfl⟩ := List.mem_map.1 hd; exact Ins.width x
theorem Ins.open {w : World} {S : Nat → Prop} {x : Ins} {cs : List Value} (h : Rd w S x.d cs) : cs = [.int .i64 x.op, .int .i64 x.tgt, .int .i64 x.a, .int .i64 x.b, .int .i64 x.c, .int .i64 x.n, .string x.s] := by
  simp only [Ins.d, Ins.d, Rd, RdS, List.length_map] at h
  obtain ⟨_, _, rfl, rfl, ⟨_, _, rfl, rfl, ⟨_, _, rfl, rfl, ⟨_, _, rfl, rfl, ⟨_, _, rfl, rfl, ⟨_, _, rfl, rfl, ⟨_, _, rfl, rfl, rfl⟩⟩⟩⟩⟩⟩⟩ := h
  simp
theorem Ins.at {w : World} {S : Nat → Prop} {l : List Ins} {b off : Nat} (hm : RdM w S (l.map Ins.d) b off) {k : Nat} (hk : k < l.length) : w.cell? ⟨b, off + k * 7, none⟩ = some (.int .i64 l[k].op) ∧ w.cell? ⟨b, off + k * 7 + 1, none⟩ = some (.int .i64 l[k].tgt) ∧ w.cell? ⟨b, off + k * 7 + 1 + 1, none⟩ = some (.int .i64 l[k].a) ∧ w.cell? ⟨b, off + k * 7 + 1 + 1 + 1, none⟩ = some (.int .i64 l[k].b) ∧ w.cell? ⟨b, off + k * 7 + 1 + 1 + 1 + 1, none⟩ = some (.int .i64 l[k].c) ∧ w.cell? ⟨b, off + k * 7 + 1 + 1 + 1 + 1 + 1, none⟩ = some (.int .i64 l[k].n) ∧ w.cell? ⟨b, off + k * 7 + 1 + 1 + 1 + 1 + 1 + 1, none⟩ = some (.string l[k].s) ∧ Rd w S l[k].d [.int .i64 l[k].op, .int .i64 l[k].tgt, .int .i64 l[k].a, .int .i64 l[k].b, .int .i64 l[k].c, .int .i64 l[k].n, .string l[k].s] := by
  obtain ⟨cs, hc, hr⟩ := RdM.get _ b off hm (Ins.widths l) k (by simpa using hk)
  rw [List.getElem_map] at hr
  obtain rfl := Ins.open hr
  simp only [qy, and_true] at hc
  obtain ⟨c0, c1, c2, c3, c4, c5, c6⟩ := hc
  exact ⟨c0, c1, c2, c3, c4, c5, c6, hr⟩
end Go.Proofs.YtgpcpmfdklpifaaGreatDoor

/- Regions that draw their order, whose operations read and whose calls only make new memory: one walk in the text's order. -/
namespace Go.Proofs.YtgpcpmfdklpifaaGreatDoor
open Go.RowKit Go.Lib
structure ExtW (w : World) where
  val : World
  ext : Ext w val
instance (w : World) : Nonempty (ExtW w) := ⟨⟨w, Ext.refl w⟩⟩
theorem ExtW.at {w : World} {p : Addr} {v : Value} (hc : w.cell? p = some v) : ∀ x : ExtW w, x.val.cell? p = some v := fun x => x.ext.at hc
end Go.Proofs.YtgpcpmfdklpifaaGreatDoor

/- Regions that draw their order: all operations but the last ones read or call quietly (in a class of worlds), the last ones stand in one order. -/
namespace Go.Proofs.YtgpcpmfdklpifaaGreatDoor
open Go.RowKit Go.Lib
section
variable {P : Program} {ops : Array Oper} {md : Region.Mode} {C : World → Prop}
end
end Go.Proofs.YtgpcpmfdklpifaaGreatDoor

/- Regions that draw their order: reads, then operations in one order that make new memory while the reads may still come between them, then a tail in one order. -/
namespace Go.Proofs.YtgpcpmfdklpifaaGreatDoor
open Go.RowKit Go.Lib
section
variable {P : Program} {ops : Array Oper} {md : Region.Mode} {C : World → Prop} {Q : Exit → Act → World → Prop}
end
end Go.Proofs.YtgpcpmfdklpifaaGreatDoor

/- Typed views of api.Code. -/
namespace Go.Proofs.YtgpcpmfdklpifaaGreatDoor
open Go.RowKit Go.Lib
structure Cod where
  ins : List Ins
  types : List Int
  out : Int
  deriving DecidableEq
def Cod.d (x : Cod) : D := .st [.sl (x.ins.map Ins.d), .sl (x.types.map D.int), .int x.out]
theorem Cod.width (x : Cod) : x.d.width = 3 := by
  simp [Cod.d, D.width, D.widths]
theorem Cod.widths (l : List Cod) : ∀ d ∈ l.map Cod.d, d.width = 3 := by
  intro d hd; obtain ⟨x, -, rfl⟩ := List.mem_map.1 hd; exact Cod.width x
theorem Cod.open {w : World} {S : Nat → Prop} {x : Cod} {cs : List Value} (h : Rd w S x.d cs) : ∃ (A1 : Option Addr) (cap1 b1 off1 : Nat) (A2 : Option Addr) (cap2 b2 off2 : Nat), cs = [.slice A1 x.ins.length cap1, .slice A2 x.types.length cap2, .int .i64 x.out] ∧ x.ins.length ≤ cap1 ∧ cap1 ≤ 9223372036854775807 ∧ (0 < x.ins.length → A1 = some ⟨b1, off1, none⟩ ∧ S b1) ∧ RdM w S (x.ins.map Ins.d) b1 off1 ∧ x.types.length ≤ cap2 ∧ cap2 ≤ 9223372036854775807 ∧ (0 < x.types.length → A2 = some ⟨b2, off2, none⟩ ∧ S b2) ∧ RdM w S (x.types.map D.int) b2 off2 := by
  simp only [Cod.d, Cod.d, Rd, RdS, List.length_map] at h
  obtain ⟨_, _, rfl, ⟨A1, cap1, b1, off1, rfl, p1, q1, r1, s1⟩, ⟨_, _, rfl, ⟨A2, cap2, b2, off2, rfl, p2, q2, r2, s2⟩, ⟨_, _, rfl, rfl, rfl⟩⟩⟩ := h
  exact ⟨A1, cap1, b1, off1, A2, cap2, b2, off2, by simp, p1, q1, r1, s1, p2, q2, r2, s2⟩
theorem Cod.at {w : World} {S : Nat → Prop} {l : List Cod} {b off : Nat} (hm : RdM w S (l.map Cod.d) b off) {k : Nat} (hk : k < l.length) : ∃ (A1 : Option Addr) (cap1 b1 off1 : Nat) (A2 : Option Addr) (cap2 b2 off2 : Nat), w.cell? ⟨b, off + k * 3, none⟩ = some (.slice A1 l[k].ins.length cap1) ∧ w.cell? ⟨b, off + k * 3 + 1, none⟩ = some (.slice A2 l[k].types.length cap2) ∧ w.cell? ⟨b, off + k * 3 + 1 + 1, none⟩ = some (.int .i64 l[k].out) ∧ Rd w S l[k].d [.slice A1 l[k].ins.length cap1, .slice A2 l[k].types.length cap2, .int .i64 l[k].out] ∧ l[k].ins.length ≤ cap1 ∧ cap1 ≤ 9223372036854775807 ∧ (0 < l[k].ins.length → A1 = some ⟨b1, off1, none⟩ ∧ S b1) ∧ RdM w S (l[k].ins.map Ins.d) b1 off1 ∧ l[k].types.length ≤ cap2 ∧ cap2 ≤ 9223372036854775807 ∧ (0 < l[k].types.length → A2 = some ⟨b2, off2, none⟩ ∧ S b2) ∧ RdM w S (l[k].types.map D.int) b2 off2 := by
  obtain ⟨cs, hc, hr⟩ := RdM.get _ b off hm (Cod.widths l) k (by simpa using hk)
  rw [List.getElem_map] at hr
  obtain ⟨A1, cap1, b1, off1, A2, cap2, b2, off2, rfl, hf⟩ := Cod.open hr
  simp only [qy, and_true] at hc
  obtain ⟨c0, c1, c2⟩ := hc
  exact ⟨A1, cap1, b1, off1, A2, cap2, b2, off2, c0, c1, c2, hr, hf⟩
end Go.Proofs.YtgpcpmfdklpifaaGreatDoor

/- Typed views of api.Value. -/
namespace Go.Proofs.YtgpcpmfdklpifaaGreatDoor
open Go.RowKit Go.Lib
structure Val where
  k : Int
  n : Int
  s : ByteArray
  deriving DecidableEq
def Val.d (x : Val) : D := .st [.int x.k, .int x.n, .str x.s]
theorem Val.width (x : Val) : x.d.width = 3 := by
  simp [Val.d, D.width, D.widths]
theorem Val.widths (l : List Val) : ∀ d ∈ l.map Val.d, d.width = 3 := by
  intro d hd; obtain ⟨x, -, rfl⟩ := List.mem_map.1 hd; exact Val.width x
theorem Val.open {w : World} {S : Nat → Prop} {x : Val} {cs : List Value} (h : Rd w S x.d cs) : cs = [.int .i64 x.k, .int .i64 x.n, .string x.s] := by
  simp only [Val.d, Val.d, Rd, RdS, List.length_map] at h
  obtain ⟨_, _, rfl, rfl, ⟨_, _, rfl, rfl, ⟨_, _, rfl, rfl, rfl⟩⟩⟩ := h
  simp
theorem Val.at {w : World} {S : Nat → Prop} {l : List Val} {b off : Nat} (hm : RdM w S (l.map Val.d) b off) {k : Nat} (hk : k < l.length) : w.cell? ⟨b, off + k * 3, none⟩ = some (.int .i64 l[k].k) ∧ w.cell? ⟨b, off + k * 3 + 1, none⟩ = some (.int .i64 l[k].n) ∧ w.cell? ⟨b, off + k * 3 + 1 + 1, none⟩ = some (.string l[k].s) ∧ Rd w S l[k].d [.int .i64 l[k].k, .int .i64 l[k].n, .string l[k].s] := by
  obtain ⟨cs, hc, hr⟩ := RdM.get _ b off hm (Val.widths l) k (by simpa using hk)
  rw [List.getElem_map] at hr
  obtain rfl := Val.open hr
  simp only [qy, and_true] at hc
  obtain ⟨c0, c1, c2⟩ := hc
  exact ⟨c0, c1, c2, hr⟩
end Go.Proofs.YtgpcpmfdklpifaaGreatDoor

/- Typed views of the data of layer 16. -/
namespace Go.Proofs.YtgpcpmfdklpifaaGreatDoor
open Go.RowKit Go.Lib
inductive Ex where
  | mk (op : Int) (n : Int) (s : ByteArray) (args : List Ex)
def Ex.op : Ex → Int | .mk x _ _ _ => x
def Ex.n : Ex → Int | .mk _ x _ _ => x
def Ex.s : Ex → ByteArray | .mk _ _ x _ => x
def Ex.args : Ex → List Ex | .mk _ _ _ x => x
mutual
def Ex.d : Ex → D
  | .mk op n s args => .st [.int op, .int n, .str s, .sl (Ex.ds args)]
def Ex.ds : List Ex → List D
  | [] => []
  | e :: l => e.d :: Ex.ds l
end
theorem Ex.ds_map : ∀ l : List Ex, Ex.ds l = l.map Ex.d
  | [] => rfl
  | e :: l => by rw [Ex.ds, Ex.ds_map l, List.map_cons]
theorem Ex.ind {P : Ex → Prop} (h : ∀ (op : Int) (n : Int) (s : ByteArray) (args : List Ex), (∀ x ∈ args, P x) → P (.mk op n s args)) : ∀ e, P e
  | .mk op n s args => h op n s args fun x hx => Ex.ind h x
termination_by e => SizeOf.sizeOf e
decreasing_by
  have := List.sizeOf_lt_of_mem hx
  simp_wf; omega
theorem Ex.width (x : Ex) : x.d.width = 4 := by
  obtain ⟨⟩ := x; simp [Ex.d, D.width, D.widths]
theorem Ex.widths (l : List Ex) : ∀ d ∈ l.map Ex.d, d.width = 4 := by
  intro d hd; obtain ⟨x, -, rfl⟩ := List.mem_map.1 hd; exact Ex.width x
theorem Ex.open {w : World} {S : Nat → Prop} {x : Ex} {cs : List Value} (h : Rd w S x.d cs) : ∃ (A1 : Option Addr) (cap1 b1 off1 : Nat), cs = [.int .i64 x.op, .int .i64 x.n, .string x.s, .slice A1 x.args.length cap1] ∧ x.args.length ≤ cap1 ∧ cap1 ≤ 9223372036854775807 ∧ (0 < x.args.length → A1 = some ⟨b1, off1, none⟩ ∧ S b1) ∧ RdM w S (x.args.map Ex.d) b1 off1 := by
  obtain ⟨op, n, s, args⟩ := x
  simp only [Ex.d, Ex.op, Ex.n, Ex.s, Ex.args, Rd, RdS, List.length_map, Ex.ds_map] at h
  obtain ⟨_, _, rfl, rfl, ⟨_, _, rfl, rfl, ⟨_, _, rfl, rfl, ⟨_, _, rfl, ⟨A1, cap1, b1, off1, rfl, p1, q1, r1, s1⟩, rfl⟩⟩⟩⟩ := h
  exact ⟨A1, cap1, b1, off1, by simp [Ex.op, Ex.n, Ex.s, Ex.args], p1, q1, r1, s1⟩
theorem Ex.at {w : World} {S : Nat → Prop} {l : List Ex} {b off : Nat} (hm : RdM w S (l.map Ex.d) b off) {k : Nat} (hk : k < l.length) : ∃ (A1 : Option Addr) (cap1 b1 off1 : Nat), w.cell? ⟨b, off + k * 4, none⟩ = some (.int .i64 l[k].op) ∧ w.cell? ⟨b, off + k * 4 + 1, none⟩ = some (.int .i64 l[k].n) ∧ w.cell? ⟨b, off + k * 4 + 1 + 1, none⟩ = some (.string l[k].s) ∧ w.cell? ⟨b, off + k * 4 + 1 + 1 + 1, none⟩ = some (.slice A1 l[k].args.length cap1) ∧ Rd w S l[k].d [.int .i64 l[k].op, .int .i64 l[k].n, .string l[k].s, .slice A1 l[k].args.length cap1] ∧ l[k].args.length ≤ cap1 ∧ cap1 ≤ 9223372036854775807 ∧ (0 < l[k].args.length → A1 = some ⟨b1, off1, none⟩ ∧ S b1) ∧ RdM w S (l[k].args.map Ex.d) b1 off1 := by
  obtain ⟨cs, hc, hr⟩ := RdM.get _ b off hm (Ex.widths l) k (by simpa using hk)
  rw [List.getElem_map] at hr
  obtain ⟨A1, cap1, b1, off1, rfl, hf⟩ := Ex.open hr
  simp only [qy, and_true] at hc
  obtain ⟨c0, c1, c2, c3⟩ := hc
  exact ⟨A1, cap1, b1, off1, c0, c1, c2, c3, hr, hf⟩
structure Fn where
  name : ByteArray
  params : List Int
  res : Int
  body : Ex
def Fn.d (x : Fn) : D := .st [.str x.name, .sl (x.params.map D.int), .int x.res, x.body.d]
theorem Fn.width (x : Fn) : x.d.width = 7 := by
  simp [Fn.d, D.width, D.widths, Ex.width]
theorem Fn.widths (l : List Fn) : ∀ d ∈ l.map Fn.d, d.width = 7 := by
  intro d hd; obtain ⟨x, -, rfl⟩ := List.mem_map.1 hd; exact Fn.width x
theorem Fn.open {w : World} {S : Nat → Prop} {x : Fn} {cs : List Value} (h : Rd w S x.d cs) : ∃ (A1 : Option Addr) (cap1 b1 off1 : Nat) (A2 : Option Addr) (cap2 b2 off2 : Nat), cs = [.string x.name, .slice A1 x.params.length cap1, .int .i64 x.res, .int .i64 x.body.op, .int .i64 x.body.n, .string x.body.s, .slice A2 x.body.args.length cap2] ∧ x.params.length ≤ cap1 ∧ cap1 ≤ 9223372036854775807 ∧ (0 < x.params.length → A1 = some ⟨b1, off1, none⟩ ∧ S b1) ∧ RdM w S (x.params.map D.int) b1 off1 ∧ x.body.args.length ≤ cap2 ∧ cap2 ≤ 9223372036854775807 ∧ (0 < x.body.args.length → A2 = some ⟨b2, off2, none⟩ ∧ S b2) ∧ RdM w S (x.body.args.map Ex.d) b2 off2 := by
  simp only [Fn.d, Fn.d, Rd, RdS, List.length_map] at h
  obtain ⟨_, _, rfl, rfl, ⟨_, _, rfl, ⟨A1, cap1, b1, off1, rfl, p1, q1, r1, s1⟩, ⟨_, _, rfl, rfl, ⟨_, _, rfl, g3, rfl⟩⟩⟩⟩ := h
  obtain ⟨B3_0, C3_0, D3_0, E3_0, rfl, P3_0, Q3_0, R3_0, S3_0⟩ := Ex.open g3
  exact ⟨A1, cap1, b1, off1, B3_0, C3_0, D3_0, E3_0, by simp, p1, q1, r1, s1, P3_0, Q3_0, R3_0, S3_0⟩
theorem Fn.at {w : World} {S : Nat → Prop} {l : List Fn} {b off : Nat} (hm : RdM w S (l.map Fn.d) b off) {k : Nat} (hk : k < l.length) : ∃ (A1 : Option Addr) (cap1 b1 off1 : Nat) (A2 : Option Addr) (cap2 b2 off2 : Nat), w.cell? ⟨b, off + k * 7, none⟩ = some (.string l[k].name) ∧ w.cell? ⟨b, off + k * 7 + 1, none⟩ = some (.slice A1 l[k].params.length cap1) ∧ w.cell? ⟨b, off + k * 7 + 1 + 1, none⟩ = some (.int .i64 l[k].res) ∧ w.cell? ⟨b, off + k * 7 + 1 + 1 + 1, none⟩ = some (.int .i64 l[k].body.op) ∧ w.cell? ⟨b, off + k * 7 + 1 + 1 + 1 + 1, none⟩ = some (.int .i64 l[k].body.n) ∧ w.cell? ⟨b, off + k * 7 + 1 + 1 + 1 + 1 + 1, none⟩ = some (.string l[k].body.s) ∧ w.cell? ⟨b, off + k * 7 + 1 + 1 + 1 + 1 + 1 + 1, none⟩ = some (.slice A2 l[k].body.args.length cap2) ∧ Rd w S l[k].d [.string l[k].name, .slice A1 l[k].params.length cap1, .int .i64 l[k].res, .int .i64 l[k].body.op, .int .i64 l[k].body.n, .string l[k].body.s, .slice A2 l[k].body.args.length cap2] ∧ l[k].params.length ≤ cap1 ∧ cap1 ≤ 9223372036854775807 ∧ (0 < l[k].params.length → A1 = some ⟨b1, off1, none⟩ ∧ S b1) ∧ RdM w S (l[k].params.map D.int) b1 off1 ∧ l[k].body.args.length ≤ cap2 ∧ cap2 ≤ 9223372036854775807 ∧ (0 < l[k].body.args.length → A2 = some ⟨b2, off2, none⟩ ∧ S b2) ∧ RdM w S (l[k].body.args.map Ex.d) b2 off2 := by
  obtain ⟨cs, hc, hr⟩ := RdM.get _ b off hm (Fn.widths l) k (by simpa using hk)
  rw [List.getElem_map] at hr
  obtain ⟨A1, cap1, b1, off1, A2, cap2, b2, off2, rfl, hf⟩ := Fn.open hr
  simp only [qy, and_true] at hc
  obtain ⟨c0, c1, c2, c3, c4, c5, c6⟩ := hc
  exact ⟨A1, cap1, b1, off1, A2, cap2, b2, off2, c0, c1, c2, c3, c4, c5, c6, hr, hf⟩
end Go.Proofs.YtgpcpmfdklpifaaGreatDoor

/- What the functions of layer 16 compute, on plain data. -/
namespace Go.Proofs.YtgpcpmfdklpifaaGreatDoor
open Go.RowKit Go.Lib
def kindB (n : Int) : Bool := decide (0 ≤ n) && decide (n < 3)
mutual
def light : Ex → Int → Int → Int
  | .mk _ _ s l, n, lv => if n - 1 < 0 ∨ lv < 1 ∨ (s.size : Int) > 300 then -1 else qea l (n - 1) (lv - 1)
def qea : List Ex → Int → Int → Int
  | [], n, _ => n
  | e :: l, n, lv => if n ≥ 0 then qea l (light e n lv) lv else n
end
mutual
theorem light_le : ∀ (e : Ex) (n lv : Int), 0 ≤ n → -1 ≤ light e n lv ∧ light e n lv ≤ n
  | .mk _ _ s l, n, lv, h => by
    rw [light]; split
    · omega
    · have := lightL_le l (n - 1) (lv - 1) (by omega); omega
theorem lightL_le : ∀ (l : List Ex) (n lv : Int), -1 ≤ n → -1 ≤ qea l n lv ∧ qea l n lv ≤ n
  | [], n, lv, h => by rw [qea]; omega
  | e :: l, n, lv, h => by
    rw [qea]; split
    · have := light_le e n lv (by omega)
      have := lightL_le l (light e n lv) lv (by omega); omega
    · omega
end
mutual
def levels : Ex → Int
  | .mk _ _ _ l => qz l 0 + 1
def qz : List Ex → Int → Int
  | [], n => n
  | e :: l, n => qz l (max n (levels e))
end
mutual
def parts : Ex → Nat
  | .mk _ _ _ l => qbt l + 1
def qbt : List Ex → Nat
  | [] => 0
  | e :: l => parts e + qbt l
end
mutual
theorem levels_le : ∀ e : Ex, 1 ≤ levels e ∧ levels e ≤ parts e
  | .mk _ _ _ l => by have := levelsL_le l 0 0 (by omega) (by omega); rw [levels, parts]; omega
theorem levelsL_le : ∀ (l : List Ex) (n : Int) (m : Nat), 0 ≤ n → n ≤ m → n ≤ qz l n ∧ qz l n ≤ m + qbt l
  | [], n, m, _, _ => by rw [qz, qbt]; omega
  | e :: l, n, m, h0, h => by
    have h1 := levels_le e
    have h2 := levelsL_le l (max n (levels e)) (m + parts e) (by omega) (by omega)
    rw [qz, qbt]; omega
end
mutual
theorem light_parts : ∀ (e : Ex) (n lv : Int), 0 ≤ n → 0 ≤ light e n lv → (parts e : Int) + light e n lv = n
  | .mk _ _ s l, n, lv, h, h2 => by
    rw [light] at h2 ⊢
    split at h2
    · omega
    · rename_i hc
      rw [if_neg hc]
      have := lightL_parts l (n - 1) (lv - 1) (by omega) h2
      rw [parts]; omega
theorem lightL_parts : ∀ (l : List Ex) (n lv : Int), 0 ≤ n → 0 ≤ qea l n lv → (qbt l : Int) + qea l n lv = n
  | [], n, lv, _, _ => by rw [qea, qbt]; omega
  | e :: l, n, lv, h, h2 => by
    rw [qea, if_pos (by omega)] at h2 ⊢
    rw [qbt]
    by_cases hp : 0 ≤ light e n lv
    · have h3 := light_parts e n lv h hp
      have h4 := lightL_parts l (light e n lv) lv hp h2
      omega
    · exfalso
      have : qea l (light e n lv) lv = light e n lv := by
        cases l with
        | nil => rw [qea]
        | cons x xs => rw [qea, if_neg (by omega)]
      omega
end
theorem partsL_len : ∀ l : List Ex, l.length ≤ qbt l
  | [] => by simp
  | e :: l => by have := levels_le e; have := partsL_len l; rw [qbt, List.length_cons]; omega
theorem partsL_mem : ∀ (l : List Ex) (e : Ex), e ∈ l → parts e ≤ qbt l
  | [], _, h => by simp at h
  | x :: l, e, h => by
    rw [qbt]
    rcases List.mem_cons.1 h with rfl | h
    · omega
    · have := partsL_mem l e h; omega
def pickT (l : List Int) (n : Int) : Option Int :=
  if n < 0 then none else match l[n.toNat]? with
    | some t => if kindB t then some t else none
    | none => none
def callT (F : List Fn) (n : Int) (ts : List Int) : Option Int :=
  if n < 0 then none else match F[n.toNat]? with
    | some f => if f.params = ts then some f.res else none
    | none => none
def leafT (c p : List Int) (op n : Int) (s : ByteArray) : Option Int :=
  if op = 0 then some 0
  else if op = 2 then (if n = 0 ∨ n = 1 then some 2 else none)
  else if op = 3 then pickT c n
  else if op = 4 then pickT p n
  else if op = 1 then (if n = 0 ∧ (s.size : Int) ≤ 200 then some 1 else none)
  else if op = 5 then (if n = 0 then some 0 else none)
  else none
def operT (op n : Int) (ts : List Int) : Option Int :=
  if n ≠ 0 then none
  else if op = 6 then (if ts = [2] then some 2 else none)
  else if op = 7 then (if ts = [0] then some 0 else none)
  else if op = 20 then (if ts = [1] then some 0 else none)
  else if 8 ≤ op ∧ op ≤ 12 then (if ts = [0, 0] then some 0 else none)
  else if 13 ≤ op ∧ op ≤ 16 then (match ts with | [a, b] => if a = b then some 2 else none | _ => none)
  else if 17 ≤ op ∧ op ≤ 18 then (if ts = [2, 2] then some 2 else none)
  else if op = 19 then (if ts = [1, 1] then some 1 else none)
  else if op = 21 then (match ts with | [a, b, c] => if a = 2 ∧ b = c then some c else none | _ => none)
  else none
def tailT (F : List Fn) (c p : List Int) (op n : Int) (s : ByteArray) (ts : List Int) : Option Int :=
  if s.size ≠ 0 ∧ op ≠ 1 then none
  else if op = 22 then callT F n ts
  else if ts = [] then leafT c p op n s
  else operT op n ts
mutual
def ty (F : List Fn) (c p : List Int) : Ex → Option Int
  | .mk op n s l => match tys F c p l with
    | some ts => tailT F c p op n s ts
    | none => none
def tys (F : List Fn) (c p : List Int) : List Ex → Option (List Int)
  | [] => some []
  | e :: l => match ty F c p e with
    | some t => match tys F c p l with
      | some ts => some (t :: ts)
      | none => none
    | none => none
end
def tyD (F : List Fn) (c p : List Int) (e : Ex) : Option Int := if levels e > 12 then none else ty F c p e
def okF (F : List Fn) (i : Nat) : Bool := match F[i]? with
  | some f => f.params.all kindB && decide (tyD (F.take i) [] f.params f.body = some f.res) && decide ((f.params.length : Int) ≤ 6)
  | none => true
def qdj (F : List Fn) : Bool := decide ((F.length : Int) ≤ 20) && (List.range F.length).all (okF F)
def typeP (F : List Fn) (c p : List Int) (e : Ex) : Option Int := if qdj F then tyD F c p e else none
def Val.v (x : Val) : Value := .agg #[.int .i64 x.k, .int .i64 x.n, .string x.s]
def numV (n : Int) : Val := ⟨0, n, ByteArray.empty⟩
def boolV (b : Bool) : Val := ⟨2, if b then 1 else 0, ByteArray.empty⟩
def textV (s : ByteArray) : Val := ⟨1, 0, s⟩
end Go.Proofs.YtgpcpmfdklpifaaGreatDoor

/- Steps of expressions, on plain data. -/
namespace Go.Proofs.YtgpcpmfdklpifaaGreatDoor
open Go.RowKit Go.Lib
end Go.Proofs.YtgpcpmfdklpifaaGreatDoor

/- Values on plain data: right ones, their order, and arithmetic. -/
namespace Go.Proofs.YtgpcpmfdklpifaaGreatDoor
open Go.RowKit Go.Lib
def okV (v : Val) : Bool :=
  if v.k = 0 then decide (v.s.toList = [])
  else if v.k = 1 then decide (v.n = 0) && decide ((v.s.size : Int) ≤ 200)
  else decide (v.k = 2) && (decide (v.n = 0) || decide (v.n = 1)) && decide (v.s.toList = [])
def orI : List Int → Int
  | [] => 0
  | x :: l => if x ≠ 0 then x else orI l
def cmpV (a b : Val) : Int := orI [compareInt a.k b.k, compareInt a.n b.n, compareBytes a.s.data.toList b.s.data.toList]
def divI (a b : Int) : Int := if b = 0 then 0 else wrap64 (a.tdiv b)
def modI (a b : Int) : Int := if b = 0 then 0 else a.tmod b
def eqV (a b : Val) : Bool := decide (a.k = b.k ∧ a.n = b.n ∧ a.s.toList = b.s.toList)
def joinS (a b : ByteArray) : ByteArray := (a ++ b).extract 0 (min (a.size + b.size) 200)
end Go.Proofs.YtgpcpmfdklpifaaGreatDoor

/- More on readings: a slice's beginning, the empty slice, all of a list. -/
namespace Go.Proofs.YtgpcpmfdklpifaaGreatDoor
open Go.RowKit Go.Lib
theorem RdM.take {w : World} {S : Nat → Prop} : ∀ (l : List D) (b off k : Nat), RdM w S l b off → RdM w S (l.take k) b off
  | [], _, _, _, _ => by rw [List.take_nil, RdM]; trivial
  | d :: l, b, off, 0, _ => by rw [List.take_zero, RdM]; trivial
  | d :: l, b, off, k + 1, h => by
    rw [RdM] at h
    rw [List.take_succ_cons, RdM]
    exact ⟨h.1, RdM.take l b _ k h.2⟩
theorem RdM.drop {w : World} {S : Nat → Prop} {sz : Nat} : ∀ (l : List D) (b off k : Nat), RdM w S l b off → (∀ d ∈ l, d.width = sz) → RdM w S (l.drop k) b (off + k * sz)
  | [], _, _, _, _, _ => by rw [List.drop_nil, RdM]; trivial
  | d :: l, b, off, 0, h, _ => by simpa using h
  | d :: l, b, off, k + 1, h, hw => by
    rw [RdM] at h
    rw [List.drop_succ_cons]
    have hd : d.width = sz := hw d (by simp)
    have := RdM.drop l b (off + d.width) k h.2 (fun x hx => hw x (by simp [hx]))
    rw [hd] at this
    rwa [show off + (k + 1) * sz = off + sz + k * sz by rw [Nat.succ_mul]; omega]
theorem Rd.cut {w : World} {S : Nat → Prop} {l : List D} {b off cap k : Nat} (hk : k ≤ l.length) (h1 : l.length ≤ cap) (h2 : cap ≤ 9223372036854775807) (hS : S b) (h : RdM w S l b off) : Rd w S (.sl (l.take k)) [.slice (some ⟨b, off, none⟩) k cap] :=
  Rd.sl_mk (by rw [List.length_take]; omega) (by rw [List.length_take]; omega) h2 (fun _ => ⟨rfl, hS⟩) (RdM.take l b off k h)
theorem Rd.nil {w : World} {S : Nat → Prop} {cap : Nat} (A : Option Addr) (h : cap ≤ 9223372036854775807) : Rd w S (.sl []) [.slice A 0 cap] :=
  Rd.sl_mk (b := 0) (off := 0) rfl (by simp) h (by simp) (by rw [RdM]; trivial)
theorem all_range_false {n k : Nat} {p : Nat → Bool} (h : k < n) (hp : p k = false) : (List.range n).all p = false := by
  rw [List.all_eq_false]; exact ⟨k, List.mem_range.2 h, by rw [hp]; simp⟩
theorem all_range_true {n : Nat} {p : Nat → Bool} (h : ∀ i, i < n → p i = true) : (List.range n).all p = true := by
  rw [List.all_eq_true]; exact fun i hi => h i (List.mem_range.1 hi)
end Go.Proofs.YtgpcpmfdklpifaaGreatDoor

/- Types and rightness on plain data: what the walks need. -/
namespace Go.Proofs.YtgpcpmfdklpifaaGreatDoor
open Go.RowKit Go.Lib
theorem levelsL_mem : ∀ (l : List Ex) (n : Int) (e : Ex), e ∈ l → levels e ≤ qz l n
  | [], _, _, h => by simp at h
  | x :: l, n, e, h => by
    rw [qz]
    rcases List.mem_cons.1 h with rfl | h
    · have : ∀ (l : List Ex) (n : Int), n ≤ qz l n := fun l => by
        induction l with
        | nil => intro n; rw [qz]; omega
        | cons a l ih => intro n; rw [qz]; have := ih (max n (levels a)); omega
      have := this l (max n (levels e)); omega
    · exact levelsL_mem l _ e h
theorem levelsL_snoc : ∀ (l : List Ex) (e : Ex) (n : Int), qz (l ++ [e]) n = max (qz l n) (levels e)
  | [], e, n => by simp only [List.nil_append, qz]
  | x :: l, e, n => by rw [List.cons_append, qz, qz, levelsL_snoc l e]
set_option maxHeartbeats 400000 in
theorem tys_cons (F : List Fn) (c p : List Int) (e : Ex) (l : List Ex) : tys F c p (e :: l) = (match ty F c p e with | some t => (tys F c p l).map (t :: ·) | none => none) := by
  rw [tys]; cases ty F c p e <;> simp
  cases tys F c p l <;> rfl
def TysAt (F : List Fn) (c p : List Int) (l : List Ex) (ts : List Int) (k : Nat) : Prop := tys F c p l = (tys F c p (l.drop k)).map (ts ++ ·)
theorem TysAt.next {F : List Fn} {c p : List Int} {l : List Ex} {ts : List Int} {k : Nat} (h : TysAt F c p l ts k) (hk : k < l.length) {t : Int} (ht : ty F c p l[k] = some t) : TysAt F c p l (ts ++ [t]) (k + 1) := by
  unfold TysAt at *
  rw [h, List.drop_eq_getElem_cons hk, tys_cons, ht]
  cases tys F c p (l.drop (k + 1)) <;> simp
theorem TysAt.none {F : List Fn} {c p : List Int} {l : List Ex} {ts : List Int} {k : Nat} (h : TysAt F c p l ts k) (hk : k < l.length) (ht : ty F c p l[k] = .none) : tys F c p l = .none := by
  unfold TysAt at h
  rw [h, List.drop_eq_getElem_cons hk, tys_cons, ht]; rfl
theorem TysAt.done {F : List Fn} {c p : List Int} {l : List Ex} {ts : List Int} (h : TysAt F c p l ts l.length) : tys F c p l = some ts := by
  unfold TysAt at h
  rw [h]; simp [tys]
theorem okF_at {F : List Fn} {k : Nat} (h : k < F.length) : okF F k = (F[k].params.all kindB && decide (tyD (F.take k) [] F[k].params F[k].body = some F[k].res) && decide ((F[k].params.length : Int) ≤ 6)) := by
  unfold okF; rw [List.getElem?_eq_getElem h]
theorem rightF_false {F : List Fn} {k : Nat} (h : k < F.length) (hk : okF F k = false) : qdj F = false := by
  unfold qdj
  rw [all_range_false h hk]; simp
theorem rightF_end {F : List Fn} (h : ∀ i, i < F.length → okF F i = true) : qdj F = decide ((F.length : Int) ≤ 20) := by
  unfold qdj
  rw [all_range_true h]; simp
theorem tys_all {F : List Fn} {c p : List Int} : ∀ (l : List Ex), (∀ i (h : i < l.length), (ty F c p l[i]).isSome = true) → tys F c p l = some (l.map fun e => (ty F c p e).getD 0)
  | [], _ => by rw [tys]; rfl
  | e :: l, h => by
    have h0 := h 0 (by simp)
    simp only [List.getElem_cons_zero] at h0
    obtain ⟨t, ht⟩ := Option.isSome_iff_exists.1 h0
    rw [tys, ht, tys_all l (fun i hi => by have := h (i + 1) (by simpa using hi); simpa only [List.getElem_cons_succ] using this)]
    simp [ht]
theorem tys_stop {F : List Fn} {c p : List Int} : ∀ (l : List Ex) (k : Nat) (h : k < l.length), ty F c p l[k] = none → tys F c p l = none
  | [], k, h, _ => by simp at h
  | e :: l, 0, h, he => by
    simp only [List.getElem_cons_zero] at he
    rw [tys, he]
  | e :: l, k + 1, h, he => by
    rw [tys, tys_stop l k (by simpa using h) (by simpa only [List.getElem_cons_succ] using he)]
    cases ty F c p e <;> rfl
end Go.Proofs.YtgpcpmfdklpifaaGreatDoor

/- What evaluating computes, on plain data; a typed expression's value is right. -/
namespace Go.Proofs.YtgpcpmfdklpifaaGreatDoor
open Go.RowKit Go.Lib
def zeroV : Val := ⟨0, 0, ByteArray.empty⟩
def binV (op : Int) (a b : Val) : Val :=
  if op = 8 then numV (wrap64 (a.n + b.n))
  else if op = 9 then numV (wrap64 (a.n - b.n))
  else if op = 10 then numV (wrap64 (a.n * b.n))
  else if op = 11 then numV (divI a.n b.n)
  else if op = 12 then numV (modI a.n b.n)
  else if op = 13 then boolV (eqV a b)
  else if op = 14 then boolV (!eqV a b)
  else if op = 15 then boolV (decide (cmpV a b < 0))
  else if op = 16 then boolV (decide (cmpV a b ≤ 0))
  else if op = 17 then boolV (decide (a.n = 1) && decide (b.n = 1))
  else if op = 18 then boolV (decide (a.n = 1) || decide (b.n = 1))
  else textV (joinS a.s b.s)
def opV (call : Int → List Val → Val) (time : Int) (row params : List Val) (op n : Int) (s : ByteArray) (vs : List Val) : Val :=
  if op = 0 then numV n
  else if op = 1 then textV s
  else if op = 2 then boolV (decide (n = 1))
  else if op = 3 then row.getD n.toNat zeroV
  else if op = 4 then params.getD n.toNat zeroV
  else if op = 5 then numV time
  else if op = 6 then boolV (decide ((vs.getD 0 zeroV).n = 0))
  else if op = 7 then numV (wrap64 (-(vs.getD 0 zeroV).n))
  else if op = 20 then numV (vs.getD 0 zeroV).s.size
  else if op = 22 then call n vs
  else binV op (vs.getD 0 zeroV) (vs.getD 1 zeroV)
def ifV (vs : List Val) : Val := if (vs.getD 0 zeroV).n = 1 then vs.getD 1 zeroV else vs.getD 2 zeroV
mutual
def ev (call : Int → List Val → Val) (time : Int) (row params : List Val) : Ex → Val
  | .mk op n s l => if op = 21 then ifV (evs call time row params l) else opV call time row params op n s (evs call time row params l)
def evs (call : Int → List Val → Val) (time : Int) (row params : List Val) : List Ex → List Val
  | [] => []
  | e :: l => ev call time row params e :: evs call time row params l
end
def callN (F : List Fn) (time : Int) : Nat → Int → List Val → Val
  | 0 => fun _ _ => zeroV
  | m + 1 => fun i vs => match F[i.toNat]? with
    | some f => ev (callN F time m) time [] vs f.body
    | none => zeroV
def qbf (v : Val) : Prop := okV v = true ∧ v.s.size ≤ 200
theorem empty_list : ByteArray.empty.toList = [] := by
  rw [ByteArray.toList, ByteArray.toList.loop]; rfl
@[simp] theorem numV_k (n : Int) : (numV n).k = 0 := rfl
@[simp] theorem boolV_k (b : Bool) : (boolV b).k = 2 := rfl
@[simp] theorem textV_k (s : ByteArray) : (textV s).k = 1 := rfl
theorem sound_num (n : Int) : qbf (numV n) := by
  refine ⟨?_, by simp [numV]⟩
  simp [numV, okV, empty_list]
theorem sound_bool (b : Bool) : qbf (boolV b) := by
  refine ⟨?_, by simp [boolV]⟩
  cases b <;> simp [boolV, okV, empty_list]
theorem sound_text {s : ByteArray} (h : s.size ≤ 200) : qbf (textV s) := by
  refine ⟨?_, h⟩
  show okV ⟨1, 0, s⟩ = true
  have h2 : (s.size : Int) ≤ 200 := by omega
  unfold okV
  simp only [show ¬ ((1 : Int) = 0) by decide, if_false, if_true, h2, decide_true, Bool.and_self]
theorem joinS_size (a b : ByteArray) : (joinS a b).size ≤ 200 := by
  unfold joinS; rw [ByteArray.size_extract]; omega
theorem callT_mono {F : List Fn} {i m : Nat} (h : i ≤ m) {n r : Int} {ts : List Int} (hc : callT (F.take i) n ts = some r) : callT (F.take m) n ts = some r := by
  unfold callT at *
  split at hc
  · cases hc
  · rename_i hn
    rw [if_neg hn]
    cases hf : (F.take i)[n.toNat]? with
    | none => rw [hf] at hc; cases hc
    | some f =>
      rw [hf] at hc
      have : (F.take m)[n.toNat]? = some f := by
        rw [List.getElem?_take] at hf ⊢
        split at hf
        · rw [if_pos (by omega)]; exact hf
        · cases hf
      rw [this]; exact hc
theorem tailT_mono {F : List Fn} {i m : Nat} (h : i ≤ m) {c p : List Int} {op n r : Int} {s : ByteArray} {ts : List Int} (hc : tailT (F.take i) c p op n s ts = some r) : tailT (F.take m) c p op n s ts = some r := by
  unfold tailT at *
  split at hc
  · cases hc
  · rename_i h1
    rw [if_neg h1]
    split at hc
    · rename_i h2; rw [if_pos h2]; exact callT_mono h hc
    · rename_i h2; rw [if_neg h2]; exact hc
mutual
theorem ty_mono {F : List Fn} {i m : Nat} (h : i ≤ m) {c p : List Int} : ∀ (e : Ex) {r : Int}, ty (F.take i) c p e = some r → ty (F.take m) c p e = some r
  | .mk op n s l, r, hc => by
    rw [ty] at hc ⊢
    cases hl : tys (F.take i) c p l with
    | none => rw [hl] at hc; cases hc
    | some ts => rw [hl] at hc; rw [tys_mono h l hl]; exact tailT_mono h hc
theorem tys_mono {F : List Fn} {i m : Nat} (h : i ≤ m) {c p : List Int} : ∀ (l : List Ex) {ts : List Int}, tys (F.take i) c p l = some ts → tys (F.take m) c p l = some ts
  | [], ts, hc => by rw [tys] at hc ⊢; exact hc
  | e :: l, ts, hc => by
    rw [tys] at hc ⊢
    cases he : ty (F.take i) c p e with
    | none => rw [he] at hc; cases hc
    | some t =>
      rw [he] at hc; rw [ty_mono h e he]
      cases hl : tys (F.take i) c p l with
      | none => rw [hl] at hc; cases hc
      | some us => rw [hl] at hc; rw [tys_mono h l hl]; exact hc
end
theorem pick_sound {c : List Int} {row : List Val} {n t : Int} (hk : row.map Val.k = c) (hs : ∀ v ∈ row, qbf v) (h : pickT c n = some t) : 0 ≤ n ∧ n.toNat < row.length ∧ (row.getD n.toNat zeroV).k = t ∧ qbf (row.getD n.toNat zeroV) := by
  subst hk
  unfold pickT at h
  split at h
  · cases h
  · rename_i hn
    rw [List.getElem?_map] at h
    cases hv : row[n.toNat]? with
    | none => rw [hv] at h; cases h
    | some v =>
      rw [hv] at h
      obtain ⟨hl, hv2⟩ := List.getElem?_eq_some_iff.1 hv
      have hg : row.getD n.toNat zeroV = v := by rw [List.getD_eq_getElem?_getD, hv]; rfl
      rw [hg]
      dsimp at h
      split at h
      · exact ⟨by omega, hl, by injection h, hs v (by rw [← hv2]; exact List.getElem_mem hl)⟩
      · cases h
def qch (c : List Int) (R : List Val) : Prop := ∃ R0 R1, R = R0 ++ R1 ∧ R0.map Val.k = c ∧ ∀ v ∈ R0, qbf v
theorem qch.of {R : List Val} (h : ∀ v ∈ R, qbf v) : qch (R.map Val.k) R := ⟨R, [], by simp, rfl, h⟩
theorem qch.nil (R : List Val) : qch [] R := ⟨[], R, rfl, rfl, by simp⟩
theorem pick_fit {c : List Int} {row : List Val} {n t : Int} (hf : qch c row) (h : pickT c n = some t) : 0 ≤ n ∧ n.toNat < row.length ∧ (row.getD n.toNat zeroV).k = t ∧ qbf (row.getD n.toNat zeroV) := by
  obtain ⟨R0, R1, rfl, hk, hs⟩ := hf
  obtain ⟨h1, h2, h3, h4⟩ := pick_sound hk hs h
  have hg : (R0 ++ R1).getD n.toNat zeroV = R0.getD n.toNat zeroV := by rw [List.getD_eq_getElem?_getD, List.getElem?_append_left h2, List.getD_eq_getElem?_getD]
  rw [hg]
  exact ⟨h1, by simp; omega, h3, h4⟩
theorem three_of {vs : List Val} {a b c : Int} (h : vs.map Val.k = [a, b, c]) : ∃ x y z, vs = [x, y, z] ∧ x.k = a ∧ y.k = b ∧ z.k = c := by
  match vs, h with
  | [x, y, z], h => simp at h; exact ⟨x, y, z, rfl, h.1, h.2.1, h.2.2⟩
theorem oper_sound {call : Int → List Val → Val} {time : Int} {row params vs : List Val} {op n t : Int} {s : ByteArray} (hs : ∀ v ∈ vs, qbf v) (h : operT op n (vs.map Val.k) = some t) :
    op ≠ 22 ∧ (if op = 21 then ifV vs else opV call time row params op n s vs).k = t ∧ qbf (if op = 21 then ifV vs else opV call time row params op n s vs) := by
  unfold operT at h
  split at h
  · cases h
  split at h
  · subst op; split at h <;> cases h
    simp [opV]; exact sound_bool _
  split at h
  · subst op; split at h <;> cases h
    simp [opV]; exact sound_num _
  split at h
  · subst op; split at h <;> cases h
    simp [opV]; exact sound_num _
  split at h
  · rename_i ho
    split at h <;> cases h
    have : op = 8 ∨ op = 9 ∨ op = 10 ∨ op = 11 ∨ op = 12 := by omega
    rcases this with rfl | rfl | rfl | rfl | rfl
    all_goals simp [opV, binV]; exact sound_num _
  split at h
  · rename_i ho
    have hb : t = 2 := by
      split at h
      · split at h <;> cases h
        rfl
      · cases h
    subst hb
    have : op = 13 ∨ op = 14 ∨ op = 15 ∨ op = 16 := by omega
    rcases this with rfl | rfl | rfl | rfl
    all_goals simp [opV, binV]; exact sound_bool _
  split at h
  · rename_i ho
    split at h <;> cases h
    have : op = 17 ∨ op = 18 := by omega
    rcases this with rfl | rfl
    all_goals simp [opV, binV]; exact sound_bool _
  split at h
  · subst op; split at h <;> cases h
    simp [opV, binV]; exact sound_text (joinS_size _ _)
  split at h
  · subst op
    split at h
    · rename_i a b c hk
      split at h
      · rename_i hab
        cases h
        obtain ⟨x, y, z, rfl, hx, hy, hz⟩ := three_of hk
        refine ⟨by decide, ?_⟩
        rw [if_pos rfl]
        unfold ifV
        simp only [List.getD_cons_zero, List.getD_cons_succ]
        split
        · exact ⟨by rw [hy]; exact hab.2, hs y (by simp)⟩
        · exact ⟨hz, hs z (by simp)⟩
      · cases h
    · cases h
  · cases h
theorem leaf_fit {call : Int → List Val → Val} {time : Int} {row params : List Val} {c p : List Int} {op n t : Int} {s : ByteArray} (hc : qch c row) (hp : params.map Val.k = p) (hq : ∀ v ∈ params, qbf v) (h : leafT c p op n s = some t) :
    op ≠ 21 ∧ op ≠ 22 ∧ (opV call time row params op n s []).k = t ∧ qbf (opV call time row params op n s []) := by
  unfold leafT at h
  split at h
  · subst op; cases h
    simp [opV]; exact sound_num _
  split at h
  · subst op; split at h <;> cases h
    simp [opV]; exact sound_bool _
  split at h
  · subst op
    have := pick_fit hc h
    simp only [opV]; exact ⟨by decide, by decide, this.2.2⟩
  split at h
  · subst op
    have := pick_sound hp hq h
    simp only [opV]; exact ⟨by decide, by decide, this.2.2⟩
  split at h
  · subst op
    split at h
    · rename_i hh
      cases h
      simp [opV]; exact sound_text (by omega)
    · cases h
  split at h
  · subst op; split at h <;> cases h
    simp [opV]; exact sound_num _
  · cases h
def evalP (F : List Fn) (time : Int) (R : List Val) (e : Ex) : Val := ev (callN F time F.length) time R [] e
end Go.Proofs.YtgpcpmfdklpifaaGreatDoor

/- Replacing and inlining, on plain data. -/
namespace Go.Proofs.YtgpcpmfdklpifaaGreatDoor
open Go.RowKit Go.Lib
def zeroE : Ex := .mk 0 0 ByteArray.empty []
mutual
def putP (op : Int) (L : List Ex) : Ex → Option Ex
  | .mk o n s l => if o = op then (if n < 0 then none else L[n.toNat]?) else match putPs op L l with
    | some l' => some (.mk o n s l')
    | none => none
def putPs (op : Int) (L : List Ex) : List Ex → Option (List Ex)
  | [] => some []
  | e :: l => match putP op L e with
    | some x => match putPs op L l with
      | some xs => some (x :: xs)
      | none => none
    | none => none
end
end Go.Proofs.YtgpcpmfdklpifaaGreatDoor

/- Inlining on plain data: facts. -/
namespace Go.Proofs.YtgpcpmfdklpifaaGreatDoor
open Go.RowKit Go.Lib
end Go.Proofs.YtgpcpmfdklpifaaGreatDoor
