/- Universal readings of plain Go data (ints, bools, strings, structs, slices) as trees, and how they are kept while the heap grows. -/
import Derived.WalkKit
import Derived.WalkSpells
import Derived.WalkLawsBesides
import Derived.Deep.LoopGhost
import Derived.Lib.Hide
import Derived.Deep.Draws
import Derived.Deep.Slices
import Derived.WalkSmall
import Derived.Lib.ItoaNum
import Derived.Deep.QuietTactic
import Derived.BigQuiet
import Derived.StillTail
import Derived.OrdersHeld
import Derived.Deep.RegionHeld3
import Derived.ChangeArms
import Derived.Lib.LaidU8
import Derived.Test.YtbkkjlcclddpdaaGreatDoorRows
import Derived.ProofKit
import Derived.Below
import Derived.ChangeSame
import Derived.HandedShaped
import Derived.Lay
import Derived.Shelf.Vars
import Derived.LaidMore
set_option linter.unusedSimpArgs false
set_option linter.unusedVariables false
namespace Go.Proofs.YtbkkjlcclddpdaaGreatDoor
open Go.RowKit Go.Lib
inductive D where
  | int (n : Int)
  | bool (b : Bool)
  | str (s : ByteArray)
  | st (l : List D)
  | sl (l : List D)
mutual
def D.width : D → Nat
  | .int _ => 1
  | .bool _ => 1
  | .str _ => 1
  | .sl _ => 1
  | .st l => D.widths l
def D.widths : List D → Nat
  | [] => 0
  | d :: l => d.width + D.widths l
end
def qbp (w : World) (b off : Nat) : List Value → Prop
  | [] => True
  | v :: cs => w.cell? ⟨b, off, none⟩ = some v ∧ qbp w b (off + 1) cs
mutual
def Rd (w : World) (S : Nat → Prop) : D → List Value → Prop
  | .int n, cs => cs = [.int .i64 n]
  | .bool b, cs => cs = [.bool b]
  | .str s, cs => cs = [.string s]
  | .st l, cs => RdS w S l cs
  | .sl l, cs => ∃ A cap b off, cs = [.slice A l.length cap] ∧ l.length ≤ cap ∧ cap ≤ 9223372036854775807 ∧ (0 < l.length → A = some ⟨b, off, none⟩ ∧ S b) ∧ RdM w S l b off
def RdS (w : World) (S : Nat → Prop) : List D → List Value → Prop
  | [], cs => cs = []
  | d :: l, cs => ∃ c1 c2, cs = c1 ++ c2 ∧ Rd w S d c1 ∧ RdS w S l c2
def RdM (w : World) (S : Nat → Prop) : List D → Nat → Nat → Prop
  | [], _, _ => True
  | d :: l, b, off => (∃ cs, qbp w b off cs ∧ Rd w S d cs) ∧ RdM w S l b (off + d.width)
end
mutual
theorem Rd.length {w : World} {S : Nat → Prop} : ∀ (d : D) (cs : List Value), Rd w S d cs → cs.length = d.width
  | .int _, _, h => by rw [Rd] at h; subst h; rfl
  | .bool _, _, h => by rw [Rd] at h; subst h; rfl
  | .str _, _, h => by rw [Rd] at h; subst h; rfl
  | .st l, cs, h => by rw [Rd] at h; rw [D.width]; exact RdS.length l cs h
  | .sl _, _, h => by rw [Rd] at h; obtain ⟨A, cap, b, off, rfl, _⟩ := h; rfl
theorem RdS.length {w : World} {S : Nat → Prop} : ∀ (l : List D) (cs : List Value), RdS w S l cs → cs.length = D.widths l
  | [], _, h => by rw [RdS] at h; subst h; rfl
  | d :: l, cs, h => by
    rw [RdS] at h; obtain ⟨c1, c2, rfl, h1, h2⟩ := h
    rw [List.length_append, Rd.length d c1 h1, RdS.length l c2 h2, D.widths]
end
def Keeps (S : Nat → Prop) (w w' : World) : Prop := ∀ b, S b → b < w.heap.size → w'.heap[b]? = w.heap[b]?
theorem Keeps.cell {S : Nat → Prop} {w w' : World} (h : Keeps S w w') {b off : Nat} {v : Value} (hs : S b) (hc : w.cell? ⟨b, off, none⟩ = some v) : w'.cell? ⟨b, off, none⟩ = some v :=
  (World.cell?_of_block (w := w) (w' := w') (a := ⟨b, off, none⟩) (h b hs (World.block_lt_of_cell? w _ hc))).trans hc
theorem qbp.keep {S : Nat → Prop} {w w' : World} (h : Keeps S w w') {b : Nat} (hs : S b) : ∀ (off : Nat) (cs : List Value), qbp w b off cs → qbp w' b off cs
  | _, [], _ => trivial
  | off, _ :: cs, hc => ⟨h.cell hs hc.1, qbp.keep h hs (off + 1) cs hc.2⟩
mutual
theorem Rd.keep {S S' : Nat → Prop} {w w' : World} (h : Keeps S w w') (hS : ∀ b, S b → S' b) : ∀ (d : D) (cs : List Value), Rd w S d cs → Rd w' S' d cs
  | .int _, _, hr => hr
  | .bool _, _, hr => hr
  | .str _, _, hr => hr
  | .st l, cs, hr => by rw [Rd] at hr ⊢; exact RdS.keep h hS l cs hr
  | .sl l, cs, hr => by
    rw [Rd] at hr ⊢
    obtain ⟨A, cap, b, off, h1, h2, h3, h4, h5⟩ := hr
    refine ⟨A, cap, b, off, h1, h2, h3, fun hl => ⟨(h4 hl).1, hS _ (h4 hl).2⟩, ?_⟩
    cases l with
    | nil => rw [RdM]; trivial
    | cons d l => exact RdM.keep h hS (d :: l) b off (h4 (by simp)).2 h5
theorem RdS.keep {S S' : Nat → Prop} {w w' : World} (h : Keeps S w w') (hS : ∀ b, S b → S' b) : ∀ (l : List D) (cs : List Value), RdS w S l cs → RdS w' S' l cs
  | [], _, hr => hr
  | d :: l, cs, hr => by
    rw [RdS] at hr ⊢
    obtain ⟨c1, c2, h1, h2, h3⟩ := hr
    exact ⟨c1, c2, h1, Rd.keep h hS d c1 h2, RdS.keep h hS l c2 h3⟩
theorem RdM.keep {S S' : Nat → Prop} {w w' : World} (h : Keeps S w w') (hS : ∀ b, S b → S' b) : ∀ (l : List D) (b off : Nat), S b → RdM w S l b off → RdM w' S' l b off
  | [], _, _, _, _ => by rw [RdM]; trivial
  | d :: l, b, off, hb, hr => by
    rw [RdM] at hr ⊢
    obtain ⟨⟨cs, h1, h2⟩, h3⟩ := hr
    exact ⟨⟨cs, h1.keep h hb, Rd.keep h hS d cs h2⟩, RdM.keep h hS l b _ hb h3⟩
end
theorem RdM.get {w : World} {S : Nat → Prop} {sz : Nat} : ∀ (l : List D) (b off : Nat), RdM w S l b off → (∀ d ∈ l, d.width = sz) → ∀ i (h : i < l.length), ∃ cs, qbp w b (off + i * sz) cs ∧ Rd w S l[i] cs
  | [], _, _, _, _, _, h => absurd h (by simp)
  | d :: l, b, off, hr, hw, i, hi => by
    rw [RdM] at hr
    cases i with
    | zero => simpa using hr.1
    | succ i =>
      have hd : d.width = sz := hw d (by simp)
      have := RdM.get l b (off + d.width) hr.2 (fun x hx => hw x (by simp [hx])) i (by simpa using hi)
      rw [hd] at this
      rw [show off + (i + 1) * sz = off + sz + i * sz by rw [Nat.succ_mul]; omega]
      exact this
theorem Keeps.refl (S : Nat → Prop) (w : World) : Keeps S w w := fun _ _ _ => rfl
theorem Below.keeps {S : Nat → Prop} {w w' : World} (h : Below w.heap.size w w') : Keeps S w w' := fun b _ hlt => h.block b hlt
abbrev Ext (w w' : World) : Prop := Below w.heap.size w w'
theorem Ext.refl (w : World) : Ext w w := Below.refl _ _
theorem Ext.trans {a b c : World} (h : Ext a b) (k : Ext b c) : Ext a c := Below.trans h (k.mono h.size)
theorem Ext.alloc {a b : World} (h : Ext a b) (o : Obj) : Ext a (b.alloc o) := Below.alloc h h.size o
theorem Ext.drew {a b : World} (h : Ext a b) : Ext a b.drew := Below.drew h
theorem Ext.drewN {a b : World} (h : Ext a b) (n : Nat) : Ext a (b.drewN n) := ⟨h.os, h.tape, h.output, h.size, h.block⟩
theorem Ext.setCell {a b : World} (h : Ext a b) {p : Addr} (hp : a.heap.size ≤ p.block) (u : Value) : Ext a (b.setCell p u) := Below.setCell h hp u
theorem Ext.cells {W w1 : World} (h : Ext W w1) : ∀ b o, b < W.heap.size → w1.cell? ⟨b, o, none⟩ = W.cell? ⟨b, o, none⟩ := fun b o hb => Below.cell (p := ⟨b, o, none⟩) h hb
theorem Ext.at {W w1 : World} (h : Ext W w1) {p : Addr} {v : Value} (hc : W.cell? p = some v) : w1.cell? p = some v := (Below.cell h (World.block_lt_of_cell? W _ hc)).trans hc
theorem Rd.ext {S : Nat → Prop} {w w' : World} {d : D} {cs : List Value} (hr : Rd w S d cs) (h : Ext w w') : Rd w' S d cs := Rd.keep (Below.keeps h) (fun _ h => h) d cs hr
theorem RdM.ext {S : Nat → Prop} {w w' : World} {l : List D} {b off : Nat} (hr : RdM w S l b off) (hb : 0 < l.length → S b) (h : Ext w w') : RdM w' S l b off := by
  cases l with
  | nil => rw [RdM]; trivial
  | cons d l => exact RdM.keep (Below.keeps h) (fun _ h => h) _ b off (hb (by simp)) hr
theorem Rd.sl_mk {w : World} {S : Nat → Prop} {l : List D} {A : Option Addr} {n cap b off : Nat} (hn : n = l.length) (h1 : l.length ≤ cap) (h2 : cap ≤ 9223372036854775807) (h3 : 0 < l.length → A = some ⟨b, off, none⟩ ∧ S b) (h4 : RdM w S l b off) : Rd w S (.sl l) [.slice A n cap] := by
  rw [Rd]; exact ⟨A, cap, b, off, by rw [hn], h1, h2, h3, h4⟩
def Any : Nat → Prop := fun _ => True
theorem any (b : Nat) : Any b := trivial
theorem Rd.any {S : Nat → Prop} {w : World} {d : D} {cs : List Value} (hr : Rd w S d cs) : Rd w Any d cs := Rd.keep (Keeps.refl S w) (fun _ _ => trivial) d cs hr
end Go.Proofs.YtbkkjlcclddpdaaGreatDoor

/- Typed views of api.Value. -/
namespace Go.Proofs.YtbkkjlcclddpdaaGreatDoor
open Go.RowKit Go.Lib
structure Val where
  k : Int
  n : Int
  s : ByteArray
  deriving DecidableEq
def Val.d (x : Val) : D := .st [.int x.k, .int x.n, .str x.s]
theorem Val.width (x : Val) : x.d.width = 3 := by
  simp [Val.d, D.width, D.widths]
theorem Val.widths (l : List Val) : ∀ d ∈ l.map Val.d, d.width = 3 := by
  intro d hd; obtain ⟨x, -, rfl⟩ := List.mem_map.1 hd; exact Val.width x
theorem Val.open {w : World} {S : Nat → Prop} {x : Val} {cs : List Value} (h : Rd w S x.d cs) : cs = [.int .i64 x.k, .int .i64 x.n, .string x.s] := by
  simp only [Val.d, Val.d, Rd, RdS, List.length_map] at h
  obtain ⟨_, _, rfl, rfl, ⟨_, _, rfl, rfl, ⟨_, _, rfl, rfl, rfl⟩⟩⟩ := h
  simp
theorem Val.at {w : World} {S : Nat → Prop} {l : List Val} {b off : Nat} (hm : RdM w S (l.map Val.d) b off) {k : Nat} (hk : k < l.length) : w.cell? ⟨b, off + k * 3, none⟩ = some (.int .i64 l[k].k) ∧ w.cell? ⟨b, off + k * 3 + 1, none⟩ = some (.int .i64 l[k].n) ∧ w.cell? ⟨b, off + k * 3 + 1 + 1, none⟩ = some (.string l[k].s) ∧ Rd w S l[k].d [.int .i64 l[k].k, .int .i64 l[k].n, .string l[k].s] := by
  obtain ⟨cs, hc, hr⟩ := RdM.get _ b off hm (Val.widths l) k (by simpa using hk)
  rw [List.getElem_map] at hr
  obtain rfl := Val.open hr
  simp only [qbp, and_true] at hc
  obtain ⟨c0, c1, c2⟩ := hc
  exact ⟨c0, c1, c2, hr⟩
end Go.Proofs.YtbkkjlcclddpdaaGreatDoor

/- Typed views of api.Lens. -/
namespace Go.Proofs.YtbkkjlcclddpdaaGreatDoor
open Go.RowKit Go.Lib
structure Lens where
  op : Int
  a : ByteArray
  b : ByteArray
  c : ByteArray
  sep : ByteArray
  n : Int
  value : Val
  deriving DecidableEq
def Lens.d (x : Lens) : D := .st [.int x.op, .str x.a, .str x.b, .str x.c, .str x.sep, .int x.n, x.value.d]
theorem Lens.width (x : Lens) : x.d.width = 9 := by
  simp [Lens.d, D.width, D.widths, Val.width]
theorem Lens.widths (l : List Lens) : ∀ d ∈ l.map Lens.d, d.width = 9 := by
  intro d hd; obtain ⟨x, -, rfl⟩ := List.mem_map.1 hd; exact Lens.width x
theorem Lens.open {w : World} {S : Nat → Prop} {x : Lens} {cs : List Value} (h : Rd w S x.d cs) : cs = [.int .i64 x.op, .string x.a, .string x.b, .string x.c, .string x.sep, .int .i64 x.n, .int .i64 x.value.k, .int .i64 x.value.n, .string x.value.s] := by
  simp only [Lens.d, Lens.d, Rd, RdS, List.length_map] at h
  obtain ⟨_, _, rfl, rfl, ⟨_, _, rfl, rfl, ⟨_, _, rfl, rfl, ⟨_, _, rfl, rfl, ⟨_, _, rfl, rfl, ⟨_, _, rfl, rfl, ⟨_, _, rfl, g6, rfl⟩⟩⟩⟩⟩⟩⟩ := h
  obtain rfl := Val.open g6
  simp
theorem Lens.at {w : World} {S : Nat → Prop} {l : List Lens} {b off : Nat} (hm : RdM w S (l.map Lens.d) b off) {k : Nat} (hk : k < l.length) : w.cell? ⟨b, off + k * 9, none⟩ = some (.int .i64 l[k].op) ∧ w.cell? ⟨b, off + k * 9 + 1, none⟩ = some (.string l[k].a) ∧ w.cell? ⟨b, off + k * 9 + 1 + 1, none⟩ = some (.string l[k].b) ∧ w.cell? ⟨b, off + k * 9 + 1 + 1 + 1, none⟩ = some (.string l[k].c) ∧ w.cell? ⟨b, off + k * 9 + 1 + 1 + 1 + 1, none⟩ = some (.string l[k].sep) ∧ w.cell? ⟨b, off + k * 9 + 1 + 1 + 1 + 1 + 1, none⟩ = some (.int .i64 l[k].n) ∧ w.cell? ⟨b, off + k * 9 + 1 + 1 + 1 + 1 + 1 + 1, none⟩ = some (.int .i64 l[k].value.k) ∧ w.cell? ⟨b, off + k * 9 + 1 + 1 + 1 + 1 + 1 + 1 + 1, none⟩ = some (.int .i64 l[k].value.n) ∧ w.cell? ⟨b, off + k * 9 + 1 + 1 + 1 + 1 + 1 + 1 + 1 + 1, none⟩ = some (.string l[k].value.s) ∧ Rd w S l[k].d [.int .i64 l[k].op, .string l[k].a, .string l[k].b, .string l[k].c, .string l[k].sep, .int .i64 l[k].n, .int .i64 l[k].value.k, .int .i64 l[k].value.n, .string l[k].value.s] := by
  obtain ⟨cs, hc, hr⟩ := RdM.get _ b off hm (Lens.widths l) k (by simpa using hk)
  rw [List.getElem_map] at hr
  obtain rfl := Lens.open hr
  simp only [qbp, and_true] at hc
  obtain ⟨c0, c1, c2, c3, c4, c5, c6, c7, c8⟩ := hc
  exact ⟨c0, c1, c2, c3, c4, c5, c6, c7, c8, hr⟩
end Go.Proofs.YtbkkjlcclddpdaaGreatDoor

/- Slices that a call builds by append: what they own, and one append. -/
namespace Go.Proofs.YtbkkjlcclddpdaaGreatDoor
open Go.RowKit Go.Lib
theorem cells_new (W : World) (cs : Array Value) (et : TypeId) : ∀ j u, cs.toList[j]? = some u → (W.alloc (.cells cs et)).cell? ((⟨W.heap.size, 0, none⟩ : Addr).add j) = some u := by
  intro j u hu
  have h1 : (W.alloc (.cells cs et)).heap[W.heap.size]? = some (.cells cs et (0, 0)) := heap_alloc_new W _
  have h2 : ((⟨W.heap.size, 0, none⟩ : Addr).add j) = ⟨W.heap.size, j, none⟩ := by
    unfold Addr.add; split
    · rename_i h; subst h; rfl
    · simp
  rw [h2]
  simp only [World.cell?, h1]
  simpa using hu
theorem Ext.grown {w W w' : World} {B : Nat} {e : TypeId} {size n : Nat} {v : Value} {xs : List Value} (h : Ext w W) (hown : W.ownsRow B e size v n xs) (hB : w.heap.size ≤ B) (hg : W.grownBy w' v.ownBlock) : Ext w w' :=
  Below.grown h hg h.size (fun k hk => Nat.le_trans hB (hown.lt k hk).1)
theorem cellsAt_of {w : World} {g : Nat} : ∀ (cs : List Value) (off : Nat), (∀ j u, cs[j]? = some u → w.cell? ⟨g, off + j, none⟩ = some u) → qbp w g off cs
  | [], _, _ => trivial
  | v :: cs, off, h => ⟨by simpa using h 0 v rfl, cellsAt_of cs (off + 1) fun j u hu => by
      have := h (j + 1) u (by simpa using hu)
      rwa [show off + (j + 1) = off + 1 + j by omega] at this⟩
theorem RdS.append {w : World} {S : Nat → Prop} : ∀ (l : List D) (xs : List Value) (d : D) (cs : List Value), RdS w S l xs → Rd w S d cs → RdS w S (l ++ [d]) (xs ++ cs)
  | [], xs, d, cs, h, hd => by
    rw [RdS] at h; subst h
    rw [List.nil_append, List.nil_append, RdS]
    exact ⟨cs, [], by simp, hd, by rw [RdS]⟩
  | y :: l, xs, d, cs, h, hd => by
    rw [RdS] at h
    obtain ⟨c1, c2, rfl, h1, h2⟩ := h
    rw [List.cons_append, RdS]
    exact ⟨c1, c2 ++ cs, by simp, h1, RdS.append l c2 d cs h2 hd⟩
theorem RdS.ext {S : Nat → Prop} {w w' : World} {l : List D} {cs : List Value} (hr : RdS w S l cs) (h : Ext w w') : RdS w' S l cs := RdS.keep (Below.keeps h) (fun _ h => h) l cs hr
end Go.Proofs.YtbkkjlcclddpdaaGreatDoor

/- What is known of the variables of the program, in every world: nobody writes them. -/
namespace Go.Proofs.YtbkkjlcclddpdaaGreatDoor
def globsOk (C : Nat → Nat → List Value → Prop) : Prop := (∃ m : Int, C 0 0 [.int .i64 m]) ∧ (∃ _m : Unit, C 3 0 (Go.Lib.pow10Tab.map fun z => Value.int .u64 z)) ∧ (∃ m : {x : Value // x = .nilIface ∨ ∃ te pe, x = .iface te pe}, C 1 0 [m.1]) ∧ (∃ m : {x : Value // x = .nilIface ∨ ∃ te pe, x = .iface te pe}, C 2 0 [m.1]) ∧ True
theorem globsOk.mono {C C' : Nat → Nat → List Value → Prop} (hC : ∀ b o cs, C b o cs → C' b o cs) (h : globsOk C) : globsOk C' := by
  obtain ⟨⟨m0, h0⟩, ⟨m1, h1⟩, ⟨m2, h2⟩, ⟨m3, h3⟩, -⟩ := h
  exact ⟨⟨m0, hC _ _ _ h0⟩, ⟨m1, hC _ _ _ h1⟩, ⟨m2, hC _ _ _ h2⟩, ⟨m3, hC _ _ _ h3⟩, trivial⟩
def gtab (g : Nat) : Option (List Value) := none
theorem gtab_ok {C : Nat → Nat → List Value → Prop} (h : globsOk C) {g : Nat} {cs : List Value} (hg : gtab g = some cs) : C g 0 cs := by
  unfold gtab at hg
  cases hg
end Go.Proofs.YtbkkjlcclddpdaaGreatDoor

/- Typed views of api.Col. -/
namespace Go.Proofs.YtbkkjlcclddpdaaGreatDoor
open Go.RowKit Go.Lib
structure Col where
  name : ByteArray
  type : Int
  unit : ByteArray
  deriving DecidableEq
def Col.d (x : Col) : D := .st [.str x.name, .int x.type, .str x.unit]
theorem Col.width (x : Col) : x.d.width = 3 := by
  simp [Col.d, D.width, D.widths]
theorem Col.widths (l : List Col) : ∀ d ∈ l.map Col.d, d.width = 3 := by
  intro d hd; obtain ⟨x, -, rfl⟩ := List.mem_map.1 hd; exact Col.width x
theorem Col.open {w : World} {S : Nat → Prop} {x : Col} {cs : List Value} (h : Rd w S x.d cs) : cs = [.string x.name, .int .i64 x.type, .string x.unit] := by
  simp only [Col.d, Col.d, Rd, RdS, List.length_map] at h
  obtain ⟨_, _, rfl, rfl, ⟨_, _, rfl, rfl, ⟨_, _, rfl, rfl, rfl⟩⟩⟩ := h
  simp
theorem Col.at {w : World} {S : Nat → Prop} {l : List Col} {b off : Nat} (hm : RdM w S (l.map Col.d) b off) {k : Nat} (hk : k < l.length) : w.cell? ⟨b, off + k * 3, none⟩ = some (.string l[k].name) ∧ w.cell? ⟨b, off + k * 3 + 1, none⟩ = some (.int .i64 l[k].type) ∧ w.cell? ⟨b, off + k * 3 + 1 + 1, none⟩ = some (.string l[k].unit) ∧ Rd w S l[k].d [.string l[k].name, .int .i64 l[k].type, .string l[k].unit] := by
  obtain ⟨cs, hc, hr⟩ := RdM.get _ b off hm (Col.widths l) k (by simpa using hk)
  rw [List.getElem_map] at hr
  obtain rfl := Col.open hr
  simp only [qbp, and_true] at hc
  obtain ⟨c0, c1, c2⟩ := hc
  exact ⟨c0, c1, c2, hr⟩
end Go.Proofs.YtbkkjlcclddpdaaGreatDoor

/- Regions that draw their order, whose operations read and whose calls only make new memory: one walk in the text's order. -/
namespace Go.Proofs.YtbkkjlcclddpdaaGreatDoor
open Go.RowKit Go.Lib
structure ExtW (w : World) where
  val : World
  ext : Ext w val
instance (w : World) : Nonempty (ExtW w) := ⟨⟨w, Ext.refl w⟩⟩
theorem ExtW.at {w : World} {p : Addr} {v : Value} (hc : w.cell? p = some v) : ∀ x : ExtW w, x.val.cell? p = some v := fun x => x.ext.at hc
end Go.Proofs.YtbkkjlcclddpdaaGreatDoor

/- Regions that draw their order: all operations but the last ones read or call quietly (in a class of worlds), the last ones stand in one order. -/
namespace Go.Proofs.YtbkkjlcclddpdaaGreatDoor
open Go.RowKit Go.Lib
section
variable {P : Program} {ops : Array Oper} {md : Region.Mode} {C : World → Prop}
end
end Go.Proofs.YtbkkjlcclddpdaaGreatDoor

/- Regions that draw their order: reads, then operations in one order that make new memory while the reads may still come between them, then a tail in one order. -/
namespace Go.Proofs.YtbkkjlcclddpdaaGreatDoor
open Go.RowKit Go.Lib
section
variable {P : Program} {ops : Array Oper} {md : Region.Mode} {C : World → Prop} {Q : Exit → Act → World → Prop}
end
end Go.Proofs.YtbkkjlcclddpdaaGreatDoor

/- More on readings: a slice's beginning, the empty slice, all of a list. -/
namespace Go.Proofs.YtbkkjlcclddpdaaGreatDoor
open Go.RowKit Go.Lib
theorem RdM.take {w : World} {S : Nat → Prop} : ∀ (l : List D) (b off k : Nat), RdM w S l b off → RdM w S (l.take k) b off
  | [], _, _, _, _ => by rw [List.take_nil, RdM]; trivial
  | d :: l, b, off, 0, _ => by rw [List.take_zero, RdM]; trivial
  | d :: l, b, off, k + 1, h => by
    rw [RdM] at h
    rw [List.take_succ_cons, RdM]
    exact ⟨h.1, RdM.take l b _ k h.2⟩
theorem RdM.drop {w : World} {S : Nat → Prop} {sz : Nat} : ∀ (l : List D) (b off k : Nat), RdM w S l b off → (∀ d ∈ l, d.width = sz) → RdM w S (l.drop k) b (off + k * sz)
  | [], _, _, _, _, _ => by rw [List.drop_nil, RdM]; trivial
  | d :: l, b, off, 0, h, _ => by simpa using h
  | d :: l, b, off, k + 1, h, hw => by
    rw [RdM] at h
    rw [List.drop_succ_cons]
    have hd : d.width = sz := hw d (by simp)
    have := RdM.drop l b (off + d.width) k h.2 (fun x hx => hw x (by simp [hx]))
    rw [hd] at this
    rwa [show off + (k + 1) * sz = off + sz + k * sz by rw [Nat.succ_mul]; omega]
theorem Rd.cut {w : World} {S : Nat → Prop} {l : List D} {b off cap k : Nat} (hk : k ≤ l.length) (h1 : l.length ≤ cap) (h2 : cap ≤ 9223372036854775807) (hS : S b) (h : RdM w S l b off) : Rd w S (.sl (l.take k)) [.slice (some ⟨b, off, none⟩) k cap] :=
  Rd.sl_mk (by rw [List.length_take]; omega) (by rw [List.length_take]; omega) h2 (fun _ => ⟨rfl, hS⟩) (RdM.take l b off k h)
theorem Rd.nil {w : World} {S : Nat → Prop} {cap : Nat} (A : Option Addr) (h : cap ≤ 9223372036854775807) : Rd w S (.sl []) [.slice A 0 cap] :=
  Rd.sl_mk (b := 0) (off := 0) rfl (by simp) h (by simp) (by rw [RdM]; trivial)
end Go.Proofs.YtbkkjlcclddpdaaGreatDoor

/- From the statement's readings (DataW.trod) to trees of plain data (Rd): ints, bools, strings, structs, slices. -/
namespace Go.Proofs.YtbkkjlcclddpdaaGreatDoor
open Go.RowKit Go.Lib
theorem qbp.of_get {w : World} {b : Nat} : ∀ (cs : List Value) (off : Nat), (∀ i v, cs[i]? = some v → w.cell? ⟨b, off + i, none⟩ = some v) → qbp w b off cs
  | [], _, _ => trivial
  | v :: cs, off, h => ⟨h 0 v rfl, qbp.of_get cs (off + 1) fun i u hi => by rw [Nat.add_assoc, Nat.add_comm 1 i]; exact h (i + 1) u (by simpa using hi)⟩
theorem mapM_get {α β : Type} {f : α → Option β} : ∀ (l : List α) (ys : List β), l.mapM f = some ys → ∀ i : Nat, (l[i]?).bind f = ys[i]?
  | [], ys, h, i => by simp at h; subst h; simp
  | a :: l, ys, h, i => by
    rw [List.mapM_cons] at h
    cases hf : f a with
    | none => rw [hf] at h; simp at h
    | some b =>
      rw [hf] at h
      cases hl : l.mapM f with
      | none => rw [hl] at h; simp at h
      | some zs =>
        rw [hl] at h
        simp at h
        subst h
        cases i with
        | zero => simpa using hf
        | succ i => simpa using mapM_get l zs hl i
theorem mapM_len {α β : Type} {f : α → Option β} : ∀ (l : List α) (ys : List β), l.mapM f = some ys → ys.length = l.length
  | [], ys, h => by simp at h; subst h; rfl
  | a :: l, ys, h => by
    rw [List.mapM_cons] at h
    cases hf : f a with
    | none => rw [hf] at h; simp at h
    | some b =>
      rw [hf] at h
      cases hl : l.mapM f with
      | none => rw [hl] at h; simp at h
      | some zs =>
        rw [hl] at h
        simp at h
        subst h
        simp [mapM_len l zs hl]
theorem cells_open {w : World} {base : Nat} {a : Addr} {n : Nat} {cs : List Value} (h : w.cells? base a n = some cs) (hn : 0 < n) : a.spot = none ∧ qbp w a.block a.off cs := by
  unfold World.cells? at h
  split at h
  · have hg := mapM_get _ _ h
    obtain ⟨b, o, sp⟩ := a
    have h0 := hg 0
    rw [List.getElem?_range (by omega)] at h0
    have hlen : cs.length = n := by
      have := mapM_len _ _ h
      simpa using this
    have h0' : cs[0]? = some (cs[0]'(by omega)) := List.getElem?_eq_getElem (by omega)
    rw [h0'] at h0
    have hs : sp = none := cell_spot (w := w) (b := b) (o := o) (v := cs[0]'(by omega)) (by simpa [Addr.add] using h0)
    subst hs
    refine ⟨rfl, qbp.of_get _ _ fun i v hi => ?_⟩
    have hi' : i < n := by
      have := (List.getElem?_eq_some_iff.1 hi).1; omega
    have := hg i
    rw [List.getElem?_range hi', hi] at this
    cases i with
    | zero => simpa [Addr.add] using this
    | succ i => simpa [Addr.add] using this
  · cases h
theorem RdM.of_get {w : World} {S : Nat → Prop} {sz : Nat} : ∀ (l : List D) (b off : Nat), (∀ d ∈ l, d.width = sz) → (∀ i (h : i < l.length), ∃ cs, qbp w b (off + i * sz) cs ∧ Rd w S l[i] cs) → RdM w S l b off
  | [], _, _, _, _ => by rw [RdM]; trivial
  | d :: l, b, off, hw, h => by
    rw [RdM]
    refine ⟨?_, RdM.of_get l b _ (fun x hx => hw x (by simp [hx])) fun i hi => ?_⟩
    · obtain ⟨cs, h1, h2⟩ := h 0 (by simp)
      exact ⟨cs, by simpa using h1, by simpa using h2⟩
    have := h (i + 1) (by simpa using hi)
    rw [hw d (by simp)]
    rw [Nat.succ_mul] at this
    rw [show off + sz + i * sz = off + (i * sz + sz) by omega]
    simpa using this
section
variable {H : Type} {enc : TypeId × Value → H} {P : Program} {w : World} {sp : Nat → Bool} {hd : Bool}
def Trods (enc : TypeId × Value → H) (P : Program) (w : World) (sp : Nat → Bool) (hd : Bool) (t : TypeId) {α : Type} (f : α → D) (N : Nat) : Prop :=
  ∀ n cs x, n < N → DataW.trod enc P w 0 sp hd n t cs = some x → ∃ a, Rd w Any (f a) cs
theorem trods_int {t : TypeId} (ht : P.underlying t = some (.int .i64)) (N : Nat) : Trods enc P w sp hd t D.int N := by
  intro n cs x _ h
  obtain ⟨m, rfl, -, -⟩ := DataW.trod_int ht h
  exact ⟨m, by rw [Rd]⟩
theorem qfb {t : TypeId} (ht : P.underlying t = some .string) (N : Nat) : Trods enc P w sp hd t D.str N := by
  intro n cs x _ h
  obtain ⟨m, rfl, -, -⟩ := DataW.trod_string ht h
  exact ⟨m, by rw [Rd]⟩
theorem trods_sl {t e : TypeId} {α : Type} {f : α → D} {sz N : Nat} (ht : P.underlying t = some (.slice e)) (hc : P.cellsOf e = sz) (hsz : 0 < sz) (hw : ∀ x, (f x).width = sz) (h : Trods enc P w sp hd e f N) :
    Trods enc P w sp hd t (fun l : List α => .sl (l.map f)) (N + 1) := by
  intro n cs x hn hx
  rcases DataW.trod_slice ht hx with ⟨rfl, -⟩ | ⟨a, len, cap, elems, rest, m, rfl, rfl, -, hb, hl, hm, hlen, hel, -, -⟩
  · exact ⟨[], Rd.nil none (by omega)⟩
  · have hmax : cap ≤ 9223372036854775807 := by unfold maxLen at hm; omega
    have hget : ∀ i, i < len → ∃ cs' y, w.cells? 0 (a.add (i * sz)) sz = some cs' ∧ DataW.trod enc P w 0 sp hd m e cs' = some y := by
      intro i hi
      have := hel i hi
      rw [hc, List.getElem?_eq_getElem (by omega)] at this
      obtain ⟨cs', h1, h2⟩ := Option.bind_eq_some_iff.1 this
      exact ⟨cs', _, h1, h2⟩
    have hget2 : ∀ i, i < len → ∃ (z : α) (cs' : List Value), w.cells? 0 (a.add (i * sz)) sz = some cs' ∧ Rd w Any (f z) cs' := by
      intro i hi
      obtain ⟨cs', y, h1, h2⟩ := hget i hi
      obtain ⟨z, hz⟩ := h m cs' y (by omega) h2
      exact ⟨z, cs', h1, hz⟩
    by_cases h0 : len = 0
    · subst h0; exact ⟨[], Rd.nil _ hmax⟩
    have hsp : a.spot = none := by
      obtain ⟨z, cs', h1, -⟩ := hget2 0 (by omega)
      have := (cells_open h1 hsz).1
      simpa [Addr.add] using this
    obtain ⟨b, off, spt⟩ := a
    subst hsp
    have hg3 : ∀ i, ∃ (z : α), i < len → ∃ cs', qbp w b (off + i * sz) cs' ∧ Rd w Any (f z) cs' := by
      obtain ⟨z0, -⟩ := hget2 0 (by omega)
      intro i
      by_cases hi : i < len
      · obtain ⟨z, cs', h1, h2⟩ := hget2 i hi
        refine ⟨z, fun _ => ⟨cs', ?_, h2⟩⟩
        have := (cells_open h1 hsz).2
        by_cases hz : i * sz = 0
        · rw [hz] at this ⊢; simpa [Addr.add] using this
        · simpa [Addr.add, hz] using this
      · exact ⟨z0, fun h => absurd h hi⟩
    let g : Nat → α := fun i => Classical.choose (hg3 i)
    have hgs : ∀ i, i < len → ∃ cs', qbp w b (off + i * sz) cs' ∧ Rd w Any (f (g i)) cs' := fun i => Classical.choose_spec (hg3 i)
    refine ⟨(List.range len).map g, Rd.sl_mk (b := b) (off := off) (by simp) (by simpa using hl) hmax (fun _ => ⟨rfl, trivial⟩) (RdM.of_get _ _ _ (sz := sz) ?_ ?_)⟩
    · intro d hd
      obtain ⟨x, -, rfl⟩ := List.mem_map.1 hd
      exact hw x
    · intro i hi
      have hi' : i < len := by simpa using hi
      have := hgs i hi'
      simpa using this
theorem qec {S : Nat → Prop} {d : D} {l : List D} {cs : List Value} {o k : Nat} (h1 : Rd w S d ((cs.drop o).take k)) (h2 : RdS w S l (cs.drop (o + k))) : RdS w S (d :: l) (cs.drop o) := by
  rw [RdS]
  exact ⟨_, _, by rw [← List.drop_drop]; exact (List.take_append_drop k _).symm, h1, h2⟩
theorem rdS_end {S : Nat → Prop} {cs : List Value} {o : Nat} (h : cs.length ≤ o) : RdS w S [] (cs.drop o) := by
  rw [RdS]; exact List.drop_eq_nil_of_le h
theorem rd_st {S : Nat → Prop} {l : List D} {cs : List Value} (h : RdS w S l (cs.drop 0)) : Rd w S (.st l) cs := by
  rw [Rd]; simpa using h
theorem qby {fs : Array Field} {n : Nat} {cs : List Value} {xs : List (DataW H × List MemPlace)} (i : Nat) (T : TypeId) (o k : Nat) (hlen : xs.length = fs.size)
    (hf : ∀ (i : Nat) (f : Field), fs[i]? = some f → DataW.trod enc P w 0 sp hd n f.type ((cs.drop f.offset).take (P.cellsOf f.type)) = xs[i]?)
    (hi : ∃ f : Field, fs[i]? = some f ∧ f.type = T ∧ f.offset = o) (hk : P.cellsOf T = k) :
    ∃ y, DataW.trod enc P w 0 sp hd n T ((cs.drop o).take k) = some y := by
  obtain ⟨f, hi, rfl, rfl⟩ := hi
  subst hk
  have hlt : i < fs.size := (Array.getElem?_eq_some_iff.1 hi).1
  have := hf i f hi
  rw [List.getElem?_eq_getElem (by omega)] at this
  exact ⟨_, this⟩
end
end Go.Proofs.YtbkkjlcclddpdaaGreatDoor

/- A law's entry: the arguments' readings as trees; and its end: true, and nothing that was there has changed. -/
namespace Go.Proofs.YtbkkjlcclddpdaaGreatDoor
open Go.ChangeShapes Go.WideShapes Go.ChangeAt Go.RowKit Go.Lib
theorem Tryz.own : ownKnob Tryz.prog.godebug = none := by kernel_rfl
theorem Tryz.laidOut : laidOutB Tryz.prog = true := by kernel_rfl
section
variable {H : Type} {enc : TypeId × Value → H} {P : Program}
theorem post_of_below {f : Func} {s : ChangeSpec} {apart fresh handsOn again : Bool} {W W' : World} {args : Array Value} {v : Value} {ds gs : List (DataW H)} {before pa pv : List MemPlace}
    (hW : DataW.Whole enc P f.params.toList s.vars apart W args.toList ds gs before)
    (hres : ∀ (b : Nat) (sp : Nat → Bool) (hd : Bool), DataW.TrodAll enc P W' b sp hd f.resultTypes.toList (v.resultList f.resultTypes.size) (s.fn H (ds ++ gs)).results [])
    (hargs : ∀ sp : Nat → Bool, (∀ p ∈ before, sp p.block = true) → DataW.TrodAll enc P W' 0 sp true f.params.toList args.toList (s.fn H (ds ++ gs)).args pa)
    (hvars : ∀ sp : Nat → Bool, (∀ p ∈ before, sp p.block = true) → DataW.TrodVars enc P W' sp s.vars (s.fn H (ds ++ gs)).vars pv)
    (hps : before = pa ++ pv) (hb : Below W.heap.size W W')
    (hok : ∀ (j : Nat) (t : TypeId) (r : Value), f.resultTypes[j]? = some t → (v.resultList f.resultTypes.size)[j]? = some r → Value.okWide P W' .any 0 t r) :
    s.post enc P f apart fresh handsOn again W args v W' := by
  have hlt : ∀ p ∈ before, p.block < W.heap.size := fun p hp => hW.lt p hp
  have hold : ∀ p ∈ before, (fun b => decide (b < W.heap.size)) p.block = true := fun p hp => by simpa using hlt p hp
  refine ⟨ds, gs, before, [], pa, pv, hW, hres _ _ _, hargs _ hold, hvars _ hold, World.keptBut_mono (fun p hp => ⟨hp, ?_⟩) (hb.frame (· ∈ before)), fun _ => ?_⟩
  · rw [hps, List.mem_append] at hp
    exact Or.inr hp
  · obtain ⟨_, _, _, _, _, hz, hn⟩ := hW
    refine ⟨hok, _, _, ([] ++ pa) ++ pv, ⟨[] ++ pa, pv, trodAll_append (hargs _ (fun _ _ => rfl)) (hres _ _ _), hvars _ (fun _ _ => rfl), rfl, ?_, ?_⟩, ?_⟩
    · intro b off hp
      have hin : MemPlace.cell b off ∈ before := by rw [hps]; simpa using hp
      rw [hb.frozen (hlt _ hin)]
      exact hz b off hin
    · intro ha
      have := hn ha
      rw [hps] at this
      simpa using this
    · intro p hp _
      rw [hps]
      simpa using hp
theorem args_stay (hl : laidOutB P = true) {W W' : World} {sp : Nat → Bool} (hb : Below W.heap.size W W') : ∀ {ts : List TypeId} {vs : List Value} {ds : List (DataW H)} {ps : List MemPlace},
    (∀ t ∈ ts, P.readableRec t = true ∧ t < P.types.size) → DataW.TrodAll enc P W 0 (fun _ => true) true ts vs ds ps → (∀ p ∈ ps, p.block < W.heap.size) → (∀ p ∈ ps, sp p.block = true) →
    DataW.TrodAll enc P W' 0 sp true ts vs ds ps
  | [], [], [], _, _, h, _, _ => h
  | [], _ :: _, _, _, _, h, _, _ => h.elim
  | [], [], _ :: _, _, _, h, _, _ => h.elim
  | _ :: _, [], _, _, _, h, _, _ => h.elim
  | _ :: _, _ :: _, [], _, _, h, _, _ => h.elim
  | t :: ts, v :: vs, d :: ds, ps, ht, h, hlt, hsp => by
    obtain ⟨p, q, h1, h2, rfl⟩ := h
    refine ⟨p, q, WideElems.Trod_stays hl (ht t (by simp)).1 (ht t (by simp)).2 h1 (fun x hx => hb.same (hlt x (by simp [hx]))) (fun x hx => hsp x (by simp [hx])), ?_, rfl⟩
    exact args_stay hl hb (fun t h => ht t (by simp [h])) h2 (fun x hx => hlt x (by simp [hx])) (fun x hx => hsp x (by simp [hx]))
theorem law_post (hl : laidOutB P = true) {f : Func} {s : ChangeSpec} {apart fresh handsOn again : Bool} {W W' : World} {args : Array Value} {ds gs : List (DataW H)} {before : List MemPlace} {tb : TypeId}
    (hW : DataW.Whole enc P f.params.toList s.vars apart W args.toList ds gs before) (hv : s.vars = []) (hs : s.fn H (ds ++ gs) = { results := [.lit (.bool true)], args := ds })
    (hrt : f.resultTypes = #[tb]) (htb : P.underlying tb = some .bool) (hts0 : (f.params.toList.all fun t => P.readableRec t && decide (t < P.types.size)) = true) (hb : Below W.heap.size W W') :
    s.post enc P f apart fresh handsOn again W args (.bool true) W' := by
  have hts : ∀ t ∈ f.params.toList, P.readableRec t = true ∧ t < P.types.size := by
    intro t ht
    have := List.all_eq_true.1 hts0 t ht
    simpa using this
  have hlt : ∀ p ∈ before, p.block < W.heap.size := fun p hp => hW.lt p hp
  have hW2 := hW
  obtain ⟨p, q, hA, hV, rfl, -, -⟩ := hW
  rw [hv] at hV
  obtain ⟨rfl, rfl⟩ := trodVars_none hV
  refine post_of_below (pa := p) (pv := []) hW2 ?_ ?_ ?_ (by simp) hb ?_
  · intro b sp hd
    rw [hs, hrt]
    exact trodAll_mk1 ⟨1, by simp [DataW.trod, Value.cells, htb]⟩
  · intro sp hsp
    rw [hs]
    exact args_stay hl hb hts hA (fun x hx => hlt x (by simp [hx])) (fun x hx => hsp x (by simp [hx]))
  · intro sp hsp
    rw [hs, hv]
    exact rfl
  · intro j t r hj hr
    rw [hrt] at hj hr
    obtain rfl : j = 0 := by
      have := (Array.getElem?_eq_some_iff.1 hj).1
      simpa using this
    simp at hj
    subst hj
    have : r = .bool true := by simpa [Value.resultList] using hr.symm
    subst this
    simp [Value.okWide, htb, Cell.okWide, Cell.ok]
variable {w w0 : World} {sp : Nat → Bool} {hd : Bool} {b0 : Nat} {t : TypeId} {v : Value} {d : DataW H} {ps : List MemPlace}
theorem par_sl {e : TypeId} (ht : P.underlying t = some (.slice e)) (hval : Value.okWide P w0 .any b0 t v) (h : DataW.Trod enc P w 0 sp hd t v d ps) {α : Type} {f : α → D} (hf : ∀ N, Trods enc P w sp hd t f N) : ∃ x, Rd w Any (f x) [v] := by
  obtain ⟨a, len, cap, rfl⟩ := okWide_slice ht hval
  obtain ⟨fuel, h⟩ := h
  exact hf (fuel + 1) fuel _ _ (by omega) h
end
end Go.Proofs.YtbkkjlcclddpdaaGreatDoor

/- Lifting a law whose row lists variables: the world's shape and what the variables hold, both handed on. -/
namespace Go.Proofs.YtbkkjlcclddpdaaGreatDoor
open Go.ChangeShapes Go.WideShapes Go.ChangeAt Go.RowKit Go.Lib
section
variable {H : Type} {enc : TypeId × Value → H}
end
end Go.Proofs.YtbkkjlcclddpdaaGreatDoor
