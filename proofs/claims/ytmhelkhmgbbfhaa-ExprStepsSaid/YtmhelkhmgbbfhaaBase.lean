/- Universal readings of plain Go data (ints, bools, strings, structs, slices) as trees, and how they are kept while the heap grows. -/
import Derived.WalkKit
import Derived.WalkSpells
import Derived.WalkLawsBesides
import Derived.Deep.LoopGhost
import Derived.Lib.Hide
import Derived.Deep.Draws
import Derived.Deep.Slices
import Derived.WalkSmall
namespace Go.Proofs.Ytmhelkhmgbbfhaa
open Go.RowKit Go.Lib

/-- Plain data as a tree. -/
inductive D where
  | int (n : Int)
  | bool (b : Bool)
  | str (s : ByteArray)
  | st (l : List D)
  | sl (l : List D)

mutual
def D.width : D → Nat
  | .int _ => 1
  | .bool _ => 1
  | .str _ => 1
  | .sl _ => 1
  | .st l => D.widths l
def D.widths : List D → Nat
  | [] => 0
  | d :: l => d.width + D.widths l
end

/-- the cells from (b, off) on are cs -/
def CellsAt (w : World) (b off : Nat) : List Value → Prop
  | [] => True
  | v :: cs => w.cell? ⟨b, off, none⟩ = some v ∧ CellsAt w b (off + 1) cs

mutual
/-- The cells cs read as d; every block that is read beyond them lies in S. -/
def Rd (w : World) (S : Nat → Prop) : D → List Value → Prop
  | .int n, cs => cs = [.int .i64 n]
  | .bool b, cs => cs = [.bool b]
  | .str s, cs => cs = [.string s]
  | .st l, cs => RdS w S l cs
  | .sl l, cs => ∃ A cap b off, cs = [.slice A l.length cap] ∧ l.length ≤ cap ∧ cap ≤ 9223372036854775807 ∧ (0 < l.length → A = some ⟨b, off, none⟩ ∧ S b) ∧ RdM w S l b off
def RdS (w : World) (S : Nat → Prop) : List D → List Value → Prop
  | [], cs => cs = []
  | d :: l, cs => ∃ c1 c2, cs = c1 ++ c2 ∧ Rd w S d c1 ∧ RdS w S l c2
/-- The memory from (b, off) on reads as the list. -/
def RdM (w : World) (S : Nat → Prop) : List D → Nat → Nat → Prop
  | [], _, _ => True
  | d :: l, b, off => (∃ cs, CellsAt w b off cs ∧ Rd w S d cs) ∧ RdM w S l b (off + d.width)
end

mutual
theorem Rd.length {w : World} {S : Nat → Prop} : ∀ (d : D) (cs : List Value), Rd w S d cs → cs.length = d.width
  | .int _, _, h => by rw [Rd] at h; subst h; rfl
  | .bool _, _, h => by rw [Rd] at h; subst h; rfl
  | .str _, _, h => by rw [Rd] at h; subst h; rfl
  | .st l, cs, h => by rw [Rd] at h; rw [D.width]; exact RdS.length l cs h
  | .sl _, _, h => by rw [Rd] at h; obtain ⟨A, cap, b, off, rfl, _⟩ := h; rfl
theorem RdS.length {w : World} {S : Nat → Prop} : ∀ (l : List D) (cs : List Value), RdS w S l cs → cs.length = D.widths l
  | [], _, h => by rw [RdS] at h; subst h; rfl
  | d :: l, cs, h => by
    rw [RdS] at h; obtain ⟨c1, c2, rfl, h1, h2⟩ := h
    rw [List.length_append, Rd.length d c1 h1, RdS.length l c2 h2, D.widths]
end

/-- w' holds what w holds in the blocks of S. -/
def Keeps (S : Nat → Prop) (w w' : World) : Prop := ∀ b, S b → b < w.heap.size → w'.heap[b]? = w.heap[b]?

theorem Keeps.cell {S : Nat → Prop} {w w' : World} (h : Keeps S w w') {b off : Nat} {v : Value} (hs : S b) (hc : w.cell? ⟨b, off, none⟩ = some v) : w'.cell? ⟨b, off, none⟩ = some v :=
  (World.cell?_of_block (w := w) (w' := w') (a := ⟨b, off, none⟩) (h b hs (World.block_lt_of_cell? w _ hc))).trans hc

theorem CellsAt.keep {S : Nat → Prop} {w w' : World} (h : Keeps S w w') {b : Nat} (hs : S b) : ∀ (off : Nat) (cs : List Value), CellsAt w b off cs → CellsAt w' b off cs
  | _, [], _ => trivial
  | off, _ :: cs, hc => ⟨h.cell hs hc.1, CellsAt.keep h hs (off + 1) cs hc.2⟩

mutual
theorem Rd.keep {S S' : Nat → Prop} {w w' : World} (h : Keeps S w w') (hS : ∀ b, S b → S' b) : ∀ (d : D) (cs : List Value), Rd w S d cs → Rd w' S' d cs
  | .int _, _, hr => hr
  | .bool _, _, hr => hr
  | .str _, _, hr => hr
  | .st l, cs, hr => by rw [Rd] at hr ⊢; exact RdS.keep h hS l cs hr
  | .sl l, cs, hr => by
    rw [Rd] at hr ⊢
    obtain ⟨A, cap, b, off, h1, h2, h3, h4, h5⟩ := hr
    refine ⟨A, cap, b, off, h1, h2, h3, fun hl => ⟨(h4 hl).1, hS _ (h4 hl).2⟩, ?_⟩
    cases l with
    | nil => rw [RdM]; trivial
    | cons d l => exact RdM.keep h hS (d :: l) b off (h4 (by simp)).2 h5
theorem RdS.keep {S S' : Nat → Prop} {w w' : World} (h : Keeps S w w') (hS : ∀ b, S b → S' b) : ∀ (l : List D) (cs : List Value), RdS w S l cs → RdS w' S' l cs
  | [], _, hr => hr
  | d :: l, cs, hr => by
    rw [RdS] at hr ⊢
    obtain ⟨c1, c2, h1, h2, h3⟩ := hr
    exact ⟨c1, c2, h1, Rd.keep h hS d c1 h2, RdS.keep h hS l c2 h3⟩
theorem RdM.keep {S S' : Nat → Prop} {w w' : World} (h : Keeps S w w') (hS : ∀ b, S b → S' b) : ∀ (l : List D) (b off : Nat), S b → RdM w S l b off → RdM w' S' l b off
  | [], _, _, _, _ => by rw [RdM]; trivial
  | d :: l, b, off, hb, hr => by
    rw [RdM] at hr ⊢
    obtain ⟨⟨cs, h1, h2⟩, h3⟩ := hr
    exact ⟨⟨cs, h1.keep h hb, Rd.keep h hS d cs h2⟩, RdM.keep h hS l b _ hb h3⟩
end

theorem RdM.get {w : World} {S : Nat → Prop} {sz : Nat} : ∀ (l : List D) (b off : Nat), RdM w S l b off → (∀ d ∈ l, d.width = sz) → ∀ i (h : i < l.length), ∃ cs, CellsAt w b (off + i * sz) cs ∧ Rd w S l[i] cs
  | [], _, _, _, _, _, h => absurd h (by simp)
  | d :: l, b, off, hr, hw, i, hi => by
    rw [RdM] at hr
    cases i with
    | zero => simpa using hr.1
    | succ i =>
      have hd : d.width = sz := hw d (by simp)
      have := RdM.get l b (off + d.width) hr.2 (fun x hx => hw x (by simp [hx])) i (by simpa using hi)
      rw [hd] at this
      rw [show off + (i + 1) * sz = off + sz + i * sz by rw [Nat.succ_mul]; omega]
      exact this

/-- A slice value with its elements: what a contract takes of a slice. -/
theorem Keeps.refl (S : Nat → Prop) (w : World) : Keeps S w w := fun _ _ _ => rfl
theorem Keeps.of_below {S : Nat → Prop} {w w' : World} {B : Nat} (h : Below B w w') (hS : ∀ b, S b → b < w.heap.size → b < B) : Keeps S w w' := fun b hs hlt => h.block b (hS b hs hlt)
theorem Below.keeps {S : Nat → Prop} {w w' : World} (h : Below w.heap.size w w') : Keeps S w w' := fun b _ hlt => h.block b hlt

/-- What a call hands on: nothing that was there has turned. -/
abbrev Ext (w w' : World) : Prop := Below w.heap.size w w'
theorem Ext.refl (w : World) : Ext w w := Below.refl _ _
theorem Ext.trans {a b c : World} (h : Ext a b) (k : Ext b c) : Ext a c := Below.trans h (k.mono h.size)

theorem Ext.alloc {a b : World} (h : Ext a b) (o : Obj) : Ext a (b.alloc o) := Below.alloc h h.size o
theorem Ext.drew {a b : World} (h : Ext a b) : Ext a b.drew := Below.drew h
theorem Ext.drewN {a b : World} (h : Ext a b) (n : Nat) : Ext a (b.drewN n) := below_drewN h n
theorem Ext.setCell {a b : World} (h : Ext a b) {p : Addr} (hp : a.heap.size ≤ p.block) (u : Value) : Ext a (b.setCell p u) := Below.setCell h hp u
theorem Ext.cells {W w1 : World} (h : Ext W w1) : ∀ b o, b < W.heap.size → w1.cell? ⟨b, o, none⟩ = W.cell? ⟨b, o, none⟩ := fun b o hb => Below.cell (p := ⟨b, o, none⟩) h hb
theorem Ext.at {W w1 : World} (h : Ext W w1) {p : Addr} {v : Value} (hc : W.cell? p = some v) : w1.cell? p = some v := (Below.cell h (World.block_lt_of_cell? W _ hc)).trans hc
theorem Ext.frozens {W w1 : World} (h : Ext W w1) : ∀ b o, b < W.heap.size → w1.frozen? ⟨b, o, none⟩ = W.frozen? ⟨b, o, none⟩ := fun b o hb => Below.frozen (p := ⟨b, o, none⟩) h hb
theorem Rd.ext {S : Nat → Prop} {w w' : World} {d : D} {cs : List Value} (hr : Rd w S d cs) (h : Ext w w') : Rd w' S d cs := Rd.keep (Below.keeps h) (fun _ h => h) d cs hr
theorem RdM.ext {S : Nat → Prop} {w w' : World} {l : List D} {b off : Nat} (hr : RdM w S l b off) (hb : 0 < l.length → S b) (h : Ext w w') : RdM w' S l b off := by
  cases l with
  | nil => rw [RdM]; trivial
  | cons d l => exact RdM.keep (Below.keeps h) (fun _ h => h) _ b off (hb (by simp)) hr

theorem ints_at {w : World} {S : Nat → Prop} {l : List Int} {b off : Nat} (hm : RdM w S (l.map D.int) b off) {k : Nat} (hk : k < l.length) : w.cell? ⟨b, off + k, none⟩ = some (.int .i64 l[k]) := by
  obtain ⟨cs, hc, hr⟩ := RdM.get (sz := 1) _ b off hm (by intro d hd; obtain ⟨x, -, rfl⟩ := List.mem_map.1 hd; rfl) k (by simpa using hk)
  rw [List.getElem_map, Rd] at hr
  subst hr
  simpa [CellsAt] using hc
theorem strs_at {w : World} {S : Nat → Prop} {l : List ByteArray} {b off : Nat} (hm : RdM w S (l.map D.str) b off) {k : Nat} (hk : k < l.length) : w.cell? ⟨b, off + k, none⟩ = some (.string l[k]) := by
  obtain ⟨cs, hc, hr⟩ := RdM.get (sz := 1) _ b off hm (by intro d hd; obtain ⟨x, -, rfl⟩ := List.mem_map.1 hd; rfl) k (by simpa using hk)
  rw [List.getElem_map, Rd] at hr
  subst hr
  simpa [CellsAt] using hc
/-- a slice value opened -/
theorem Rd.sl_open {w : World} {S : Nat → Prop} {l : List D} {v : Value} (h : Rd w S (.sl l) [v]) : ∃ (A : Option Addr) (cap b off : Nat), v = .slice A l.length cap ∧ l.length ≤ cap ∧ cap ≤ 9223372036854775807 ∧ (0 < l.length → A = some ⟨b, off, none⟩ ∧ S b) ∧ RdM w S l b off := by
  rw [Rd] at h
  obtain ⟨A, cap, b, off, h1, h2⟩ := h
  exact ⟨A, cap, b, off, by simpa using h1, h2⟩
theorem Rd.sl_mk {w : World} {S : Nat → Prop} {l : List D} {A : Option Addr} {n cap b off : Nat} (hn : n = l.length) (h1 : l.length ≤ cap) (h2 : cap ≤ 9223372036854775807) (h3 : 0 < l.length → A = some ⟨b, off, none⟩ ∧ S b) (h4 : RdM w S l b off) : Rd w S (.sl l) [.slice A n cap] := by
  rw [Rd]; exact ⟨A, cap, b, off, by rw [hn], h1, h2, h3, h4⟩
theorem ret_int {k : IntKind} {a b : Int} (h : a = b) : Ending.returned (.int k a) = .returned (.int k b) := by rw [h]
theorem ret_bool {a b : Bool} (h : a = b) : Ending.returned (.bool a) = .returned (.bool b) := by rw [h]
/-- any block -/
def Any : Nat → Prop := fun _ => True
theorem any (b : Nat) : Any b := trivial

theorem Rd.any {S : Nat → Prop} {w : World} {d : D} {cs : List Value} (hr : Rd w S d cs) : Rd w Any d cs := Rd.keep (Keeps.refl S w) (fun _ _ => trivial) d cs hr

end Go.Proofs.Ytmhelkhmgbbfhaa
