/- Universal readings of plain Go data (ints, bools, strings, structs, slices) as trees, and how they are kept while the heap grows. -/
import Derived.WalkKit
import Derived.WalkSpells
import Derived.WalkLawsBesides
import Derived.Deep.LoopGhost
import Derived.Lib.Hide
import Derived.Deep.Draws
import Derived.Deep.Slices
import Derived.WalkSmall
import Derived.Deep.QuietTactic
import Derived.BigQuiet
import Derived.StillTail
import Derived.OrdersHeld
import Derived.Deep.RegionHeld3
set_option linter.unusedSimpArgs false
set_option linter.unusedVariables false
namespace Go.Proofs.YtnkimlkoijfcpaaGreatDoor
open Go.RowKit Go.Lib
inductive D where
  | int (n : Int)
  | bool (b : Bool)
  | str (s : ByteArray)
  | st (l : List D)
  | sl (l : List D)
mutual
def D.width : D → Nat
  | .int _ => 1
  | .bool _ => 1
  | .str _ => 1
  | .sl _ => 1
  | .st l => D.widths l
def D.widths : List D → Nat
  | [] => 0
  | d :: l => d.width + D.widths l
end
def qbd (w : World) (b off : Nat) : List Value → Prop
  | [] => True
  | v :: cs => w.cell? ⟨b, off, none⟩ = some v ∧ qbd w b (off + 1) cs
mutual
def Rd (w : World) (S : Nat → Prop) : D → List Value → Prop
  | .int n, cs => cs = [.int .i64 n]
  | .bool b, cs => cs = [.bool b]
  | .str s, cs => cs = [.string s]
  | .st l, cs => RdS w S l cs
  | .sl l, cs => ∃ A cap b off, cs = [.slice A l.length cap] ∧ l.length ≤ cap ∧ cap ≤ 9223372036854775807 ∧ (0 < l.length → A = some ⟨b, off, none⟩ ∧ S b) ∧ RdM w S l b off
def RdS (w : World) (S : Nat → Prop) : List D → List Value → Prop
  | [], cs => cs = []
  | d :: l, cs => ∃ c1 c2, cs = c1 ++ c2 ∧ Rd w S d c1 ∧ RdS w S l c2
def RdM (w : World) (S : Nat → Prop) : List D → Nat → Nat → Prop
  | [], _, _ => True
  | d :: l, b, off => (∃ cs, qbd w b off cs ∧ Rd w S d cs) ∧ RdM w S l b (off + d.width)
end
mutual
theorem Rd.length {w : World} {S : Nat → Prop} : ∀ (d : D) (cs : List Value), Rd w S d cs → cs.length = d.width
  | .int _, _, h => by rw [Rd] at h; subst h; rfl
  | .bool _, _, h => by rw [Rd] at h; subst h; rfl
  | .str _, _, h => by rw [Rd] at h; subst h; rfl
  | .st l, cs, h => by rw [Rd] at h; rw [D.width]; exact RdS.length l cs h
  | .sl _, _, h => by rw [Rd] at h; obtain ⟨A, cap, b, off, rfl, _⟩ := h; rfl
theorem RdS.length {w : World} {S : Nat → Prop} : ∀ (l : List D) (cs : List Value), RdS w S l cs → cs.length = D.widths l
  | [], _, h => by rw [RdS] at h; subst h; rfl
  | d :: l, cs, h => by
    rw [RdS] at h; obtain ⟨c1, c2, rfl, h1, h2⟩ := h
    rw [List.length_append, Rd.length d c1 h1, RdS.length l c2 h2, D.widths]
end
def Keeps (S : Nat → Prop) (w w' : World) : Prop := ∀ b, S b → b < w.heap.size → w'.heap[b]? = w.heap[b]?
theorem Keeps.cell {S : Nat → Prop} {w w' : World} (h : Keeps S w w') {b off : Nat} {v : Value} (hs : S b) (hc : w.cell? ⟨b, off, none⟩ = some v) : w'.cell? ⟨b, off, none⟩ = some v :=
  (World.cell?_of_block (w := w) (w' := w') (a := ⟨b, off, none⟩) (h b hs (World.block_lt_of_cell? w _ hc))).trans hc
theorem qbd.keep {S : Nat → Prop} {w w' : World} (h : Keeps S w w') {b : Nat} (hs : S b) : ∀ (off : Nat) (cs : List Value), qbd w b off cs → qbd w' b off cs
  | _, [], _ => trivial
  | off, _ :: cs, hc => ⟨h.cell hs hc.1, qbd.keep h hs (off + 1) cs hc.2⟩
mutual
theorem Rd.keep {S S' : Nat → Prop} {w w' : World} (h : Keeps S w w') (hS : ∀ b, S b → S' b) : ∀ (d : D) (cs : List Value), Rd w S d cs → Rd w' S' d cs
  | .int _, _, hr => hr
  | .bool _, _, hr => hr
  | .str _, _, hr => hr
  | .st l, cs, hr => by rw [Rd] at hr ⊢; exact RdS.keep h hS l cs hr
  | .sl l, cs, hr => by
    rw [Rd] at hr ⊢
    obtain ⟨A, cap, b, off, h1, h2, h3, h4, h5⟩ := hr
    refine ⟨A, cap, b, off, h1, h2, h3, fun hl => ⟨(h4 hl).1, hS _ (h4 hl).2⟩, ?_⟩
    cases l with
    | nil => rw [RdM]; trivial
    | cons d l => exact RdM.keep h hS (d :: l) b off (h4 (by simp)).2 h5
theorem RdS.keep {S S' : Nat → Prop} {w w' : World} (h : Keeps S w w') (hS : ∀ b, S b → S' b) : ∀ (l : List D) (cs : List Value), RdS w S l cs → RdS w' S' l cs
  | [], _, hr => hr
  | d :: l, cs, hr => by
    rw [RdS] at hr ⊢
    obtain ⟨c1, c2, h1, h2, h3⟩ := hr
    exact ⟨c1, c2, h1, Rd.keep h hS d c1 h2, RdS.keep h hS l c2 h3⟩
theorem RdM.keep {S S' : Nat → Prop} {w w' : World} (h : Keeps S w w') (hS : ∀ b, S b → S' b) : ∀ (l : List D) (b off : Nat), S b → RdM w S l b off → RdM w' S' l b off
  | [], _, _, _, _ => by rw [RdM]; trivial
  | d :: l, b, off, hb, hr => by
    rw [RdM] at hr ⊢
    obtain ⟨⟨cs, h1, h2⟩, h3⟩ := hr
    exact ⟨⟨cs, h1.keep h hb, Rd.keep h hS d cs h2⟩, RdM.keep h hS l b _ hb h3⟩
end
theorem RdM.get {w : World} {S : Nat → Prop} {sz : Nat} : ∀ (l : List D) (b off : Nat), RdM w S l b off → (∀ d ∈ l, d.width = sz) → ∀ i (h : i < l.length), ∃ cs, qbd w b (off + i * sz) cs ∧ Rd w S l[i] cs
  | [], _, _, _, _, _, h => absurd h (by simp)
  | d :: l, b, off, hr, hw, i, hi => by
    rw [RdM] at hr
    cases i with
    | zero => simpa using hr.1
    | succ i =>
      have hd : d.width = sz := hw d (by simp)
      have := RdM.get l b (off + d.width) hr.2 (fun x hx => hw x (by simp [hx])) i (by simpa using hi)
      rw [hd] at this
      rw [show off + (i + 1) * sz = off + sz + i * sz by rw [Nat.succ_mul]; omega]
      exact this
theorem Keeps.refl (S : Nat → Prop) (w : World) : Keeps S w w := fun _ _ _ => rfl
theorem Below.keeps {S : Nat → Prop} {w w' : World} (h : Below w.heap.size w w') : Keeps S w w' := fun b _ hlt => h.block b hlt
abbrev Ext (w w' : World) : Prop := Below w.heap.size w w'
theorem Ext.refl (w : World) : Ext w w := Below.refl _ _
theorem Ext.trans {a b c : World} (h : Ext a b) (k : Ext b c) : Ext a c := Below.trans h (k.mono h.size)
theorem Ext.alloc {a b : World} (h : Ext a b) (o : Obj) : Ext a (b.alloc o) := Below.alloc h h.size o
theorem Ext.drew {a b : World} (h : Ext a b) : Ext a b.drew := Below.drew h
theorem Ext.drewN {a b : World} (h : Ext a b) (n : Nat) : Ext a (b.drewN n) := ⟨h.os, h.tape, h.output, h.size, h.block⟩
theorem Ext.setCell {a b : World} (h : Ext a b) {p : Addr} (hp : a.heap.size ≤ p.block) (u : Value) : Ext a (b.setCell p u) := Below.setCell h hp u
theorem Ext.cells {W w1 : World} (h : Ext W w1) : ∀ b o, b < W.heap.size → w1.cell? ⟨b, o, none⟩ = W.cell? ⟨b, o, none⟩ := fun b o hb => Below.cell (p := ⟨b, o, none⟩) h hb
theorem Ext.at {W w1 : World} (h : Ext W w1) {p : Addr} {v : Value} (hc : W.cell? p = some v) : w1.cell? p = some v := (Below.cell h (World.block_lt_of_cell? W _ hc)).trans hc
theorem Ext.frozens {W w1 : World} (h : Ext W w1) : ∀ b o, b < W.heap.size → w1.frozen? ⟨b, o, none⟩ = W.frozen? ⟨b, o, none⟩ := fun b o hb => Below.frozen (p := ⟨b, o, none⟩) h hb
theorem Rd.ext {S : Nat → Prop} {w w' : World} {d : D} {cs : List Value} (hr : Rd w S d cs) (h : Ext w w') : Rd w' S d cs := Rd.keep (Below.keeps h) (fun _ h => h) d cs hr
theorem RdM.ext {S : Nat → Prop} {w w' : World} {l : List D} {b off : Nat} (hr : RdM w S l b off) (hb : 0 < l.length → S b) (h : Ext w w') : RdM w' S l b off := by
  cases l with
  | nil => rw [RdM]; trivial
  | cons d l => exact RdM.keep (Below.keeps h) (fun _ h => h) _ b off (hb (by simp)) hr
theorem ints_at {w : World} {S : Nat → Prop} {l : List Int} {b off : Nat} (hm : RdM w S (l.map D.int) b off) {k : Nat} (hk : k < l.length) : w.cell? ⟨b, off + k, none⟩ = some (.int .i64 l[k]) := by
  obtain ⟨cs, hc, hr⟩ := RdM.get (sz := 1) _ b off hm (by intro d hd; obtain ⟨x, -, rfl⟩ := List.mem_map.1 hd; rfl) k (by simpa using hk)
  rw [List.getElem_map, Rd] at hr
  subst hr
  simpa [qbd] using hc
theorem Rd.sl_open {w : World} {S : Nat → Prop} {l : List D} {v : Value} (h : Rd w S (.sl l) [v]) : ∃ (A : Option Addr) (cap b off : Nat), v = .slice A l.length cap ∧ l.length ≤ cap ∧ cap ≤ 9223372036854775807 ∧ (0 < l.length → A = some ⟨b, off, none⟩ ∧ S b) ∧ RdM w S l b off := by
  rw [Rd] at h
  obtain ⟨A, cap, b, off, h1, h2⟩ := h
  exact ⟨A, cap, b, off, by simpa using h1, h2⟩
theorem Rd.sl_mk {w : World} {S : Nat → Prop} {l : List D} {A : Option Addr} {n cap b off : Nat} (hn : n = l.length) (h1 : l.length ≤ cap) (h2 : cap ≤ 9223372036854775807) (h3 : 0 < l.length → A = some ⟨b, off, none⟩ ∧ S b) (h4 : RdM w S l b off) : Rd w S (.sl l) [.slice A n cap] := by
  rw [Rd]; exact ⟨A, cap, b, off, by rw [hn], h1, h2, h3, h4⟩
theorem ret_int {k : IntKind} {a b : Int} (h : a = b) : Ending.returned (.int k a) = .returned (.int k b) := by rw [h]
theorem qbk {a b : Bool} (h : a = b) : Ending.returned (.bool a) = .returned (.bool b) := by rw [h]
def Any : Nat → Prop := fun _ => True
theorem any (b : Nat) : Any b := trivial
theorem Rd.any {S : Nat → Prop} {w : World} {d : D} {cs : List Value} (hr : Rd w S d cs) : Rd w Any d cs := Rd.keep (Keeps.refl S w) (fun _ _ => trivial) d cs hr
end Go.Proofs.YtnkimlkoijfcpaaGreatDoor

/- Slices that a call builds by append: what they own, and one append. -/
namespace Go.Proofs.YtnkimlkoijfcpaaGreatDoor
open Go.RowKit Go.Lib
theorem cells_new (W : World) (cs : Array Value) (et : TypeId) : ∀ j u, cs.toList[j]? = some u → (W.alloc (.cells cs et)).cell? ((⟨W.heap.size, 0, none⟩ : Addr).add j) = some u := by
  intro j u hu
  have h1 : (W.alloc (.cells cs et)).heap[W.heap.size]? = some (.cells cs et (0, 0)) := heap_alloc_new W _
  have h2 : ((⟨W.heap.size, 0, none⟩ : Addr).add j) = ⟨W.heap.size, j, none⟩ := by
    unfold Addr.add; split
    · rename_i h; subst h; rfl
    · simp
  rw [h2]
  simp only [World.cell?, h1]
  simpa using hu
theorem wp_append1 {P : Program} {ops : Array Oper} {rest : List Oper} {o : Oper} {a : Act} {Q : Exit → Act → World → Prop} (W : World) (cs : Array Value) (et : TypeId)
    (hgd : o.guard = none) (s x : Operand) (t : TypeId) (ho : o.op = .call { callee := .builtin .append, args := #[s, x], argTypes := #[t, t] })
    (B : Nat) (e : TypeId) (size bytes : Nat) (z : Value) (ht : P.underlying t = some (.slice e)) (hinfo : (P.info? e).map (fun i => (i.zero, i.size, i.bytes)) = some (some z, size, bytes))
    (hz : z.cells.size = size) (hsz : 0 < size) (hby : 0 < bytes)
    (v : Value) (n : Nat) (xs : List Value) (hs : a.eval s = v) (hown : W.ownsRow B e size v n xs) (hx : a.eval x = .slice (some ⟨W.heap.size, 0, none⟩) 1 1) (hcs : cs.size = size) (h1 : ∀ u ∈ cs.toList, u.oneCell' = true)
    (hb : (n + 1) * bytes ≤ 140737488355328) (hB : B ≤ W.heap.size)
    (h : ∀ v' w', w'.ownsRow B e size v' (n + 1) (xs ++ cs.toList) → W.grownBy w' v.ownBlock → v' ≠ .slice none 0 0 → wpList P ops Q rest (a.put o.dst v') w') : wpList P ops Q (o :: rest) a (W.alloc (.cells cs et)) := by
  obtain ⟨i, hi, hz0, hz1, hz2⟩ := info_parts hinfo
  have hbb : n + 1 ≤ 140737488355328 := Nat.le_trans (Nat.le_mul_of_pos_right _ hby) hb
  refine wpList_append_own (W.alloc (.cells cs et)) hgd s x t ho B e i z size bytes ht hi hz0 hz1 hz2 hz hsz v n xs hs (hown.alloc _) ⟨W.heap.size, 0, none⟩ 1 1 cs.toList hx (by simpa using hcs) (cells_new W cs et) h1
    (by unfold maxLen; omega) hb (by simp; omega) ?_
  intro v' w' h2 h3 h4
  refine h v' w' h2 ?_ (fun e => by have := h4.1 e; omega)
  have h5 := World.grownBy_alloc W (.cells cs et) v.ownBlock
  exact ⟨h3.os.trans h5.os, h3.tape.trans h5.tape, h3.output.trans h5.output, Nat.le_trans h5.size h3.size, fun k hk hne => (h3.block k (Nat.lt_of_lt_of_le hk h5.size) hne).trans (h5.block k hk hne)⟩
theorem Ext.grown {w W w' : World} {B : Nat} {e : TypeId} {size n : Nat} {v : Value} {xs : List Value} (h : Ext w W) (hown : W.ownsRow B e size v n xs) (hB : w.heap.size ≤ B) (hg : W.grownBy w' v.ownBlock) : Ext w w' :=
  Below.grown h hg h.size (fun k hk => Nat.le_trans hB (hown.lt k hk).1)
theorem own_ext {w w' : World} {B : Nat} {e : TypeId} {size n : Nat} {v : Value} {xs : List Value} (h : w.ownsRow B e size v n xs) (he : Ext w w') : w'.ownsRow B e size v n xs := by
  refine ⟨h.1, ?_⟩
  rcases h.2 with h2 | ⟨g, cap, cur, hv, hg, hh, r⟩
  · exact Or.inl h2
  · exact Or.inr ⟨g, cap, cur, hv, hg, (he.block g (Array.getElem?_eq_some_iff.1 hh).1).trans hh, r⟩
theorem cellsAt_of {w : World} {g : Nat} : ∀ (cs : List Value) (off : Nat), (∀ j u, cs[j]? = some u → w.cell? ⟨g, off + j, none⟩ = some u) → qbd w g off cs
  | [], _, _ => trivial
  | v :: cs, off, h => ⟨by simpa using h 0 v rfl, cellsAt_of cs (off + 1) fun j u hu => by
      have := h (j + 1) u (by simpa using hu)
      rwa [show off + (j + 1) = off + 1 + j by omega] at this⟩
theorem rdM_of {w : World} {S : Nat → Prop} {g : Nat} : ∀ (l : List D) (xs : List Value) (off : Nat), RdS w S l xs → (∀ j u, xs[j]? = some u → w.cell? ⟨g, off + j, none⟩ = some u) → RdM w S l g off
  | [], _, _, _, _ => by rw [RdM]; trivial
  | d :: l, xs, off, h, hc => by
    rw [RdS] at h
    obtain ⟨c1, c2, rfl, h1, h2⟩ := h
    rw [RdM]
    have hlen := Rd.length d c1 h1
    refine ⟨⟨c1, cellsAt_of c1 off fun j u hu => hc j u ?_, h1⟩, rdM_of l c2 (off + d.width) h2 fun j u hu => ?_⟩
    · have hj : j < c1.length := (List.getElem?_eq_some_iff.1 hu).1
      rw [List.getElem?_append_left hj]; exact hu
    · have := hc (c1.length + j) u (by rw [List.getElem?_append_right (by omega)]; simpa using hu)
      rwa [← Nat.add_assoc, hlen] at this
theorem own_rd {w : World} {S S' : Nat → Prop} {B : Nat} {e : TypeId} {size : Nat} {v : Value} {l : List D} {xs : List Value} (h : w.ownsRow B e size v l.length xs) (hr : RdS w S l xs)
    (hS : ∀ b, S b → S' b) (hS2 : ∀ b, v.ownBlock = some b → S' b) : Rd w S' (.sl l) [v] := by
  have hr' := RdS.keep (Keeps.refl S w) hS l xs hr
  rcases h.2 with ⟨rfl, h0⟩ | ⟨g, cap, cur, rfl, hb, hg, h1, h2, h3, h4⟩
  · refine Rd.sl_mk (b := 0) (off := 0) (by simp [h0]) (by simp [h0]) (by omega) (by simp [h0]) ?_
    have : l = [] := List.eq_nil_of_length_eq_zero h0
    subst this; rw [RdM]; trivial
  · refine Rd.sl_mk (b := g) (off := 0) rfl h1 (by simpa [maxLen] using h2) (fun _ => ⟨rfl, hS2 g rfl⟩) (rdM_of l xs 0 hr' ?_)
    intro j u hu
    have := h.cells (g := g) rfl j u hu
    have e2 : ((⟨g, 0, none⟩ : Addr).add j) = ⟨g, 0 + j, none⟩ := by
      unfold Addr.add; split
      · rename_i h; subst h; rfl
      · rfl
    rwa [e2] at this
theorem rdS_ints (w : World) (S : Nat → Prop) : ∀ l : List Int, RdS w S (l.map D.int) (l.map (Value.int .i64))
  | [] => by rw [List.map_nil, RdS, List.map_nil]
  | x :: l => by rw [List.map_cons, RdS]; exact ⟨[.int .i64 x], _, rfl, by rw [Rd], rdS_ints w S l⟩
theorem own_ints {w : World} {S : Nat → Prop} {B : Nat} {e : TypeId} {v : Value} {l : List Int} (h : w.ownsRow B e 1 v l.length (l.map (Value.int .i64))) (hS : ∀ b, v.ownBlock = some b → S b) : Rd w S (.sl (l.map D.int)) [v] :=
  own_rd (l := l.map D.int) (S := S) (by simpa using h) (rdS_ints w S l) (fun _ h => h) hS
theorem RdS.append {w : World} {S : Nat → Prop} : ∀ (l : List D) (xs : List Value) (d : D) (cs : List Value), RdS w S l xs → Rd w S d cs → RdS w S (l ++ [d]) (xs ++ cs)
  | [], xs, d, cs, h, hd => by
    rw [RdS] at h; subst h
    rw [List.nil_append, List.nil_append, RdS]
    exact ⟨cs, [], by simp, hd, by rw [RdS]⟩
  | y :: l, xs, d, cs, h, hd => by
    rw [RdS] at h
    obtain ⟨c1, c2, rfl, h1, h2⟩ := h
    rw [List.cons_append, RdS]
    exact ⟨c1, c2 ++ cs, by simp, h1, RdS.append l c2 d cs h2 hd⟩
theorem RdS.ext {S : Nat → Prop} {w w' : World} {l : List D} {cs : List Value} (hr : RdS w S l cs) (h : Ext w w') : RdS w' S l cs := RdS.keep (Below.keeps h) (fun _ h => h) l cs hr
end Go.Proofs.YtnkimlkoijfcpaaGreatDoor

/- What is known of the variables of the program, in every world: nobody writes them. -/
namespace Go.Proofs.YtnkimlkoijfcpaaGreatDoor
def qbb : List Value := [.string ⟨#[105, 110, 116]⟩, .string ⟨#[116, 101, 120, 116]⟩, .string ⟨#[98, 111, 111, 108]⟩, .string ⟨#[99, 111, 108]⟩, .string ⟨#[]⟩, .string ⟨#[116, 105, 109, 101]⟩, .string ⟨#[110, 111, 116]⟩, .string ⟨#[110, 101, 103]⟩, .string ⟨#[97, 100, 100]⟩, .string ⟨#[115, 117, 98]⟩, .string ⟨#[109, 117, 108]⟩, .string ⟨#[100, 105, 118]⟩, .string ⟨#[109, 111, 100]⟩, .string ⟨#[101, 113]⟩, .string ⟨#[110, 101]⟩, .string ⟨#[108, 116]⟩, .string ⟨#[108, 101]⟩, .string ⟨#[97, 110, 100]⟩, .string ⟨#[111, 114]⟩, .string ⟨#[99, 111, 110, 99, 97, 116]⟩, .string ⟨#[108, 101, 110]⟩, .string ⟨#[105, 102]⟩, .string ⟨#[]⟩]
def globsOk (C : Nat → Nat → List Value → Prop) : Prop := (∃ _m : Unit, C 0 0 qbb) ∧ True
theorem globsOk.mono {C C' : Nat → Nat → List Value → Prop} (hC : ∀ b o cs, C b o cs → C' b o cs) (h : globsOk C) : globsOk C' := by
  obtain ⟨⟨m0, h0⟩, -⟩ := h
  exact ⟨⟨m0, hC _ _ _ h0⟩, trivial⟩
def gtab (g : Nat) : Option (List Value) := if g = 0 then some qbb else none
theorem gtab_ok {C : Nat → Nat → List Value → Prop} (h : globsOk C) {g : Nat} {cs : List Value} (hg : gtab g = some cs) : C g 0 cs := by
  unfold gtab at hg
  obtain ⟨⟨m0, h0⟩, -⟩ := h
  split at hg
  · rename_i e; subst e; cases hg; exact h0
  cases hg
@[simp] theorem gtab_namesTab : gtab 0 = some qbb := rfl
@[simp] theorem namesTab_0 : qbb[0]? = some (.string ⟨#[105, 110, 116]⟩) := rfl
@[simp] theorem namesTab_1 : qbb[1]? = some (.string ⟨#[116, 101, 120, 116]⟩) := rfl
@[simp] theorem namesTab_2 : qbb[2]? = some (.string ⟨#[98, 111, 111, 108]⟩) := rfl
@[simp] theorem namesTab_3 : qbb[3]? = some (.string ⟨#[99, 111, 108]⟩) := rfl
@[simp] theorem namesTab_4 : qbb[4]? = some (.string ⟨#[]⟩) := rfl
@[simp] theorem namesTab_5 : qbb[5]? = some (.string ⟨#[116, 105, 109, 101]⟩) := rfl
@[simp] theorem namesTab_6 : qbb[6]? = some (.string ⟨#[110, 111, 116]⟩) := rfl
@[simp] theorem namesTab_7 : qbb[7]? = some (.string ⟨#[110, 101, 103]⟩) := rfl
@[simp] theorem namesTab_8 : qbb[8]? = some (.string ⟨#[97, 100, 100]⟩) := rfl
@[simp] theorem namesTab_9 : qbb[9]? = some (.string ⟨#[115, 117, 98]⟩) := rfl
@[simp] theorem namesTab_10 : qbb[10]? = some (.string ⟨#[109, 117, 108]⟩) := rfl
@[simp] theorem namesTab_11 : qbb[11]? = some (.string ⟨#[100, 105, 118]⟩) := rfl
@[simp] theorem namesTab_12 : qbb[12]? = some (.string ⟨#[109, 111, 100]⟩) := rfl
@[simp] theorem namesTab_13 : qbb[13]? = some (.string ⟨#[101, 113]⟩) := rfl
@[simp] theorem namesTab_14 : qbb[14]? = some (.string ⟨#[110, 101]⟩) := rfl
@[simp] theorem namesTab_15 : qbb[15]? = some (.string ⟨#[108, 116]⟩) := rfl
@[simp] theorem namesTab_16 : qbb[16]? = some (.string ⟨#[108, 101]⟩) := rfl
@[simp] theorem namesTab_17 : qbb[17]? = some (.string ⟨#[97, 110, 100]⟩) := rfl
@[simp] theorem namesTab_18 : qbb[18]? = some (.string ⟨#[111, 114]⟩) := rfl
@[simp] theorem namesTab_19 : qbb[19]? = some (.string ⟨#[99, 111, 110, 99, 97, 116]⟩) := rfl
@[simp] theorem namesTab_20 : qbb[20]? = some (.string ⟨#[108, 101, 110]⟩) := rfl
@[simp] theorem namesTab_21 : qbb[21]? = some (.string ⟨#[105, 102]⟩) := rfl
@[simp] theorem namesTab_22 : qbb[22]? = some (.string ⟨#[]⟩) := rfl
end Go.Proofs.YtnkimlkoijfcpaaGreatDoor

/- Typed views of api.Value. -/
namespace Go.Proofs.YtnkimlkoijfcpaaGreatDoor
open Go.RowKit Go.Lib
structure Val where
  k : Int
  n : Int
  s : ByteArray
  deriving DecidableEq
def Val.d (x : Val) : D := .st [.int x.k, .int x.n, .str x.s]
theorem Val.width (x : Val) : x.d.width = 3 := by
  simp [Val.d, D.width, D.widths]
theorem Val.widths (l : List Val) : ∀ d ∈ l.map Val.d, d.width = 3 := by
  intro d hd; obtain ⟨x, -, rfl⟩ := List.mem_map.1 hd; exact Val.width x
theorem Val.open {w : World} {S : Nat → Prop} {x : Val} {cs : List Value} (h : Rd w S x.d cs) : cs = [.int .i64 x.k, .int .i64 x.n, .string x.s] := by
  simp only [Val.d, Val.d, Rd, RdS, List.length_map] at h
  obtain ⟨_, _, rfl, rfl, ⟨_, _, rfl, rfl, ⟨_, _, rfl, rfl, rfl⟩⟩⟩ := h
  simp
theorem Val.at {w : World} {S : Nat → Prop} {l : List Val} {b off : Nat} (hm : RdM w S (l.map Val.d) b off) {k : Nat} (hk : k < l.length) : w.cell? ⟨b, off + k * 3, none⟩ = some (.int .i64 l[k].k) ∧ w.cell? ⟨b, off + k * 3 + 1, none⟩ = some (.int .i64 l[k].n) ∧ w.cell? ⟨b, off + k * 3 + 1 + 1, none⟩ = some (.string l[k].s) ∧ Rd w S l[k].d [.int .i64 l[k].k, .int .i64 l[k].n, .string l[k].s] := by
  obtain ⟨cs, hc, hr⟩ := RdM.get _ b off hm (Val.widths l) k (by simpa using hk)
  rw [List.getElem_map] at hr
  obtain rfl := Val.open hr
  simp only [qbd, and_true] at hc
  obtain ⟨c0, c1, c2⟩ := hc
  exact ⟨c0, c1, c2, hr⟩
end Go.Proofs.YtnkimlkoijfcpaaGreatDoor

/- Regions that draw their order, whose operations read and whose calls only make new memory: one walk in the text's order. -/
namespace Go.Proofs.YtnkimlkoijfcpaaGreatDoor
open Go.RowKit Go.Lib
structure ExtW (w : World) where
  val : World
  ext : Ext w val
instance (w : World) : Nonempty (ExtW w) := ⟨⟨w, Ext.refl w⟩⟩
theorem ExtW.at {w : World} {p : Addr} {v : Value} (hc : w.cell? p = some v) : ∀ x : ExtW w, x.val.cell? p = some v := fun x => x.ext.at hc
theorem qdu {P : Program} {ops : Array Oper} {C : World → Prop} {Q Q' : Act → Prop} (hQ : ∀ a, Q a → Q' a) : ∀ (l : List Oper) (a : Act), wpQuiet P ops C Q l a → wpQuiet P ops C Q' l a
  | [], a, h => hQ a h
  | o :: l, a, h => by
    unfold wpQuiet at h ⊢
    split
    · rename_i hw; rw [if_pos hw] at h; exact Oper.quiet_mono (fun a' h' => qdu hQ l a' h') h
    · rename_i hw; rw [if_neg hw] at h; exact qdu hQ l _ h
theorem qy {P : Program} {id : Nat} {Q : Exit → Act → World → Prop} {a : Act} {w : World} {l : List Oper} (hm : P.follows .mixedOrders = true) (hB : Region.lexB .any l.toArray = true)
    (h : wpQuiet P l.toArray (fun w' => ∃ x : ExtW w, w' = x.val) (fun a' => ∀ w', Ext w w' → Q .normal a' w') l a) : (Code.region id l.toArray true).wp P Q a w :=
  wp_region_quiet (C := fun w' => ∃ x : ExtW w, w' = x.val) hm hB ⟨⟨{ w with drawn := w.drawn + 1 }, ⟨rfl, rfl, rfl, Nat.le_refl _, fun _ _ => rfl⟩⟩, rfl⟩
    (qdu (fun a' h' w' hx => by obtain ⟨x, rfl⟩ := hx; exact h' x.val x.ext) _ _ (by simpa using h))
theorem Calls.ext_of {P : Program} {f : FuncId} {args : Array Value} {w : World} {x : ExtW w} {v : Value}
    (h : Calls P f args x.val fun e w' => e = .returned v ∧ Ext x.val w') : Calls P f args x.val fun e w'' => e = .returned v ∧ ∃ y : ExtW w, w'' = y.val :=
  h.mono fun _ w' ⟨he, hw⟩ => ⟨he, ⟨w', x.ext.trans hw⟩, rfl⟩
def beginsAt (id : Nat) : Code → Bool
  | .region i _ _ => i == id
  | .seq a _ => beginsAt id a
  | .block _ c => beginsAt id c
  | .loop c => beginsAt id c
  | .scope c => beginsAt id c
  | _ => false
def restFrom (id : Nat) : Code → Code
  | .seq a b => if beginsAt id a then .seq a b else restFrom id b
  | c => c
end Go.Proofs.YtnkimlkoijfcpaaGreatDoor

/- Regions that draw their order: all operations but the last ones read or call quietly (in a class of worlds), the last ones stand in one order. -/
namespace Go.Proofs.YtnkimlkoijfcpaaGreatDoor
open Go.RowKit Go.Lib
section
variable {P : Program} {ops : Array Oper} {md : Region.Mode} {C : World → Prop}
def wpHeadQ (P : Program) (md : Region.Mode) (ops : Array Oper) (C : World → Prop) (n : Nat) (L : Array Bool → Act → Prop) : Nat → Array Bool → Act → Prop
  | 0, listed, a => L listed a
  | f + 1, listed, a =>
    Region.ready md ops listed ≠ [] ∧ ∀ i ∈ Region.ready md ops listed, i < n ∧ qOp P ops C i (wpHeadQ P md ops C n L f (listed.setIfInBounds i true)) a
theorem wpAny_of_headQ {n g : Nat} {L : Array Bool → Act → Prop} {Q' : Exit → Act → World → Prop} (hL : ∀ listed a w, C w → L listed a → wpAny P md ops Q' g listed a w) :
    ∀ (f : Nat) (listed : Array Bool) (a : Act) (w : World), C w → wpHeadQ P md ops C n L f listed a → wpAny P md ops Q' (f + g) listed a w
  | 0, listed, a, w, hw, h => by rw [Nat.zero_add]; exact hL _ _ _ hw h
  | f + 1, listed, a, w, hw, h => by
    rw [show f + 1 + g = (f + g) + 1 by omega]
    exact ⟨fun h0 => absurd h0 h.1, fun i hi => wpOp_of_qOp hw (fun a' w' hw' h' => wpAny_of_headQ hL f _ a' w' hw' h') (h.2 i hi).2⟩
theorem wpHeadQ_first {n i : Nat} {oi : Oper} {v : Value} {L : Array Bool → Act → Prop} (hi : ops[i]? = some oi) (hsel : ∀ (j : Nat) (o : Oper) cs b, ops[j]? = some o → o.op ≠ .select cs b)
    (hs : Region.sinkB md ops n = true) (hc : Region.chainB md ops n = true) (hn : n < ops.size) (hin : i < n)
    (hdone : ∀ listed a, L listed a → ∀ j ∈ Region.ready md ops listed, n ≤ j) :
    ∀ (f : Nat) (listed : Array Bool) (a : Act), HeadInv md ops n listed →
      (∀ j oj, ops[j]? = some oj → j ≠ i → listed.getD j true = false → (∀ e ∈ oj.after, Region.binds md e = true → e.on ≠ i) → oi.apart ops oj = true) →
      i ∈ Region.ready md ops listed → YieldsIn P ops C oi v a →
      wpHeadQ P md ops C n L f (listed.setIfInBounds i true) (a.put oi.dst v) → wpHeadQ P md ops C n L (f + 1) listed a := by
  intro f
  induction f with
  | zero =>
    intro listed a inv _ hr hy H
    have hun := (mem_ready.1 hr).1
    refine ⟨fun h => (by rw [h] at hr; cases hr), fun j hj => ?_⟩
    have hjn : j < n := by
      rcases Nat.lt_or_ge j n with h | h
      · exact h
      · exact absurd hj (tail_waits hs hc hn inv _ i rfl hin hun j h)
    refine ⟨hjn, ?_⟩
    by_cases hji : j = i
    · subst hji; exact hy.qOp hi H
    · have := hdone _ _ H j (ready_mono hj hji)
      omega
  | succ f ih =>
    intro listed a inv hfree hr hy H
    have hun := (mem_ready.1 hr).1
    refine ⟨fun h => (by rw [h] at hr; cases hr), fun j hj => ?_⟩
    have hjn : j < n := by
      rcases Nat.lt_or_ge j n with h | h
      · exact h
      · exact absurd hj (tail_waits hs hc hn inv _ i rfl hin hun j h)
    refine ⟨hjn, ?_⟩
    by_cases hji : j = i
    · subst hji; exact hy.qOp hi H
    · have h1 := (H.2 j (ready_mono hj hji)).2
      obtain ⟨hjun, oj, hoj, hall⟩ := mem_ready.1 hj
      have hnot : ∀ e ∈ oj.after, Region.binds md e = true → e.on ≠ i := fun e he hb heq => by
        have h1 := hall e he hb
        rw [heq, getD_both hun] at h1
        cases h1
      have h2 := qOp_put hoj (hfree j oj hoj hji hjun hnot) (fun cs b => hsel i oi cs b hi) (fun cs b => hsel j oj cs b hoj) hy h1
      have hfree' : ∀ k ok, ops[k]? = some ok → k ≠ i → (listed.setIfInBounds j true).getD k true = false →
          (∀ e ∈ ok.after, Region.binds md e = true → e.on ≠ i) → oi.apart ops ok = true := fun k ok hk hki hun hno => by
        refine hfree k ok hk hki ?_ hno
        by_cases hjk : j = k
        · subst hjk; exact hjun
        · rw [getD_set_ne true hjk] at hun; exact hun
      refine qOp_mono (fun a' h3 => ih (listed.setIfInBounds j true) a' (inv.set hj hjn) hfree' (ready_mono hr (Ne.symm hji)) h3.1 ?_) h2
      rw [Array.setIfInBounds_comm _ _ hji]
      exact h3.2
theorem wpHeadQ_lex {n g : Nat} {Lq : Act → Prop} (hsel : Region.noSelect ops = true) (hs : Region.sinkB md ops n = true) (hc : Region.chainB md ops n = true) (hn : n < ops.size) :
    ∀ (l : List Oper) (k : Nat) (listed : Array Bool) (a : Act), (∀ j, j < l.length → l[j]? = ops[k + j]?) → k + l.length = n → HeadInv md ops n listed →
    Region.lexHead md ops g l.length k listed = true → wpQuiet P ops C Lq l a →
    wpHeadQ P md ops C n (fun listed' a' => Region.seqB md ops g n listed' = true ∧ Lq a') l.length listed a
  | [], k, listed, a, _, hk, _, hB, h => by
    have : k = n := by simpa using hk
    subst this
    exact ⟨by simpa [Region.lexHead] using hB, h⟩
  | o :: l, k, listed, a, hl, hk, inv, hB, h => by
    have h0 : ops[k]? = some o := by simpa using (hl 0 (by simp)).symm
    simp only [List.length_cons, Region.lexHead, Bool.and_eq_true] at hB
    obtain ⟨⟨hr, hf⟩, hB'⟩ := hB
    have hkn : k < n := by simp only [List.length_cons] at hk; omega
    have hr' : k ∈ Region.ready md ops listed := by simpa using hr
    have hst : qOp P ops C k (wpQuiet P ops C Lq l) a := by unfold qOp; simp only [h0]; exact h
    obtain ⟨v, hy, hK⟩ := yieldsIn_of_qOp h0 hst
    exact wpHeadQ_first h0 (Region.noSelect_spec hsel) hs hc hn hkn (fun listed' a' hL => seqB_ready hL.1) l.length listed a inv (Region.free_spec h0 hf) hr' hy
      (wpHeadQ_lex hsel hs hc hn l (k + 1) _ _ (fun j hj => by have := hl (j + 1) (by simp; omega); simpa [Nat.add_assoc, Nat.add_comm 1 j] using this) (by simp only [List.length_cons] at hk; omega) (inv.set hr' hkn) hB' hK)
theorem wp_region_quiet_tail {id : Nat} {Q : Exit → Act → World → Prop} {a : Act} {w : World} {l : List Oper} (n : Nat) (hm : P.follows .mixedOrders = true) (hB : Region.lexTailB .any l.toArray n = true)
    (hC : C { w with drawn := w.drawn + 1 })
    (h : wpQuiet P l.toArray C (fun a' => ∀ w', C w' → wpList P l.toArray Q (l.drop n) a' w') (l.take n) a) : (Code.region id l.toArray true).wp P Q a w := by
  simp only [Region.lexTailB, Bool.and_eq_true, decide_eq_true_eq] at hB
  obtain ⟨⟨⟨⟨hsel, hn⟩, hs⟩, hc⟩, hlex⟩ := hB
  have hn' : n < l.length := by simpa using hn
  have htl : (l.take n).length = n := by simp; omega
  have hdl : (l.drop n).length = l.toArray.size - n := by simp
  have inv0 : HeadInv .any l.toArray n (Array.replicate l.toArray.size false) :=
    ⟨by simp, fun j oj _ hl => (by rw [getD_replicate_false] at hl; cases hl), fun t _ ht => getD_in (by simpa using ht) (getD_replicate_false _ _)⟩
  have H := wpHeadQ_lex (md := .any) (g := l.toArray.size - n) hsel hs hc hn (l.take n) 0 _ a (fun j hj => by
    have hj' : j < n := by rw [htl] at hj; exact hj
    simp [hj']) (by simpa using htl) inv0 (by rw [htl]; exact hlex) h
  refine wp_region_any hm ?_
  have := wpAny_of_headQ (Q' := Q) (g := l.toArray.size - n) (fun listed a' w' hw' hL => by
    have := wpAny_of_seq (md := .any) (Q' := Q) (l.drop n) n listed a' w' (fun j => by simp [List.getElem?_drop]) (by rw [hdl]; exact hL.1) (hL.2 w' hw')
    rwa [hdl] at this) _ _ _ _ hC H
  rw [htl, show n + (l.toArray.size - n) = l.toArray.size by omega] at this
  exact this
end
theorem qt {P : Program} {id : Nat} {Q : Exit → Act → World → Prop} {a : Act} {w : World} {l : List Oper} (n : Nat) (hm : P.follows .mixedOrders = true) (hB : Region.lexTailB .any l.toArray n = true)
    (h : wpQuiet P l.toArray (fun w' => ∃ x : ExtW w, w' = x.val) (fun a' => ∀ w', Ext w w' → wpList P l.toArray Q (l.drop n) a' w') (l.take n) a) : (Code.region id l.toArray true).wp P Q a w :=
  wp_region_quiet_tail (C := fun w' => ∃ x : ExtW w, w' = x.val) n hm hB ⟨⟨{ w with drawn := w.drawn + 1 }, ⟨rfl, rfl, rfl, Nat.le_refl _, fun _ _ => rfl⟩⟩, rfl⟩
    (qdu (fun a' h' w' hx => by obtain ⟨x, rfl⟩ := hx; exact h' x.val x.ext) _ _ h)
end Go.Proofs.YtnkimlkoijfcpaaGreatDoor

/- Regions that draw their order: reads, then operations in one order that make new memory while the reads may still come between them, then a tail in one order. -/
namespace Go.Proofs.YtnkimlkoijfcpaaGreatDoor
open Go.RowKit Go.Lib
section
variable {P : Program} {ops : Array Oper} {md : Region.Mode} {C : World → Prop} {Q : Exit → Act → World → Prop}
def wpReads (P : Program) (ops : Array Oper) (C : World → Prop) (Q : Act → Prop) : List Oper → Act → Prop
  | [], a => Q a
  | o :: rest, a => ∃ v, YieldsIf P ops C o v a ∧ wpReads P ops C Q rest (a.put o.dst v)
def wpSpec (P : Program) (ops : Array Oper) (C : World → Prop) (Q : Exit → Act → World → Prop) (fin : Act → World → Prop) : List Oper → Act → World → Prop
  | [], a, w => fin a w
  | o :: rest, a, w => if Region.wanted o (yielded ops a.tmps) = true then Oper.wp P o a w (fun a' w' => C w' ∧ wpSpec P ops C Q fin rest a' w') Q else C w ∧ wpSpec P ops C Q fin rest (a.put o.dst undef) w
def wpHeadW (P : Program) (md : Region.Mode) (ops : Array Oper) (C : World → Prop) (Q : Exit → Act → World → Prop) (m : Nat) (L : Array Bool → Act → World → Prop) : Nat → Array Bool → Act → World → Prop
  | 0, listed, a, w => L listed a w
  | f + 1, listed, a, w => Region.ready md ops listed ≠ [] ∧ ∀ i ∈ Region.ready md ops listed, i < m ∧ wpOp P ops Q i (fun a' w' => C w' ∧ wpHeadW P md ops C Q m L f (listed.setIfInBounds i true) a' w') a w
theorem wpAny_of_headW {m g : Nat} {L : Array Bool → Act → World → Prop} (hL : ∀ listed a w, L listed a w → wpAny P md ops Q g listed a w) :
    ∀ (f : Nat) (listed : Array Bool) (a : Act) (w : World), wpHeadW P md ops C Q m L f listed a w → wpAny P md ops Q (f + g) listed a w
  | 0, listed, a, w, h => by rw [Nat.zero_add]; exact hL _ _ _ h
  | f + 1, listed, a, w, h => by
    rw [show f + 1 + g = (f + g) + 1 by omega]
    exact ⟨fun h0 => absurd h0 h.1, fun i hi => wpOp_mono (fun a' w' h' => wpAny_of_headW hL f _ a' w' h'.2) (h.2 i hi).2⟩
theorem wpHeadW_first {m i : Nat} {oi : Oper} {v : Value} {L : Array Bool → Act → World → Prop} (hi : ops[i]? = some oi) (hsel : ∀ (j : Nat) (o : Oper) cs b, ops[j]? = some o → o.op ≠ .select cs b)
    (hs : Region.sinkB md ops m = true) (hc : Region.chainB md ops m = true) (hm : m < ops.size) (him : i < m)
    (hQ : ∀ c a d u w, Q (.panic c) (Act.put a d u) w → Q (.panic c) a w)
    (hdone : ∀ listed a w, L listed a w → ∀ j ∈ Region.ready md ops listed, m ≤ j) :
    ∀ (f : Nat) (listed : Array Bool) (a : Act) (w : World), HeadInv md ops m listed →
      (∀ j oj, ops[j]? = some oj → j ≠ i → listed.getD j true = false → (∀ e ∈ oj.after, Region.binds md e = true → e.on ≠ i) → oi.apart ops oj = true) →
      i ∈ Region.ready md ops listed → YieldsIf P ops C oi v a → C w →
      wpHeadW P md ops C Q m L f (listed.setIfInBounds i true) (a.put oi.dst v) w → wpHeadW P md ops C Q m L (f + 1) listed a w := by
  intro f
  induction f with
  | zero =>
    intro listed a w inv _ hr hy hC H
    have hun := (mem_ready.1 hr).1
    refine ⟨fun h => (by rw [h] at hr; cases hr), fun j hj => ?_⟩
    have hjm : j < m := by
      rcases Nat.lt_or_ge j m with h | h
      · exact h
      · exact absurd hj (tail_waits hs hc hm inv _ i rfl him hun j h)
    refine ⟨hjm, ?_⟩
    by_cases hji : j = i
    · subst hji; exact hy.wpOp hi hC ⟨hC, H⟩
    · have := hdone _ _ _ H j (ready_mono hj hji)
      omega
  | succ f ih =>
    intro listed a w inv hfree hr hy hC H
    have hun := (mem_ready.1 hr).1
    refine ⟨fun h => (by rw [h] at hr; cases hr), fun j hj => ?_⟩
    have hjm : j < m := by
      rcases Nat.lt_or_ge j m with h | h
      · exact h
      · exact absurd hj (tail_waits hs hc hm inv _ i rfl him hun j h)
    refine ⟨hjm, ?_⟩
    by_cases hji : j = i
    · subst hji; exact hy.wpOp hi hC ⟨hC, H⟩
    · have h1 := (H.2 j (ready_mono hj hji)).2
      obtain ⟨hjun, oj, hoj, hall⟩ := mem_ready.1 hj
      have hnot : ∀ e ∈ oj.after, Region.binds md e = true → e.on ≠ i := fun e he hb heq => by
        have h2 := hall e he hb
        rw [heq, getD_both hun] at h2
        cases h2
      have h2 := wpOp_putIf hoj (hfree j oj hoj hji hjun hnot) (fun cs b => hsel i oi cs b hi) (fun cs b => hsel j oj cs b hoj) (fun c a w h => hQ c a _ _ w h) hy h1
      have hfree' : ∀ k ok, ops[k]? = some ok → k ≠ i → (listed.setIfInBounds j true).getD k true = false →
          (∀ e ∈ ok.after, Region.binds md e = true → e.on ≠ i) → oi.apart ops ok = true := fun k ok hk hki hun hno => by
        refine hfree k ok hk hki ?_ hno
        by_cases hjk : j = k
        · subst hjk; exact hjun
        · rw [getD_set_ne true hjk] at hun; exact hun
      refine wpOp_mono (fun a' w' h3 => ⟨h3.2.1, ih (listed.setIfInBounds j true) a' w' (inv.set hj hjm) hfree' (ready_mono hr (Ne.symm hji)) h3.1 h3.2.1 ?_⟩) h2
      rw [Array.setIfInBounds_comm _ _ hji]
      exact h3.2.2
theorem wpHeadW_spec {m g : Nat} {fin : Act → World → Prop} : ∀ (l : List Oper) (k : Nat) (listed : Array Bool) (a : Act) (w : World), (∀ j, j < l.length → l[j]? = ops[k + j]?) → k + l.length = m →
    Region.seqB md ops (l.length + g) k listed = true → wpSpec P ops C Q fin l a w → wpHeadW P md ops C Q m (fun listed' a' w' => Region.seqB md ops g m listed' = true ∧ fin a' w') l.length listed a w
  | [], k, listed, a, w, _, hk, hB, h => by
    have : k = m := by simpa using hk
    subst this
    exact ⟨by simpa using hB, h⟩
  | o :: l, k, listed, a, w, hl, hk, hB, h => by
    have h0 : ops[k]? = some o := by simpa using (hl 0 (by simp)).symm
    rw [List.length_cons, show l.length + 1 + g = (l.length + g) + 1 by omega] at hB
    simp only [Region.seqB, Bool.and_eq_true, decide_eq_true_eq] at hB
    have hkm : k < m := by simp only [List.length_cons] at hk; omega
    refine ⟨fun h1 => (by rw [hB.1] at h1; cases h1), fun i hi => ?_⟩
    rw [hB.1] at hi
    obtain rfl : i = k := by simpa using hi
    refine ⟨hkm, wpOp_step h0 fun K' hK => ?_⟩
    have hnext := fun a' w' h1 h2 h3 h4 => wpHeadW_spec (m := m) (g := g) (fin := fin) l (i + 1) (listed.setIfInBounds i true) a' w' h1 h2 h3 h4
    have hl2 : ∀ j, j < l.length → l[j]? = ops[i + 1 + j]? := fun j hj => by have := hl (j + 1) (by simp; omega); simpa [Nat.add_assoc, Nat.add_comm 1 j] using this
    have hk2 : i + 1 + l.length = m := by simp only [List.length_cons] at hk; omega
    rw [wpSpec] at h
    by_cases hw : Region.wanted o (yielded ops a.tmps) = true
    · rw [if_pos hw] at h ⊢
      refine Oper.wp_mono (fun a1 w1 h1 => hK a1 w1 ⟨h1.1, hnext a1 w1 hl2 hk2 hB.2 h1.2⟩) h
    · rw [if_neg hw] at h ⊢
      exact hK _ _ ⟨h.1, hnext _ _ hl2 hk2 hB.2 h.2⟩
theorem wpHeadW_lex {n m g : Nat} {fin : Act → World → Prop} (sp : List Oper) (hsp : ∀ j, j < sp.length → sp[j]? = ops[n + j]?) (hspm : n + sp.length = m) (hsel : Region.noSelect ops = true) (hs : Region.sinkB md ops m = true) (hc : Region.chainB md ops m = true) (hm : m < ops.size)
    (hQ : ∀ c a d u w, Q (.panic c) (Act.put a d u) w → Q (.panic c) a w) (w : World) (hC : C w) :
    ∀ (l : List Oper) (k : Nat) (listed : Array Bool) (a : Act), (∀ j, j < l.length → l[j]? = ops[k + j]?) → k + l.length = n → HeadInv md ops m listed →
    Region.lexHead md ops (sp.length + g) l.length k listed = true → wpReads P ops C (fun a' => wpSpec P ops C Q fin sp a' w) l a →
    wpHeadW P md ops C Q m (fun listed' a' w' => Region.seqB md ops g m listed' = true ∧ fin a' w') (l.length + sp.length) listed a w
  | [], k, listed, a, _, hk, inv, hB, h => by
    have : k = n := by simpa using hk
    subst this
    simp only [List.length_nil, Nat.zero_add]
    exact wpHeadW_spec sp k listed a w hsp hspm (by simpa [Region.lexHead] using hB) h
  | o :: l, k, listed, a, hl, hk, inv, hB, h => by
    have h0 : ops[k]? = some o := by simpa using (hl 0 (by simp)).symm
    simp only [List.length_cons, Region.lexHead, Bool.and_eq_true] at hB
    obtain ⟨⟨hr, hf⟩, hB'⟩ := hB
    have hkm : k < m := by simp only [List.length_cons] at hk; omega
    have hr' : k ∈ Region.ready md ops listed := by simpa using hr
    obtain ⟨v, hy, hK⟩ := h
    rw [List.length_cons, show l.length + 1 + sp.length = (l.length + sp.length) + 1 by omega]
    exact wpHeadW_first h0 (Region.noSelect_spec hsel) hs hc hm hkm hQ (fun listed' a' w' hL => seqB_ready hL.1) (l.length + sp.length) listed a w inv (Region.free_spec h0 hf) hr' hy hC
      (wpHeadW_lex sp hsp hspm hsel hs hc hm hQ w hC l (k + 1) _ _ (fun j hj => by have := hl (j + 1) (by simp; omega); simpa [Nat.add_assoc, Nat.add_comm 1 j] using this) (by simp only [List.length_cons] at hk; omega) (inv.set hr' hkm) hB' hK)
theorem wp_region_mixed {id : Nat} {a : Act} {w : World} {l : List Oper} (n m : Nat) (hnm : n ≤ m) (hf : P.follows .mixedOrders = true) (hB : Region.lexTailB .any l.toArray m = true)
    (hB2 : Region.lexHead .any l.toArray (l.length - n) n 0 (Array.replicate l.toArray.size false) = true)
    (hQ : ∀ c a d u w, Q (.panic c) (Act.put a d u) w → Q (.panic c) a w) (hC : C w.drew)
    (h : wpReads P l.toArray C (fun a' => wpSpec P l.toArray C Q (fun a'' w'' => wpList P l.toArray Q (l.drop m) a'' w'') ((l.take m).drop n) a' w.drew) (l.take n) a) : (Code.region id l.toArray true).wp P Q a w := by
  simp only [Region.lexTailB, Bool.and_eq_true, decide_eq_true_eq] at hB
  obtain ⟨⟨⟨⟨hsel, hm⟩, hs⟩, hc⟩, -⟩ := hB
  have hm' : m < l.length := by simpa using hm
  have htl : (l.take n).length = n := by simp; omega
  have hsl : ((l.take m).drop n).length = m - n := by simp; omega
  have inv0 : HeadInv .any l.toArray m (Array.replicate l.toArray.size false) :=
    ⟨by simp, fun j oj _ hl => (by rw [getD_replicate_false] at hl; cases hl), fun t _ ht => getD_in (by simpa using ht) (getD_replicate_false _ _)⟩
  have hg : (m - n) + (l.length - m) = l.length - n := by omega
  have H := wpHeadW_lex (P := P) (C := C) (Q := Q) (md := .any) (n := n) (m := m) (g := l.length - m) (fin := fun a'' w'' => wpList P l.toArray Q (l.drop m) a'' w'') ((l.take m).drop n) (fun j hj => by
      rw [hsl] at hj
      rw [List.getElem?_drop, List.getElem?_take_of_lt (by omega)]
      simp) (by rw [hsl]; omega) hsel hs hc hm hQ w.drew hC (l.take n) 0 _ a (fun j hj => by
      have hj' : j < n := by rw [htl] at hj; exact hj
      simp [hj']) (by simpa using htl) inv0 (by rw [htl, hsl, hg]; exact hB2) h
  refine wp_region_any hf ?_
  have := wpAny_of_headW (Q := Q) (g := l.length - m) (fun listed a' w' hL => by
    have := wpAny_of_seq (md := .any) (Q' := Q) (l.drop m) m listed a' w' (fun j => by simp [List.getElem?_drop]) (by simpa using hL.1) hL.2
    simpa using this) _ _ _ _ H
  rw [htl, hsl, show n + (m - n) + (l.length - m) = l.toArray.size by simp; omega] at this
  exact this
end
end Go.Proofs.YtnkimlkoijfcpaaGreatDoor

/- Typed views of the data of layer 16. -/
namespace Go.Proofs.YtnkimlkoijfcpaaGreatDoor
open Go.RowKit Go.Lib
inductive Ex where
  | mk (op : Int) (n : Int) (s : ByteArray) (args : List Ex)
def Ex.op : Ex → Int | .mk x _ _ _ => x
def Ex.n : Ex → Int | .mk _ x _ _ => x
def Ex.s : Ex → ByteArray | .mk _ _ x _ => x
def Ex.args : Ex → List Ex | .mk _ _ _ x => x
mutual
def Ex.d : Ex → D
  | .mk op n s args => .st [.int op, .int n, .str s, .sl (Ex.ds args)]
def Ex.ds : List Ex → List D
  | [] => []
  | e :: l => e.d :: Ex.ds l
end
theorem Ex.ds_map : ∀ l : List Ex, Ex.ds l = l.map Ex.d
  | [] => rfl
  | e :: l => by rw [Ex.ds, Ex.ds_map l, List.map_cons]
theorem Ex.ind {P : Ex → Prop} (h : ∀ (op : Int) (n : Int) (s : ByteArray) (args : List Ex), (∀ x ∈ args, P x) → P (.mk op n s args)) : ∀ e, P e
  | .mk op n s args => h op n s args fun x hx => Ex.ind h x
termination_by e => SizeOf.sizeOf e
decreasing_by
  have := List.sizeOf_lt_of_mem hx
  simp_wf; omega
theorem Ex.width (x : Ex) : x.d.width = 4 := by
  obtain ⟨⟩ := x; simp [Ex.d, D.width, D.widths]
theorem Ex.widths (l : List Ex) : ∀ d ∈ l.map Ex.d, d.width = 4 := by
  intro d hd; obtain ⟨x, -, rfl⟩ := List.mem_map.1 hd; exact Ex.width x
theorem Ex.open {w : World} {S : Nat → Prop} {x : Ex} {cs : List Value} (h : Rd w S x.d cs) : ∃ (A1 : Option Addr) (cap1 b1 off1 : Nat), cs = [.int .i64 x.op, .int .i64 x.n, .string x.s, .slice A1 x.args.length cap1] ∧ x.args.length ≤ cap1 ∧ cap1 ≤ 9223372036854775807 ∧ (0 < x.args.length → A1 = some ⟨b1, off1, none⟩ ∧ S b1) ∧ RdM w S (x.args.map Ex.d) b1 off1 := by
  obtain ⟨op, n, s, args⟩ := x
  simp only [Ex.d, Ex.op, Ex.n, Ex.s, Ex.args, Rd, RdS, List.length_map, Ex.ds_map] at h
  obtain ⟨_, _, rfl, rfl, ⟨_, _, rfl, rfl, ⟨_, _, rfl, rfl, ⟨_, _, rfl, ⟨A1, cap1, b1, off1, rfl, p1, q1, r1, s1⟩, rfl⟩⟩⟩⟩ := h
  exact ⟨A1, cap1, b1, off1, by simp [Ex.op, Ex.n, Ex.s, Ex.args], p1, q1, r1, s1⟩
theorem Ex.mk_rd {w : World} {S : Nat → Prop} {x : Ex} {A1 : Option Addr} {cap1 b1 off1 : Nat} (h1 : x.args.length ≤ cap1) (h2 : cap1 ≤ 9223372036854775807) (h3 : 0 < x.args.length → A1 = some ⟨b1, off1, none⟩ ∧ S b1) (h4 : RdM w S (x.args.map Ex.d) b1 off1) :
    Rd w S x.d [.int .i64 x.op, .int .i64 x.n, .string x.s, .slice A1 x.args.length cap1] := by
  obtain ⟨op, n, s, args⟩ := x
  simp only [Ex.d, Rd, RdS, List.length_map, Ex.ds_map, Ex.op, Ex.n, Ex.s, Ex.args] at *
  exact ⟨[_], _, rfl, rfl, [_], _, rfl, rfl, [_], _, rfl, rfl, [_], _, rfl, ⟨A1, cap1, b1, off1, rfl, h1, h2, h3, h4⟩, rfl⟩
theorem Ex.at {w : World} {S : Nat → Prop} {l : List Ex} {b off : Nat} (hm : RdM w S (l.map Ex.d) b off) {k : Nat} (hk : k < l.length) : ∃ (A1 : Option Addr) (cap1 b1 off1 : Nat), w.cell? ⟨b, off + k * 4, none⟩ = some (.int .i64 l[k].op) ∧ w.cell? ⟨b, off + k * 4 + 1, none⟩ = some (.int .i64 l[k].n) ∧ w.cell? ⟨b, off + k * 4 + 1 + 1, none⟩ = some (.string l[k].s) ∧ w.cell? ⟨b, off + k * 4 + 1 + 1 + 1, none⟩ = some (.slice A1 l[k].args.length cap1) ∧ Rd w S l[k].d [.int .i64 l[k].op, .int .i64 l[k].n, .string l[k].s, .slice A1 l[k].args.length cap1] ∧ l[k].args.length ≤ cap1 ∧ cap1 ≤ 9223372036854775807 ∧ (0 < l[k].args.length → A1 = some ⟨b1, off1, none⟩ ∧ S b1) ∧ RdM w S (l[k].args.map Ex.d) b1 off1 := by
  obtain ⟨cs, hc, hr⟩ := RdM.get _ b off hm (Ex.widths l) k (by simpa using hk)
  rw [List.getElem_map] at hr
  obtain ⟨A1, cap1, b1, off1, rfl, hf⟩ := Ex.open hr
  simp only [qbd, and_true] at hc
  obtain ⟨c0, c1, c2, c3⟩ := hc
  exact ⟨A1, cap1, b1, off1, c0, c1, c2, c3, hr, hf⟩
structure Fn where
  name : ByteArray
  params : List Int
  res : Int
  body : Ex
def Fn.d (x : Fn) : D := .st [.str x.name, .sl (x.params.map D.int), .int x.res, x.body.d]
theorem Fn.width (x : Fn) : x.d.width = 7 := by
  simp [Fn.d, D.width, D.widths, Ex.width]
theorem Fn.widths (l : List Fn) : ∀ d ∈ l.map Fn.d, d.width = 7 := by
  intro d hd; obtain ⟨x, -, rfl⟩ := List.mem_map.1 hd; exact Fn.width x
theorem Fn.open {w : World} {S : Nat → Prop} {x : Fn} {cs : List Value} (h : Rd w S x.d cs) : ∃ (A1 : Option Addr) (cap1 b1 off1 : Nat) (A2 : Option Addr) (cap2 b2 off2 : Nat), cs = [.string x.name, .slice A1 x.params.length cap1, .int .i64 x.res, .int .i64 x.body.op, .int .i64 x.body.n, .string x.body.s, .slice A2 x.body.args.length cap2] ∧ x.params.length ≤ cap1 ∧ cap1 ≤ 9223372036854775807 ∧ (0 < x.params.length → A1 = some ⟨b1, off1, none⟩ ∧ S b1) ∧ RdM w S (x.params.map D.int) b1 off1 ∧ x.body.args.length ≤ cap2 ∧ cap2 ≤ 9223372036854775807 ∧ (0 < x.body.args.length → A2 = some ⟨b2, off2, none⟩ ∧ S b2) ∧ RdM w S (x.body.args.map Ex.d) b2 off2 := by
  simp only [Fn.d, Fn.d, Rd, RdS, List.length_map] at h
  obtain ⟨_, _, rfl, rfl, ⟨_, _, rfl, ⟨A1, cap1, b1, off1, rfl, p1, q1, r1, s1⟩, ⟨_, _, rfl, rfl, ⟨_, _, rfl, g3, rfl⟩⟩⟩⟩ := h
  obtain ⟨B3_0, C3_0, D3_0, E3_0, rfl, P3_0, Q3_0, R3_0, S3_0⟩ := Ex.open g3
  exact ⟨A1, cap1, b1, off1, B3_0, C3_0, D3_0, E3_0, by simp, p1, q1, r1, s1, P3_0, Q3_0, R3_0, S3_0⟩
theorem Fn.at {w : World} {S : Nat → Prop} {l : List Fn} {b off : Nat} (hm : RdM w S (l.map Fn.d) b off) {k : Nat} (hk : k < l.length) : ∃ (A1 : Option Addr) (cap1 b1 off1 : Nat) (A2 : Option Addr) (cap2 b2 off2 : Nat), w.cell? ⟨b, off + k * 7, none⟩ = some (.string l[k].name) ∧ w.cell? ⟨b, off + k * 7 + 1, none⟩ = some (.slice A1 l[k].params.length cap1) ∧ w.cell? ⟨b, off + k * 7 + 1 + 1, none⟩ = some (.int .i64 l[k].res) ∧ w.cell? ⟨b, off + k * 7 + 1 + 1 + 1, none⟩ = some (.int .i64 l[k].body.op) ∧ w.cell? ⟨b, off + k * 7 + 1 + 1 + 1 + 1, none⟩ = some (.int .i64 l[k].body.n) ∧ w.cell? ⟨b, off + k * 7 + 1 + 1 + 1 + 1 + 1, none⟩ = some (.string l[k].body.s) ∧ w.cell? ⟨b, off + k * 7 + 1 + 1 + 1 + 1 + 1 + 1, none⟩ = some (.slice A2 l[k].body.args.length cap2) ∧ Rd w S l[k].d [.string l[k].name, .slice A1 l[k].params.length cap1, .int .i64 l[k].res, .int .i64 l[k].body.op, .int .i64 l[k].body.n, .string l[k].body.s, .slice A2 l[k].body.args.length cap2] ∧ l[k].params.length ≤ cap1 ∧ cap1 ≤ 9223372036854775807 ∧ (0 < l[k].params.length → A1 = some ⟨b1, off1, none⟩ ∧ S b1) ∧ RdM w S (l[k].params.map D.int) b1 off1 ∧ l[k].body.args.length ≤ cap2 ∧ cap2 ≤ 9223372036854775807 ∧ (0 < l[k].body.args.length → A2 = some ⟨b2, off2, none⟩ ∧ S b2) ∧ RdM w S (l[k].body.args.map Ex.d) b2 off2 := by
  obtain ⟨cs, hc, hr⟩ := RdM.get _ b off hm (Fn.widths l) k (by simpa using hk)
  rw [List.getElem_map] at hr
  obtain ⟨A1, cap1, b1, off1, A2, cap2, b2, off2, rfl, hf⟩ := Fn.open hr
  simp only [qbd, and_true] at hc
  obtain ⟨c0, c1, c2, c3, c4, c5, c6⟩ := hc
  exact ⟨A1, cap1, b1, off1, A2, cap2, b2, off2, c0, c1, c2, c3, c4, c5, c6, hr, hf⟩
end Go.Proofs.YtnkimlkoijfcpaaGreatDoor

/- What the functions of layer 16 compute, on plain data. -/
namespace Go.Proofs.YtnkimlkoijfcpaaGreatDoor
open Go.RowKit Go.Lib
def kindB (n : Int) : Bool := decide (0 ≤ n) && decide (n < 3)
mutual
def light : Ex → Int → Int → Int
  | .mk _ _ s l, n, lv => if n - 1 < 0 ∨ lv < 1 ∨ (s.size : Int) > 300 then -1 else qed l (n - 1) (lv - 1)
def qed : List Ex → Int → Int → Int
  | [], n, _ => n
  | e :: l, n, lv => if n ≥ 0 then qed l (light e n lv) lv else n
end
mutual
theorem light_le : ∀ (e : Ex) (n lv : Int), 0 ≤ n → -1 ≤ light e n lv ∧ light e n lv ≤ n
  | .mk _ _ s l, n, lv, h => by
    rw [light]; split
    · omega
    · have := lightL_le l (n - 1) (lv - 1) (by omega); omega
theorem lightL_le : ∀ (l : List Ex) (n lv : Int), -1 ≤ n → -1 ≤ qed l n lv ∧ qed l n lv ≤ n
  | [], n, lv, h => by rw [qed]; omega
  | e :: l, n, lv, h => by
    rw [qed]; split
    · have := light_le e n lv (by omega)
      have := lightL_le l (light e n lv) lv (by omega); omega
    · omega
end
mutual
def levels : Ex → Int
  | .mk _ _ _ l => qw l 0 + 1
def qw : List Ex → Int → Int
  | [], n => n
  | e :: l, n => qw l (max n (levels e))
end
mutual
def parts : Ex → Nat
  | .mk _ _ _ l => qu l + 1
def qu : List Ex → Nat
  | [] => 0
  | e :: l => parts e + qu l
end
mutual
theorem qdl : ∀ e : Ex, 1 ≤ levels e ∧ levels e ≤ parts e
  | .mk _ _ _ l => by have := levelsL_le l 0 0 (by omega) (by omega); rw [levels, parts]; omega
theorem levelsL_le : ∀ (l : List Ex) (n : Int) (m : Nat), 0 ≤ n → n ≤ m → n ≤ qw l n ∧ qw l n ≤ m + qu l
  | [], n, m, _, _ => by rw [qw, qu]; omega
  | e :: l, n, m, h0, h => by
    have h1 := qdl e
    have h2 := levelsL_le l (max n (levels e)) (m + parts e) (by omega) (by omega)
    rw [qw, qu]; omega
end
mutual
theorem light_parts : ∀ (e : Ex) (n lv : Int), 0 ≤ n → 0 ≤ light e n lv → (parts e : Int) + light e n lv = n
  | .mk _ _ s l, n, lv, h, h2 => by
    rw [light] at h2 ⊢
    split at h2
    · omega
    · rename_i hc
      rw [if_neg hc]
      have := lightL_parts l (n - 1) (lv - 1) (by omega) h2
      rw [parts]; omega
theorem lightL_parts : ∀ (l : List Ex) (n lv : Int), 0 ≤ n → 0 ≤ qed l n lv → (qu l : Int) + qed l n lv = n
  | [], n, lv, _, _ => by rw [qed, qu]; omega
  | e :: l, n, lv, h, h2 => by
    rw [qed, if_pos (by omega)] at h2 ⊢
    rw [qu]
    by_cases hp : 0 ≤ light e n lv
    · have h3 := light_parts e n lv h hp
      have h4 := lightL_parts l (light e n lv) lv hp h2
      omega
    · exfalso
      have : qed l (light e n lv) lv = light e n lv := by
        cases l with
        | nil => rw [qed]
        | cons x xs => rw [qed, if_neg (by omega)]
      omega
end
theorem qbw : ∀ l : List Ex, l.length ≤ qu l
  | [] => by simp
  | e :: l => by have := qdl e; have := qbw l; rw [qu, List.length_cons]; omega
theorem qbi : ∀ (l : List Ex) (e : Ex), e ∈ l → parts e ≤ qu l
  | [], _, h => by simp at h
  | x :: l, e, h => by
    rw [qu]
    rcases List.mem_cons.1 h with rfl | h
    · omega
    · have := qbi l e h; omega
def pickT (l : List Int) (n : Int) : Option Int :=
  if n < 0 then none else match l[n.toNat]? with
    | some t => if kindB t then some t else none
    | none => none
def callT (F : List Fn) (n : Int) (ts : List Int) : Option Int :=
  if n < 0 then none else match F[n.toNat]? with
    | some f => if f.params = ts then some f.res else none
    | none => none
def leafT (c p : List Int) (op n : Int) (s : ByteArray) : Option Int :=
  if op = 0 then some 0
  else if op = 2 then (if n = 0 ∨ n = 1 then some 2 else none)
  else if op = 3 then pickT c n
  else if op = 4 then pickT p n
  else if op = 1 then (if n = 0 ∧ (s.size : Int) ≤ 200 then some 1 else none)
  else if op = 5 then (if n = 0 then some 0 else none)
  else none
def operT (op n : Int) (ts : List Int) : Option Int :=
  if n ≠ 0 then none
  else if op = 6 then (if ts = [2] then some 2 else none)
  else if op = 7 then (if ts = [0] then some 0 else none)
  else if op = 20 then (if ts = [1] then some 0 else none)
  else if 8 ≤ op ∧ op ≤ 12 then (if ts = [0, 0] then some 0 else none)
  else if 13 ≤ op ∧ op ≤ 16 then (match ts with | [a, b] => if a = b then some 2 else none | _ => none)
  else if 17 ≤ op ∧ op ≤ 18 then (if ts = [2, 2] then some 2 else none)
  else if op = 19 then (if ts = [1, 1] then some 1 else none)
  else if op = 21 then (match ts with | [a, b, c] => if a = 2 ∧ b = c then some c else none | _ => none)
  else none
def tailT (F : List Fn) (c p : List Int) (op n : Int) (s : ByteArray) (ts : List Int) : Option Int :=
  if s.size ≠ 0 ∧ op ≠ 1 then none
  else if op = 22 then callT F n ts
  else if ts = [] then leafT c p op n s
  else operT op n ts
mutual
def ty (F : List Fn) (c p : List Int) : Ex → Option Int
  | .mk op n s l => match tys F c p l with
    | some ts => tailT F c p op n s ts
    | none => none
def tys (F : List Fn) (c p : List Int) : List Ex → Option (List Int)
  | [] => some []
  | e :: l => match ty F c p e with
    | some t => match tys F c p l with
      | some ts => some (t :: ts)
      | none => none
    | none => none
end
def tyD (F : List Fn) (c p : List Int) (e : Ex) : Option Int := if levels e > 12 then none else ty F c p e
def okF (F : List Fn) (i : Nat) : Bool := match F[i]? with
  | some f => f.params.all kindB && decide (tyD (F.take i) [] f.params f.body = some f.res) && decide ((f.params.length : Int) ≤ 6)
  | none => true
def qei (F : List Fn) : Bool := decide ((F.length : Int) ≤ 20) && (List.range F.length).all (okF F)
def typeP (F : List Fn) (c p : List Int) (e : Ex) : Option Int := if qei F then tyD F c p e else none
def qci (t : Option Int) (r : Ending) : Prop := ∃ (x : Int) (b : Bool), r = .returned (.tuple #[.int .i64 x, .bool b]) ∧ (if b then some x else none) = t
def Val.v (x : Val) : Value := .agg #[.int .i64 x.k, .int .i64 x.n, .string x.s]
def numV (n : Int) : Val := ⟨0, n, ByteArray.empty⟩
def boolV (b : Bool) : Val := ⟨2, if b then 1 else 0, ByteArray.empty⟩
def textV (s : ByteArray) : Val := ⟨1, 0, s⟩
end Go.Proofs.YtnkimlkoijfcpaaGreatDoor

/- Steps of expressions, on plain data. -/
namespace Go.Proofs.YtnkimlkoijfcpaaGreatDoor
open Go.RowKit Go.Lib
def capS (n : Int) : Int := min n 1099511627776
def sumS (n : Int) : List Int → Int
  | [] => n
  | k :: l => sumS (capS (n + k)) l
def stepsOf (B : List Int) (op n : Int) (ks : List Int) : Int :=
  match (if op = 21 then ks else []) with
  | [a, b, c] => capS (1 + a + max b c)
  | _ => if op = 22 ∧ 0 ≤ n ∧ n < B.length then capS (sumS 1 ks + B.getD n.toNat 0) else sumS 1 ks
mutual
def countE (B : List Int) : Ex → Int
  | .mk op n _ l => stepsOf B op n (countL B l)
def countL (B : List Int) : List Ex → List Int
  | [] => []
  | e :: l => countE B e :: countL B l
end
def GoodS (l : List Int) : Prop := ∀ k ∈ l, 0 ≤ k ∧ k ≤ 1099511627776
theorem capS_bd {n : Int} (h : 0 ≤ n) : 0 ≤ capS n ∧ capS n ≤ 1099511627776 := by unfold capS; omega
theorem sumS_bd : ∀ (l : List Int) (n : Int), GoodS l → 0 ≤ n → n ≤ 1099511627776 → 0 ≤ sumS n l ∧ sumS n l ≤ 1099511627776
  | [], n, _, h1, h2 => ⟨h1, h2⟩
  | k :: l, n, hg, h1, h2 => by
    have hk := hg k (by simp)
    have := capS_bd (n := n + k) (by omega)
    exact sumS_bd l _ (fun x hx => hg x (by simp [hx])) this.1 this.2
theorem goodS_getD {l : List Int} (h : GoodS l) (i : Nat) : 0 ≤ l.getD i 0 ∧ l.getD i 0 ≤ 1099511627776 := by
  rw [List.getD_eq_getElem?_getD]
  by_cases hi : i < l.length
  · rw [List.getElem?_eq_getElem hi]; exact h _ (List.getElem_mem hi)
  · rw [List.getElem?_eq_none (by omega)]; simp
theorem stepsOf_bd {B ks : List Int} (op n : Int) (hB : GoodS B) (hk : GoodS ks) : 0 ≤ stepsOf B op n ks ∧ stepsOf B op n ks ≤ 1099511627776 := by
  have h1 := sumS_bd ks 1 hk (by omega) (by omega)
  unfold stepsOf
  split
  · rename_i a b c h
    have h3 : ks = [a, b, c] := by by_cases ho : op = 21 <;> simp [ho] at h; exact h
    subst h3
    have ha := hk a (by simp); have hb := hk b (by simp); have hc := hk c (by simp)
    exact capS_bd (by omega)
  · split
    · have := goodS_getD hB n.toNat
      exact capS_bd (by omega)
    · exact h1
mutual
theorem countE_bd (B : List Int) (hB : GoodS B) : ∀ e, 0 ≤ countE B e ∧ countE B e ≤ 1099511627776
  | .mk op n _ l => by rw [countE]; exact stepsOf_bd op n hB (countL_good B hB l)
theorem countL_good (B : List Int) (hB : GoodS B) : ∀ l, GoodS (countL B l)
  | [] => by rw [countL]; intro k hk; simp at hk
  | e :: l => by
    rw [countL]; intro k hk
    rcases List.mem_cons.1 hk with rfl | hk
    · exact countE_bd B hB e
    · exact countL_good B hB l k hk
end
end Go.Proofs.YtnkimlkoijfcpaaGreatDoor
