/- Universal readings of plain Go data (ints, bools, strings, structs, slices) as trees, and how they are kept while the heap grows. -/
import Derived.WalkKit
import Derived.WalkSpells
import Derived.WalkLawsBesides
import Derived.Deep.LoopGhost
import Derived.Lib.Hide
import Derived.Deep.Draws
import Derived.Deep.Slices
import Derived.WalkSmall
import Derived.Lib.ItoaNum
import Derived.Deep.QuietTactic
import Derived.BigQuiet
import Derived.StillTail
import Derived.OrdersHeld
import Derived.Deep.RegionHeld3
import Derived.ChangeArms
import Derived.Lib.LaidU8
import Derived.Test.YtkedbjjfmejbhaaGreatDoorGeShelf
set_option linter.unusedSimpArgs false
set_option linter.unusedVariables false
namespace Go.Proofs.YtkedbjjfmejbhaaGreatDoor
open Go.RowKit Go.Lib
inductive D where
 | int (n : Int)
 | bool (b : Bool)
 | str (s : ByteArray)
 | st (l : List D)
 | sl (l : List D)
mutual
def D.width : D -> Nat
 | .int _ => 1
 | .bool _ => 1
 | .str _ => 1
 | .sl _ => 1
 | .st l => D.widths l
def D.widths : List D -> Nat
 | [] => 0
 | d :: l => d.width + D.widths l
end
def qw (w : World) (b off : Nat) : List Value -> Prop
 | [] => True
 | v :: cs => w.cell? ⟨b, off, none⟩ = some v /\ qw w b (off + 1) cs
mutual
def Rd (w : World) (S : Nat -> Prop) : D -> List Value -> Prop
 | .int n, cs => cs = [.int .i64 n]
 | .bool b, cs => cs = [.bool b]
 | .str s, cs => cs = [.string s]
 | .st l, cs => RdS w S l cs
 | .sl l, cs => ∃ A cap b off, cs = [.slice A l.length cap] /\ l.length <= cap /\ cap <= 9223372036854775807 /\ (0 < l.length -> A = some ⟨b, off, none⟩ /\ S b) /\ RdM w S l b off
def RdS (w : World) (S : Nat -> Prop) : List D -> List Value -> Prop
 | [], cs => cs = []
 | d :: l, cs => ∃ c1 c2, cs = c1 ++ c2 /\ Rd w S d c1 /\ RdS w S l c2
def RdM (w : World) (S : Nat -> Prop) : List D -> Nat -> Nat -> Prop
 | [], _, _ => True
 | d :: l, b, off => (∃ cs, qw w b off cs /\ Rd w S d cs) /\ RdM w S l b (off + d.width)
end
mutual
theorem Rd.length {w : World} {S : Nat -> Prop} : ∀ (d : D) (cs : List Value), Rd w S d cs -> cs.length = d.width
 | .int _, _, h => by rw [Rd] at h; subst h; rfl
 | .bool _, _, h => by rw [Rd] at h; subst h; rfl
 | .str _, _, h => by rw [Rd] at h; subst h; rfl
 | .st l, cs, h => by rw [Rd] at h; rw [D.width]; exact RdS.length l cs h
 | .sl _, _, h => by rw [Rd] at h; obtain ⟨A, cap, b, off, rfl, _⟩ := h; rfl
theorem RdS.length {w : World} {S : Nat -> Prop} : ∀ (l : List D) (cs : List Value), RdS w S l cs -> cs.length = D.widths l
 | [], _, h => by rw [RdS] at h; subst h; rfl
 | d :: l, cs, h => by
  rw [RdS] at h; obtain ⟨c1, c2, rfl, h1, h2⟩ := h
  rw [List.length_append, Rd.length d c1 h1, RdS.length l c2 h2, D.widths]
end
def Keeps (S : Nat -> Prop) (w w' : World) : Prop := ∀ b, S b -> b < w.heap.size -> w'.heap[b]? = w.heap[b]?
theorem Keeps.cell {S : Nat -> Prop} {w w' : World} (h : Keeps S w w') {b off : Nat} {v : Value} (hs : S b) (hc : w.cell? ⟨b, off, none⟩ = some v) : w'.cell? ⟨b, off, none⟩ = some v :=
 (World.cell?_of_block (w := w) (w' := w') (a := ⟨b, off, none⟩) (h b hs (World.block_lt_of_cell? w _ hc))).trans hc
theorem qw.keep {S : Nat -> Prop} {w w' : World} (h : Keeps S w w') {b : Nat} (hs : S b) : ∀ (off : Nat) (cs : List Value), qw w b off cs -> qw w' b off cs
 | _, [], _ => trivial
 | off, _ :: cs, hc => ⟨h.cell hs hc.1, qw.keep h hs (off + 1) cs hc.2⟩
mutual
theorem Rd.keep {S S' : Nat -> Prop} {w w' : World} (h : Keeps S w w') (hS : ∀ b, S b -> S' b) : ∀ (d : D) (cs : List Value), Rd w S d cs -> Rd w' S' d cs
 | .int _, _, hr => hr
 | .bool _, _, hr => hr
 | .str _, _, hr => hr
 | .st l, cs, hr => by rw [Rd] at hr ⊢; exact RdS.keep h hS l cs hr
 | .sl l, cs, hr => by
  rw [Rd] at hr ⊢
  obtain ⟨A, cap, b, off, h1, h2, h3, h4, h5⟩ := hr
  refine ⟨A, cap, b, off, h1, h2, h3, fun hl => ⟨(h4 hl).1, hS _ (h4 hl).2⟩, ?_⟩
  cases l with
  | nil => rw [RdM]; trivial
  | cons d l => exact RdM.keep h hS (d :: l) b off (h4 (by simp)).2 h5
theorem RdS.keep {S S' : Nat -> Prop} {w w' : World} (h : Keeps S w w') (hS : ∀ b, S b -> S' b) : ∀ (l : List D) (cs : List Value), RdS w S l cs -> RdS w' S' l cs
 | [], _, hr => hr
 | d :: l, cs, hr => by
  rw [RdS] at hr ⊢
  obtain ⟨c1, c2, h1, h2, h3⟩ := hr
  exact ⟨c1, c2, h1, Rd.keep h hS d c1 h2, RdS.keep h hS l c2 h3⟩
theorem RdM.keep {S S' : Nat -> Prop} {w w' : World} (h : Keeps S w w') (hS : ∀ b, S b -> S' b) : ∀ (l : List D) (b off : Nat), S b -> RdM w S l b off -> RdM w' S' l b off
 | [], _, _, _, _ => by rw [RdM]; trivial
 | d :: l, b, off, hb, hr => by
  rw [RdM] at hr ⊢
  obtain ⟨⟨cs, h1, h2⟩, h3⟩ := hr
  exact ⟨⟨cs, h1.keep h hb, Rd.keep h hS d cs h2⟩, RdM.keep h hS l b _ hb h3⟩
end
theorem RdM.get {w : World} {S : Nat -> Prop} {sz : Nat} : ∀ (l : List D) (b off : Nat), RdM w S l b off -> (∀ d ∈ l, d.width = sz) -> ∀ i (h : i < l.length), ∃ cs, qw w b (off + i * sz) cs /\ Rd w S l[i] cs
 | [], _, _, _, _, _, h => absurd h (by simp)
 | d :: l, b, off, hr, hw, i, hi => by
  rw [RdM] at hr
  cases i with
  | zero => simpa using hr.1
  | succ i =>
   have hd : d.width = sz := hw d (by simp)
   have := RdM.get l b (off + d.width) hr.2 (fun x hx => hw x (by simp [hx])) i (by simpa using hi)
   rw [hd] at this
   rw [show off + (i + 1) * sz = off + sz + i * sz by rw [Nat.succ_mul]; omega]
   exact this
theorem Keeps.refl (S : Nat -> Prop) (w : World) : Keeps S w w := fun _ _ _ => rfl
theorem Below.keeps {S : Nat -> Prop} {w w' : World} (h : Below w.heap.size w w') : Keeps S w w' := fun b _ hlt => h.block b hlt
abbrev Ext (w w' : World) : Prop := Below w.heap.size w w'
theorem Ext.refl (w : World) : Ext w w := Below.refl _ _
theorem Ext.trans {a b c : World} (h : Ext a b) (k : Ext b c) : Ext a c := Below.trans h (k.mono h.size)
theorem Ext.alloc {a b : World} (h : Ext a b) (o : Obj) : Ext a (b.alloc o) := Below.alloc h h.size o
theorem Ext.drew {a b : World} (h : Ext a b) : Ext a b.drew := Below.drew h
theorem Ext.cells {W w1 : World} (h : Ext W w1) : ∀ b o, b < W.heap.size -> w1.cell? ⟨b, o, none⟩ = W.cell? ⟨b, o, none⟩ := fun b o hb => Below.cell (p := ⟨b, o, none⟩) h hb
theorem Ext.at {W w1 : World} (h : Ext W w1) {p : Addr} {v : Value} (hc : W.cell? p = some v) : w1.cell? p = some v := (Below.cell h (World.block_lt_of_cell? W _ hc)).trans hc
theorem Rd.ext {S : Nat -> Prop} {w w' : World} {d : D} {cs : List Value} (hr : Rd w S d cs) (h : Ext w w') : Rd w' S d cs := Rd.keep (Below.keeps h) (fun _ h => h) d cs hr
theorem RdM.ext {S : Nat -> Prop} {w w' : World} {l : List D} {b off : Nat} (hr : RdM w S l b off) (hb : 0 < l.length -> S b) (h : Ext w w') : RdM w' S l b off := by
 cases l with
 | nil => rw [RdM]; trivial
 | cons d l => exact RdM.keep (Below.keeps h) (fun _ h => h) _ b off (hb (by simp)) hr
theorem qlw {w : World} {S : Nat -> Prop} {l : List Int} {b off : Nat} (hm : RdM w S (l.map D.int) b off) {k : Nat} (hk : k < l.length) : w.cell? ⟨b, off + k, none⟩ = some (.int .i64 l[k]) := by
 obtain ⟨cs, hc, hr⟩ := RdM.get (sz := 1) _ b off hm (by intro d hd; obtain ⟨x, -, rfl⟩ := List.mem_map.1 hd; rfl) k (by simpa using hk)
 rw [List.getElem_map, Rd] at hr
 subst hr
 simpa [qw] using hc
theorem Rd.sl_open {w : World} {S : Nat -> Prop} {l : List D} {v : Value} (h : Rd w S (.sl l) [v]) : ∃ (A : Option Addr) (cap b off : Nat), v = .slice A l.length cap /\ l.length <= cap /\ cap <= 9223372036854775807 /\ (0 < l.length -> A = some ⟨b, off, none⟩ /\ S b) /\ RdM w S l b off := by
 rw [Rd] at h
 obtain ⟨A, cap, b, off, h1, h2⟩ := h
 exact ⟨A, cap, b, off, by simpa using h1, h2⟩
theorem Rd.sl_mk {w : World} {S : Nat -> Prop} {l : List D} {A : Option Addr} {n cap b off : Nat} (hn : n = l.length) (h1 : l.length <= cap) (h2 : cap <= 9223372036854775807) (h3 : 0 < l.length -> A = some ⟨b, off, none⟩ /\ S b) (h4 : RdM w S l b off) : Rd w S (.sl l) [.slice A n cap] := by
 rw [Rd]; exact ⟨A, cap, b, off, by rw [hn], h1, h2, h3, h4⟩
theorem qhv {k : IntKind} {a b : Int} (h : a = b) : Ending.returned (.int k a) = .returned (.int k b) := by rw [h]
def Any : Nat -> Prop := fun _ => True
theorem any (b : Nat) : Any b := trivial
theorem Rd.any {S : Nat -> Prop} {w : World} {d : D} {cs : List Value} (hr : Rd w S d cs) : Rd w Any d cs := Rd.keep (Keeps.refl S w) (fun _ _ => trivial) d cs hr
theorem qlh (W : World) (cs : Array Value) (et : TypeId) : ∀ j u, cs.toList[j]? = some u -> (W.alloc (.cells cs et)).cell? ((⟨W.heap.size, 0, none⟩ : Addr).add j) = some u := by
 intro j u hu
 have h1 : (W.alloc (.cells cs et)).heap[W.heap.size]? = some (.cells cs et (0, 0)) := heap_alloc_new W _
 have h2 : ((⟨W.heap.size, 0, none⟩ : Addr).add j) = ⟨W.heap.size, j, none⟩ := by
  unfold Addr.add; split
  .rename_i h; subst h; rfl
  .simp
 rw [h2]
 simp only [World.cell?, h1]
 simpa using hu
theorem qpi {P : Program} {ops : Array Oper} {rest : List Oper} {o : Oper} {a : Act} {Q : Exit -> Act -> World -> Prop} (W : World) (cs : Array Value) (et : TypeId)
  (hgd : o.guard = none) (s x : Operand) (t : TypeId) (ho : o.op = .call { callee := .builtin .append, args := #[s, x], argTypes := #[t, t] })
  (B : Nat) (e : TypeId) (size bytes : Nat) (z : Value) (ht : P.underlying t = some (.slice e)) (hinfo : (P.info? e).map (fun i => (i.zero, i.size, i.bytes)) = some (some z, size, bytes))
  (hz : z.cells.size = size) (hsz : 0 < size) (hby : 0 < bytes)
  (v : Value) (n : Nat) (xs : List Value) (hs : a.eval s = v) (hown : W.ownsRow B e size v n xs) (hx : a.eval x = .slice (some ⟨W.heap.size, 0, none⟩) 1 1) (hcs : cs.size = size) (h1 : ∀ u ∈ cs.toList, u.oneCell' = true)
  (hb : (n + 1) * bytes <= 140737488355328) (hB : B <= W.heap.size)
  (h : ∀ v' w', w'.ownsRow B e size v' (n + 1) (xs ++ cs.toList) -> W.grownBy w' v.ownBlock -> v' ≠ .slice none 0 0 -> wpList P ops Q rest (a.put o.dst v') w') : wpList P ops Q (o :: rest) a (W.alloc (.cells cs et)) := by
 obtain ⟨i, hi, hz0, hz1, hz2⟩ := info_parts hinfo
 have hbb : n + 1 <= 140737488355328 := Nat.le_trans (Nat.le_mul_of_pos_right _ hby) hb
 refine wpList_append_own (W.alloc (.cells cs et)) hgd s x t ho B e i z size bytes ht hi hz0 hz1 hz2 hz hsz v n xs hs (hown.alloc _) ⟨W.heap.size, 0, none⟩ 1 1 cs.toList hx (by simpa using hcs) (qlh W cs et) h1
  (by unfold maxLen; omega) hb (by simp; omega) ?_
 intro v' w' h2 h3 h4
 refine h v' w' h2 ?_ (fun e => by have := h4.1 e; omega)
 have h5 := World.grownBy_alloc W (.cells cs et) v.ownBlock
 exact ⟨h3.os.trans h5.os, h3.tape.trans h5.tape, h3.output.trans h5.output, Nat.le_trans h5.size h3.size, fun k hk hne => (h3.block k (Nat.lt_of_lt_of_le hk h5.size) hne).trans (h5.block k hk hne)⟩
theorem Ext.grown {w W w' : World} {B : Nat} {e : TypeId} {size n : Nat} {v : Value} {xs : List Value} (h : Ext w W) (hown : W.ownsRow B e size v n xs) (hB : w.heap.size <= B) (hg : W.grownBy w' v.ownBlock) : Ext w w' :=
 Below.grown h hg h.size (fun k hk => Nat.le_trans hB (hown.lt k hk).1)
theorem qey1 {w w' : World} {B : Nat} {e : TypeId} {size n : Nat} {v : Value} {xs : List Value} (h : w.ownsRow B e size v n xs) (he : Ext w w') : w'.ownsRow B e size v n xs := by
 refine ⟨h.1, ?_⟩
 rcases h.2 with h2 | ⟨g, cap, cur, hv, hg, hh, r⟩
 .exact Or.inl h2
 .exact Or.inr ⟨g, cap, cur, hv, hg, (he.block g (Array.getElem?_eq_some_iff.1 hh).1).trans hh, r⟩
theorem qgq {w : World} {g : Nat} : ∀ (cs : List Value) (off : Nat), (∀ j u, cs[j]? = some u -> w.cell? ⟨g, off + j, none⟩ = some u) -> qw w g off cs
 | [], _, _ => trivial
 | v :: cs, off, h => ⟨by simpa using h 0 v rfl, qgq cs (off + 1) fun j u hu => by
   have := h (j + 1) u (by simpa using hu)
   rwa [show off + (j + 1) = off + 1 + j by omega] at this⟩
theorem qls1 {w : World} {S : Nat -> Prop} {g : Nat} : ∀ (l : List D) (xs : List Value) (off : Nat), RdS w S l xs -> (∀ j u, xs[j]? = some u -> w.cell? ⟨g, off + j, none⟩ = some u) -> RdM w S l g off
 | [], _, _, _, _ => by rw [RdM]; trivial
 | d :: l, xs, off, h, hc => by
  rw [RdS] at h
  obtain ⟨c1, c2, rfl, h1, h2⟩ := h
  rw [RdM]
  have hlen := Rd.length d c1 h1
  refine ⟨⟨c1, qgq c1 off fun j u hu => hc j u ?_, h1⟩, qls1 l c2 (off + d.width) h2 fun j u hu => ?_⟩
  .have hj : j < c1.length := (List.getElem?_eq_some_iff.1 hu).1
   rw [List.getElem?_append_left hj]; exact hu
  .have := hc (c1.length + j) u (by rw [List.getElem?_append_right (by omega)]; simpa using hu)
   rwa [<- Nat.add_assoc, hlen] at this
theorem qrv1 {w : World} {S S' : Nat -> Prop} {B : Nat} {e : TypeId} {size : Nat} {v : Value} {l : List D} {xs : List Value} (h : w.ownsRow B e size v l.length xs) (hr : RdS w S l xs)
  (hS : ∀ b, S b -> S' b) (hS2 : ∀ b, v.ownBlock = some b -> S' b) : Rd w S' (.sl l) [v] := by
 have hr' := RdS.keep (Keeps.refl S w) hS l xs hr
 rcases h.2 with ⟨rfl, h0⟩ | ⟨g, cap, cur, rfl, hb, hg, h1, h2, h3, h4⟩
 .refine Rd.sl_mk (b := 0) (off := 0) (by simp [h0]) (by simp [h0]) (by omega) (by simp [h0]) ?_
  have : l = [] := List.eq_nil_of_length_eq_zero h0
  subst this; rw [RdM]; trivial
 .refine Rd.sl_mk (b := g) (off := 0) rfl h1 (by simpa [maxLen] using h2) (fun _ => ⟨rfl, hS2 g rfl⟩) (qls1 l xs 0 hr' ?_)
  intro j u hu
  have := h.cells (g := g) rfl j u hu
  have e2 : ((⟨g, 0, none⟩ : Addr).add j) = ⟨g, 0 + j, none⟩ := by
   unfold Addr.add; split
   .rename_i h; subst h; rfl
   .rfl
  rwa [e2] at this
theorem qys (w : World) (S : Nat -> Prop) : ∀ l : List Int, RdS w S (l.map D.int) (l.map (Value.int .i64))
 | [] => by rw [List.map_nil, RdS, List.map_nil]
 | x :: l => by rw [List.map_cons, RdS]; exact ⟨[.int .i64 x], _, rfl, by rw [Rd], qys w S l⟩
theorem qyj {w : World} {S : Nat -> Prop} {B : Nat} {e : TypeId} {v : Value} {l : List Int} (h : w.ownsRow B e 1 v l.length (l.map (Value.int .i64))) (hS : ∀ b, v.ownBlock = some b -> S b) : Rd w S (.sl (l.map D.int)) [v] :=
 qrv1 (l := l.map D.int) (S := S) (by simpa using h) (qys w S l) (fun _ h => h) hS
theorem RdS.append {w : World} {S : Nat -> Prop} : ∀ (l : List D) (xs : List Value) (d : D) (cs : List Value), RdS w S l xs -> Rd w S d cs -> RdS w S (l ++ [d]) (xs ++ cs)
 | [], xs, d, cs, h, hd => by
  rw [RdS] at h; subst h
  rw [List.nil_append, List.nil_append, RdS]
  exact ⟨cs, [], by simp, hd, by rw [RdS]⟩
 | y :: l, xs, d, cs, h, hd => by
  rw [RdS] at h
  obtain ⟨c1, c2, rfl, h1, h2⟩ := h
  rw [List.cons_append, RdS]
  exact ⟨c1, c2 ++ cs, by simp, h1, RdS.append l c2 d cs h2 hd⟩
theorem RdS.ext {S : Nat -> Prop} {w w' : World} {l : List D} {cs : List Value} (hr : RdS w S l cs) (h : Ext w w') : RdS w' S l cs := RdS.keep (Below.keeps h) (fun _ h => h) l cs hr
end Go.Proofs.YtkedbjjfmejbhaaGreatDoor
namespace Go.Proofs.YtkedbjjfmejbhaaGreatDoor
def qu : List Value := [.string ⟨#[105, 110, 116]⟩, .string ⟨#[116, 101, 120, 116]⟩, .string ⟨#[98, 111, 111, 108]⟩, .string ⟨#[99, 111, 108]⟩, .string ⟨#[]⟩, .string ⟨#[116, 105, 109, 101]⟩, .string ⟨#[110, 111, 116]⟩, .string ⟨#[110, 101, 103]⟩, .string ⟨#[97, 100, 100]⟩, .string ⟨#[115, 117, 98]⟩, .string ⟨#[109, 117, 108]⟩, .string ⟨#[100, 105, 118]⟩, .string ⟨#[109, 111, 100]⟩, .string ⟨#[101, 113]⟩, .string ⟨#[110, 101]⟩, .string ⟨#[108, 116]⟩, .string ⟨#[108, 101]⟩, .string ⟨#[97, 110, 100]⟩, .string ⟨#[111, 114]⟩, .string ⟨#[99, 111, 110, 99, 97, 116]⟩, .string ⟨#[108, 101, 110]⟩, .string ⟨#[105, 102]⟩, .string ⟨#[]⟩]
def qgd (C : Nat -> Nat -> List Value -> Prop) : Prop := (∃ _m : Unit, C 2 0 (Go.Lib.pow10Tab.map fun z => Value.int .u64 z)) /\ (∃ _m : Unit, C 0 0 qu) /\ True
theorem qgd.mono {C C' : Nat -> Nat -> List Value -> Prop} (hC : ∀ b o cs, C b o cs -> C' b o cs) (h : qgd C) : qgd C' := by
 obtain ⟨⟨m0, h0⟩, ⟨m1, h1⟩, -⟩ := h
 exact ⟨⟨m0, hC _ _ _ h0⟩, ⟨m1, hC _ _ _ h1⟩, trivial⟩
def gtab (g : Nat) : Option (List Value) := if g = 0 then some qu else none
theorem qvy {C : Nat -> Nat -> List Value -> Prop} (h : qgd C) {g : Nat} {cs : List Value} (hg : gtab g = some cs) : C g 0 cs := by
 unfold gtab at hg
 obtain ⟨⟨m0, h0⟩, ⟨m1, h1⟩, -⟩ := h
 split at hg
 .rename_i e; subst e; cases hg; exact h1
 cases hg
@[simp] theorem qjd1 : gtab 0 = some qu := rfl
@[simp] theorem qpv1 : qu[0]? = some (.string ⟨#[105, 110, 116]⟩) := rfl
@[simp] theorem qpw1 : qu[1]? = some (.string ⟨#[116, 101, 120, 116]⟩) := rfl
@[simp] theorem qpx1 : qu[2]? = some (.string ⟨#[98, 111, 111, 108]⟩) := rfl
@[simp] theorem qpy1 : qu[3]? = some (.string ⟨#[99, 111, 108]⟩) := rfl
@[simp] theorem qpz1 : qu[4]? = some (.string ⟨#[]⟩) := rfl
@[simp] theorem qqa1 : qu[5]? = some (.string ⟨#[116, 105, 109, 101]⟩) := rfl
@[simp] theorem qqb1 : qu[6]? = some (.string ⟨#[110, 111, 116]⟩) := rfl
@[simp] theorem qqc1 : qu[7]? = some (.string ⟨#[110, 101, 103]⟩) := rfl
@[simp] theorem qqd1 : qu[8]? = some (.string ⟨#[97, 100, 100]⟩) := rfl
@[simp] theorem qqe1 : qu[9]? = some (.string ⟨#[115, 117, 98]⟩) := rfl
@[simp] theorem qnr1 : qu[10]? = some (.string ⟨#[109, 117, 108]⟩) := rfl
@[simp] theorem qns1 : qu[11]? = some (.string ⟨#[100, 105, 118]⟩) := rfl
@[simp] theorem qnt1 : qu[12]? = some (.string ⟨#[109, 111, 100]⟩) := rfl
@[simp] theorem qnu1 : qu[13]? = some (.string ⟨#[101, 113]⟩) := rfl
@[simp] theorem qnv1 : qu[14]? = some (.string ⟨#[110, 101]⟩) := rfl
@[simp] theorem qnw1 : qu[15]? = some (.string ⟨#[108, 116]⟩) := rfl
@[simp] theorem qnx1 : qu[16]? = some (.string ⟨#[108, 101]⟩) := rfl
@[simp] theorem qny1 : qu[17]? = some (.string ⟨#[97, 110, 100]⟩) := rfl
@[simp] theorem qnz1 : qu[18]? = some (.string ⟨#[111, 114]⟩) := rfl
@[simp] theorem qoa1 : qu[19]? = some (.string ⟨#[99, 111, 110, 99, 97, 116]⟩) := rfl
@[simp] theorem qob1 : qu[20]? = some (.string ⟨#[108, 101, 110]⟩) := rfl
@[simp] theorem qoc1 : qu[21]? = some (.string ⟨#[105, 102]⟩) := rfl
@[simp] theorem qod1 : qu[22]? = some (.string ⟨#[]⟩) := rfl
end Go.Proofs.YtkedbjjfmejbhaaGreatDoor
namespace Go.Proofs.YtkedbjjfmejbhaaGreatDoor
open Go.RowKit Go.Lib
structure Val where
 k : Int
 n : Int
 s : ByteArray
 deriving DecidableEq
def Val.d (x : Val) : D := .st [.int x.k, .int x.n, .str x.s]
theorem Val.width (x : Val) : x.d.width = 3 := by
 simp [Val.d, D.width, D.widths]
theorem Val.widths (l : List Val) : ∀ d ∈ l.map Val.d, d.width = 3 := by
 intro d hd; obtain ⟨x, -, rfl⟩ := List.mem_map.1 hd; exact Val.width x
theorem Val.open {w : World} {S : Nat -> Prop} {x : Val} {cs : List Value} (h : Rd w S x.d cs) : cs = [.int .i64 x.k, .int .i64 x.n, .string x.s] := by
 simp only [Val.d, Val.d, Rd, RdS, List.length_map] at h
 obtain ⟨_, _, rfl, rfl, ⟨_, _, rfl, rfl, ⟨_, _, rfl, rfl, rfl⟩⟩⟩ := h
 simp
theorem Val.at {w : World} {S : Nat -> Prop} {l : List Val} {b off : Nat} (hm : RdM w S (l.map Val.d) b off) {k : Nat} (hk : k < l.length) : w.cell? ⟨b, off + k * 3, none⟩ = some (.int .i64 l[k].k) /\ w.cell? ⟨b, off + k * 3 + 1, none⟩ = some (.int .i64 l[k].n) /\ w.cell? ⟨b, off + k * 3 + 1 + 1, none⟩ = some (.string l[k].s) /\ Rd w S l[k].d [.int .i64 l[k].k, .int .i64 l[k].n, .string l[k].s] := by
 obtain ⟨cs, hc, hr⟩ := RdM.get _ b off hm (Val.widths l) k (by simpa using hk)
 rw [List.getElem_map] at hr
 obtain rfl := Val.open hr
 simp only [qw, and_true] at hc
 obtain ⟨c0, c1, c2⟩ := hc
 exact ⟨c0, c1, c2, hr⟩
structure ExtW (w : World) where
 val : World
 ext : Ext w val
instance (w : World) : Nonempty (ExtW w) := ⟨⟨w, Ext.refl w⟩⟩
theorem ExtW.at {w : World} {p : Addr} {v : Value} (hc : w.cell? p = some v) : ∀ x : ExtW w, x.val.cell? p = some v := fun x => x.ext.at hc
theorem qgn {P : Program} {ops : Array Oper} {C : World -> Prop} {Q Q' : Act -> Prop} (hQ : ∀ a, Q a -> Q' a) : ∀ (l : List Oper) (a : Act), wpQuiet P ops C Q l a -> wpQuiet P ops C Q' l a
 | [], a, h => hQ a h
 | o :: l, a, h => by
  unfold wpQuiet at h ⊢
  split
  .rename_i hw; rw [if_pos hw] at h; exact Oper.quiet_mono (fun a' h' => qgn hQ l a' h') h
  .rename_i hw; rw [if_neg hw] at h; exact qgn hQ l _ h
theorem qrk {P : Program} {id : Nat} {Q : Exit -> Act -> World -> Prop} {a : Act} {w : World} {l : List Oper} (hm : P.follows .mixedOrders = true) (hB : Region.lexB .any l.toArray = true)
  (h : wpQuiet P l.toArray (fun w' => ∃ x : ExtW w, w' = x.val) (fun a' => ∀ w', Ext w w' -> Q .normal a' w') l a) : (Code.region id l.toArray true).wp P Q a w :=
 wp_region_quiet (C := fun w' => ∃ x : ExtW w, w' = x.val) hm hB ⟨⟨{ w with drawn := w.drawn + 1 }, ⟨rfl, rfl, rfl, Nat.le_refl _, fun _ _ => rfl⟩⟩, rfl⟩
  (qgn (fun a' h' w' hx => by obtain ⟨x, rfl⟩ := hx; exact h' x.val x.ext) _ _ (by simpa using h))
section
variable {P : Program} {ops : Array Oper} {md : Region.Mode} {C : World -> Prop}
end
end Go.Proofs.YtkedbjjfmejbhaaGreatDoor
namespace Go.Proofs.YtkedbjjfmejbhaaGreatDoor
open Go.RowKit Go.Lib
section
variable {P : Program} {ops : Array Oper} {md : Region.Mode} {C : World -> Prop} {Q : Exit -> Act -> World -> Prop}
end
inductive Ex where
 | mk (op : Int) (n : Int) (s : ByteArray) (args : List Ex)
def Ex.op : Ex -> Int | .mk x _ _ _ => x
def Ex.n : Ex -> Int | .mk _ x _ _ => x
def Ex.s : Ex -> ByteArray | .mk _ _ x _ => x
def Ex.args : Ex -> List Ex | .mk _ _ _ x => x
mutual
def Ex.d : Ex -> D
 | .mk op n s args => .st [.int op, .int n, .str s, .sl (Ex.ds args)]
def Ex.ds : List Ex -> List D
 | [] => []
 | e :: l => e.d :: Ex.ds l
end
theorem Ex.ds_map : ∀ l : List Ex, Ex.ds l = l.map Ex.d
 | [] => rfl
 | e :: l => by rw [Ex.ds, Ex.ds_map l, List.map_cons]
theorem Ex.ind {P : Ex -> Prop} (h : ∀ (op : Int) (n : Int) (s : ByteArray) (args : List Ex), (∀ x ∈ args, P x) -> P (.mk op n s args)) : ∀ e, P e
 | .mk op n s args => h op n s args fun x hx => Ex.ind h x
termination_by e => SizeOf.sizeOf e
decreasing_by
 have := List.sizeOf_lt_of_mem hx
 simp_wf; omega
theorem Ex.width (x : Ex) : x.d.width = 4 := by
 obtain ⟨⟩ := x; simp [Ex.d, D.width, D.widths]
theorem Ex.widths (l : List Ex) : ∀ d ∈ l.map Ex.d, d.width = 4 := by
 intro d hd; obtain ⟨x, -, rfl⟩ := List.mem_map.1 hd; exact Ex.width x
theorem Ex.open {w : World} {S : Nat -> Prop} {x : Ex} {cs : List Value} (h : Rd w S x.d cs) : ∃ (A1 : Option Addr) (cap1 b1 off1 : Nat), cs = [.int .i64 x.op, .int .i64 x.n, .string x.s, .slice A1 x.args.length cap1] /\ x.args.length <= cap1 /\ cap1 <= 9223372036854775807 /\ (0 < x.args.length -> A1 = some ⟨b1, off1, none⟩ /\ S b1) /\ RdM w S (x.args.map Ex.d) b1 off1 := by
 obtain ⟨op, n, s, args⟩ := x
 simp only [Ex.d, Ex.op, Ex.n, Ex.s, Ex.args, Rd, RdS, List.length_map, Ex.ds_map] at h
 obtain ⟨_, _, rfl, rfl, ⟨_, _, rfl, rfl, ⟨_, _, rfl, rfl, ⟨_, _, rfl, ⟨A1, cap1, b1, off1, rfl, p1, q1, r1, s1⟩, rfl⟩⟩⟩⟩ := h
 exact ⟨A1, cap1, b1, off1, by simp [Ex.op, Ex.n, Ex.s, Ex.args], p1, q1, r1, s1⟩
theorem Ex.mk_rd {w : World} {S : Nat -> Prop} {x : Ex} {A1 : Option Addr} {cap1 b1 off1 : Nat} (h1 : x.args.length <= cap1) (h2 : cap1 <= 9223372036854775807) (h3 : 0 < x.args.length -> A1 = some ⟨b1, off1, none⟩ /\ S b1) (h4 : RdM w S (x.args.map Ex.d) b1 off1) :
  Rd w S x.d [.int .i64 x.op, .int .i64 x.n, .string x.s, .slice A1 x.args.length cap1] := by
 obtain ⟨op, n, s, args⟩ := x
 simp only [Ex.d, Rd, RdS, List.length_map, Ex.ds_map, Ex.op, Ex.n, Ex.s, Ex.args] at *
 exact ⟨[_], _, rfl, rfl, [_], _, rfl, rfl, [_], _, rfl, rfl, [_], _, rfl, ⟨A1, cap1, b1, off1, rfl, h1, h2, h3, h4⟩, rfl⟩
theorem Ex.at {w : World} {S : Nat -> Prop} {l : List Ex} {b off : Nat} (hm : RdM w S (l.map Ex.d) b off) {k : Nat} (hk : k < l.length) : ∃ (A1 : Option Addr) (cap1 b1 off1 : Nat), w.cell? ⟨b, off + k * 4, none⟩ = some (.int .i64 l[k].op) /\ w.cell? ⟨b, off + k * 4 + 1, none⟩ = some (.int .i64 l[k].n) /\ w.cell? ⟨b, off + k * 4 + 1 + 1, none⟩ = some (.string l[k].s) /\ w.cell? ⟨b, off + k * 4 + 1 + 1 + 1, none⟩ = some (.slice A1 l[k].args.length cap1) /\ Rd w S l[k].d [.int .i64 l[k].op, .int .i64 l[k].n, .string l[k].s, .slice A1 l[k].args.length cap1] /\ l[k].args.length <= cap1 /\ cap1 <= 9223372036854775807 /\ (0 < l[k].args.length -> A1 = some ⟨b1, off1, none⟩ /\ S b1) /\ RdM w S (l[k].args.map Ex.d) b1 off1 := by
 obtain ⟨cs, hc, hr⟩ := RdM.get _ b off hm (Ex.widths l) k (by simpa using hk)
 rw [List.getElem_map] at hr
 obtain ⟨A1, cap1, b1, off1, rfl, hf⟩ := Ex.open hr
 simp only [qw, and_true] at hc
 obtain ⟨c0, c1, c2, c3⟩ := hc
 exact ⟨A1, cap1, b1, off1, c0, c1, c2, c3, hr, hf⟩
structure Fn where
 name : ByteArray
 params : List Int
 res : Int
 body : Ex
def Fn.d (x : Fn) : D := .st [.str x.name, .sl (x.params.map D.int), .int x.res, x.body.d]
theorem Fn.width (x : Fn) : x.d.width = 7 := by
 simp [Fn.d, D.width, D.widths, Ex.width]
theorem Fn.widths (l : List Fn) : ∀ d ∈ l.map Fn.d, d.width = 7 := by
 intro d hd; obtain ⟨x, -, rfl⟩ := List.mem_map.1 hd; exact Fn.width x
theorem Fn.open {w : World} {S : Nat -> Prop} {x : Fn} {cs : List Value} (h : Rd w S x.d cs) : ∃ (A1 : Option Addr) (cap1 b1 off1 : Nat) (A2 : Option Addr) (cap2 b2 off2 : Nat), cs = [.string x.name, .slice A1 x.params.length cap1, .int .i64 x.res, .int .i64 x.body.op, .int .i64 x.body.n, .string x.body.s, .slice A2 x.body.args.length cap2] /\ x.params.length <= cap1 /\ cap1 <= 9223372036854775807 /\ (0 < x.params.length -> A1 = some ⟨b1, off1, none⟩ /\ S b1) /\ RdM w S (x.params.map D.int) b1 off1 /\ x.body.args.length <= cap2 /\ cap2 <= 9223372036854775807 /\ (0 < x.body.args.length -> A2 = some ⟨b2, off2, none⟩ /\ S b2) /\ RdM w S (x.body.args.map Ex.d) b2 off2 := by
 simp only [Fn.d, Fn.d, Rd, RdS, List.length_map] at h
 obtain ⟨_, _, rfl, rfl, ⟨_, _, rfl, ⟨A1, cap1, b1, off1, rfl, p1, q1, r1, s1⟩, ⟨_, _, rfl, rfl, ⟨_, _, rfl, g3, rfl⟩⟩⟩⟩ := h
 obtain ⟨B3_0, C3_0, D3_0, E3_0, rfl, P3_0, Q3_0, R3_0, S3_0⟩ := Ex.open g3
 exact ⟨A1, cap1, b1, off1, B3_0, C3_0, D3_0, E3_0, by simp, p1, q1, r1, s1, P3_0, Q3_0, R3_0, S3_0⟩
theorem Fn.at {w : World} {S : Nat -> Prop} {l : List Fn} {b off : Nat} (hm : RdM w S (l.map Fn.d) b off) {k : Nat} (hk : k < l.length) : ∃ (A1 : Option Addr) (cap1 b1 off1 : Nat) (A2 : Option Addr) (cap2 b2 off2 : Nat), w.cell? ⟨b, off + k * 7, none⟩ = some (.string l[k].name) /\ w.cell? ⟨b, off + k * 7 + 1, none⟩ = some (.slice A1 l[k].params.length cap1) /\ w.cell? ⟨b, off + k * 7 + 1 + 1, none⟩ = some (.int .i64 l[k].res) /\ w.cell? ⟨b, off + k * 7 + 1 + 1 + 1, none⟩ = some (.int .i64 l[k].body.op) /\ w.cell? ⟨b, off + k * 7 + 1 + 1 + 1 + 1, none⟩ = some (.int .i64 l[k].body.n) /\ w.cell? ⟨b, off + k * 7 + 1 + 1 + 1 + 1 + 1, none⟩ = some (.string l[k].body.s) /\ w.cell? ⟨b, off + k * 7 + 1 + 1 + 1 + 1 + 1 + 1, none⟩ = some (.slice A2 l[k].body.args.length cap2) /\ Rd w S l[k].d [.string l[k].name, .slice A1 l[k].params.length cap1, .int .i64 l[k].res, .int .i64 l[k].body.op, .int .i64 l[k].body.n, .string l[k].body.s, .slice A2 l[k].body.args.length cap2] /\ l[k].params.length <= cap1 /\ cap1 <= 9223372036854775807 /\ (0 < l[k].params.length -> A1 = some ⟨b1, off1, none⟩ /\ S b1) /\ RdM w S (l[k].params.map D.int) b1 off1 /\ l[k].body.args.length <= cap2 /\ cap2 <= 9223372036854775807 /\ (0 < l[k].body.args.length -> A2 = some ⟨b2, off2, none⟩ /\ S b2) /\ RdM w S (l[k].body.args.map Ex.d) b2 off2 := by
 obtain ⟨cs, hc, hr⟩ := RdM.get _ b off hm (Fn.widths l) k (by simpa using hk)
 rw [List.getElem_map] at hr
 obtain ⟨A1, cap1, b1, off1, A2, cap2, b2, off2, rfl, hf⟩ := Fn.open hr
 simp only [qw, and_true] at hc
 obtain ⟨c0, c1, c2, c3, c4, c5, c6⟩ := hc
 exact ⟨A1, cap1, b1, off1, A2, cap2, b2, off2, c0, c1, c2, c3, c4, c5, c6, hr, hf⟩
def kindB (n : Int) : Bool := decide (0 <= n) && decide (n < 3)
mutual
def light : Ex -> Int -> Int -> Int
 | .mk _ _ s l, n, lv => if n - 1 < 0 \/ lv < 1 \/ (s.size : Int) > 300 then -1 else qex l (n - 1) (lv - 1)
def qex : List Ex -> Int -> Int -> Int
 | [], n, _ => n
 | e :: l, n, lv => if n >= 0 then qex l (light e n lv) lv else n
end
mutual
theorem qjl1 : ∀ (e : Ex) (n lv : Int), 0 <= n -> -1 <= light e n lv /\ light e n lv <= n
 | .mk _ _ s l, n, lv, h => by
  rw [light]; split
  .omega
  .have := qtk l (n - 1) (lv - 1) (by omega); omega
theorem qtk : ∀ (l : List Ex) (n lv : Int), -1 <= n -> -1 <= qex l n lv /\ qex l n lv <= n
 | [], n, lv, h => by rw [qex]; omega
 | e :: l, n, lv, h => by
  rw [qex]; split
  .have := qjl1 e n lv (by omega)
   have := qtk l (light e n lv) lv (by omega); omega
  .omega
end
mutual
def levels : Ex -> Int
 | .mk _ _ _ l => qp l 0 + 1
def qp : List Ex -> Int -> Int
 | [], n => n
 | e :: l, n => qp l (max n (levels e))
end
mutual
def parts : Ex -> Nat
 | .mk _ _ _ l => qm l + 1
def qm : List Ex -> Nat
 | [] => 0
 | e :: l => parts e + qm l
end
mutual
theorem qcl : ∀ e : Ex, 1 <= levels e /\ levels e <= parts e
 | .mk _ _ _ l => by have := qha l 0 0 (by omega) (by omega); rw [levels, parts]; omega
theorem qha : ∀ (l : List Ex) (n : Int) (m : Nat), 0 <= n -> n <= m -> n <= qp l n /\ qp l n <= m + qm l
 | [], n, m, _, _ => by rw [qp, qm]; omega
 | e :: l, n, m, h0, h => by
  have h1 := qcl e
  have h2 := qha l (max n (levels e)) (m + parts e) (by omega) (by omega)
  rw [qp, qm]; omega
end
mutual
theorem qwe : ∀ (e : Ex) (n lv : Int), 0 <= n -> 0 <= light e n lv -> (parts e : Int) + light e n lv = n
 | .mk _ _ s l, n, lv, h, h2 => by
  rw [light] at h2 ⊢
  split at h2
  .omega
  .rename_i hc
   rw [if_neg hc]
   have := qkd l (n - 1) (lv - 1) (by omega) h2
   rw [parts]; omega
theorem qkd : ∀ (l : List Ex) (n lv : Int), 0 <= n -> 0 <= qex l n lv -> (qm l : Int) + qex l n lv = n
 | [], n, lv, _, _ => by rw [qex, qm]; omega
 | e :: l, n, lv, h, h2 => by
  rw [qex, if_pos (by omega)] at h2 ⊢
  rw [qm]
  by_cases hp : 0 <= light e n lv
  .have h3 := qwe e n lv h hp
   have h4 := qkd l (light e n lv) lv hp h2
   omega
  .exfalso
   have : qex l (light e n lv) lv = light e n lv := by
    cases l with
    | nil => rw [qex]
    | cons x xs => rw [qex, if_neg (by omega)]
   omega
end
theorem qbq : ∀ l : List Ex, l.length <= qm l
 | [] => by simp
 | e :: l => by have := qcl e; have := qbq l; rw [qm, List.length_cons]; omega
theorem qbh : ∀ (l : List Ex) (e : Ex), e ∈ l -> parts e <= qm l
 | [], _, h => by simp at h
 | x :: l, e, h => by
  rw [qm]
  rcases List.mem_cons.1 h with rfl | h
  .omega
  .have := qbh l e h; omega
def pickT (l : List Int) (n : Int) : Option Int :=
 if n < 0 then none else match l[n.toNat]? with
  | some t => if kindB t then some t else none
  | none => none
def callT (F : List Fn) (n : Int) (ts : List Int) : Option Int :=
 if n < 0 then none else match F[n.toNat]? with
  | some f => if f.params = ts then some f.res else none
  | none => none
def leafT (c p : List Int) (op n : Int) (s : ByteArray) : Option Int :=
 if op = 0 then some 0
 else if op = 2 then (if n = 0 \/ n = 1 then some 2 else none)
 else if op = 3 then pickT c n
 else if op = 4 then pickT p n
 else if op = 1 then (if n = 0 /\ (s.size : Int) <= 200 then some 1 else none)
 else if op = 5 then (if n = 0 then some 0 else none)
 else none
def operT (op n : Int) (ts : List Int) : Option Int :=
 if n ≠ 0 then none
 else if op = 6 then (if ts = [2] then some 2 else none)
 else if op = 7 then (if ts = [0] then some 0 else none)
 else if op = 20 then (if ts = [1] then some 0 else none)
 else if 8 <= op /\ op <= 12 then (if ts = [0, 0] then some 0 else none)
 else if 13 <= op /\ op <= 16 then (match ts with | [a, b] => if a = b then some 2 else none | _ => none)
 else if 17 <= op /\ op <= 18 then (if ts = [2, 2] then some 2 else none)
 else if op = 19 then (if ts = [1, 1] then some 1 else none)
 else if op = 21 then (match ts with | [a, b, c] => if a = 2 /\ b = c then some c else none | _ => none)
 else none
def tailT (F : List Fn) (c p : List Int) (op n : Int) (s : ByteArray) (ts : List Int) : Option Int :=
 if s.size ≠ 0 /\ op ≠ 1 then none
 else if op = 22 then callT F n ts
 else if ts = [] then leafT c p op n s
 else operT op n ts
mutual
def ty (F : List Fn) (c p : List Int) : Ex -> Option Int
 | .mk op n s l => match tys F c p l with
  | some ts => tailT F c p op n s ts
  | none => none
def tys (F : List Fn) (c p : List Int) : List Ex -> Option (List Int)
 | [] => some []
 | e :: l => match ty F c p e with
  | some t => match tys F c p l with
   | some ts => some (t :: ts)
   | none => none
  | none => none
end
def tyD (F : List Fn) (c p : List Int) (e : Ex) : Option Int := if levels e > 12 then none else ty F c p e
def okF (F : List Fn) (i : Nat) : Bool := match F[i]? with
 | some f => f.params.all kindB && decide (tyD (F.take i) [] f.params f.body = some f.res) && decide ((f.params.length : Int) <= 6)
 | none => true
def qde (F : List Fn) : Bool := decide ((F.length : Int) <= 20) && (List.range F.length).all (okF F)
def typeP (F : List Fn) (c p : List Int) (e : Ex) : Option Int := if qde F then tyD F c p e else none
def Val.v (x : Val) : Value := .agg #[.int .i64 x.k, .int .i64 x.n, .string x.s]
def numV (n : Int) : Val := ⟨0, n, ByteArray.empty⟩
def boolV (b : Bool) : Val := ⟨2, if b then 1 else 0, ByteArray.empty⟩
def textV (s : ByteArray) : Val := ⟨1, 0, s⟩
def capS (n : Int) : Int := min n 1099511627776
def sumS (n : Int) : List Int -> Int
 | [] => n
 | k :: l => sumS (capS (n + k)) l
def qfo (B : List Int) (op n : Int) (ks : List Int) : Int :=
 match (if op = 21 then ks else []) with
 | [a, b, c] => capS (1 + a + max b c)
 | _ => if op = 22 /\ 0 <= n /\ n < B.length then capS (sumS 1 ks + B.getD n.toNat 0) else sumS 1 ks
mutual
def qcs (B : List Int) : Ex -> Int
 | .mk op n _ l => qfo B op n (qlo B l)
def qlo (B : List Int) : List Ex -> List Int
 | [] => []
 | e :: l => qcs B e :: qlo B l
end
theorem qjg (B : List Int) : ∀ l, qlo B l = l.map (qcs B)
 | [] => rfl
 | e :: l => by rw [qlo, qjg B l, List.map_cons]
def GoodS (l : List Int) : Prop := ∀ k ∈ l, 0 <= k /\ k <= 1099511627776
theorem qpp {n : Int} (h : 0 <= n) : 0 <= capS n /\ capS n <= 1099511627776 := by unfold capS; omega
theorem qgk1 : ∀ (l : List Int) (n : Int), GoodS l -> 0 <= n -> n <= 1099511627776 -> 0 <= sumS n l /\ sumS n l <= 1099511627776
 | [], n, _, h1, h2 => ⟨h1, h2⟩
 | k :: l, n, hg, h1, h2 => by
  have hk := hg k (by simp)
  have := qpp (n := n + k) (by omega)
  exact qgk1 l _ (fun x hx => hg x (by simp [hx])) this.1 this.2
theorem qao1 {l : List Int} (h : GoodS l) (i : Nat) : 0 <= l.getD i 0 /\ l.getD i 0 <= 1099511627776 := by
 rw [List.getD_eq_getElem?_getD]
 by_cases hi : i < l.length
 .rw [List.getElem?_eq_getElem hi]; exact h _ (List.getElem_mem hi)
 .rw [List.getElem?_eq_none (by omega)]; simp
theorem qbd1 {B ks : List Int} (op n : Int) (hB : GoodS B) (hk : GoodS ks) : 0 <= qfo B op n ks /\ qfo B op n ks <= 1099511627776 := by
 have h1 := qgk1 ks 1 hk (by omega) (by omega)
 unfold qfo
 split
 .rename_i a b c h
  have h3 : ks = [a, b, c] := by by_cases ho : op = 21 <;> simp [ho] at h; exact h
  subst h3
  have ha := hk a (by simp); have hb := hk b (by simp); have hc := hk c (by simp)
  exact qpp (by omega)
 .split
  .have := qao1 hB n.toNat
   exact qpp (by omega)
  .exact h1
mutual
theorem qsg (B : List Int) (hB : GoodS B) : ∀ e, 0 <= qcs B e /\ qcs B e <= 1099511627776
 | .mk op n _ l => by rw [qcs]; exact qbd1 op n hB (qhr B hB l)
theorem qhr (B : List Int) (hB : GoodS B) : ∀ l, GoodS (qlo B l)
 | [] => by rw [qlo]; intro k hk; simp at hk
 | e :: l => by
  rw [qlo]; intro k hk
  rcases List.mem_cons.1 hk with rfl | hk
  .exact qsg B hB e
  .exact qhr B hB l k hk
end
def qfy : List Int -> List Fn -> List Int
 | B, [] => B
 | B, f :: F => qfy (B ++ [qcs B f.body]) F
def qmx (F : List Fn) (e : Ex) : Int := qcs (qfy [] F) e
theorem RdM.take {w : World} {S : Nat -> Prop} : ∀ (l : List D) (b off k : Nat), RdM w S l b off -> RdM w S (l.take k) b off
 | [], _, _, _, _ => by rw [List.take_nil, RdM]; trivial
 | d :: l, b, off, 0, _ => by rw [List.take_zero, RdM]; trivial
 | d :: l, b, off, k + 1, h => by
  rw [RdM] at h
  rw [List.take_succ_cons, RdM]
  exact ⟨h.1, RdM.take l b _ k h.2⟩
theorem RdM.drop {w : World} {S : Nat -> Prop} {sz : Nat} : ∀ (l : List D) (b off k : Nat), RdM w S l b off -> (∀ d ∈ l, d.width = sz) -> RdM w S (l.drop k) b (off + k * sz)
 | [], _, _, _, _, _ => by rw [List.drop_nil, RdM]; trivial
 | d :: l, b, off, 0, h, _ => by simpa using h
 | d :: l, b, off, k + 1, h, hw => by
  rw [RdM] at h
  rw [List.drop_succ_cons]
  have hd : d.width = sz := hw d (by simp)
  have := RdM.drop l b (off + d.width) k h.2 (fun x hx => hw x (by simp [hx]))
  rw [hd] at this
  rwa [show off + (k + 1) * sz = off + sz + k * sz by rw [Nat.succ_mul]; omega]
theorem Rd.cut {w : World} {S : Nat -> Prop} {l : List D} {b off cap k : Nat} (hk : k <= l.length) (h1 : l.length <= cap) (h2 : cap <= 9223372036854775807) (hS : S b) (h : RdM w S l b off) : Rd w S (.sl (l.take k)) [.slice (some ⟨b, off, none⟩) k cap] :=
 Rd.sl_mk (by rw [List.length_take]; omega) (by rw [List.length_take]; omega) h2 (fun _ => ⟨rfl, hS⟩) (RdM.take l b off k h)
theorem Rd.nil {w : World} {S : Nat -> Prop} {cap : Nat} (A : Option Addr) (h : cap <= 9223372036854775807) : Rd w S (.sl []) [.slice A 0 cap] :=
 Rd.sl_mk (b := 0) (off := 0) rfl (by simp) h (by simp) (by rw [RdM]; trivial)
theorem qlc {n k : Nat} {p : Nat -> Bool} (h : k < n) (hp : p k = false) : (List.range n).all p = false := by
 rw [List.all_eq_false]; exact ⟨k, List.mem_range.2 h, by rw [hp]; simp⟩
theorem qnc {n : Nat} {p : Nat -> Bool} (h : ∀ i, i < n -> p i = true) : (List.range n).all p = true := by
 rw [List.all_eq_true]; exact fun i hi => h i (List.mem_range.1 hi)
theorem qeh : ∀ (l : List Ex) (n : Int) (e : Ex), e ∈ l -> levels e <= qp l n
 | [], _, _, h => by simp at h
 | x :: l, n, e, h => by
  rw [qp]
  rcases List.mem_cons.1 h with rfl | h
  .have : ∀ (l : List Ex) (n : Int), n <= qp l n := fun l => by
    induction l with
    | nil => intro n; rw [qp]; omega
    | cons a l ih => intro n; rw [qp]; have := ih (max n (levels a)); omega
   have := this l (max n (levels e)); omega
  .exact qeh l _ e h
theorem qgg : ∀ (l : List Ex) (e : Ex) (n : Int), qp (l ++ [e]) n = max (qp l n) (levels e)
 | [], e, n => by simp only [List.nil_append, qp]
 | x :: l, e, n => by rw [List.cons_append, qp, qp, qgg l e]
set_option maxHeartbeats 400000 in
theorem qzb (F : List Fn) (c p : List Int) (e : Ex) (l : List Ex) : tys F c p (e :: l) = (match ty F c p e with | some t => (tys F c p l).map (t :: ·) | none => none) := by
 rw [tys]; cases ty F c p e <;> simp
 cases tys F c p l <;> rfl
def TysAt (F : List Fn) (c p : List Int) (l : List Ex) (ts : List Int) (k : Nat) : Prop := tys F c p l = (tys F c p (l.drop k)).map (ts ++ ·)
theorem TysAt.next {F : List Fn} {c p : List Int} {l : List Ex} {ts : List Int} {k : Nat} (h : TysAt F c p l ts k) (hk : k < l.length) {t : Int} (ht : ty F c p l[k] = some t) : TysAt F c p l (ts ++ [t]) (k + 1) := by
 unfold TysAt at *
 rw [h, List.drop_eq_getElem_cons hk, qzb, ht]
 cases tys F c p (l.drop (k + 1)) <;> simp
theorem TysAt.none {F : List Fn} {c p : List Int} {l : List Ex} {ts : List Int} {k : Nat} (h : TysAt F c p l ts k) (hk : k < l.length) (ht : ty F c p l[k] = .none) : tys F c p l = .none := by
 unfold TysAt at h
 rw [h, List.drop_eq_getElem_cons hk, qzb, ht]; rfl
theorem TysAt.done {F : List Fn} {c p : List Int} {l : List Ex} {ts : List Int} (h : TysAt F c p l ts l.length) : tys F c p l = some ts := by
 unfold TysAt at h
 rw [h]; simp [tys]
theorem qln1 {F : List Fn} {k : Nat} (h : k < F.length) : okF F k = (F[k].params.all kindB && decide (tyD (F.take k) [] F[k].params F[k].body = some F[k].res) && decide ((F[k].params.length : Int) <= 6)) := by
 unfold okF; rw [List.getElem?_eq_getElem h]
theorem qgl {F : List Fn} {k : Nat} (h : k < F.length) (hk : okF F k = false) : qde F = false := by
 unfold qde
 rw [qlc h hk]; simp
theorem qow {F : List Fn} (h : ∀ i, i < F.length -> okF F i = true) : qde F = decide ((F.length : Int) <= 20) := by
 unfold qde
 rw [qnc h]; simp
theorem qwt {F : List Fn} {c p : List Int} : ∀ (l : List Ex), (∀ i (h : i < l.length), (ty F c p l[i]).isSome = true) -> tys F c p l = some (l.map fun e => (ty F c p e).getD 0)
 | [], _ => by rw [tys]; rfl
 | e :: l, h => by
  have h0 := h 0 (by simp)
  simp only [List.getElem_cons_zero] at h0
  obtain ⟨t, ht⟩ := Option.isSome_iff_exists.1 h0
  rw [tys, ht, qwt l (fun i hi => by have := h (i + 1) (by simpa using hi); simpa only [List.getElem_cons_succ] using this)]
  simp [ht]
theorem qre {F : List Fn} {c p : List Int} : ∀ (l : List Ex) (k : Nat) (h : k < l.length), ty F c p l[k] = none -> tys F c p l = none
 | [], k, h, _ => by simp at h
 | e :: l, 0, h, he => by
  simp only [List.getElem_cons_zero] at he
  rw [tys, he]
 | e :: l, k + 1, h, he => by
  rw [tys, qre l k (by simpa using h) (by simpa only [List.getElem_cons_succ] using he)]
  cases ty F c p e <;> rfl
def zeroE : Ex := .mk 0 0 ByteArray.empty []
mutual
def putP (op : Int) (L : List Ex) : Ex -> Option Ex
 | .mk o n s l => if o = op then (if n < 0 then none else L[n.toNat]?) else match putPs op L l with
  | some l' => some (.mk o n s l')
  | none => none
def putPs (op : Int) (L : List Ex) : List Ex -> Option (List Ex)
 | [] => some []
 | e :: l => match putP op L e with
  | some x => match putPs op L l with
   | some xs => some (x :: xs)
   | none => none
  | none => none
end
theorem qos {op : Int} {L : List Ex} {e x : Ex} (hx : putP op L e = some x) : ∀ (l : List Ex) {ys : List Ex}, putPs op L l = some ys -> putPs op L (l ++ [e]) = some (ys ++ [x])
 | [], ys, h => by rw [putPs] at h; cases h; simp only [List.nil_append, putPs, hx]
 | a :: l, ys, h => by
  rw [putPs] at h
  cases he : putP op L a with
  | none => rw [he] at h; cases h
  | some z =>
   rw [he] at h
   cases hl : putPs op L l with
   | none => rw [hl] at h; cases h
   | some xs =>
    rw [hl] at h; cases h
    rw [List.cons_append, putPs, he, qos hx l hl]; rfl
theorem qor {op : Int} {L : List Ex} : ∀ (l : List Ex) {e : Ex}, e ∈ l -> putP op L e = none -> putPs op L l = none
 | [], _, h, _ => by cases h
 | a :: l, e, h, hn => by
  rw [putPs]
  rcases List.mem_cons.1 h with rfl | h
  .rw [hn]
  .rw [qor l h hn]
   cases putP op L a <;> rfl
theorem qmm {op : Int} {L : List Ex} : ∀ (l : List Ex) {ys : List Ex}, putPs op L l = some ys -> ∀ y ∈ ys, ∃ e ∈ l, putP op L e = some y
 | [], ys, h, y, hy => by rw [putPs] at h; cases h; cases hy
 | e :: l, ys, h, y, hy => by
  rw [putPs] at h
  cases he : putP op L e with
  | none => rw [he] at h; cases h
  | some x =>
   rw [he] at h
   cases hl : putPs op L l with
   | none => rw [hl] at h; cases h
   | some xs =>
    rw [hl] at h; cases h
    rcases List.mem_cons.1 hy with rfl | hy
    .exact ⟨e, by simp, he⟩
    .obtain ⟨e', h1, h2⟩ := qmm l hl y hy
     exact ⟨e', by simp [h1], h2⟩
theorem qhu (l : List Ex) (k : Nat) (h : k < l.length) : qm (l.take (k + 1)) = qm (l.take k) + parts l[k] := by
 induction l generalizing k with
 | nil => simp at h
 | cons e l ih =>
  cases k with
  | zero => simp [qm]
  | succ k => rw [List.take_succ_cons, List.take_succ_cons, qm, qm, ih k (by simpa using h)]; simp; omega
theorem qcw (l : List Ex) (k : Nat) : qm (l.take k) <= qm l := by
 induction l generalizing k with
 | nil => simp
 | cons e l ih =>
  cases k with
  | zero => simp [qm]
  | succ k => rw [List.take_succ_cons, qm, qm]; have := ih k; omega
def fitX (x : Ex) : Option Ex := if 1000 < parts x then none else some x
mutual
def inlE (bs : List (Option Ex)) : Ex -> Option Ex
 | .mk o n s l => match inlL bs l with
  | none => none
  | some ys => if o = 22 /\ 0 <= n /\ n < bs.length then (match bs.getD n.toNat none with
    | none => none
    | some b => fitX ((putP 4 ys b).getD zeroE))
   else fitX (.mk o n s ys)
def inlL (bs : List (Option Ex)) : List Ex -> Option (List Ex)
 | [] => some []
 | e :: l => match inlE bs e with
  | none => none
  | some x => match inlL bs l with
   | none => none
   | some xs => some (x :: xs)
end
def inlB : List (Option Ex) -> List Fn -> List (Option Ex)
 | bs, [] => bs
 | bs, f :: F => inlB (bs ++ [inlE bs f.body]) F
def qbj (F : List Fn) (e : Ex) : Option Ex := match inlE (inlB [] F) e with
 | some x => if 12 < levels x then none else some x
 | none => none
mutual
def sameB : Ex -> Ex -> Bool
 | .mk o n s l, .mk o2 n2 s2 l2 => decide (o = o2) && (decide (n = n2) && (decide (s.toList = s2.toList) && qcy l l2))
def qcy : List Ex -> List Ex -> Bool
 | [], [] => true
 | e :: l, e2 :: l2 => sameB e e2 && qcy l l2
 | _, _ => false
end
mutual
theorem qoz : ∀ e : Ex, sameB e e = true
 | .mk o n s l => by rw [sameB, qms l]; simp
theorem qms : ∀ l : List Ex, qcy l l = true
 | [] => by rw [qcy]
 | e :: l => by rw [qcy, qoz e, qms l]; rfl
end
theorem qpa : ∀ (l l2 : List Ex), l.length ≠ l2.length -> qcy l l2 = false
 | [], [], h => absurd rfl h
 | [], _ :: _, _ => by rw [qcy]; all_goals simp
 | _ :: _, [], _ => by rw [qcy]; all_goals simp
 | e :: l, e2 :: l2, h => by rw [qcy, qpa l l2 (by simpa using h)]; simp
theorem qw.of_get {w : World} {b : Nat} : ∀ (cs : List Value) (off : Nat), (∀ i v, cs[i]? = some v -> w.cell? ⟨b, off + i, none⟩ = some v) -> qw w b off cs
 | [], _, _ => trivial
 | v :: cs, off, h => ⟨h 0 v rfl, qw.of_get cs (off + 1) fun i u hi => by rw [Nat.add_assoc, Nat.add_comm 1 i]; exact h (i + 1) u (by simpa using hi)⟩
theorem qxx {α β : Type} {f : α -> Option β} : ∀ (l : List α) (ys : List β), l.mapM f = some ys -> ∀ i : Nat, (l[i]?).bind f = ys[i]?
 | [], ys, h, i => by simp at h; subst h; simp
 | a :: l, ys, h, i => by
  rw [List.mapM_cons] at h
  cases hf : f a with
  | none => rw [hf] at h; simp at h
  | some b =>
   rw [hf] at h
   cases hl : l.mapM f with
   | none => rw [hl] at h; simp at h
   | some zs =>
    rw [hl] at h
    simp at h
    subst h
    cases i with
    | zero => simpa using hf
    | succ i => simpa using qxx l zs hl i
theorem qxy {α β : Type} {f : α -> Option β} : ∀ (l : List α) (ys : List β), l.mapM f = some ys -> ys.length = l.length
 | [], ys, h => by simp at h; subst h; rfl
 | a :: l, ys, h => by
  rw [List.mapM_cons] at h
  cases hf : f a with
  | none => rw [hf] at h; simp at h
  | some b =>
   rw [hf] at h
   cases hl : l.mapM f with
   | none => rw [hl] at h; simp at h
   | some zs =>
    rw [hl] at h
    simp at h
    subst h
    simp [qxy l zs hl]
theorem qjf {w : World} {base : Nat} {a : Addr} {n : Nat} {cs : List Value} (h : w.cells? base a n = some cs) (hn : 0 < n) : a.spot = none /\ qw w a.block a.off cs := by
 unfold World.cells? at h
 split at h
 .have hg := qxx _ _ h
  obtain ⟨b, o, sp⟩ := a
  have h0 := hg 0
  rw [List.getElem?_range (by omega)] at h0
  have hlen : cs.length = n := by
   have := qxy _ _ h
   simpa using this
  have h0' : cs[0]? = some (cs[0]'(by omega)) := List.getElem?_eq_getElem (by omega)
  rw [h0'] at h0
  have hs : sp = none := cell_spot (w := w) (b := b) (o := o) (v := cs[0]'(by omega)) (by simpa [Addr.add] using h0)
  subst hs
  refine ⟨rfl, qw.of_get _ _ fun i v hi => ?_⟩
  have hi' : i < n := by
   have := (List.getElem?_eq_some_iff.1 hi).1; omega
  have := hg i
  rw [List.getElem?_range hi', hi] at this
  cases i with
  | zero => simpa [Addr.add] using this
  | succ i => simpa [Addr.add] using this
 .cases h
theorem RdM.of_get {w : World} {S : Nat -> Prop} {sz : Nat} : ∀ (l : List D) (b off : Nat), (∀ d ∈ l, d.width = sz) -> (∀ i (h : i < l.length), ∃ cs, qw w b (off + i * sz) cs /\ Rd w S l[i] cs) -> RdM w S l b off
 | [], _, _, _, _ => by rw [RdM]; trivial
 | d :: l, b, off, hw, h => by
  rw [RdM]
  refine ⟨?_, RdM.of_get l b _ (fun x hx => hw x (by simp [hx])) fun i hi => ?_⟩
  .obtain ⟨cs, h1, h2⟩ := h 0 (by simp)
   exact ⟨cs, by simpa using h1, by simpa using h2⟩
  have := h (i + 1) (by simpa using hi)
  rw [hw d (by simp)]
  rw [Nat.succ_mul] at this
  rw [show off + sz + i * sz = off + (i * sz + sz) by omega]
  simpa using this
section
variable {H : Type} {enc : TypeId × Value -> H} {P : Program} {w : World} {sp : Nat -> Bool} {hd : Bool}
def Trods (enc : TypeId × Value -> H) (P : Program) (w : World) (sp : Nat -> Bool) (hd : Bool) (t : TypeId) {α : Type} (f : α -> D) (N : Nat) : Prop :=
 ∀ n cs x, n < N -> DataW.trod enc P w 0 sp hd n t cs = some x -> ∃ a, Rd w Any (f a) cs
theorem qv {t : TypeId} (ht : P.underlying t = some (.int .i64)) (N : Nat) : Trods enc P w sp hd t D.int N := by
 intro n cs x _ h
 obtain ⟨m, rfl, -, -⟩ := DataW.trod_int ht h
 exact ⟨m, by rw [Rd]⟩
theorem qeo {t : TypeId} (ht : P.underlying t = some .string) (N : Nat) : Trods enc P w sp hd t D.str N := by
 intro n cs x _ h
 obtain ⟨m, rfl, -, -⟩ := DataW.trod_string ht h
 exact ⟨m, by rw [Rd]⟩
theorem qcr {t e : TypeId} {α : Type} {f : α -> D} {sz N : Nat} (ht : P.underlying t = some (.slice e)) (hc : P.cellsOf e = sz) (hsz : 0 < sz) (hw : ∀ x, (f x).width = sz) (h : Trods enc P w sp hd e f N) :
  Trods enc P w sp hd t (fun l : List α => .sl (l.map f)) (N + 1) := by
 intro n cs x hn hx
 rcases DataW.trod_slice ht hx with ⟨rfl, -⟩ | ⟨a, len, cap, elems, rest, m, rfl, rfl, -, hb, hl, hm, hlen, hel, -, -⟩
 .exact ⟨[], Rd.nil none (by omega)⟩
 .have hmax : cap <= 9223372036854775807 := by unfold maxLen at hm; omega
  have hget : ∀ i, i < len -> ∃ cs' y, w.cells? 0 (a.add (i * sz)) sz = some cs' /\ DataW.trod enc P w 0 sp hd m e cs' = some y := by
   intro i hi
   have := hel i hi
   rw [hc, List.getElem?_eq_getElem (by omega)] at this
   obtain ⟨cs', h1, h2⟩ := Option.bind_eq_some_iff.1 this
   exact ⟨cs', _, h1, h2⟩
  have hget2 : ∀ i, i < len -> ∃ (z : α) (cs' : List Value), w.cells? 0 (a.add (i * sz)) sz = some cs' /\ Rd w Any (f z) cs' := by
   intro i hi
   obtain ⟨cs', y, h1, h2⟩ := hget i hi
   obtain ⟨z, hz⟩ := h m cs' y (by omega) h2
   exact ⟨z, cs', h1, hz⟩
  by_cases h0 : len = 0
  .subst h0; exact ⟨[], Rd.nil _ hmax⟩
  have hsp : a.spot = none := by
   obtain ⟨z, cs', h1, -⟩ := hget2 0 (by omega)
   have := (qjf h1 hsz).1
   simpa [Addr.add] using this
  obtain ⟨b, off, spt⟩ := a
  subst hsp
  have hg3 : ∀ i, ∃ (z : α), i < len -> ∃ cs', qw w b (off + i * sz) cs' /\ Rd w Any (f z) cs' := by
   obtain ⟨z0, -⟩ := hget2 0 (by omega)
   intro i
   by_cases hi : i < len
   .obtain ⟨z, cs', h1, h2⟩ := hget2 i hi
    refine ⟨z, fun _ => ⟨cs', ?_, h2⟩⟩
    have := (qjf h1 hsz).2
    by_cases hz : i * sz = 0
    .rw [hz] at this ⊢; simpa [Addr.add] using this
    .simpa [Addr.add, hz] using this
   .exact ⟨z0, fun h => absurd h hi⟩
  let g : Nat -> α := fun i => Classical.choose (hg3 i)
  have hgs : ∀ i, i < len -> ∃ cs', qw w b (off + i * sz) cs' /\ Rd w Any (f (g i)) cs' := fun i => Classical.choose_spec (hg3 i)
  refine ⟨(List.range len).map g, Rd.sl_mk (b := b) (off := off) (by simp) (by simpa using hl) hmax (fun _ => ⟨rfl, trivial⟩) (RdM.of_get _ _ _ (sz := sz) ?_ ?_)⟩
  .intro d hd
   obtain ⟨x, -, rfl⟩ := List.mem_map.1 hd
   exact hw x
  .intro i hi
   have hi' : i < len := by simpa using hi
   have := hgs i hi'
   simpa using this
theorem qs {S : Nat -> Prop} {d : D} {l : List D} {cs : List Value} {o k : Nat} (h1 : Rd w S d ((cs.drop o).take k)) (h2 : RdS w S l (cs.drop (o + k))) : RdS w S (d :: l) (cs.drop o) := by
 rw [RdS]
 exact ⟨_, _, by rw [<- List.drop_drop]; exact (List.take_append_drop k _).symm, h1, h2⟩
theorem qgk {S : Nat -> Prop} {cs : List Value} {o : Nat} (h : cs.length <= o) : RdS w S [] (cs.drop o) := by
 rw [RdS]; exact List.drop_eq_nil_of_le h
theorem rd_st {S : Nat -> Prop} {l : List D} {cs : List Value} (h : RdS w S l (cs.drop 0)) : Rd w S (.st l) cs := by
 rw [Rd]; simpa using h
theorem ql {fs : Array Field} {n : Nat} {cs : List Value} {xs : List (DataW H × List MemPlace)} (i : Nat) (T : TypeId) (o k : Nat) (hlen : xs.length = fs.size)
  (hf : ∀ (i : Nat) (f : Field), fs[i]? = some f -> DataW.trod enc P w 0 sp hd n f.type ((cs.drop f.offset).take (P.cellsOf f.type)) = xs[i]?)
  (hi : ∃ f : Field, fs[i]? = some f /\ f.type = T /\ f.offset = o) (hk : P.cellsOf T = k) :
  ∃ y, DataW.trod enc P w 0 sp hd n T ((cs.drop o).take k) = some y := by
 obtain ⟨f, hi, rfl, rfl⟩ := hi
 subst hk
 have hlt : i < fs.size := (Array.getElem?_eq_some_iff.1 hi).1
 have := hf i f hi
 rw [List.getElem?_eq_getElem (by omega)] at this
 exact ⟨_, this⟩
end
def okV (v : Val) : Bool :=
 if v.k = 0 then decide (v.s.toList = [])
 else if v.k = 1 then decide (v.n = 0) && decide ((v.s.size : Int) <= 200)
 else decide (v.k = 2) && (decide (v.n = 0) || decide (v.n = 1)) && decide (v.s.toList = [])
def orI : List Int -> Int
 | [] => 0
 | x :: l => if x ≠ 0 then x else orI l
def cmpV (a b : Val) : Int := orI [compareInt a.k b.k, compareInt a.n b.n, compareBytes a.s.data.toList b.s.data.toList]
def divI (a b : Int) : Int := if b = 0 then 0 else wrap64 (a.tdiv b)
def modI (a b : Int) : Int := if b = 0 then 0 else a.tmod b
def eqV (a b : Val) : Bool := decide (a.k = b.k /\ a.n = b.n /\ a.s.toList = b.s.toList)
def joinS (a b : ByteArray) : ByteArray := (a ++ b).extract 0 (min (a.size + b.size) 200)
end Go.Proofs.YtkedbjjfmejbhaaGreatDoor
