/- Abstract values and stores, and how a world holds them. -/
import Derived.Lib.FrozenHead2
import Derived.TacticsIn
import Derived.OrdersIn
import Derived.Sort.LoopGhostIn
import Derived.Test.YtkedbjjfmejbhaaGreatDoorGe1
set_option linter.unusedSimpArgs false
set_option linter.unusedVariables false
namespace Go.Proofs.YtkedbjjfmejbhaaGreatDoor
open Go.RowKit Go.Lib
inductive AV where
 | v (x : Value)
 | sl (l : List AV)
 | agg (l : List AV)
 | tup (l : List AV)
 | ptr (r off : Nat)
 | own (r n : Nat)
 | gs (r : Nat) (l : List AV)
 | ep (x : AV) (off : Nat)
 | eo (r n k off : Nat)
 | fn (f : Nat) (caps : List AV)
 | bm (f : Nat) (bound : List AV)
 | es
 | sub (r a n c sz : Nat)
 | any
 deriving Inhabited
def AV.one : AV -> Bool
 | .agg _ => false
 | .tup _ => false
 | .v x => x.oneCell'
 | _ => true
def AV.width : AV -> Nat
 | .agg l => l.length
 | _ => 1
inductive AB where
 | cells (cs : List AV) (t : TypeId)
 | vec (l : List AV) (e : TypeId) (size : Nat)
 | tail (n : Nat) (e : TypeId) (size : Nat)
 | obj (I : Obj -> Prop)
 | buf (cs : List Value) (e : TypeId)
 | susp (b : Nat) (o : Obj) (t : Nat -> AV) (a : Array Value)
 | dead
 | unborn
 deriving Inhabited
structure St where
 w : World
 μ : Nat -> Value
 S : Nat -> Nat -> Prop
 σ : Nat -> AB
def qkc1 : Value -> Option Nat
 | .pointer (some ⟨b, 0, none⟩) => some b
 | _ => none
def qqn : Value -> Option Nat
 | .map b => b
 | _ => none
def AB.blk : AB -> Value -> Option Nat
 | .cells _ _, v => qkc1 v
 | .vec _ _ _, v => v.ownBlock
 | .tail _ _ _, v => v.ownBlock
 | .obj _, v => qqn v
 | .buf _ _, v => qqn v
 | .susp _ _ _ _, v => qqn v
 | _, _ => none
def St.blk (X : St) (r : Nat) : Option Nat := (X.σ r).blk (X.μ r)
def qy (X : St) (b off : Nat) : List Value -> Prop
 | [] => True
 | v :: cs => X.w.cell? ⟨b, off, none⟩ = some v /\ X.S b off /\ qy X b (off + 1) cs
theorem qy.at {X : St} {b : Nat} : ∀ {cs : List Value} {off : Nat}, qy X b off cs -> qw X.w b off cs
 | [], _, _ => trivial
 | _ :: _, _, h => ⟨h.1, qy.at h.2.2⟩
mutual
def RC (X : St) : AV -> List Value -> Prop
 | .v x, cs => cs = [x]
 | .sl l, cs => ∃ A cap b off, cs = [.slice A l.length cap] /\ l.length <= cap /\ cap <= 9223372036854775807 /\ (0 < l.length -> A = some ⟨b, off, none⟩) /\ RM X l b off
 | .agg l, cs => R1s X l cs
 | .tup _, _ => False
 | .ptr r off, cs => (∃ c t, X.σ r = .cells c t) /\ ∃ b, X.μ r = .pointer (some ⟨b, 0, none⟩) /\ cs = [.pointer (some ⟨b, off, none⟩)]
 | .own r n, cs => X.σ r ≠ .unborn /\ ∃ v, cs = [v] /\ (v.oneCell' = true /\ ∀ I, X.σ r = .obj I -> v = X.μ r) /\ (∀ l e s, X.σ r = .vec l e s -> n <= l.length /\ (n = l.length -> v = X.μ r))
 | .gs r l, cs => ∃ A cap b off, cs = [.slice A l.length cap] /\ l.length <= cap /\ cap <= 9223372036854775807 /\ (0 < l.length -> A = some ⟨b, off, none⟩) /\ RM X l b off /\ X.σ r ≠ .unborn /\ (∀ n e s, X.σ r = .tail n e s -> l.length <= n /\ (l.length = n -> .slice A l.length cap = X.μ r))
 | .ep x off, cs => ∃ b o cx, cs = [.pointer (some ⟨b, o + off, none⟩)] /\ qy X b o cx /\ RC X x cx
 | .eo r n k off, cs => X.σ r ≠ .unborn /\ ∃ v, cs = [v] /\ v.oneCell' = true /\ (∀ l e s, X.σ r = .vec l e s -> n <= l.length /\ (n = l.length -> ∃ b, (X.μ r).ownBlock = some b /\ v = .pointer (some ⟨b, k * s + off, none⟩)))
 | .fn f caps, cs => ∃ vs : List Value, cs = [.func (.func f) #[] vs.toArray] /\ R1s X caps vs
 | .bm f bound, cs => ∃ vs : List Value, cs = [.func (.func f) vs.toArray #[]] /\ R1s X bound vs
 | .es, cs => ∃ A : Addr, cs = [.slice (some A) 0 0]
 | .sub r a n c sz, cs => X.σ r ≠ .unborn /\ ∃ v, cs = [v] /\ v.oneCell' = true /\ ∀ xs e, X.σ r = .buf xs e -> ∃ b A, X.μ r = .map (some b) /\ v = .slice A n c /\ (0 < c -> A = some ⟨b, a * sz, none⟩)
 | .any, cs => ∃ v, cs = [v] /\ v.oneCell' = true
def R1s (X : St) : List AV -> List Value -> Prop
 | [], cs => cs = []
 | d :: l, cs => ∃ v vs, cs = v :: vs /\ d.one = true /\ RC X d [v] /\ R1s X l vs
def RM (X : St) : List AV -> Nat -> Nat -> Prop
 | [], _, _ => True
 | d :: l, b, off => (∃ cs, qy X b off cs /\ RC X d cs) /\ RM X l b (off + d.width)
end
def RCs (X : St) : List AV -> List Value -> Prop
 | [], cs => cs = []
 | d :: l, cs => ∃ c1 c2, cs = c1 ++ c2 /\ RC X d c1 /\ RCs X l c2
theorem R1s.length {X : St} : ∀ (l : List AV) (cs : List Value), R1s X l cs -> cs.length = l.length
 | [], _, h => by rw [R1s] at h; subst h; rfl
 | d :: l, cs, h => by
  rw [R1s] at h; obtain ⟨v, vs, rfl, -, h1, h2⟩ := h
  rw [List.length_cons, List.length_cons, R1s.length l vs h2]
theorem RC.length {X : St} : ∀ (d : AV) (cs : List Value), RC X d cs -> cs.length = d.width
 | .v _, _, h => by rw [RC] at h; subst h; rfl
 | .sl _, _, h => by rw [RC] at h; obtain ⟨A, cap, b, off, rfl, _⟩ := h; rfl
 | .agg l, cs, h => by rw [RC] at h; exact R1s.length l cs h
 | .tup _, _, h => by rw [RC] at h; exact h.elim
 | .ptr _ _, _, h => by rw [RC] at h; obtain ⟨-, b, -, rfl⟩ := h; rfl
 | .own _ _, _, h => by rw [RC] at h; obtain ⟨-, v, rfl, _⟩ := h; rfl
 | .gs _ _, _, h => by rw [RC] at h; obtain ⟨A, cap, b, off, rfl, _⟩ := h; rfl
 | .ep _ _, _, h => by rw [RC] at h; obtain ⟨b, o, cx, rfl, _⟩ := h; rfl
 | .eo _ _ _ _, _, h => by rw [RC] at h; obtain ⟨-, v, rfl, _⟩ := h; rfl
 | .fn _ _, _, h => by rw [RC] at h; obtain ⟨vs, rfl, _⟩ := h; rfl
 | .bm _ _, _, h => by rw [RC] at h; obtain ⟨vs, rfl, _⟩ := h; rfl
 | .es, _, h => by rw [RC] at h; obtain ⟨A, rfl⟩ := h; rfl
 | .sub _ _ _ _ _, _, h => by rw [RC] at h; obtain ⟨-, v, rfl, _⟩ := h; rfl
 | .any, _, h => by rw [RC] at h; obtain ⟨v, rfl, _⟩ := h; rfl
theorem R1s.get {X : St} : ∀ {l : List AV} {vs : List Value} {i : Nat} {x : AV}, R1s X l vs -> l[i]? = some x -> ∃ v, vs[i]? = some v /\ x.one = true /\ RC X x [v]
 | [], _, _, _, _, h => by simp at h
 | y :: l, vs, i, x, hr, h => by
  rw [R1s] at hr
  obtain ⟨v, vs, rfl, h0, h1, h2⟩ := hr
  cases i with
  | zero => simp at h; subst h; exact ⟨v, rfl, h0, h1⟩
  | succ i => simpa using R1s.get h2 (by simpa using h)
theorem R1s.drop {X : St} : ∀ {l : List AV} {vs : List Value} (n : Nat), R1s X l vs -> R1s X (l.drop n) (vs.drop n)
 | _, _, 0, h => h
 | [], vs, n + 1, h => by rw [R1s] at h; subst h; rw [List.drop_nil, List.drop_nil, R1s]
 | y :: l, vs, n + 1, h => by
  rw [R1s] at h
  obtain ⟨v, vs, rfl, h0, h1, h2⟩ := h
  exact R1s.drop n h2
theorem R1s.take {X : St} : ∀ {l : List AV} {vs : List Value} (n : Nat), R1s X l vs -> R1s X (l.take n) (vs.take n)
 | _, _, 0, h => by rw [List.take_zero, List.take_zero, R1s]
 | [], vs, n + 1, h => by rw [R1s] at h; subst h; rw [List.take_nil, List.take_nil, R1s]
 | y :: l, vs, n + 1, h => by
  rw [R1s] at h
  obtain ⟨v, vs, rfl, h0, h1, h2⟩ := h
  rw [List.take_succ_cons, List.take_succ_cons, R1s]
  exact ⟨v, _, rfl, h0, h1, R1s.take n h2⟩
theorem R1s.append {X : St} : ∀ {l l' : List AV} {vs vs' : List Value}, R1s X l vs -> R1s X l' vs' -> R1s X (l ++ l') (vs ++ vs')
 | [], l', vs, vs', h, h' => by rw [R1s] at h; subst h; exact h'
 | y :: l, l', vs, vs', h, h' => by
  rw [R1s] at h
  obtain ⟨v, vs, rfl, h0, h1, h2⟩ := h
  rw [List.cons_append, R1s]
  exact ⟨v, _, rfl, h0, h1, h2.append h'⟩
def RR1 (X : St) (x : AV) (v : Value) : Prop :=
 match x with
 | .agg l => ∃ vs : List Value, v = .agg vs.toArray /\ R1s X l vs
 | .any => True
 | x => RC X x [v]
def RRl (X : St) : List AV -> List Value -> Prop
 | [], vs => vs = []
 | x :: l, vs => ∃ v vs', vs = v :: vs' /\ RR1 X x v /\ RRl X l vs'
def RR (X : St) (x : AV) (v : Value) : Prop :=
 match x with
 | .tup l => ∃ vs : List Value, v = .tuple vs.toArray /\ RRl X l vs
 | x => RR1 X x v
def BR (X : St) : AB -> Value -> Prop
 | .cells cs t, v => ∃ b vs, v = .pointer (some ⟨b, 0, none⟩) /\ X.w.heap[b]? = some (.cells vs.toArray t (0, 0)) /\ R1s X cs vs
 | .vec l e size, v => (∀ x ∈ l, x.width = size) /\ ∃ xs, X.w.ownsRow 0 e size v l.length xs /\ RCs X l xs
 | .tail n e size, v => (∃ xs, X.w.ownsRowF 0 e size v n xs) /\ (n = 0 -> ∃ xs, X.w.ownsRow 0 e size v 0 xs)
 | .obj I, v => ∃ b o, v = .map (some b) /\ X.w.heap[b]? = some o /\ I o
 | .buf cs e, v => ∃ b, v = .map (some b) /\ X.w.heap[b]? = some (.cells cs.toArray e (0, 0))
 | .susp b o t a, v => v = .map (some b) /\ X.w.heap[b]? = some o /\ ∀ d, RR X (t d) (a.getD d undef)
 | .dead, _ => True
 | .unborn, _ => True
def GlobS (X : St) (b off : Nat) (cs : List Value) : Prop := qy X b off cs /\ (∃ t fz, X.w.heap[b]? = some (.cells cs.toArray t fz)) /\ (∀ r, X.blk r ≠ some b) /\ cs ≠ []
theorem qqz {w : World} {e : TypeId} {size : Nat} {v : Value} {n : Nat} {xs : List Value} (h : w.ownsRow 0 e size v n xs) : (∃ xs, w.ownsRowF 0 e size v n xs) /\ (n = 0 -> ∃ xs, w.ownsRow 0 e size v 0 xs) := ⟨⟨xs, World.ownsRowF_of h⟩, fun e => ⟨xs, e ▸ h⟩⟩
structure SR (X : St) : Prop where
 block : ∀ r, BR X (X.σ r) (X.μ r)
 alone : ∀ r r' b, X.blk r = some b -> X.blk r' = some b -> r = r'
 apart : ∀ r b o, X.blk r = some b -> X.S b o -> ∃ n e s, X.σ r = .tail n e s /\ o < n * s
 old : ∀ b o, X.S b o -> b < X.w.heap.size
 glob : qgd (GlobS X)
def Ver (X Y : St) (r : Nat) : Prop :=
 match X.σ r with
 | .cells _ t => (∃ c, Y.σ r = .cells c t) /\ Y.μ r = X.μ r
 | .vec l e s => Y.σ r = .dead \/ ∃ l', Y.σ r = .vec l' e s /\ (l.length < l'.length \/ (l.length = l'.length /\ Y.μ r = X.μ r))
 | .tail n e s => Y.σ r = .dead \/ ∃ n', Y.σ r = .tail n' e s /\ (n < n' \/ (n = n' /\ Y.μ r = X.μ r))
 | .obj _ => (∃ I', Y.σ r = .obj I') /\ Y.μ r = X.μ r
 | .buf _ e => Y.σ r = .dead \/ ((∃ cs', Y.σ r = .buf cs' e) /\ Y.μ r = X.μ r)
 | .susp b _ _ _ => Y.σ r = .dead \/ ((∃ o' t' a', Y.σ r = .susp b o' t' a') /\ Y.μ r = X.μ r)
 | .dead => Y.σ r = .dead
 | .unborn => True
structure Fr (X Y : St) : Prop where
 os : Y.w.os = X.w.os
 tape : Y.w.tape = X.w.tape
 output : Y.w.output = X.w.output
 size : X.w.heap.size <= Y.w.heap.size
 keep : ∀ b, b < X.w.heap.size -> (∀ r, X.blk r ≠ some b) -> Y.w.heap[b]? = X.w.heap[b]?
 keepS : ∀ b o, X.S b o -> Y.w.cell? ⟨b, o, none⟩ = X.w.cell? ⟨b, o, none⟩
 more : ∀ b o, X.S b o -> Y.S b o
 less : ∀ b o, Y.S b o -> X.S b o \/ X.w.heap.size <= b \/ ∃ r, X.blk r = some b
 ver : ∀ r, Ver X Y r
 own : ∀ r b, Y.blk r = some b -> X.w.heap.size <= b \/ ∃ r', X.blk r' = some b
theorem Fr.refl (X : St) : Fr X X := ⟨rfl, rfl, rfl, Nat.le_refl _, fun _ _ _ => rfl, fun _ _ _ => rfl, fun _ _ h => h, fun _ _ h => .inl h, fun r => by
 unfold Ver; split <;> rename_i h <;> simp [h], fun r b h => .inr ⟨r, h⟩⟩
theorem Ver.trans {X Y Z : St} {r : Nat} (h : Ver X Y r) (k : Ver Y Z r) : Ver X Z r := by
 unfold Ver at h k ⊢
 cases hx : X.σ r with
 | cells c t =>
  rw [hx] at h; dsimp only at h ⊢
  obtain ⟨⟨c', h⟩, hm⟩ := h
  rw [h] at k; dsimp only at k
  exact ⟨k.1, k.2.trans hm⟩
 | vec l e s =>
  rw [hx] at h; dsimp only at h ⊢
  rcases h with h | ⟨l', h, hm⟩
  .rw [h] at k; exact .inl k
  .rw [h] at k; dsimp only at k
   rcases k with k | ⟨l2, k, km⟩
   .exact .inl k
   .refine .inr ⟨l2, k, ?_⟩
    rcases hm with hm | ⟨hm, hv⟩ <;> rcases km with km | ⟨km, kv⟩
    .left; omega
    .left; omega
    .left; omega
    .right; exact ⟨by omega, kv.trans hv⟩
 | tail n e s =>
  rw [hx] at h; dsimp only at h ⊢
  rcases h with h | ⟨n', h, hm⟩
  .rw [h] at k; exact .inl k
  .rw [h] at k; dsimp only at k
   rcases k with k | ⟨n2, k, km⟩
   .exact .inl k
   .refine .inr ⟨n2, k, ?_⟩
    rcases hm with hm | ⟨hm, hv⟩ <;> rcases km with km | ⟨km, kv⟩
    .left; omega
    .left; omega
    .left; omega
    .right; exact ⟨by omega, kv.trans hv⟩
 | obj I =>
  rw [hx] at h; dsimp only at h ⊢
  obtain ⟨⟨I', h⟩, hm⟩ := h
  rw [h] at k; dsimp only at k
  exact ⟨k.1, k.2.trans hm⟩
 | buf cs e =>
  rw [hx] at h; dsimp only at h ⊢
  rcases h with h | ⟨⟨I', h⟩, hm⟩
  .rw [h] at k; exact .inl k
  .rw [h] at k; dsimp only at k
   rcases k with k | k
   .exact .inl k
   .exact .inr ⟨k.1, k.2.trans hm⟩
 | susp b o t a =>
  rw [hx] at h; dsimp only at h ⊢
  rcases h with h | ⟨⟨o', t', a', h⟩, hm⟩
  .rw [h] at k; exact .inl k
  .rw [h] at k; dsimp only at k
   rcases k with k | k
   .exact .inl k
   .exact .inr ⟨k.1, k.2.trans hm⟩
 | dead => rw [hx] at h; dsimp only at h ⊢; rw [h] at k; exact k
 | unborn => trivial
theorem Fr.trans {X Y Z : St} (h : Fr X Y) (k : Fr Y Z) : Fr X Z where
 os := k.os.trans h.os
 tape := k.tape.trans h.tape
 output := k.output.trans h.output
 size := Nat.le_trans h.size k.size
 keep := fun b hb hn => (k.keep b (Nat.lt_of_lt_of_le hb h.size) fun r hr => by
  rcases h.own r b hr with h1 | ⟨r', h1⟩
  .omega
  .exact hn r' h1).trans (h.keep b hb hn)
 keepS := fun b o hb => (k.keepS b o (h.more b o hb)).trans (h.keepS b o hb)
 more := fun b o hb => k.more b o (h.more b o hb)
 less := fun b o hb => by
  rcases k.less b o hb with h1 | h1 | ⟨r, h1⟩
  .exact h.less b o h1
  .exact .inr (.inl (Nat.le_trans h.size h1))
  .exact .inr (h.own r b h1)
 ver := fun r => (h.ver r).trans (k.ver r)
 own := fun r b hb => by
  rcases k.own r b hb with h1 | ⟨r', h1⟩
  .exact .inl (Nat.le_trans h.size h1)
  .exact h.own r' b h1
theorem qy.fr {X Y : St} (h : Fr X Y) {b : Nat} : ∀ {off : Nat} {cs : List Value}, qy X b off cs -> qy Y b off cs
 | _, [], _ => trivial
 | off, _ :: cs, hc => ⟨(h.keepS b off hc.2.1).trans hc.1, h.more b off hc.2.1, qy.fr h hc.2.2⟩
theorem GlobS.fr {X Y : St} (h : Fr X Y) {b off : Nat} {cs : List Value} (hc : GlobS X b off cs) : GlobS Y b off cs := by
 obtain ⟨h1, ⟨t, fz, h2⟩, h3, h5⟩ := hc
 have hlt := (Array.getElem?_eq_some_iff.1 h2).1
 refine ⟨h1.fr h, ⟨t, fz, (h.keep b hlt h3).trans h2⟩, fun r hr => ?_, h5⟩
 rcases h.own r b hr with h4 | ⟨r', h4⟩
 .omega
 .exact h3 r' h4
theorem Ver.unborn {X Y : St} {r : Nat} (h : Ver X Y r) (hx : X.σ r ≠ .unborn) : Y.σ r ≠ .unborn := by
 unfold Ver at h
 intro hy
 cases hr : X.σ r with
 | cells c t => rw [hr, hy] at h; dsimp only at h; obtain ⟨⟨_, h⟩, -⟩ := h; cases h
 | vec l e s => rw [hr, hy] at h; dsimp only at h; rcases h with h | ⟨_, h, -⟩ <;> cases h
 | tail n e s => rw [hr, hy] at h; dsimp only at h; rcases h with h | ⟨_, h, -⟩ <;> cases h
 | obj I => rw [hr, hy] at h; dsimp only at h; obtain ⟨⟨_, h⟩, -⟩ := h; cases h
 | buf cs e => rw [hr, hy] at h; dsimp only at h; rcases h with h | ⟨⟨_, h⟩, -⟩ <;> cases h
 | susp b o t a => rw [hr, hy] at h; dsimp only at h; rcases h with h | ⟨⟨_, _, _, h⟩, -⟩ <;> cases h
 | dead => rw [hr, hy] at h; cases h
 | unborn => exact hx hr
theorem Ver.cells {X Y : St} {r : Nat} {c : List AV} {t : TypeId} (h : Ver X Y r) (hx : X.σ r ≠ .unborn) (hy : Y.σ r = .cells c t) : (∃ c', X.σ r = .cells c' t) /\ Y.μ r = X.μ r := by
 unfold Ver at h
 cases hr : X.σ r with
 | cells c' t' =>
  rw [hr, hy] at h; dsimp only at h
  obtain ⟨⟨_, h1⟩, h⟩ := h
  cases h1; exact ⟨⟨c', rfl⟩, h⟩
 | vec l e s => rw [hr, hy] at h; dsimp only at h; rcases h with h | ⟨_, h, -⟩ <;> cases h
 | tail n e s => rw [hr, hy] at h; dsimp only at h; rcases h with h | ⟨_, h, -⟩ <;> cases h
 | obj I => rw [hr, hy] at h; dsimp only at h; obtain ⟨⟨_, h⟩, -⟩ := h; cases h
 | buf cs e => rw [hr, hy] at h; dsimp only at h; rcases h with h | ⟨⟨_, h⟩, -⟩ <;> cases h
 | susp b o t a => rw [hr, hy] at h; dsimp only at h; rcases h with h | ⟨⟨_, _, _, h⟩, -⟩ <;> cases h
 | dead => rw [hr, hy] at h; cases h
 | unborn => exact absurd hr hx
theorem Ver.tail {X Y : St} {r n : Nat} {e : TypeId} {s : Nat} (h : Ver X Y r) (hx : X.σ r ≠ .unborn) (hy : Y.σ r = .tail n e s) : ∃ n', X.σ r = .tail n' e s /\ (n' < n \/ (n' = n /\ Y.μ r = X.μ r)) := by
 unfold Ver at h
 cases hr : X.σ r with
 | cells c' t' => rw [hr, hy] at h; dsimp only at h; obtain ⟨⟨_, h⟩, -⟩ := h; cases h
 | vec l e s => rw [hr, hy] at h; dsimp only at h; rcases h with h | ⟨_, h, -⟩ <;> cases h
 | tail n' e' s' =>
  rw [hr, hy] at h; dsimp only at h
  rcases h with h | ⟨l2, h, h2⟩
  .cases h
  .cases h; exact ⟨n', rfl, h2⟩
 | obj I => rw [hr, hy] at h; dsimp only at h; obtain ⟨⟨_, h⟩, -⟩ := h; cases h
 | buf cs e => rw [hr, hy] at h; dsimp only at h; rcases h with h | ⟨⟨_, h⟩, -⟩ <;> cases h
 | susp b o t a => rw [hr, hy] at h; dsimp only at h; rcases h with h | ⟨⟨_, _, _, h⟩, -⟩ <;> cases h
 | dead => rw [hr, hy] at h; cases h
 | unborn => exact absurd hr hx
theorem Ver.vec {X Y : St} {r : Nat} {l : List AV} {e : TypeId} {s : Nat} (h : Ver X Y r) (hx : X.σ r ≠ .unborn) (hy : Y.σ r = .vec l e s) : ∃ l', X.σ r = .vec l' e s /\ (l'.length < l.length \/ (l'.length = l.length /\ Y.μ r = X.μ r)) := by
 unfold Ver at h
 cases hr : X.σ r with
 | cells c' t' => rw [hr, hy] at h; dsimp only at h; obtain ⟨⟨_, h⟩, -⟩ := h; cases h
 | vec l' e' s' =>
  rw [hr, hy] at h; dsimp only at h
  rcases h with h | ⟨l2, h, h2⟩
  .cases h
  .cases h; exact ⟨l', rfl, h2⟩
 | tail n e s => rw [hr, hy] at h; dsimp only at h; rcases h with h | ⟨_, h, -⟩ <;> cases h
 | obj I => rw [hr, hy] at h; dsimp only at h; obtain ⟨⟨_, h⟩, -⟩ := h; cases h
 | buf cs e => rw [hr, hy] at h; dsimp only at h; rcases h with h | ⟨⟨_, h⟩, -⟩ <;> cases h
 | susp b o t a => rw [hr, hy] at h; dsimp only at h; rcases h with h | ⟨⟨_, _, _, h⟩, -⟩ <;> cases h
 | dead => rw [hr, hy] at h; cases h
 | unborn => exact absurd hr hx
theorem Ver.obj {X Y : St} {r : Nat} {I : Obj -> Prop} (h : Ver X Y r) (hx : X.σ r ≠ .unborn) (hy : Y.σ r = .obj I) : (∃ I', X.σ r = .obj I') /\ Y.μ r = X.μ r := by
 unfold Ver at h
 cases hr : X.σ r with
 | cells c' t' => rw [hr, hy] at h; dsimp only at h; obtain ⟨⟨_, h⟩, -⟩ := h; cases h
 | vec l e s => rw [hr, hy] at h; dsimp only at h; rcases h with h | ⟨_, h, -⟩ <;> cases h
 | tail n e s => rw [hr, hy] at h; dsimp only at h; rcases h with h | ⟨_, h, -⟩ <;> cases h
 | obj I' => rw [hr] at h; exact ⟨⟨I', rfl⟩, h.2⟩
 | buf cs e => rw [hr, hy] at h; dsimp only at h; rcases h with h | ⟨⟨_, h⟩, -⟩ <;> cases h
 | susp b o t a => rw [hr, hy] at h; dsimp only at h; rcases h with h | ⟨⟨_, _, _, h⟩, -⟩ <;> cases h
 | dead => rw [hr, hy] at h; cases h
 | unborn => exact absurd hr hx
theorem Ver.buf {X Y : St} {r : Nat} {cs : List Value} {e : TypeId} (h : Ver X Y r) (hx : X.σ r ≠ .unborn) (hy : Y.σ r = .buf cs e) : (∃ cs', X.σ r = .buf cs' e) /\ Y.μ r = X.μ r := by
 unfold Ver at h
 cases hr : X.σ r with
 | cells c' t' => rw [hr, hy] at h; dsimp only at h; obtain ⟨⟨_, h⟩, -⟩ := h; cases h
 | vec l e s => rw [hr, hy] at h; dsimp only at h; rcases h with h | ⟨_, h, -⟩ <;> cases h
 | tail n e s => rw [hr, hy] at h; dsimp only at h; rcases h with h | ⟨_, h, -⟩ <;> cases h
 | obj I' => rw [hr, hy] at h; dsimp only at h; obtain ⟨⟨_, h⟩, -⟩ := h; cases h
 | buf cs' e' =>
  rw [hr, hy] at h; dsimp only at h
  rcases h with h | ⟨⟨_, h⟩, h2⟩
  .cases h
  .cases h; exact ⟨⟨cs', rfl⟩, h2⟩
 | susp b o t a => rw [hr, hy] at h; dsimp only at h; rcases h with h | ⟨⟨_, _, _, h⟩, -⟩ <;> cases h
 | dead => rw [hr, hy] at h; cases h
 | unborn => exact absurd hr hx
mutual
theorem RC.vr {X Y : St} (hS : ∀ b o cs, qy X b o cs -> qy Y b o cs) (hv : ∀ r, Ver X Y r) : ∀ (d : AV) (cs : List Value), RC X d cs -> RC Y d cs
 | .v _, _, hr => by rw [RC] at hr ⊢; exact hr
 | .sl l, cs, hr => by
  rw [RC] at hr ⊢
  obtain ⟨A, cap, b, off, h1, h2, h3, h4, h5⟩ := hr
  exact ⟨A, cap, b, off, h1, h2, h3, h4, RM.vr hS hv l b off h5⟩
 | .agg l, cs, hr => by rw [RC] at hr ⊢; exact R1s.vr hS hv l cs hr
 | .tup _, _, hr => by rw [RC] at hr; exact hr.elim
 | .ptr r off, _, hr => by
  rw [RC] at hr ⊢
  obtain ⟨⟨c, t, h1⟩, b, h2, rfl⟩ := hr
  have hv := hv r
  unfold Ver at hv
  rw [h1] at hv
  obtain ⟨⟨c', h3⟩, h4⟩ := hv
  exact ⟨⟨c', t, h3⟩, b, h4.trans h2, rfl⟩
 | .own r n, _, hr => by
  rw [RC] at hr ⊢
  obtain ⟨h1, v, rfl, h0, h2⟩ := hr
  refine ⟨(hv r).unborn h1, v, rfl, ⟨h0.1, fun I hI => ?_⟩, fun l e s hl => ?_⟩
  .obtain ⟨⟨I', h3⟩, h4⟩ := (hv r).obj h1 hI
   rw [h4]; exact h0.2 I' h3
  obtain ⟨l', hx, hm⟩ := (hv r).vec h1 hl
  obtain ⟨h3, h4⟩ := h2 l' e s hx
  rcases hm with hm | ⟨hm, hv⟩
  .exact ⟨by omega, fun he => by omega⟩
  .exact ⟨by omega, fun he => by rw [hv]; exact h4 (by omega)⟩
 | .gs r l, _, hr => by
  rw [RC] at hr ⊢
  obtain ⟨A, cap, b, off, rfl, h2, h3, h4, h5, h6, h7⟩ := hr
  refine ⟨A, cap, b, off, rfl, h2, h3, h4, RM.vr hS hv l b off h5, (hv r).unborn h6, fun n e s hl => ?_⟩
  obtain ⟨n', hx, hm⟩ := (hv r).tail h6 hl
  obtain ⟨h8, h9⟩ := h7 n' e s hx
  rcases hm with hm | ⟨hm, hv⟩
  .exact ⟨by omega, fun he => by omega⟩
  .exact ⟨by omega, fun he => by rw [hv]; exact h9 (by omega)⟩
 | .ep x off, _, hr => by
  rw [RC] at hr ⊢
  obtain ⟨b, o, cx, h1, h2, h3⟩ := hr
  exact ⟨b, o, cx, h1, hS _ _ _ h2, RC.vr hS hv x cx h3⟩
 | .eo r n k off, _, hr => by
  rw [RC] at hr ⊢
  obtain ⟨h1, v, rfl, h0, h2⟩ := hr
  refine ⟨(hv r).unborn h1, v, rfl, h0, fun l e s hl => ?_⟩
  obtain ⟨l', hx, hm⟩ := (hv r).vec h1 hl
  obtain ⟨h3, h4⟩ := h2 l' e s hx
  rcases hm with hm | ⟨hm, hv⟩
  .exact ⟨by omega, fun he => by omega⟩
  .exact ⟨by omega, fun he => by rw [hv]; exact h4 (by omega)⟩
 | .fn f caps, _, hr => by
  rw [RC] at hr ⊢
  obtain ⟨vs, h1, h2⟩ := hr
  exact ⟨vs, h1, R1s.vr hS hv caps vs h2⟩
 | .bm f caps, _, hr => by
  rw [RC] at hr ⊢
  obtain ⟨vs, h1, h2⟩ := hr
  exact ⟨vs, h1, R1s.vr hS hv caps vs h2⟩
 | .es, _, hr => by rw [RC] at hr ⊢; exact hr
 | .sub r a n c sz, _, hr => by
  rw [RC] at hr ⊢
  obtain ⟨h1, v, rfl, h0, h2⟩ := hr
  refine ⟨(hv r).unborn h1, v, rfl, h0, fun xs e hI => ?_⟩
  obtain ⟨⟨xs', h3⟩, h4⟩ := (hv r).buf h1 hI
  rw [h4]; exact h2 xs' e h3
 | .any, _, hr => by rw [RC] at hr ⊢; exact hr
theorem R1s.vr {X Y : St} (hS : ∀ b o cs, qy X b o cs -> qy Y b o cs) (hv : ∀ r, Ver X Y r) : ∀ (l : List AV) (cs : List Value), R1s X l cs -> R1s Y l cs
 | [], _, hr => by rw [R1s] at hr ⊢; exact hr
 | d :: l, cs, hr => by
  rw [R1s] at hr ⊢
  obtain ⟨v, vs, h1, h0, h2, h3⟩ := hr
  exact ⟨v, vs, h1, h0, RC.vr hS hv d [v] h2, R1s.vr hS hv l vs h3⟩
theorem RM.vr {X Y : St} (hS : ∀ b o cs, qy X b o cs -> qy Y b o cs) (hv : ∀ r, Ver X Y r) : ∀ (l : List AV) (b off : Nat), RM X l b off -> RM Y l b off
 | [], _, _, _ => by rw [RM]; trivial
 | d :: l, b, off, hr => by
  rw [RM] at hr ⊢
  obtain ⟨⟨cs, h1, h2⟩, h3⟩ := hr
  exact ⟨⟨cs, hS _ _ _ h1, RC.vr hS hv d cs h2⟩, RM.vr hS hv l b _ h3⟩
end
theorem RC.fr {X Y : St} (h : Fr X Y) (d : AV) (cs : List Value) (hr : RC X d cs) : RC Y d cs := RC.vr (fun _ _ _ hc => hc.fr h) h.ver d cs hr
theorem R1s.fr {X Y : St} (h : Fr X Y) (l : List AV) (cs : List Value) (hr : R1s X l cs) : R1s Y l cs := R1s.vr (fun _ _ _ hc => hc.fr h) h.ver l cs hr
theorem RM.fr {X Y : St} (h : Fr X Y) (l : List AV) (b off : Nat) (hr : RM X l b off) : RM Y l b off := RM.vr (fun _ _ _ hc => hc.fr h) h.ver l b off hr
theorem RCs.vr {X Y : St} (hS : ∀ b o cs, qy X b o cs -> qy Y b o cs) (hv : ∀ r, Ver X Y r) : ∀ (l : List AV) (cs : List Value), RCs X l cs -> RCs Y l cs
 | [], _, h => h
 | d :: l, cs, h => by
  rw [RCs] at h ⊢
  obtain ⟨c1, c2, h1, h2, h3⟩ := h
  exact ⟨c1, c2, h1, RC.vr hS hv d c1 h2, RCs.vr hS hv l c2 h3⟩
theorem RCs.fr {X Y : St} (h : Fr X Y) : ∀ (l : List AV) (cs : List Value), RCs X l cs -> RCs Y l cs
 | [], _, hr => hr
 | d :: l, cs, hr => by
  obtain ⟨c1, c2, h1, h2, h3⟩ := hr
  exact ⟨c1, c2, h1, RC.fr h d c1 h2, RCs.fr h l c2 h3⟩
theorem RR1.fr {X Y : St} (h : Fr X Y) {x : AV} {v : Value} (hr : RR1 X x v) : RR1 Y x v := by
 unfold RR1 at hr ⊢
 split at hr
 .obtain ⟨vs, h1, h2⟩ := hr; exact ⟨vs, h1, R1s.fr h _ _ h2⟩
 .trivial
 .exact hr.fr h
theorem RRl.fr {X Y : St} (h : Fr X Y) : ∀ {l : List AV} {vs : List Value}, RRl X l vs -> RRl Y l vs
 | [], _, hr => hr
 | x :: l, _, hr => by
  obtain ⟨v, vs', h1, h2, h3⟩ := hr
  exact ⟨v, vs', h1, h2.fr h, RRl.fr h h3⟩
theorem RR.fr {X Y : St} (h : Fr X Y) {x : AV} {v : Value} (hr : RR X x v) : RR Y x v := by
 unfold RR at hr ⊢
 split at hr
 .obtain ⟨vs, h1, h2⟩ := hr; exact ⟨vs, h1, h2.fr h⟩
 .exact hr.fr h
theorem RR1.vr {X Y : St} (hS : ∀ b o cs, qy X b o cs -> qy Y b o cs) (hv : ∀ r, Ver X Y r) {x : AV} {v : Value} (hr : RR1 X x v) : RR1 Y x v := by
 unfold RR1 at hr ⊢
 split at hr
 .obtain ⟨vs, h1, h2⟩ := hr; exact ⟨vs, h1, R1s.vr hS hv _ _ h2⟩
 .trivial
 .exact hr.vr hS hv
theorem RRl.vr {X Y : St} (hS : ∀ b o cs, qy X b o cs -> qy Y b o cs) (hv : ∀ r, Ver X Y r) : ∀ {l : List AV} {vs : List Value}, RRl X l vs -> RRl Y l vs
 | [], _, hr => hr
 | x :: l, _, hr => by
  obtain ⟨v, vs', h1, h2, h3⟩ := hr
  exact ⟨v, vs', h1, h2.vr hS hv, RRl.vr hS hv h3⟩
theorem RR.vr {X Y : St} (hS : ∀ b o cs, qy X b o cs -> qy Y b o cs) (hv : ∀ r, Ver X Y r) {x : AV} {v : Value} (hr : RR X x v) : RR Y x v := by
 unfold RR at hr ⊢
 split at hr
 .obtain ⟨vs, h1, h2⟩ := hr; exact ⟨vs, h1, h2.vr hS hv⟩
 .exact RR1.vr hS hv hr
theorem RR.of_one {X : St} {x : AV} {v : Value} (h0 : x.one = true) (h : RC X x [v]) : RR X x v := by
 cases x <;> first | exact h | (simp [AV.one] at h0; done) | trivial
theorem RR1.of_one {X : St} {x : AV} {v : Value} (h0 : x.one = true) (h : RC X x [v]) : RR1 X x v := by
 cases x <;> first | exact h | (simp [AV.one] at h0; done) | trivial
theorem RR1.rr {X : St} {x : AV} {v : Value} (h : RR1 X x v) : RR X x v := by
 cases x with
 | tup l => have h' : RC X (.tup l) [v] := h; rw [RC] at h'; exact h'.elim
 | _ => exact h
theorem RC.oneCell {X : St} {x : AV} {v : Value} (h0 : x.one = true) (h : RC X x [v]) : v.oneCell' = true := by
 cases x with
 | v y => rw [RC] at h; cases h; exact h0
 | sl l => rw [RC] at h; obtain ⟨A, cap, b, off, h, -⟩ := h; cases h; rfl
 | agg l => cases h0
 | tup l => cases h0
 | ptr r off => rw [RC] at h; obtain ⟨-, b, -, h⟩ := h; cases h; rfl
 | own r n => rw [RC] at h; obtain ⟨-, w, h, h1, -⟩ := h; cases h; exact h1.1
 | gs r l => rw [RC] at h; obtain ⟨A, cap, b, off, h, -⟩ := h; cases h; rfl
 | ep y off => rw [RC] at h; obtain ⟨b, o, cx, h, -⟩ := h; cases h; rfl
 | eo r n k off => rw [RC] at h; obtain ⟨-, w, h, h1, -⟩ := h; cases h; exact h1
 | fn f caps => rw [RC] at h; obtain ⟨vs, h, -⟩ := h; cases h; rfl
 | bm f caps => rw [RC] at h; obtain ⟨vs, h, -⟩ := h; cases h; rfl
 | es => rw [RC] at h; obtain ⟨A, h⟩ := h; cases h; rfl
 | sub r a n c sz => rw [RC] at h; obtain ⟨-, w, h, h1, -⟩ := h; cases h; exact h1
 | any => rw [RC] at h; obtain ⟨w, h, h1⟩ := h; cases h; exact h1
theorem R1s.oneCell {X : St} : ∀ {l : List AV} {vs : List Value}, R1s X l vs -> ∀ v ∈ vs, v.oneCell' = true
 | [], _, h, v, hv => by rw [R1s] at h; subst h; cases hv
 | x :: l, _, h, v, hv => by
  rw [R1s] at h
  obtain ⟨u, us, rfl, h0, h1, h2⟩ := h
  rcases List.mem_cons.1 hv with rfl | hv
  .exact RC.oneCell h0 h1
  .exact R1s.oneCell h2 v hv
theorem RC.single {X : St} {x : AV} {cs : List Value} (h0 : x.one = true) (h : RC X x cs) : ∃ v, cs = [v] := by
 have := RC.length _ _ h
 have hw : x.width = 1 := by cases x <;> first | rfl | (simp [AV.one] at h0; done)
 rw [hw] at this
 exact List.length_eq_one_iff.1 this
theorem RR.any (X : St) (v : Value) : RR X .any v := trivial
theorem RR.v {X : St} {x v : Value} : RR X (.v x) v ↔ v = x := by
 show RC X (.v x) [v] ↔ _
 rw [RC]; simp
mutual
def AV.cl (m : Nat) : AV -> Prop
 | .v _ => True
 | .sl l => AV.cls m l
 | .agg l => AV.cls m l
 | .tup l => AV.cls m l
 | .ptr r _ => r < m
 | .own r _ => r < m
 | .gs r l => r < m /\ AV.cls m l
 | .ep x _ => x.cl m
 | .eo r _ _ _ => r < m
 | .fn _ caps => AV.cls m caps
 | .bm _ caps => AV.cls m caps
 | .es => True
 | .sub r _ _ _ _ => r < m
 | .any => True
def AV.cls (m : Nat) : List AV -> Prop
 | [] => True
 | x :: l => x.cl m /\ AV.cls m l
end
theorem AV.cls_iff {m : Nat} : ∀ {l : List AV}, AV.cls m l ↔ ∀ x ∈ l, x.cl m
 | [] => by rw [AV.cls]; simp
 | x :: l => by rw [AV.cls, AV.cls_iff]; simp
def AB.cl (m : Nat) : AB -> Prop
 | .cells cs _ => AV.cls m cs
 | .vec l _ _ => AV.cls m l
 | .susp _ _ t _ => ∀ d, (t d).cl m
 | _ => True
def cut (m : Nat) (σ : Nat -> AB) : Nat -> AB := fun r => if r < m then σ r else .unborn
def St.cut (X : St) (m : Nat) : St := { X with σ := Proofs.YtkedbjjfmejbhaaGreatDoor.cut m X.σ }
theorem qgr {X : St} {m b : Nat} : ∀ {cs : List Value} {off : Nat}, qy X b off cs -> qy (X.cut m) b off cs
 | [], _, _ => trivial
 | _ :: _, _, h => ⟨h.1, h.2.1, qgr h.2.2⟩
mutual
theorem RC.cut {X : St} {m : Nat} : ∀ (d : AV) (cs : List Value), d.cl m -> RC X d cs -> RC (X.cut m) d cs
 | .v _, _, _, hr => by rw [RC] at hr ⊢; exact hr
 | .sl l, cs, hc, hr => by
  rw [RC] at hr ⊢; rw [AV.cl] at hc
  obtain ⟨A, cap, b, off, h1, h2, h3, h4, h5⟩ := hr
  exact ⟨A, cap, b, off, h1, h2, h3, h4, RM.cut l b off hc h5⟩
 | .agg l, cs, hc, hr => by rw [RC] at hr ⊢; rw [AV.cl] at hc; exact R1s.cut l cs hc hr
 | .tup _, _, _, hr => by rw [RC] at hr; exact hr.elim
 | .ptr r off, _, hc, hr => by
  rw [AV.cl] at hc
  rw [RC] at hr ⊢
  simpa [St.cut, Proofs.YtkedbjjfmejbhaaGreatDoor.cut, hc] using hr
 | .own r n, _, hc, hr => by
  rw [AV.cl] at hc
  rw [RC] at hr ⊢
  simpa [St.cut, Proofs.YtkedbjjfmejbhaaGreatDoor.cut, hc] using hr
 | .gs r l, cs, hc, hr => by
  rw [RC] at hr ⊢; rw [AV.cl] at hc
  obtain ⟨A, cap, b, off, h1, h2, h3, h4, h5, h6, h7⟩ := hr
  exact ⟨A, cap, b, off, h1, h2, h3, h4, RM.cut l b off hc.2 h5, by simpa [St.cut, Proofs.YtkedbjjfmejbhaaGreatDoor.cut, hc.1] using h6, by simpa [St.cut, Proofs.YtkedbjjfmejbhaaGreatDoor.cut, hc.1] using h7⟩
 | .ep x off, _, hc, hr => by
  rw [AV.cl] at hc
  rw [RC] at hr ⊢
  obtain ⟨b, o, cx, h1, h2, h3⟩ := hr
  exact ⟨b, o, cx, h1, qgr h2, RC.cut x cx hc h3⟩
 | .eo r n k off, _, hc, hr => by
  rw [AV.cl] at hc
  rw [RC] at hr ⊢
  simpa [St.cut, Proofs.YtkedbjjfmejbhaaGreatDoor.cut, hc] using hr
 | .fn f caps, _, hc, hr => by
  rw [AV.cl] at hc
  rw [RC] at hr ⊢
  obtain ⟨vs, h1, h2⟩ := hr
  exact ⟨vs, h1, R1s.cut caps vs hc h2⟩
 | .bm f caps, _, hc, hr => by
  rw [AV.cl] at hc
  rw [RC] at hr ⊢
  obtain ⟨vs, h1, h2⟩ := hr
  exact ⟨vs, h1, R1s.cut caps vs hc h2⟩
 | .es, _, _, hr => by rw [RC] at hr ⊢; exact hr
 | .sub r a n c sz, _, hc, hr => by
  rw [AV.cl] at hc
  rw [RC] at hr ⊢
  simpa [St.cut, Proofs.YtkedbjjfmejbhaaGreatDoor.cut, hc] using hr
 | .any, _, _, hr => by rw [RC] at hr ⊢; exact hr
theorem R1s.cut {X : St} {m : Nat} : ∀ (l : List AV) (cs : List Value), AV.cls m l -> R1s X l cs -> R1s (X.cut m) l cs
 | [], _, _, hr => by rw [R1s] at hr ⊢; exact hr
 | d :: l, cs, hc, hr => by
  rw [R1s] at hr ⊢; rw [AV.cls] at hc
  obtain ⟨v, vs, h1, h0, h2, h3⟩ := hr
  exact ⟨v, vs, h1, h0, RC.cut d [v] hc.1 h2, R1s.cut l vs hc.2 h3⟩
theorem RM.cut {X : St} {m : Nat} : ∀ (l : List AV) (b off : Nat), AV.cls m l -> RM X l b off -> RM (X.cut m) l b off
 | [], _, _, _, _ => by rw [RM]; trivial
 | d :: l, b, off, hc, hr => by
  rw [RM] at hr ⊢; rw [AV.cls] at hc
  obtain ⟨⟨cs, h1, h2⟩, h3⟩ := hr
  exact ⟨⟨cs, qgr h1, RC.cut d cs hc.1 h2⟩, RM.cut l b _ hc.2 h3⟩
end
theorem RCs.cut {X : St} {m : Nat} : ∀ (l : List AV) (cs : List Value), AV.cls m l -> RCs X l cs -> RCs (X.cut m) l cs
 | [], _, _, hr => hr
 | d :: l, cs, hc, hr => by
  rw [AV.cls] at hc
  obtain ⟨c1, c2, h1, h2, h3⟩ := hr
  exact ⟨c1, c2, h1, RC.cut d c1 hc.1 h2, RCs.cut l c2 hc.2 h3⟩
mutual
theorem RC.cl {X : St} {m : Nat} (hm : ∀ r, m <= r -> X.σ r = .unborn) : ∀ (d : AV) (cs : List Value), RC X d cs -> d.cl m
 | .v _, _, _ => by rw [AV.cl]; trivial
 | .sl l, cs, hr => by
  rw [RC] at hr; rw [AV.cl]
  obtain ⟨A, cap, b, off, h1, h2, h3, h4, h5⟩ := hr
  exact RM.cl hm l b off h5
 | .agg l, cs, hr => by rw [RC] at hr; rw [AV.cl]; exact R1s.cl hm l cs hr
 | .tup _, _, hr => by rw [RC] at hr; exact hr.elim
 | .ptr r off, _, hr => by
  rw [RC] at hr; rw [AV.cl]
  obtain ⟨⟨c, t, h1⟩, -⟩ := hr
  exact Nat.lt_of_not_le fun h => by rw [hm r h] at h1; cases h1
 | .own r n, _, hr => by
  rw [RC] at hr; rw [AV.cl]
  exact Nat.lt_of_not_le fun h => hr.1 (hm r h)
 | .gs r l, cs, hr => by
  rw [RC] at hr; rw [AV.cl]
  obtain ⟨A, cap, b, off, h1, h2, h3, h4, h5, h6, h7⟩ := hr
  exact ⟨Nat.lt_of_not_le fun h => h6 (hm r h), RM.cl hm l b off h5⟩
 | .ep x off, _, hr => by
  rw [RC] at hr; rw [AV.cl]
  obtain ⟨b, o, cx, h1, h2, h3⟩ := hr
  exact RC.cl hm x cx h3
 | .eo r n k off, _, hr => by
  rw [RC] at hr; rw [AV.cl]
  exact Nat.lt_of_not_le fun h => hr.1 (hm r h)
 | .fn f caps, _, hr => by
  rw [RC] at hr; rw [AV.cl]
  obtain ⟨vs, h1, h2⟩ := hr
  exact R1s.cl hm caps vs h2
 | .bm f caps, _, hr => by
  rw [RC] at hr; rw [AV.cl]
  obtain ⟨vs, h1, h2⟩ := hr
  exact R1s.cl hm caps vs h2
 | .es, _, _ => by rw [AV.cl]; trivial
 | .sub r a n c sz, _, hr => by
  rw [RC] at hr; rw [AV.cl]
  exact Nat.lt_of_not_le fun h => hr.1 (hm r h)
 | .any, _, _ => by rw [AV.cl]; trivial
theorem R1s.cl {X : St} {m : Nat} (hm : ∀ r, m <= r -> X.σ r = .unborn) : ∀ (l : List AV) (cs : List Value), R1s X l cs -> AV.cls m l
 | [], _, _ => by rw [AV.cls]; trivial
 | d :: l, cs, hr => by
  rw [R1s] at hr; rw [AV.cls]
  obtain ⟨v, vs, h1, h0, h2, h3⟩ := hr
  exact ⟨RC.cl hm d [v] h2, R1s.cl hm l vs h3⟩
theorem RM.cl {X : St} {m : Nat} (hm : ∀ r, m <= r -> X.σ r = .unborn) : ∀ (l : List AV) (b off : Nat), RM X l b off -> AV.cls m l
 | [], _, _, _ => by rw [AV.cls]; trivial
 | d :: l, b, off, hr => by
  rw [RM] at hr; rw [AV.cls]
  obtain ⟨⟨cs, h1, h2⟩, h3⟩ := hr
  exact ⟨RC.cl hm d cs h2, RM.cl hm l b _ h3⟩
end
theorem RCs.cl {X : St} {m : Nat} (hm : ∀ r, m <= r -> X.σ r = .unborn) : ∀ (l : List AV) (cs : List Value), RCs X l cs -> AV.cls m l
 | [], _, _ => by rw [AV.cls]; trivial
 | d :: l, cs, hr => by
  rw [AV.cls]
  obtain ⟨c1, c2, h1, h2, h3⟩ := hr
  exact ⟨RC.cl hm d c1 h2, RCs.cl hm l c2 h3⟩
theorem RR1.cut {X : St} {m : Nat} {x : AV} {v : Value} (hc : x.cl m) (hr : RR1 X x v) : RR1 (X.cut m) x v := by
 unfold RR1 at hr ⊢
 split at hr
 .rw [AV.cl] at hc; obtain ⟨vs, h1, h2⟩ := hr; exact ⟨vs, h1, R1s.cut _ _ hc h2⟩
 .trivial
 .exact RC.cut _ _ hc hr
theorem RRl.cut {X : St} {m : Nat} : ∀ {l : List AV} {vs : List Value}, AV.cls m l -> RRl X l vs -> RRl (X.cut m) l vs
 | [], _, _, hr => hr
 | x :: l, _, hc, hr => by
  rw [AV.cls] at hc
  obtain ⟨v, vs', h1, h2, h3⟩ := hr
  exact ⟨v, vs', h1, h2.cut hc.1, RRl.cut hc.2 h3⟩
theorem RR.cut {X : St} {m : Nat} {x : AV} {v : Value} (hc : x.cl m) (hr : RR X x v) : RR (X.cut m) x v := by
 unfold RR at hr ⊢
 split at hr
 .rw [AV.cl] at hc; obtain ⟨vs, h1, h2⟩ := hr; exact ⟨vs, h1, h2.cut hc⟩
 .exact RR1.cut hc hr
theorem RR1.cl {X : St} {m : Nat} (hm : ∀ r, m <= r -> X.σ r = .unborn) {x : AV} {v : Value} (h : RR1 X x v) : x.cl m := by
 unfold RR1 at h
 split at h
 .obtain ⟨vs, -, h⟩ := h; rw [AV.cl]; exact R1s.cl hm _ _ h
 .rw [AV.cl]; trivial
 .exact RC.cl hm _ _ h
theorem RRl.cl {X : St} {m : Nat} (hm : ∀ r, m <= r -> X.σ r = .unborn) : ∀ {l : List AV} {vs : List Value}, RRl X l vs -> AV.cls m l
 | [], _, _ => by rw [AV.cls]; trivial
 | x :: l, _, h => by
  obtain ⟨v, vs, -, h1, h2⟩ := h
  rw [AV.cls]; exact ⟨h1.cl hm, RRl.cl hm h2⟩
theorem RR.cl {X : St} {m : Nat} (hm : ∀ r, m <= r -> X.σ r = .unborn) {x : AV} {v : Value} (h : RR X x v) : x.cl m := by
 unfold RR at h
 split at h
 .obtain ⟨vs, -, h⟩ := h; rw [AV.cl]; exact RRl.cl hm h
 .exact RR1.cl hm h
theorem St.blk_cut {X : St} {m r b : Nat} (h : (X.cut m).blk r = some b) : r < m /\ X.blk r = some b := by
 unfold St.blk St.cut Proofs.YtkedbjjfmejbhaaGreatDoor.cut at h
 dsimp only at h
 split at h
 .exact ⟨‹_›, h⟩
 .cases h
theorem BR.cl {X : St} {m : Nat} (hm : ∀ r, m <= r -> X.σ r = .unborn) {ab : AB} {v : Value} (h : BR X ab v) : ab.cl m := by
 cases ab with
 | cells cs t => obtain ⟨b, vs, -, -, h⟩ := h; exact R1s.cl hm _ _ h
 | vec l e s => obtain ⟨-, xs, -, h⟩ := h; exact RCs.cl hm _ _ h
 | tail n e s => trivial
 | obj I => trivial
 | buf cs e => trivial
 | susp b o t a => exact fun d => (h.2.2 d).cl hm
 | dead => trivial
 | unborn => trivial
theorem BR.cut {X : St} {m : Nat} {ab : AB} {v : Value} (hc : ab.cl m) (h : BR X ab v) : BR (X.cut m) ab v := by
 cases ab with
 | cells cs t => obtain ⟨b, vs, h1, h2, h3⟩ := h; exact ⟨b, vs, h1, h2, R1s.cut _ _ hc h3⟩
 | vec l e s => obtain ⟨h0, xs, h1, h2⟩ := h; exact ⟨h0, xs, h1, RCs.cut _ _ hc h2⟩
 | tail n e s => exact h
 | obj I => exact h
 | buf cs e => exact h
 | susp b o t a => exact ⟨h.1, h.2.1, fun d => (h.2.2 d).cut (hc d)⟩
 | dead => trivial
 | unborn => trivial
theorem SR.cut {X : St} (h : SR X) {m : Nat} (hc : ∀ r, r < m -> (X.σ r).cl m) : SR (X.cut m) where
 block := fun r => by
  by_cases hr : r < m
  .have : (X.cut m).σ r = X.σ r := by simp [St.cut, Proofs.YtkedbjjfmejbhaaGreatDoor.cut, hr]
   rw [this]; exact (h.block r).cut (hc r hr)
  .have : (X.cut m).σ r = .unborn := by simp [St.cut, Proofs.YtkedbjjfmejbhaaGreatDoor.cut, hr]
   rw [this]; trivial
 alone := fun r r' b h1 h2 => h.alone r r' b (St.blk_cut h1).2 (St.blk_cut h2).2
 apart := fun r b o h1 h2 => by
  obtain ⟨n, e, s, h3, h4⟩ := h.apart r b o (St.blk_cut h1).2 h2
  exact ⟨n, e, s, by simp [St.cut, Proofs.YtkedbjjfmejbhaaGreatDoor.cut, (St.blk_cut h1).1, h3], h4⟩
 old := h.old
 glob := h.glob.mono fun _ _ _ hc => ⟨qgr hc.1, hc.2.1, fun r hr => hc.2.2.1 r (St.blk_cut hr).2, hc.2.2.2⟩
theorem Fr.cut {X Y : St} (h : Fr X Y) {m : Nat} (hm : ∀ r, m <= r -> X.σ r = .unborn) : Fr X (Y.cut m) where
 os := h.os
 tape := h.tape
 output := h.output
 size := h.size
 keep := h.keep
 keepS := h.keepS
 more := h.more
 less := h.less
 ver := fun r => by
  by_cases hr : r < m
  .have : (Y.cut m).σ r = Y.σ r := by simp [St.cut, Proofs.YtkedbjjfmejbhaaGreatDoor.cut, hr]
   have k := h.ver r
   unfold Ver at k ⊢
   rw [this]; exact k
  .unfold Ver
   rw [hm r (by omega)]; trivial
 own := fun r b hb => h.own r b (St.blk_cut hb).2
mutual
def AV.fits : AV -> Prop
 | .sl l => l.length <= 9223372036854775807 /\ AV.fitss l
 | .agg l => AV.fitss l
 | .tup l => AV.fitss l
 | .ep x _ => x.fits
 | .v _ => True
 | .ptr _ _ => True
 | .own _ _ => True
 | .gs _ l => l.length <= 9223372036854775807 /\ AV.fitss l
 | .eo _ _ _ _ => True
 | .fn _ l => AV.fitss l
 | .bm _ l => AV.fitss l
 | .es => True
 | .sub _ _ _ _ _ => True
 | .any => True
def AV.fitss : List AV -> Prop
 | [] => True
 | x :: l => x.fits /\ AV.fitss l
end
theorem AV.fitss_iff : ∀ {l : List AV}, AV.fitss l ↔ ∀ x ∈ l, x.fits
 | [] => by rw [AV.fitss]; simp
 | x :: l => by rw [AV.fitss, AV.fitss_iff]; simp
mutual
theorem RC.fits {X : St} : ∀ (d : AV) (cs : List Value), RC X d cs -> d.fits
 | .v _, _, _ => by rw [AV.fits]; trivial
 | .sl l, cs, hr => by
  rw [RC] at hr; rw [AV.fits]
  obtain ⟨A, cap, b, off, h1, h2, h3, h4, h5⟩ := hr
  exact ⟨by omega, RM.fits l b off h5⟩
 | .agg l, cs, hr => by rw [RC] at hr; rw [AV.fits]; exact R1s.fits l cs hr
 | .tup _, _, hr => by rw [RC] at hr; exact hr.elim
 | .ptr r off, _, hr => by rw [AV.fits]; trivial
 | .own r n, _, hr => by rw [AV.fits]; trivial
 | .gs r l, cs, hr => by
  rw [RC] at hr; rw [AV.fits]
  obtain ⟨A, cap, b, off, h1, h2, h3, h4, h5, h6, h7⟩ := hr
  exact ⟨by omega, RM.fits l b off h5⟩
 | .ep x off, _, hr => by
  rw [RC] at hr; rw [AV.fits]
  obtain ⟨b, o, cx, h1, h2, h3⟩ := hr
  exact RC.fits x cx h3
 | .eo r n k off, _, hr => by rw [AV.fits]; trivial
 | .fn f caps, _, hr => by
  rw [RC] at hr; rw [AV.fits]
  obtain ⟨vs, h1, h2⟩ := hr
  exact R1s.fits caps vs h2
 | .bm f caps, _, hr => by
  rw [RC] at hr; rw [AV.fits]
  obtain ⟨vs, h1, h2⟩ := hr
  exact R1s.fits caps vs h2
 | .es, _, _ => by rw [AV.fits]; trivial
 | .sub _ _ _ _ _, _, _ => by rw [AV.fits]; trivial
 | .any, _, _ => by rw [AV.fits]; trivial
theorem R1s.fits {X : St} : ∀ (l : List AV) (cs : List Value), R1s X l cs -> AV.fitss l
 | [], _, _ => by rw [AV.fitss]; trivial
 | d :: l, cs, hr => by
  rw [R1s] at hr; rw [AV.fitss]
  obtain ⟨v, vs, h1, h0, h2, h3⟩ := hr
  exact ⟨RC.fits d [v] h2, R1s.fits l vs h3⟩
theorem RM.fits {X : St} : ∀ (l : List AV) (b off : Nat), RM X l b off -> AV.fitss l
 | [], _, _, _ => by rw [AV.fitss]; trivial
 | d :: l, b, off, hr => by
  rw [RM] at hr; rw [AV.fitss]
  obtain ⟨⟨cs, h1, h2⟩, h3⟩ := hr
  exact ⟨RC.fits d cs h2, RM.fits l b _ h3⟩
end
theorem RR1.fits {X : St} {x : AV} {v : Value} (hr : RR1 X x v) : x.fits := by
 unfold RR1 at hr
 split at hr
 .obtain ⟨vs, h1, h2⟩ := hr; rw [AV.fits]; exact R1s.fits _ _ h2
 .rw [AV.fits]; trivial
 .exact RC.fits _ _ hr
theorem RRl.fits {X : St} : ∀ {l : List AV} {vs : List Value}, RRl X l vs -> AV.fitss l
 | [], _, _ => by rw [AV.fitss]; trivial
 | x :: l, _, hr => by
  obtain ⟨v, vs', h1, h2, h3⟩ := hr
  rw [AV.fitss]; exact ⟨h2.fits, RRl.fits h3⟩
theorem RR.fits {X : St} {x : AV} {v : Value} (hr : RR X x v) : x.fits := by
 unfold RR at hr
 split at hr
 .obtain ⟨vs, h1, h2⟩ := hr; rw [AV.fits]; exact h2.fits
 .exact hr.fits
def Fin (σ : Nat -> AB) (nx : Nat) : Prop := ∀ r, nx <= r -> σ r = .unborn
def AC (P : Program) (f : FuncId) (args : List AV) (σ : Nat -> AB) (Q : AV -> (Nat -> AB) -> Prop) : Prop :=
 ∀ (X : St) (vals : List Value) (nx : Nat), SR X -> X.σ = σ -> Fin σ nx -> RRl X args vals ->
  Calls P f vals.toArray X.w fun e w' => ∃ Y v x, e = .returned v /\ Y.w = w' /\ Q x Y.σ /\ SR Y /\ Fr X Y /\ RR Y x v
def Gives (P : Program) (f : FuncId) (args : List AV) (x : AV) : Prop := ∀ σ, AC P f args σ fun y τ => y = x /\ τ = σ
def upd {α : Type} (f : Nat -> α) (k : Nat) (x : α) : Nat -> α := fun j => if j = k then x else f j
def loc (σ : Nat -> AB) (n0 : Nat) (L : List AB) : Nat -> AB := fun r => if r < n0 then σ r else L.getD (r - n0) .unborn
structure AS where
 n : Nat
 t : Nat -> AV
 σ : Nat -> AB
 n0 : Nat
 L : List AB
def AS.st (s : AS) : Nat -> AB := loc s.σ s.n0 s.L
def AS.nx (s : AS) : Nat := s.n0 + s.L.length
theorem AS.fin (s : AS) : Fin s.st s.nx := fun r h => by
 unfold AS.nx at h
 unfold AS.st loc
 rw [if_neg (by omega), List.getD_eq_getElem?_getD, List.getElem?_eq_none (by omega)]; rfl
def AS.eval (s : AS) : Operand -> AV
 | .tmp d => s.t d
 | .const v => .v v
 | .global g => .v (.pointer (some ⟨g, 0, none⟩))
 | .func f => .fn f []
def AS.put (s : AS) (d : Option Tmp) (x : AV) : AS :=
 match d with
 | some d => { s with t := upd s.t d x }
 | none => s
structure Con (X0 : St) (s : AS) (a : Act) (w : World) (X : St) : Prop where
 w : X.w = w
 σ : X.σ = s.st
 sr : SR X
 fr : Fr X0 X
 size : a.tmps.size = s.n
 regs : ∀ d, RR X (s.t d) (a.tmps.getD d undef)
 defers : a.defers = a.defers
 fin : Fin X0.σ s.n0
def FW (ro : Option Nat) : Fence := { Fence.wide with round := ro }
def CwpA (P : Program) (c : Code) (Q : Exit -> Act -> World -> Prop) (a : Act) (w : World) : Prop := ∀ ro, c.wpIn (FW ro) 0 P Q a w
def OwpA (P : Program) (o : Oper) (a : Act) (w : World) (K : Act -> World -> Prop) (Q : Exit -> Act -> World -> Prop) : Prop := ∀ ro, o.wpIn (FW ro) 0 P a w K Q
theorem CwpA.plain {P : Program} {c : Code} {Q : Exit -> Act -> World -> Prop} {a : Act} {w : World} (h : CwpA P c Q a w) : c.wp P Q a w := (wpIn_wide (n := 0)).1 (h none)
theorem CwpA.mono {P : Program} {c : Code} {Q Q' : Exit -> Act -> World -> Prop} {a : Act} {w : World} (h : CwpA P c Q a w) (hq : ∀ e a w, Q e a w -> Q' e a w) : CwpA P c Q' a w := fun ro => Go.wpIn_mono (h ro) hq
theorem OwpA.mono {P : Program} {o : Oper} {a : Act} {w : World} {K K' : Act -> World -> Prop} {Q : Exit -> Act -> World -> Prop} (h : ∀ a w, K a w -> K' a w) (hh : OwpA P o a w K Q) : OwpA P o a w K' Q := fun ro => Oper.wpIn_mono h (hh ro)
theorem OwpA.of {P : Program} {o : Oper} {a : Act} {w : World} {K : Act -> World -> Prop} {Q : Exit -> Act -> World -> Prop} (hnd : ∀ c, o.op ≠ .defer c) (h : o.wp P a w K Q) : OwpA P o a w K Q := by
 intro ro
 refine ⟨fun _ _ => trivial, ?_⟩
 rw [show (FW ro).round = ro from rfl, Oper.semAt_eq _ _ _ hnd]
 unfold Oper.wp at h
 have hd : (FW ro).depth.isSome = true -> 1 <= 0 := fun h => by cases h
 have hC : ∀ {f : FuncId} {args : Array Value} {w : World} {R : Ending -> World -> Prop}, Calls P f args w R -> CallsIn (FW ro) (0 - 1) P f args w R := fun h => (callsIn_wide (n := 0 - 1)).2 h
 generalize (execOp a.eval o).run P w = r at h ⊢
 cases r with
 | ok x w' =>
  cases x with
  | enter f args => exact ⟨hd, hC (h.mono fun e w'' he => by cases e <;> exact he)⟩
  | row row args =>
   refine ⟨hd, fun c cs _ => ?_⟩
   obtain ⟨v, w'', h1, h2⟩ := (show Rows P row args w' _ from h) c cs
   exact ⟨v, w'', h1, stepsIn_wide.2 h2⟩
  | _ => first | exact h | exact False.elim h
 | halt x w' => cases x <;> exact h
theorem OwpA.value {P : Program} {o : Oper} {a : Act} {w w' : World} {v : Value} {K : Act -> World -> Prop} {Q : Exit -> Act -> World -> Prop} (h : (execOp a.eval o).run P w = .ok (.value v) w') (hK : K (a.put o.dst v) w') : OwpA P o a w K Q := by
 refine OwpA.of (fun c hc => ?_) ?_
 .simp only [execOp, hc, Sem.run_bind] at h
  generalize (resolve a.eval c o.type).run P w = r at h
  cases r <;> simp [Result.andThen] at h
 .unfold Oper.wp; rw [h]; exact hK
theorem OwpA.skip {P : Program} {o : Oper} {a : Act} {w w' : World} {K : Act -> World -> Prop} {Q : Exit -> Act -> World -> Prop} (h : (execOp a.eval o).run P w = .ok .skip w') (hK : K (a.put o.dst undef) w') : OwpA P o a w K Q := by
 refine OwpA.of (fun c hc => ?_) ?_
 .simp only [execOp, hc, Sem.run_bind] at h
  generalize (resolve a.eval c o.type).run P w = r at h
  cases r <;> simp [Result.andThen] at h
 .unfold Oper.wp; rw [h]; exact hK
def awp (P : Program) (c : Code) (Q : Exit -> AS -> Prop) (s : AS) : Prop :=
 ∀ X0 a w, (∃ X, Con X0 s a w X) -> CwpA P c (fun e a' w' => ∃ s', Q e s' /\ (∃ X', Con X0 s' a' w' X') /\ a'.defers = a.defers) a w
section
variable {P : Program} {Q : Exit -> AS -> Prop} {s : AS}
theorem qfg {c : Code} {Q' : Exit -> AS -> Prop} (h : awp P c Q s) (hq : ∀ e s, Q e s -> Q' e s) : awp P c Q' s :=
 fun X0 a w hc => (h X0 a w hc).mono fun _ _ _ ⟨s', q, hc'⟩ => ⟨s', hq _ _ q, hc'⟩
theorem qbb (h : Q .normal s) : awp P .skip Q s := fun _ _ _ hc _ => wpIn_skip ⟨s, h, hc, rfl⟩
theorem qbl (h : Q .ret s) : awp P .ret Q s := fun _ _ _ hc _ => wpIn_ret ⟨s, h, hc, rfl⟩
theorem qba {id : Nat} (h : Q (.exit id) s) : awp P (.exit id) Q s := fun _ _ _ hc _ => wpIn_exit ⟨s, h, hc, rfl⟩
def AThen (K : AS -> Prop) (Q : Exit -> AS -> Prop) : Exit -> AS -> Prop
 | .normal, s => K s
 | e, s => Q e s
theorem qmh1 {x y : Code} (h : awp P x (AThen (awp P y Q) Q) s) : awp P (.seq x y) Q s := fun X0 a w hc ro =>
 wpIn_seq (Go.wpIn_mono (h X0 a w hc ro) fun e a' w' ⟨s', q, hc', hd⟩ => by
  cases e with
  | normal => exact Go.wpIn_mono (q X0 a' w' hc' ro) fun _ _ _ ⟨s2, q2, hc2, hd2⟩ => ⟨s2, q2, hc2, hd2.trans hd⟩
  | exit id => exact ⟨s', q, hc', hd⟩
  | goto l => exact ⟨s', q, hc', hd⟩
  | ret => exact ⟨s', q, hc', hd⟩
  | panic c => exact ⟨s', q, hc', hd⟩
  | outgrown => exact ⟨s', q, hc', hd⟩)
def qbm1 (id : Nat) (Q : Exit -> AS -> Prop) : Exit -> AS -> Prop
 | .exit id', s => if id' = id then Q .normal s else Q (.exit id') s
 | e, s => Q e s
theorem qd {id : Nat} {c : Code} (h : awp P c (qbm1 id Q) s) : awp P (.block id c) Q s := fun X0 a w hc ro =>
 wpIn_block (Go.wpIn_mono (h X0 a w hc ro) fun e a' w' ⟨s', q, hc'⟩ => by
  cases e with
  | normal => exact ⟨s', q, hc'⟩
  | exit id' =>
   simp only [qbm1, Exit.inBlock] at q ⊢
   split
   .rw [if_pos ‹_›] at q; exact ⟨s', q, hc'⟩
   .rw [if_neg ‹_›] at q; exact ⟨s', q, hc'⟩
  | goto l => exact ⟨s', q, hc'⟩
  | ret => exact ⟨s', q, hc'⟩
  | panic c => exact ⟨s', q, hc'⟩
  | outgrown => exact ⟨s', q, hc'⟩)
theorem Con.eval {X0 X : St} {a : Act} {w : World} (h : Con X0 s a w X) (x : Operand) : RR X (s.eval x) (a.eval x) := by
 cases x with
 | tmp d => exact h.regs d
 | const v => exact RR.v.2 rfl
 | global g => exact RR.v.2 rfl
 | func f =>
  show RC X (.fn f []) [_]
  rw [RC]; exact ⟨[], rfl, by rw [R1s]⟩
theorem qib1 {c : Operand} {x y : Code} {t : Bool} (hc : s.eval c = .v (.bool t)) (h : awp P (if t then x else y) Q s) : awp P (.cond c x y) Q s := fun X0 a w ⟨X, hX⟩ => by
 have := hX.eval c
 rw [hc, RR.v] at this
 exact fun ro => wpIn_cond this (by
  have := h X0 a w ⟨X, hX⟩ ro
  exact this)
theorem qqp1 {c : Operand} {x y : Code} (t : Bool) (hc : s.eval c = .v (.bool t)) (h1 : t = true -> awp P x Q s) (h2 : t = false -> awp P y Q s) : awp P (.cond c x y) Q s := by
 refine qib1 hc ?_
 cases t
 .exact h2 rfl
 .exact h1 rfl
structure AS.le (s s' : AS) : Prop where
 n : s'.n = s.n
 n0 : s'.n0 = s.n0
 L : s'.L.length <= s.L.length
 σ : ∀ r, r < s'.nx -> s'.st r = s.st r /\ (s.st r).cl s'.nx
 t : ∀ d, s'.t d = .any \/ (s'.t d = s.t d /\ (s.t d).cl s'.nx)
theorem Con.le {X0 X : St} {a : Act} {w : World} {s' : AS} (h : Con X0 s a w X) (hle : s.le s') : Con X0 s' a w (X.cut s'.nx) := by
 refine ⟨h.w, ?_, h.sr.cut fun r hr => by rw [h.σ]; exact (hle.σ r hr).2, h.fr.cut (fun r hr => h.fin r (by have := hle.n0; unfold AS.nx at hr; omega)), by rw [hle.n]; exact h.size, fun d => ?_, h.defers, by rw [hle.n0]; exact h.fin⟩
 .funext r
  show Proofs.YtkedbjjfmejbhaaGreatDoor.cut _ X.σ r = _
  unfold Proofs.YtkedbjjfmejbhaaGreatDoor.cut
  split
  .rw [h.σ]; exact ((hle.σ r ‹_›).1).symm
  .exact (s'.fin r (by omega)).symm
 .rcases hle.t d with h1 | ⟨h1, h2⟩
  .rw [h1]; trivial
  .rw [h1]; exact RR.cut h2 (h.regs d)
theorem qwy {β : Type} {c : Code} (I : β -> AS) (C : β -> Prop) (m : β -> Nat) (b0 : β) (h0 : C b0) (hs : s.le (I b0))
  (round : ∀ b, C b -> awp P c (AThen (fun s' => ∃ b', C b' /\ m b' < m b /\ s'.le (I b')) Q) (I b)) : awp P (.loop c) Q s := by
 intro X0 a w ⟨X, hX⟩ ro
 refine wpIn_loop_ghost (fun n a' w' => ∃ b, m b = n /\ C b /\ (∃ X', Con X0 (I b) a' w' X') /\ a'.defers = a.defers) (m b0) ⟨b0, rfl, h0, ⟨_, hX.le hs⟩, rfl⟩ ?_
 rintro n a1 w1 ⟨b, rfl, hC, hc, hd⟩
 refine Go.wpIn_mono (round b hC X0 a1 w1 hc ro) fun e a' w' ⟨s', q, ⟨X', hX'⟩, hd'⟩ => ?_
 cases e with
 | normal =>
  obtain ⟨b', hb', hlt, hle⟩ := q
  exact ⟨m b', hlt, b', rfl, hb', ⟨_, hX'.le hle⟩, hd'.trans hd⟩
 | exit id => exact ⟨s', q, ⟨X', hX'⟩, hd'.trans hd⟩
 | goto l => exact ⟨s', q, ⟨X', hX'⟩, hd'.trans hd⟩
 | ret => exact ⟨s', q, ⟨X', hX'⟩, hd'.trans hd⟩
 | panic c => exact ⟨s', q, ⟨X', hX'⟩, hd'.trans hd⟩
 | outgrown => exact ⟨s', q, ⟨X', hX'⟩, hd'.trans hd⟩
end
end Go.Proofs.YtkedbjjfmejbhaaGreatDoor
