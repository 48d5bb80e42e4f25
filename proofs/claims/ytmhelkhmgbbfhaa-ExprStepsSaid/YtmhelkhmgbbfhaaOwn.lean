/- Slices that a call builds by append: what they own, and one append. -/
import Derived.Test.YtmhelkhmgbbfhaaBase
namespace Go.Proofs.Ytmhelkhmgbbfhaa
open Go.RowKit Go.Lib

theorem cells_new (W : World) (cs : Array Value) (et : TypeId) : ∀ j u, cs.toList[j]? = some u → (W.alloc (.cells cs et)).cell? ((⟨W.heap.size, 0, none⟩ : Addr).add j) = some u := by
  intro j u hu
  have h1 : (W.alloc (.cells cs et)).heap[W.heap.size]? = some (.cells cs et (0, 0)) := heap_alloc_new W _
  have h2 : ((⟨W.heap.size, 0, none⟩ : Addr).add j) = ⟨W.heap.size, j, none⟩ := by
    unfold Addr.add; split
    · rename_i h; subst h; rfl
    · simp
  rw [h2]
  simp only [World.cell?, h1]
  simpa using hu

theorem wp_append1 {P : Program} {ops : Array Oper} {rest : List Oper} {o : Oper} {a : Act} {Q : Exit → Act → World → Prop} (W : World) (cs : Array Value) (et : TypeId)
    (hgd : o.guard = none) (s x : Operand) (t : TypeId) (ho : o.op = .call { callee := .builtin .append, args := #[s, x], argTypes := #[t, t] })
    (B : Nat) (e : TypeId) (size bytes : Nat) (z : Value) (ht : P.underlying t = some (.slice e)) (hinfo : (P.info? e).map (fun i => (i.zero, i.size, i.bytes)) = some (some z, size, bytes))
    (hz : z.cells.size = size) (hsz : 0 < size) (hby : 0 < bytes)
    (v : Value) (n : Nat) (xs : List Value) (hs : a.eval s = v) (hown : W.ownsRow B e size v n xs) (hx : a.eval x = .slice (some ⟨W.heap.size, 0, none⟩) 1 1) (hcs : cs.size = size) (h1 : ∀ u ∈ cs.toList, u.oneCell' = true)
    (hb : (n + 1) * bytes ≤ 140737488355328) (hB : B ≤ W.heap.size)
    (h : ∀ v' w', w'.ownsRow B e size v' (n + 1) (xs ++ cs.toList) → W.grownBy w' v.ownBlock → v' ≠ .slice none 0 0 → wpList P ops Q rest (a.put o.dst v') w') : wpList P ops Q (o :: rest) a (W.alloc (.cells cs et)) := by
  obtain ⟨i, hi, hz0, hz1, hz2⟩ := info_parts hinfo
  have hbb : n + 1 ≤ 140737488355328 := Nat.le_trans (Nat.le_mul_of_pos_right _ hby) hb
  refine wpList_append_own (W.alloc (.cells cs et)) hgd s x t ho B e i z size bytes ht hi hz0 hz1 hz2 hz hsz v n xs hs (hown.alloc _) ⟨W.heap.size, 0, none⟩ 1 1 cs.toList hx (by simpa using hcs) (cells_new W cs et) h1
    (by unfold maxLen; omega) hb (by simp; omega) ?_
  intro v' w' h2 h3 h4
  refine h v' w' h2 ?_ (fun e => by have := h4.1 e; omega)
  have h5 := World.grownBy_alloc W (.cells cs et) v.ownBlock
  exact ⟨h3.os.trans h5.os, h3.tape.trans h5.tape, h3.output.trans h5.output, Nat.le_trans h5.size h3.size, fun k hk hne => (h3.block k (Nat.lt_of_lt_of_le hk h5.size) hne).trans (h5.block k hk hne)⟩

/-- an append to a slice of the call's own leaves all that was there when the call began -/
theorem Ext.grown {w W w' : World} {B : Nat} {e : TypeId} {size n : Nat} {v : Value} {xs : List Value} (h : Ext w W) (hown : W.ownsRow B e size v n xs) (hB : w.heap.size ≤ B) (hg : W.grownBy w' v.ownBlock) : Ext w w' :=
  Below.grown h hg h.size (fun k hk => Nat.le_trans hB (hown.lt k hk).1)

theorem own_ext {w w' : World} {B : Nat} {e : TypeId} {size n : Nat} {v : Value} {xs : List Value} (h : w.ownsRow B e size v n xs) (he : Ext w w') : w'.ownsRow B e size v n xs := by
  refine ⟨h.1, ?_⟩
  rcases h.2 with h2 | ⟨g, cap, cur, hv, hg, hh, r⟩
  · exact Or.inl h2
  · exact Or.inr ⟨g, cap, cur, hv, hg, (he.block g (Array.getElem?_eq_some_iff.1 hh).1).trans hh, r⟩

theorem cellsAt_of {w : World} {g : Nat} : ∀ (cs : List Value) (off : Nat), (∀ j u, cs[j]? = some u → w.cell? ⟨g, off + j, none⟩ = some u) → CellsAt w g off cs
  | [], _, _ => trivial
  | v :: cs, off, h => ⟨by simpa using h 0 v rfl, cellsAt_of cs (off + 1) fun j u hu => by
      have := h (j + 1) u (by simpa using hu)
      rwa [show off + (j + 1) = off + 1 + j by omega] at this⟩

theorem rdM_of {w : World} {S : Nat → Prop} {g : Nat} : ∀ (l : List D) (xs : List Value) (off : Nat), RdS w S l xs → (∀ j u, xs[j]? = some u → w.cell? ⟨g, off + j, none⟩ = some u) → RdM w S l g off
  | [], _, _, _, _ => by rw [RdM]; trivial
  | d :: l, xs, off, h, hc => by
    rw [RdS] at h
    obtain ⟨c1, c2, rfl, h1, h2⟩ := h
    rw [RdM]
    have hlen := Rd.length d c1 h1
    refine ⟨⟨c1, cellsAt_of c1 off fun j u hu => hc j u ?_, h1⟩, rdM_of l c2 (off + d.width) h2 fun j u hu => ?_⟩
    · have hj : j < c1.length := (List.getElem?_eq_some_iff.1 hu).1
      rw [List.getElem?_append_left hj]; exact hu
    · have := hc (c1.length + j) u (by rw [List.getElem?_append_right (by omega)]; simpa using hu)
      rwa [← Nat.add_assoc, hlen] at this

/-- an owned slice reads as the list of its elements -/
theorem own_rd {w : World} {S S' : Nat → Prop} {B : Nat} {e : TypeId} {size : Nat} {v : Value} {l : List D} {xs : List Value} (h : w.ownsRow B e size v l.length xs) (hr : RdS w S l xs)
    (hS : ∀ b, S b → S' b) (hS2 : ∀ b, v.ownBlock = some b → S' b) : Rd w S' (.sl l) [v] := by
  have hr' := RdS.keep (Keeps.refl S w) hS l xs hr
  rcases h.2 with ⟨rfl, h0⟩ | ⟨g, cap, cur, rfl, hb, hg, h1, h2, h3, h4⟩
  · refine Rd.sl_mk (b := 0) (off := 0) (by simp [h0]) (by simp [h0]) (by omega) (by simp [h0]) ?_
    have : l = [] := List.eq_nil_of_length_eq_zero h0
    subst this; rw [RdM]; trivial
  · refine Rd.sl_mk (b := g) (off := 0) rfl h1 (by simpa [maxLen] using h2) (fun _ => ⟨rfl, hS2 g rfl⟩) (rdM_of l xs 0 hr' ?_)
    intro j u hu
    have := h.cells (g := g) rfl j u hu
    have e2 : ((⟨g, 0, none⟩ : Addr).add j) = ⟨g, 0 + j, none⟩ := by
      unfold Addr.add; split
      · rename_i h; subst h; rfl
      · rfl
    rwa [e2] at this

theorem rdS_ints (w : World) (S : Nat → Prop) : ∀ l : List Int, RdS w S (l.map D.int) (l.map (Value.int .i64))
  | [] => by rw [List.map_nil, RdS, List.map_nil]
  | x :: l => by rw [List.map_cons, RdS]; exact ⟨[.int .i64 x], _, rfl, by rw [Rd], rdS_ints w S l⟩
theorem own_ints {w : World} {S : Nat → Prop} {B : Nat} {e : TypeId} {v : Value} {l : List Int} (h : w.ownsRow B e 1 v l.length (l.map (Value.int .i64))) (hS : ∀ b, v.ownBlock = some b → S b) : Rd w S (.sl (l.map D.int)) [v] :=
  own_rd (l := l.map D.int) (S := S) (by simpa using h) (rdS_ints w S l) (fun _ h => h) hS
theorem RdS.append {w : World} {S : Nat → Prop} : ∀ (l : List D) (xs : List Value) (d : D) (cs : List Value), RdS w S l xs → Rd w S d cs → RdS w S (l ++ [d]) (xs ++ cs)
  | [], xs, d, cs, h, hd => by
    rw [RdS] at h; subst h
    rw [List.nil_append, List.nil_append, RdS]
    exact ⟨cs, [], by simp, hd, by rw [RdS]⟩
  | y :: l, xs, d, cs, h, hd => by
    rw [RdS] at h
    obtain ⟨c1, c2, rfl, h1, h2⟩ := h
    rw [List.cons_append, RdS]
    exact ⟨c1, c2 ++ cs, by simp, h1, RdS.append l c2 d cs h2 hd⟩
theorem RdS.ext {S : Nat → Prop} {w w' : World} {l : List D} {cs : List Value} (hr : RdS w S l cs) (h : Ext w w') : RdS w' S l cs := RdS.keep (Below.keeps h) (fun _ h => h) l cs hr

end Go.Proofs.Ytmhelkhmgbbfhaa
