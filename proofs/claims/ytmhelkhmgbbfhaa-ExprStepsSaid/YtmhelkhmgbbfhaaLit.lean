/- A literal slice: a new block read as a list. -/
import Derived.Test.YtmhelkhmgbbfhaaMore
namespace Go.Proofs.Ytmhelkhmgbbfhaa
open Go.RowKit Go.Lib

theorem rd_new {X : World} {S : Nat → Prop} {l : List D} {cs : Array Value} {t : TypeId} {g n c : Nat} (hg : g = X.heap.size) (hn : n = l.length) (hr : RdS (X.alloc (.cells cs t)) S l cs.toList) (hS : S g) (hc : l.length ≤ c) (hc2 : c ≤ 9223372036854775807) :
    Rd (X.alloc (.cells cs t)) S (.sl l) [.slice (some ⟨g, 0, none⟩) n c] := by
  subst hg
  refine Rd.sl_mk (b := X.heap.size) (off := 0) hn hc hc2 (fun _ => ⟨rfl, hS⟩) (rdM_of l cs.toList 0 hr ?_)
  intro j u hu
  have := cells_new X cs t j u hu
  have e2 : ((⟨X.heap.size, 0, none⟩ : Addr).add j) = ⟨X.heap.size, 0 + j, none⟩ := by
    unfold Addr.add; split
    · rename_i h; subst h; rfl
    · rfl
  rwa [e2] at this
theorem rd_new_ints {X : World} {l : List Int} {cs : Array Value} {t : TypeId} {g n : Nat} (hg : g = X.heap.size) (hn : n = l.length) (h : cs.toList = l.map (Value.int .i64)) (hc2 : l.length ≤ 9223372036854775807) :
    Rd (X.alloc (.cells cs t)) Any (.sl (l.map D.int)) [.slice (some ⟨g, 0, none⟩) n n] :=
  rd_new hg (by simpa using hn) (by rw [h]; exact rdS_ints _ _ l) trivial (by simp; omega) (by omega)

end Go.Proofs.Ytmhelkhmgbbfhaa
