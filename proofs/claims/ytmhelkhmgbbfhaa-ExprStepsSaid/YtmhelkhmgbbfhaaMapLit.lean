/- A map literal in a new block: its insertions and its look-ups, with integer keys. -/
import Derived.Test.YtmhelkhmgbbfhaaBase
import Derived.WideMake
namespace Go.Proofs.Ytmhelkhmgbbfhaa
open Go.RowKit Go.Lib

variable {P : Program}

theorem set_new (w : World) (o o' : Obj) : ({ w.alloc o with heap := (w.alloc o).heap.setIfInBounds w.heap.size o' } : World) = w.alloc o' := by
  have h : (w.heap.push o).setIfInBounds w.heap.size o' = w.heap.push o' := by
    apply Array.ext
    · simp
    · intro i h1 h2
      by_cases hi : i = w.heap.size
      · subst hi; simp
      · have : i < w.heap.size := by simp at h2; omega
        rw [Array.getElem_setIfInBounds_ne (by simpa using h1) (fun e => hi e.symm), Array.getElem_push_lt this, Array.getElem_push_lt this]
  show ({ w with heap := (w.heap.push o).setIfInBounds w.heap.size o' } : World) = { w with heap := w.heap.push o' }
  rw [h]

theorem update_new {t kt et : TypeId} {q : IntKind} (hm : P.underlying t = some (.map kt et)) (hk : P.underlying kt = some (.int q)) (w : World) (es : Array MapEntry) (c : Nat) (k : Int) (v : Value)
    (hf : Instr.findNow (.int q) (.int q k) es.toList 0 = some none) :
    (Instr.mapUpdate t (.map (some w.heap.size)) (.int q k) v).run P (w.alloc (.map es c)) = .ok () (w.alloc (.map (es.push { key := .int q k, val := v, born := c }) (c + 1))) := by
  have hb : (w.alloc (.map es c)).heap[w.heap.size]? = some (.map es c) := heap_alloc_new w _
  have hc : (Instr.checkKey false 10000 kt (.int q k)).run P (w.alloc (.map es c)) = .ok () (w.alloc (.map es c)) := MapKept.run_checkKey (k := .int q k) hk (by simp [MapKept.IsKey]) false 9999
  have h := set_new w (.map es c) (.map (es.push { key := .int q k, val := v, born := c }) (c + 1))
  simp [Instr.mapUpdate, run_underlying hm, MapKept.run_getObj_map hb, hc, MapKept.run_findKey hk hf, MapKept.run_setObj_map _ hb, Result.andThen]
  exact h

theorem lookup_lit {t kt et : TypeId} {q : IntKind} (hm : P.underlying t = some (.map kt et)) (hk : P.underlying kt = some (.int q)) (w : World) (b : Nat) (es : Array MapEntry) (c : Nat) (hb : w.heap[b]? = some (.map es c)) (k : Int) (i : Nat) (v : Value)
    (hf : Instr.findNow (.int q) (.int q k) es.toList 0 = some (some (i, v))) :
    (Instr.lookup t (.map (some b)) (.int q k) false).run P w = .ok v w := by
  have hc : (Instr.checkKey es.isEmpty 10000 kt (.int q k)).run P w = .ok () w := MapKept.run_checkKey (k := .int q k) hk (by simp [MapKept.IsKey]) _ 9999
  have hc2 := hc
  simp only [Array.isEmpty] at hc2
  simp [Instr.lookup, run_underlying hm, MapKept.run_getObj_map hb, hc, hc2, MapKept.run_findKey hk hf, Result.andThen]
end Go.Proofs.Ytmhelkhmgbbfhaa
