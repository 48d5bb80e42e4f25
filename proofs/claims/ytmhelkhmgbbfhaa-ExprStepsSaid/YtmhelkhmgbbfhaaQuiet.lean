/- Regions that draw their order, whose operations read and whose calls only make new memory: one walk in the text's order. -/
import Derived.Test.YtmhelkhmgbbfhaaOwn
import Derived.Deep.QuietTactic
import Derived.BigQuiet
namespace Go.Proofs.Ytmhelkhmgbbfhaa
open Go.RowKit Go.Lib

/-- the worlds in which all that w holds is held -/
structure ExtW (w : World) where
  val : World
  ext : Ext w val

instance (w : World) : Nonempty (ExtW w) := ⟨⟨w, Ext.refl w⟩⟩
theorem ExtW.at {w : World} {p : Addr} {v : Value} (hc : w.cell? p = some v) : ∀ x : ExtW w, x.val.cell? p = some v := fun x => x.ext.at hc

theorem wpQuiet_mono {P : Program} {ops : Array Oper} {C : World → Prop} {Q Q' : Act → Prop} (hQ : ∀ a, Q a → Q' a) : ∀ (l : List Oper) (a : Act), wpQuiet P ops C Q l a → wpQuiet P ops C Q' l a
  | [], a, h => hQ a h
  | o :: l, a, h => by
    unfold wpQuiet at h ⊢
    split
    · rename_i hw; rw [if_pos hw] at h; exact Oper.quiet_mono (fun a' h' => wpQuiet_mono hQ l a' h') h
    · rename_i hw; rw [if_neg hw] at h; exact wpQuiet_mono hQ l _ h

theorem wp_region_ext {P : Program} {id : Nat} {Q : Exit → Act → World → Prop} {a : Act} {w : World} {l : List Oper} (hm : P.follows .mixedOrders = true) (hB : Region.lexB .any l.toArray = true)
    (h : wpQuiet P l.toArray (fun w' => ∃ x : ExtW w, w' = x.val) (fun a' => ∀ w', Ext w w' → Q .normal a' w') l a) : (Code.region id l.toArray true).wp P Q a w :=
  wp_region_quiet (C := fun w' => ∃ x : ExtW w, w' = x.val) hm hB ⟨⟨{ w with drawn := w.drawn + 1 }, ⟨rfl, rfl, rfl, Nat.le_refl _, fun _ _ => rfl⟩⟩, rfl⟩
    (wpQuiet_mono (fun a' h' w' hx => by obtain ⟨x, rfl⟩ := hx; exact h' x.val x.ext) _ _ (by simpa using h))

theorem Calls.ext_of {P : Program} {f : FuncId} {args : Array Value} {w : World} {x : ExtW w} {v : Value}
    (h : Calls P f args x.val fun e w' => e = .returned v ∧ Ext x.val w') : Calls P f args x.val fun e w'' => e = .returned v ∧ ∃ y : ExtW w, w'' = y.val :=
  h.mono fun _ w' ⟨he, hw⟩ => ⟨he, ⟨w', x.ext.trans hw⟩, rfl⟩

/-- does this code begin with the region of that number? -/
def beginsAt (id : Nat) : Code → Bool
  | .region i _ _ => i == id
  | .seq a _ => beginsAt id a
  | .block _ c => beginsAt id c
  | .loop c => beginsAt id c
  | .scope c => beginsAt id c
  | _ => false
/-- what stands from that region on, along the outermost sequence -/
def restFrom (id : Nat) : Code → Code
  | .seq a b => if beginsAt id a then .seq a b else restFrom id b
  | c => c

end Go.Proofs.Ytmhelkhmgbbfhaa
