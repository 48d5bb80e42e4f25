/-
  DERIVED. GIVEN WITH THE SEED: THE CARDS: each row of YtinmkhgadekabaaDoorRows.lean that lists a variable, with what it lists TIED to the program's text (the seventh form; the later family's looks); each row that meets fmt, with fmt's text TOLD by the authors' own Lean function (tested against real Go, not proved from fmt's source: count such statements apart). THE CARD IS WHAT COUNTS. Prove the row's statement (the work); the ties are given (YtinmkhgadekabaaDoorTie.lean); close each card by the builder's one call (the guide's Derived/Test/ToyasCard.lean, 'card_holds'). Laid BY PROGRAM, IN A SANDBOX (cutbox-door.mjs). By AI agents, Wed Nov 11 2026. No macro, syntax, notation, axiom, sorry.
-/
import Derived.Test.YtinmkhgadekabaaDoorRows
import GoSem.ClaimSeven
namespace Go.Proofs.YtinmkhgadekabaaDoor
namespace Rows

/-- THE TIED CARD OF 'erratalaw13.ShapeBack'. -/
def shapeBackCard : Claim7 := { stood := { row := shapeBackRow, standIns := [], harness := (true, "0dc4767559b0b97801cb1afccdee15aa960b43b8442bbdc36cbf9bac0fb0769f"), looks := false }, kinds := [], alts := [], laidByText := true, laidKinds := [.data, .pinned], laidTests := true, laidLooks := .later }
def ShapeBackCardSaid : Prop := Claim7.holds Tryd.pinned (.plain (OpenSpec.ofChange shapeBackSpec)) shapeBackCard

/-- THE TIED CARD OF 'erratalaw13.ShapeFinds'. -/
def shapeFindsCard : Claim7 := { stood := { row := shapeFindsRow, standIns := [], harness := (true, "0dc4767559b0b97801cb1afccdee15aa960b43b8442bbdc36cbf9bac0fb0769f"), looks := false }, kinds := [], alts := [], laidByText := true, laidKinds := [.data, .pinned], laidTests := true, laidLooks := .later }
def ShapeFindsCardSaid : Prop := Claim7.holds Tryd.pinned (.plain (OpenSpec.ofChange shapeFindsSpec)) shapeFindsCard

/-- THE TIED CARD OF 'erratalaw13.ShapeTells'. -/
def shapeTellsCard : Claim7 := { stood := { row := shapeTellsRow, standIns := [], harness := (true, "0dc4767559b0b97801cb1afccdee15aa960b43b8442bbdc36cbf9bac0fb0769f"), looks := false }, kinds := [], alts := [], laidByText := true, laidKinds := [.data, .pinned], laidTests := true, laidLooks := .later }
def ShapeTellsCardSaid : Prop := Claim7.holds Tryd.pinned (.plain (OpenSpec.ofChange shapeTellsSpec)) shapeTellsCard

/-- THE TIED CARD OF 'erratalaw13.ShapeFits'. -/
def shapeFitsCard : Claim7 := { stood := { row := shapeFitsRow, standIns := [], harness := (true, "0dc4767559b0b97801cb1afccdee15aa960b43b8442bbdc36cbf9bac0fb0769f"), looks := false }, kinds := [], alts := [], laidByText := true, laidKinds := [.data, .pinned], laidTests := true, laidLooks := .later }
def ShapeFitsCardSaid : Prop := Claim7.holds Tryd.pinned (.plain (OpenSpec.ofChange shapeFitsSpec)) shapeFitsCard

/-- THE SECOND FORM's CARD OF 'erratalaw13.ShapeBack'. -/
def shapeBackUptoCard : Claim7 := { stood := { row := shapeBackUptoRow, standIns := [], harness := (true, "0dc4767559b0b97801cb1afccdee15aa960b43b8442bbdc36cbf9bac0fb0769f"), looks := false }, kinds := [], alts := [], laidByText := true, laidKinds := [.data, .pinned], laidTests := true, laidLooks := .later }
def ShapeBackUptoCardSaid : Prop := Claim7.holds Tryd.pinned (.plain (OpenSpec.upto shapeBackSpec)) shapeBackUptoCard

/-- THE SECOND FORM's CARD OF 'erratalaw13.ShapeFinds'. -/
def shapeFindsUptoCard : Claim7 := { stood := { row := shapeFindsUptoRow, standIns := [], harness := (true, "0dc4767559b0b97801cb1afccdee15aa960b43b8442bbdc36cbf9bac0fb0769f"), looks := false }, kinds := [], alts := [], laidByText := true, laidKinds := [.data, .pinned], laidTests := true, laidLooks := .later }
def ShapeFindsUptoCardSaid : Prop := Claim7.holds Tryd.pinned (.plain (OpenSpec.upto shapeFindsSpec)) shapeFindsUptoCard

/-- THE SECOND FORM's CARD OF 'erratalaw13.ShapeTells'. -/
def shapeTellsUptoCard : Claim7 := { stood := { row := shapeTellsUptoRow, standIns := [], harness := (true, "0dc4767559b0b97801cb1afccdee15aa960b43b8442bbdc36cbf9bac0fb0769f"), looks := false }, kinds := [], alts := [], laidByText := true, laidKinds := [.data, .pinned], laidTests := true, laidLooks := .later }
def ShapeTellsUptoCardSaid : Prop := Claim7.holds Tryd.pinned (.plain (OpenSpec.upto shapeTellsSpec)) shapeTellsUptoCard

/-- THE SECOND FORM's CARD OF 'erratalaw13.ShapeFits'. -/
def shapeFitsUptoCard : Claim7 := { stood := { row := shapeFitsUptoRow, standIns := [], harness := (true, "0dc4767559b0b97801cb1afccdee15aa960b43b8442bbdc36cbf9bac0fb0769f"), looks := false }, kinds := [], alts := [], laidByText := true, laidKinds := [.data, .pinned], laidTests := true, laidLooks := .later }
def ShapeFitsUptoCardSaid : Prop := Claim7.holds Tryd.pinned (.plain (OpenSpec.upto shapeFitsSpec)) shapeFitsUptoCard
end Rows
end Go.Proofs.YtinmkhgadekabaaDoor
