/-
  DERIVED. GIVEN WITH THE SEED: THE CARDS: each row of YtnkimlkoijfcpaaGreatDoorRows.lean that lists a variable, with what it lists TIED to the program's text (the seventh form; the later family's looks); each row that meets fmt, with fmt's text TOLD by the authors' own Lean function (tested against real Go, not proved from fmt's source: count such statements apart). THE CARD IS WHAT COUNTS. Prove the row's statement (the work); the ties are given (YtnkimlkoijfcpaaGreatDoorTie.lean); close each card by the builder's one call (the guide's Derived/Test/ToyasCard.lean, 'card_holds'). Laid BY PROGRAM, IN A SANDBOX (cutbox-door.mjs). By AI agents, Wed Nov 11 2026. No macro, syntax, notation, axiom, sorry.
-/
import Derived.Test.YtnkimlkoijfcpaaGreatDoorRows
import GoSem.ClaimSeven
namespace Go.Proofs.YtnkimlkoijfcpaaGreatDoor
namespace Rows

/-- THE TIED CARD OF 'erratalaw26.CompileFolds'. -/
def compileFoldsCard : Claim7 := { stood := { row := compileFoldsRow, standIns := [], harness := (true, "fe768a002c5ec400e21a22129f70217f2172ee0d1955053948050cce68b6ed8b"), looks := false }, kinds := [], alts := [], laidByText := true, laidKinds := [.widerDeep], laidTests := true, laidLooks := .later }
def CompileFoldsCardSaid : Prop := Claim7.holds Tryz.pinned (.plain (OpenSpec.ofChange compileFoldsSpec)) compileFoldsCard

/-- THE TIED CARD OF 'erratalaw26.CompileShares'. -/
def compileSharesCard : Claim7 := { stood := { row := compileSharesRow, standIns := [], harness := (true, "fe768a002c5ec400e21a22129f70217f2172ee0d1955053948050cce68b6ed8b"), looks := false }, kinds := [], alts := [], laidByText := true, laidKinds := [.widerDeep], laidTests := true, laidLooks := .later }
def CompileSharesCardSaid : Prop := Claim7.holds Tryz.pinned (.plain (OpenSpec.ofChange compileSharesSpec)) compileSharesCard

/-- THE TIED CARD OF 'erratalaw26.CompileTells'. -/
def compileTellsCard : Claim7 := { stood := { row := compileTellsRow, standIns := [], harness := (true, "fe768a002c5ec400e21a22129f70217f2172ee0d1955053948050cce68b6ed8b"), looks := false }, kinds := [], alts := [], laidByText := true, laidKinds := [.widerDeep], laidTests := true, laidLooks := .later }
def CompileTellsCardSaid : Prop := Claim7.holds Tryz.pinned (.plain (OpenSpec.ofChange compileTellsSpec)) compileTellsCard

/-- THE TIED CARD OF 'erratalaw27.VmExpr'. -/
def vmExprCard : Claim7 := { stood := { row := vmExprRow, standIns := [], harness := (true, "fe768a002c5ec400e21a22129f70217f2172ee0d1955053948050cce68b6ed8b"), looks := false }, kinds := [], alts := [], laidByText := true, laidKinds := [.widerDeep], laidTests := true, laidLooks := .later }
def VmExprCardSaid : Prop := Claim7.holds Tryz.pinned (.plain (OpenSpec.ofChange vmExprSpec)) vmExprCard

/-- THE SECOND FORM's CARD OF 'erratalaw26.CompileFolds'. -/
def compileFoldsUptoCard : Claim7 := { stood := { row := compileFoldsUptoRow, standIns := [], harness := (true, "fe768a002c5ec400e21a22129f70217f2172ee0d1955053948050cce68b6ed8b"), looks := false }, kinds := [], alts := [], laidByText := true, laidKinds := [.widerDeep], laidTests := true, laidLooks := .later }
def CompileFoldsUptoCardSaid : Prop := Claim7.holds Tryz.pinned (.plain (OpenSpec.upto compileFoldsSpec)) compileFoldsUptoCard

/-- THE SECOND FORM's CARD OF 'erratalaw26.CompileShares'. -/
def compileSharesUptoCard : Claim7 := { stood := { row := compileSharesUptoRow, standIns := [], harness := (true, "fe768a002c5ec400e21a22129f70217f2172ee0d1955053948050cce68b6ed8b"), looks := false }, kinds := [], alts := [], laidByText := true, laidKinds := [.widerDeep], laidTests := true, laidLooks := .later }
def CompileSharesUptoCardSaid : Prop := Claim7.holds Tryz.pinned (.plain (OpenSpec.upto compileSharesSpec)) compileSharesUptoCard

/-- THE SECOND FORM's CARD OF 'erratalaw26.CompileTells'. -/
def compileTellsUptoCard : Claim7 := { stood := { row := compileTellsUptoRow, standIns := [], harness := (true, "fe768a002c5ec400e21a22129f70217f2172ee0d1955053948050cce68b6ed8b"), looks := false }, kinds := [], alts := [], laidByText := true, laidKinds := [.widerDeep], laidTests := true, laidLooks := .later }
def CompileTellsUptoCardSaid : Prop := Claim7.holds Tryz.pinned (.plain (OpenSpec.upto compileTellsSpec)) compileTellsUptoCard

/-- THE SECOND FORM's CARD OF 'erratalaw27.VmExpr'. -/
def vmExprUptoCard : Claim7 := { stood := { row := vmExprUptoRow, standIns := [], harness := (true, "fe768a002c5ec400e21a22129f70217f2172ee0d1955053948050cce68b6ed8b"), looks := false }, kinds := [], alts := [], laidByText := true, laidKinds := [.widerDeep], laidTests := true, laidLooks := .later }
def VmExprUptoCardSaid : Prop := Claim7.holds Tryz.pinned (.plain (OpenSpec.upto vmExprSpec)) vmExprUptoCard
end Rows
end Go.Proofs.YtnkimlkoijfcpaaGreatDoor
