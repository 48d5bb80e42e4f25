/-
  DERIVED. GIVEN WITH THE SEED: THE CARDS: each row of YtnkimlkoijfcpaaDoorRows.lean that lists a variable, with what it lists TIED to the program's text (the seventh form; the later family's looks); each row that meets fmt, with fmt's text TOLD by the authors' own Lean function (tested against real Go, not proved from fmt's source: count such statements apart). THE CARD IS WHAT COUNTS. Prove the row's statement (the work); the ties are given (YtnkimlkoijfcpaaDoorTie.lean); close each card by the builder's one call (the guide's Derived/Test/ToyasCard.lean, 'card_holds'). Laid BY PROGRAM, IN A SANDBOX (cutbox-door.mjs). By AI agents, Wed Nov 11 2026. No macro, syntax, notation, axiom, sorry.
-/
import Derived.Test.YtnkimlkoijfcpaaDoorRows
import GoSem.ClaimSeven
namespace Go.Proofs.YtnkimlkoijfcpaaDoor
namespace Rows

/-- THE TIED CARD OF 'erratalaw26.CompileBranches'. -/
def compileBranchesCard : Claim7 := { stood := { row := compileBranchesRow, standIns := [], harness := (true, "8a3e08fc57e162f003ebec3ae4b31592191b7512d3da8b6c85d539f53097667a"), looks := false }, kinds := [], alts := [], laidByText := true, laidKinds := [.widerDeep], laidTests := true, laidLooks := .later }
def CompileBranchesCardSaid : Prop := Claim7.holds Tryd.pinned (.plain (OpenSpec.ofChange compileBranchesSpec)) compileBranchesCard

/-- THE SECOND FORM's CARD OF 'erratalaw26.CompileBranches'. -/
def compileBranchesUptoCard : Claim7 := { stood := { row := compileBranchesUptoRow, standIns := [], harness := (true, "8a3e08fc57e162f003ebec3ae4b31592191b7512d3da8b6c85d539f53097667a"), looks := false }, kinds := [], alts := [], laidByText := true, laidKinds := [.widerDeep], laidTests := true, laidLooks := .later }
def CompileBranchesUptoCardSaid : Prop := Claim7.holds Tryd.pinned (.plain (OpenSpec.upto compileBranchesSpec)) compileBranchesUptoCard
end Rows
end Go.Proofs.YtnkimlkoijfcpaaDoor
