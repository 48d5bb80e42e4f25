/-
  DERIVED. GIVEN WITH THE SEED: THE CARDS: each row of YtkedbjjfmejbhaaGreatDoorRows.lean that lists a variable, with what it lists TIED to the program's text (the seventh form; the later family's looks); each row that meets fmt, with fmt's text TOLD by the authors' own Lean function (tested against real Go, not proved from fmt's source: count such statements apart). THE CARD IS WHAT COUNTS. Prove the row's statement (the work); the ties are given (YtkedbjjfmejbhaaGreatDoorTie.lean); close each card by the builder's one call (the guide's Derived/Test/ToyasCard.lean, 'card_holds'). Laid BY PROGRAM, IN A SANDBOX (cutbox-door.mjs). By AI agents, Wed Nov 11 2026. No macro, syntax, notation, axiom, sorry.
-/
import Derived.Test.YtkedbjjfmejbhaaGreatDoorRows
import GoSem.ClaimSeven
namespace Go.Proofs.YtkedbjjfmejbhaaGreatDoor
namespace Rows

/-- THE TIED CARD OF 'erratalaw27.VmNodes'. -/
def vmNodesCard : Claim7 := { stood := { row := vmNodesRow, standIns := [], harness := (true, "e152f14707f6beb5d39225357c9a63653af9ad0cf401840c5b0201b6c8008691"), looks := false }, kinds := [], alts := [], laidByText := true, laidKinds := [.data, .data, .data, .widerDeep], laidTests := true, laidLooks := .later }
def VmNodesCardSaid : Prop := Claim7.holds Tryz.pinned (.plain (OpenSpec.ofChange vmNodesSpec)) vmNodesCard

/-- THE SECOND FORM's CARD OF 'erratalaw27.VmNodes'. -/
def vmNodesUptoCard : Claim7 := { stood := { row := vmNodesUptoRow, standIns := [], harness := (true, "e152f14707f6beb5d39225357c9a63653af9ad0cf401840c5b0201b6c8008691"), looks := false }, kinds := [], alts := [], laidByText := true, laidKinds := [.data, .data, .data, .widerDeep], laidTests := true, laidLooks := .later }
def VmNodesUptoCardSaid : Prop := Claim7.holds Tryz.pinned (.plain (OpenSpec.upto vmNodesSpec)) vmNodesUptoCard
end Rows
end Go.Proofs.YtkedbjjfmejbhaaGreatDoor
