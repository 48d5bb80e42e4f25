/-
  DERIVED. GIVEN WITH THE SEED: THE CARDS: each row of YtgpcpmfdklpifaaGreatDoorRows.lean that lists a variable, with what it lists TIED to the program's text (the seventh form; the later family's looks); each row that meets fmt, with fmt's text TOLD by the authors' own Lean function (tested against real Go, not proved from fmt's source: count such statements apart). THE CARD IS WHAT COUNTS. Prove the row's statement (the work); the ties are given (YtgpcpmfdklpifaaGreatDoorTie.lean); close each card by the builder's one call (the guide's Derived/Test/ToyasCard.lean, 'card_holds'). Laid BY PROGRAM, IN A SANDBOX (cutbox-door.mjs). By AI agents, Wed Nov 11 2026. No macro, syntax, notation, axiom, sorry.
-/
import Derived.Test.YtgpcpmfdklpifaaGreatDoorRows
import GoSem.ClaimSeven
namespace Go.Proofs.YtgpcpmfdklpifaaGreatDoor
namespace Rows

/-- THE TIED CARD OF 'erratalaw25.CodeSafe'. -/
def codeSafeCard : Claim7 := { stood := { row := codeSafeRow, standIns := [], harness := (true, "7776cb1f6840e9bfb354eae669bdb86c799a109bda5ce1626de28e4158a0f8da"), looks := true }, kinds := [], alts := [], laidByText := true, laidKinds := [.data, .data, .data, .data, .sentinel, .sentinel, .widerDeep, .pinned], laidTests := true, laidLooks := .later }
def CodeSafeCardSaid : Prop := Claim7.holds Tryz.pinned (.plain (OpenSpec.ofChange codeSafeSpec)) codeSafeCard

/-- THE TIED CARD OF 'erratalaw25.CodeKeeps'. -/
def codeKeepsCard : Claim7 := { stood := { row := codeKeepsRow, standIns := [], harness := (true, "7776cb1f6840e9bfb354eae669bdb86c799a109bda5ce1626de28e4158a0f8da"), looks := true }, kinds := [], alts := [], laidByText := true, laidKinds := [.data, .data, .data, .data, .sentinel, .sentinel, .widerDeep, .pinned], laidTests := true, laidLooks := .later }
def CodeKeepsCardSaid : Prop := Claim7.holds Tryz.pinned (.plain (OpenSpec.ofChange codeKeepsSpec)) codeKeepsCard

/-- THE TIED CARD OF 'erratalaw25.CodeReads'. -/
def codeReadsCard : Claim7 := { stood := { row := codeReadsRow, standIns := [], harness := (true, "7776cb1f6840e9bfb354eae669bdb86c799a109bda5ce1626de28e4158a0f8da"), looks := true }, kinds := [], alts := [], laidByText := true, laidKinds := [.data, .data, .data, .data, .sentinel, .sentinel, .widerDeep, .pinned], laidTests := true, laidLooks := .later }
def CodeReadsCardSaid : Prop := Claim7.holds Tryz.pinned (.plain (OpenSpec.ofChange codeReadsSpec)) codeReadsCard

/-- THE TIED CARD OF 'erratalaw25.CodeTells'. -/
def codeTellsCard : Claim7 := { stood := { row := codeTellsRow, standIns := [], harness := (true, "7776cb1f6840e9bfb354eae669bdb86c799a109bda5ce1626de28e4158a0f8da"), looks := true }, kinds := [], alts := [], laidByText := true, laidKinds := [.data, .data, .data, .data, .sentinel, .sentinel, .widerDeep, .pinned], laidTests := true, laidLooks := .later }
def CodeTellsCardSaid : Prop := Claim7.holds Tryz.pinned (.plain (OpenSpec.ofChange codeTellsSpec)) codeTellsCard

/-- THE SECOND FORM's CARD OF 'erratalaw25.CodeSafe'. -/
def codeSafeUptoCard : Claim7 := { stood := { row := codeSafeUptoRow, standIns := [], harness := (true, "7776cb1f6840e9bfb354eae669bdb86c799a109bda5ce1626de28e4158a0f8da"), looks := true }, kinds := [], alts := [], laidByText := true, laidKinds := [.data, .data, .data, .data, .sentinel, .sentinel, .widerDeep, .pinned], laidTests := true, laidLooks := .later }
def CodeSafeUptoCardSaid : Prop := Claim7.holds Tryz.pinned (.plain (OpenSpec.upto codeSafeSpec)) codeSafeUptoCard

/-- THE SECOND FORM's CARD OF 'erratalaw25.CodeKeeps'. -/
def codeKeepsUptoCard : Claim7 := { stood := { row := codeKeepsUptoRow, standIns := [], harness := (true, "7776cb1f6840e9bfb354eae669bdb86c799a109bda5ce1626de28e4158a0f8da"), looks := true }, kinds := [], alts := [], laidByText := true, laidKinds := [.data, .data, .data, .data, .sentinel, .sentinel, .widerDeep, .pinned], laidTests := true, laidLooks := .later }
def CodeKeepsUptoCardSaid : Prop := Claim7.holds Tryz.pinned (.plain (OpenSpec.upto codeKeepsSpec)) codeKeepsUptoCard

/-- THE SECOND FORM's CARD OF 'erratalaw25.CodeReads'. -/
def codeReadsUptoCard : Claim7 := { stood := { row := codeReadsUptoRow, standIns := [], harness := (true, "7776cb1f6840e9bfb354eae669bdb86c799a109bda5ce1626de28e4158a0f8da"), looks := true }, kinds := [], alts := [], laidByText := true, laidKinds := [.data, .data, .data, .data, .sentinel, .sentinel, .widerDeep, .pinned], laidTests := true, laidLooks := .later }
def CodeReadsUptoCardSaid : Prop := Claim7.holds Tryz.pinned (.plain (OpenSpec.upto codeReadsSpec)) codeReadsUptoCard

/-- THE SECOND FORM's CARD OF 'erratalaw25.CodeTells'. -/
def codeTellsUptoCard : Claim7 := { stood := { row := codeTellsUptoRow, standIns := [], harness := (true, "7776cb1f6840e9bfb354eae669bdb86c799a109bda5ce1626de28e4158a0f8da"), looks := true }, kinds := [], alts := [], laidByText := true, laidKinds := [.data, .data, .data, .data, .sentinel, .sentinel, .widerDeep, .pinned], laidTests := true, laidLooks := .later }
def CodeTellsUptoCardSaid : Prop := Claim7.holds Tryz.pinned (.plain (OpenSpec.upto codeTellsSpec)) codeTellsUptoCard
end Rows
end Go.Proofs.YtgpcpmfdklpifaaGreatDoor
