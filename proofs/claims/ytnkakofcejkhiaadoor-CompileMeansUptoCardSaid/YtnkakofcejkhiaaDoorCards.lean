/-
  DERIVED. GIVEN WITH THE SEED: THE CARDS: each row of YtnkakofcejkhiaaDoorRows.lean that lists a variable, with what it lists TIED to the program's text (the seventh form; the later family's looks); each row that meets fmt, with fmt's text TOLD by the authors' own Lean function (tested against real Go, not proved from fmt's source: count such statements apart). THE CARD IS WHAT COUNTS. Prove the row's statement (the work); the ties are given (YtnkakofcejkhiaaDoorTie.lean); close each card by the builder's one call (the guide's Derived/Test/ToyasCard.lean, 'card_holds'). Laid BY PROGRAM, IN A SANDBOX (cutbox-door.mjs). By AI agents, Wed Nov 11 2026. No macro, syntax, notation, axiom, sorry.
-/
import Derived.Test.YtnkakofcejkhiaaDoorRows
import GoSem.ClaimSeven
namespace Go.Proofs.YtnkakofcejkhiaaDoor
namespace Rows

/-- THE TIED CARD OF 'erratalaw27.VmBatches'. -/
def vmBatchesCard : Claim7 := { stood := { row := vmBatchesRow, standIns := [], harness := (true, "65dcd1e851a4a643e71e0489e62c6c9ef66f53aebf533bd787cc632c7430e736"), looks := false }, kinds := [], alts := [], laidByText := true, laidKinds := [.widerDeep], laidTests := true, laidLooks := .later }
def VmBatchesCardSaid : Prop := Claim7.holds Tryd.pinned (.plain (OpenSpec.ofChange vmBatchesSpec)) vmBatchesCard

/-- THE TIED CARD OF 'erratalaw27.VmTells'. -/
def vmTellsCard : Claim7 := { stood := { row := vmTellsRow, standIns := [], harness := (true, "65dcd1e851a4a643e71e0489e62c6c9ef66f53aebf533bd787cc632c7430e736"), looks := false }, kinds := [], alts := [], laidByText := true, laidKinds := [.widerDeep], laidTests := true, laidLooks := .later }
def VmTellsCardSaid : Prop := Claim7.holds Tryd.pinned (.plain (OpenSpec.ofChange vmTellsSpec)) vmTellsCard

/-- THE TIED CARD OF 'erratalaw27.VmTrims'. -/
def vmTrimsCard : Claim7 := { stood := { row := vmTrimsRow, standIns := [], harness := (true, "65dcd1e851a4a643e71e0489e62c6c9ef66f53aebf533bd787cc632c7430e736"), looks := false }, kinds := [], alts := [], laidByText := true, laidKinds := [.widerDeep], laidTests := true, laidLooks := .later }
def VmTrimsCardSaid : Prop := Claim7.holds Tryd.pinned (.plain (OpenSpec.ofChange vmTrimsSpec)) vmTrimsCard

/-- THE TIED CARD OF 'erratalaw26.CompileBranches'. -/
def compileBranchesCard : Claim7 := { stood := { row := compileBranchesRow, standIns := [], harness := (true, "65dcd1e851a4a643e71e0489e62c6c9ef66f53aebf533bd787cc632c7430e736"), looks := false }, kinds := [], alts := [], laidByText := true, laidKinds := [.widerDeep], laidTests := true, laidLooks := .later }
def CompileBranchesCardSaid : Prop := Claim7.holds Tryd.pinned (.plain (OpenSpec.ofChange compileBranchesSpec)) compileBranchesCard

/-- THE TIED CARD OF 'erratalaw26.CompileMeans'. -/
def compileMeansCard : Claim7 := { stood := { row := compileMeansRow, standIns := [], harness := (true, "65dcd1e851a4a643e71e0489e62c6c9ef66f53aebf533bd787cc632c7430e736"), looks := false }, kinds := [], alts := [], laidByText := true, laidKinds := [.widerDeep], laidTests := true, laidLooks := .later }
def CompileMeansCardSaid : Prop := Claim7.holds Tryd.pinned (.plain (OpenSpec.ofChange compileMeansSpec)) compileMeansCard

/-- THE SECOND FORM's CARD OF 'erratalaw27.VmBatches'. -/
def vmBatchesUptoCard : Claim7 := { stood := { row := vmBatchesUptoRow, standIns := [], harness := (true, "65dcd1e851a4a643e71e0489e62c6c9ef66f53aebf533bd787cc632c7430e736"), looks := false }, kinds := [], alts := [], laidByText := true, laidKinds := [.widerDeep], laidTests := true, laidLooks := .later }
def VmBatchesUptoCardSaid : Prop := Claim7.holds Tryd.pinned (.plain (OpenSpec.upto vmBatchesSpec)) vmBatchesUptoCard

/-- THE SECOND FORM's CARD OF 'erratalaw27.VmTells'. -/
def vmTellsUptoCard : Claim7 := { stood := { row := vmTellsUptoRow, standIns := [], harness := (true, "65dcd1e851a4a643e71e0489e62c6c9ef66f53aebf533bd787cc632c7430e736"), looks := false }, kinds := [], alts := [], laidByText := true, laidKinds := [.widerDeep], laidTests := true, laidLooks := .later }
def VmTellsUptoCardSaid : Prop := Claim7.holds Tryd.pinned (.plain (OpenSpec.upto vmTellsSpec)) vmTellsUptoCard

/-- THE SECOND FORM's CARD OF 'erratalaw27.VmTrims'. -/
def vmTrimsUptoCard : Claim7 := { stood := { row := vmTrimsUptoRow, standIns := [], harness := (true, "65dcd1e851a4a643e71e0489e62c6c9ef66f53aebf533bd787cc632c7430e736"), looks := false }, kinds := [], alts := [], laidByText := true, laidKinds := [.widerDeep], laidTests := true, laidLooks := .later }
def VmTrimsUptoCardSaid : Prop := Claim7.holds Tryd.pinned (.plain (OpenSpec.upto vmTrimsSpec)) vmTrimsUptoCard

/-- THE SECOND FORM's CARD OF 'erratalaw26.CompileBranches'. -/
def compileBranchesUptoCard : Claim7 := { stood := { row := compileBranchesUptoRow, standIns := [], harness := (true, "65dcd1e851a4a643e71e0489e62c6c9ef66f53aebf533bd787cc632c7430e736"), looks := false }, kinds := [], alts := [], laidByText := true, laidKinds := [.widerDeep], laidTests := true, laidLooks := .later }
def CompileBranchesUptoCardSaid : Prop := Claim7.holds Tryd.pinned (.plain (OpenSpec.upto compileBranchesSpec)) compileBranchesUptoCard

/-- THE SECOND FORM's CARD OF 'erratalaw26.CompileMeans'. -/
def compileMeansUptoCard : Claim7 := { stood := { row := compileMeansUptoRow, standIns := [], harness := (true, "65dcd1e851a4a643e71e0489e62c6c9ef66f53aebf533bd787cc632c7430e736"), looks := false }, kinds := [], alts := [], laidByText := true, laidKinds := [.widerDeep], laidTests := true, laidLooks := .later }
def CompileMeansUptoCardSaid : Prop := Claim7.holds Tryd.pinned (.plain (OpenSpec.upto compileMeansSpec)) compileMeansUptoCard
end Rows
end Go.Proofs.YtnkakofcejkhiaaDoor
