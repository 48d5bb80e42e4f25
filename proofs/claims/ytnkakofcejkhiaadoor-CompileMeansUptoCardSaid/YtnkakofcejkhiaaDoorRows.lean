/-
  NARROWER THAN 'FOR EVERY INPUT', by the rows' own cells (each row's printed sentence says how): VmBatches: laid · VmTells: laid · VmTrims: laid · CompileBranches: loops, laid · CompileMeans: loops, laid.
  DERIVED. THE GIVEN ROWS OF THIS SEAT. 5 by the template 'for every input the law returns true; each argument reads behind the call as it read before'; 0 by the template 'total and deterministic' (their statements: YtnkakofcejkhiaaDoorTotals.lean).
  GIVEN WITH THE SEED: the statements are not yours to turn. If you find one false, say at which input.
  Laid BY PROGRAM, IN A SANDBOX (cutbox-rows.mjs): the forced cells as the released guide's own fill.sh prints them over the translation 3c38afd5b64b68c0… (all of the seat's roots in one cut). By AI agents, Wed Nov 11 2026. No macro, syntax, notation, axiom, sorry.
-/
import Derived.Test.YtnkakofcejkhiaaDoorChecked
import GoSem.Claim
import GoSem.ClaimJoined
import GoSem.ClaimMapViews
import Derived.JoinedTies
import Derived.KernelRfl
namespace Go.Proofs.YtnkakofcejkhiaaDoor
/- THE CELL 'sum', in the pinned program and in every row, IS THE sha256 OF THE DUMP (.gsa) THAT YtnkakofcejkhiaaDoorProg.lean LOADS. Nothing in Lean hashes anything: it is a label: what it is worth is what the hold of that sum in a sandbox is worth. -/
noncomputable def Tryd.pinned : Pinned := { name := "ytnkakofcejkhiaadoor", sum := "3c38afd5b64b68c09316ff2c32da74393be9a5cd6b2b8555481c24d252f0c0bf", checked := Tryd.checked }
namespace Rows
def none {H : Type} : Left H := { results := [], args := [] }

/- WHAT THE LISTED PACKAGE-LEVEL VARIABLES READ AS WHEN THE CALL BEGINS. Each datum BY PROGRAM (the guide's laid-datum.mjs) off the statement by which the dump's own 'gosem.cut.vars' lays the variable. In a bare row this is a premise. The card (YtnkakofcejkhiaaDoorCards.lean) ties it to the program's text. -/
def laid_errata_code_names {H : Type} : DataW H := .agg [.lit (.string [105, 110, 116]), .lit (.string [116, 101, 120, 116]), .lit (.string [98, 111, 111, 108]), .lit (.string [99, 111, 108]), .lit (.string []), .lit (.string [116, 105, 109, 101]), .lit (.string [110, 111, 116]), .lit (.string [110, 101, 103]), .lit (.string [97, 100, 100]), .lit (.string [115, 117, 98]), .lit (.string [109, 117, 108]), .lit (.string [100, 105, 118]), .lit (.string [109, 111, 100]), .lit (.string [101, 113]), .lit (.string [110, 101]), .lit (.string [108, 116]), .lit (.string [108, 101]), .lit (.string [97, 110, 100]), .lit (.string [111, 114]), .lit (.string [99, 111, 110, 99, 97, 116]), .lit (.string [108, 101, 110]), .lit (.string [105, 102]), .lit (.string [])]

/-- 'erratalaw27.VmBatches': WHATEVER THE INPUT: true; the input reads as it did. -/
def vmBatchesSpec : ChangeSpec := { name := "vmBatches", fn := fun _ => fun
  | [d1, d2, d3, d4] => { results := [.lit (.bool true)], args := [d1, d2, d3, d4] }
  | _ => none }
def vmBatchesRow : OpenClaim := { program := "ytnkakofcejkhiaadoor", sum := "3c38afd5b64b68c09316ff2c32da74393be9a5cd6b2b8555481c24d252f0c0bf", func := "errata/erratalaw27.VmBatches", spec := "vmBatches", inPlace := ["internal/bytealg.abigen_runtime_cmpstring"], unfollowed := true, recurses := true, named := ["errata/code.names"], plainKeys := false, apart := false, laid := [("errata/code.names", laid_errata_code_names)] }
def VmBatchesSaid : Prop := vmBatchesRow.holds Tryd.pinned (OpenSpec.ofChange vmBatchesSpec)

/-- ITS FALSE NEIGHBOUR: 'it returns false'. Refute it at one input. -/
def vmBatchesWrong : ChangeSpec := { name := "vmBatches", fn := fun _ => fun
  | [d1, d2, d3, d4] => { results := [.lit (.bool false)], args := [d1, d2, d3, d4] }
  | _ => none }
def VmBatchesWrongFalsely : Prop := vmBatchesRow.holds Tryd.pinned (OpenSpec.ofChange vmBatchesWrong)

/-- 'erratalaw27.VmTells': WHATEVER THE INPUT: true; the input reads as it did. -/
def vmTellsSpec : ChangeSpec := { name := "vmTells", fn := fun _ => fun
  | [d1, d2, d3, d4, d5] => { results := [.lit (.bool true)], args := [d1, d2, d3, d4, d5] }
  | _ => none }
def vmTellsRow : OpenClaim := { program := "ytnkakofcejkhiaadoor", sum := "3c38afd5b64b68c09316ff2c32da74393be9a5cd6b2b8555481c24d252f0c0bf", func := "errata/erratalaw27.VmTells", spec := "vmTells", inPlace := ["internal/bytealg.abigen_runtime_cmpstring"], unfollowed := true, recurses := true, named := ["errata/code.names"], plainKeys := false, apart := false, laid := [("errata/code.names", laid_errata_code_names)] }
def VmTellsSaid : Prop := vmTellsRow.holds Tryd.pinned (OpenSpec.ofChange vmTellsSpec)

/-- ITS FALSE NEIGHBOUR: 'it returns false'. Refute it at one input. -/
def vmTellsWrong : ChangeSpec := { name := "vmTells", fn := fun _ => fun
  | [d1, d2, d3, d4, d5] => { results := [.lit (.bool false)], args := [d1, d2, d3, d4, d5] }
  | _ => none }
def VmTellsWrongFalsely : Prop := vmTellsRow.holds Tryd.pinned (OpenSpec.ofChange vmTellsWrong)

/-- 'erratalaw27.VmTrims': WHATEVER THE INPUT: true; the input reads as it did. -/
def vmTrimsSpec : ChangeSpec := { name := "vmTrims", fn := fun _ => fun
  | [d1, d2, d3] => { results := [.lit (.bool true)], args := [d1, d2, d3] }
  | _ => none }
def vmTrimsRow : OpenClaim := { program := "ytnkakofcejkhiaadoor", sum := "3c38afd5b64b68c09316ff2c32da74393be9a5cd6b2b8555481c24d252f0c0bf", func := "errata/erratalaw27.VmTrims", spec := "vmTrims", inPlace := ["internal/bytealg.abigen_runtime_cmpstring"], unfollowed := true, recurses := true, named := ["errata/code.names"], plainKeys := false, apart := false, laid := [("errata/code.names", laid_errata_code_names)] }
def VmTrimsSaid : Prop := vmTrimsRow.holds Tryd.pinned (OpenSpec.ofChange vmTrimsSpec)

/-- ITS FALSE NEIGHBOUR: 'it returns false'. Refute it at one input. -/
def vmTrimsWrong : ChangeSpec := { name := "vmTrims", fn := fun _ => fun
  | [d1, d2, d3] => { results := [.lit (.bool false)], args := [d1, d2, d3] }
  | _ => none }
def VmTrimsWrongFalsely : Prop := vmTrimsRow.holds Tryd.pinned (OpenSpec.ofChange vmTrimsWrong)

/-- 'erratalaw26.CompileBranches': WHATEVER THE INPUT: true; the input reads as it did. -/
def compileBranchesSpec : ChangeSpec := { name := "compileBranches", fn := fun _ => fun
  | [d1, d2, d3, d4, d5, d6] => { results := [.lit (.bool true)], args := [d1, d2, d3, d4, d5, d6] }
  | _ => none }
def compileBranchesRow : OpenClaim := { program := "ytnkakofcejkhiaadoor", sum := "3c38afd5b64b68c09316ff2c32da74393be9a5cd6b2b8555481c24d252f0c0bf", func := "errata/erratalaw26.CompileBranches", spec := "compileBranches", inPlace := ["internal/bytealg.abigen_runtime_cmpstring"], unfollowed := true, recurses := true, named := ["errata/code.names"], loops := true, plainKeys := false, apart := false, laid := [("errata/code.names", laid_errata_code_names)] }
def CompileBranchesSaid : Prop := compileBranchesRow.holds Tryd.pinned (OpenSpec.ofChange compileBranchesSpec)

/-- ITS FALSE NEIGHBOUR: 'it returns false'. Refute it at one input. -/
def compileBranchesWrong : ChangeSpec := { name := "compileBranches", fn := fun _ => fun
  | [d1, d2, d3, d4, d5, d6] => { results := [.lit (.bool false)], args := [d1, d2, d3, d4, d5, d6] }
  | _ => none }
def CompileBranchesWrongFalsely : Prop := compileBranchesRow.holds Tryd.pinned (OpenSpec.ofChange compileBranchesWrong)

/-- 'erratalaw26.CompileMeans': WHATEVER THE INPUT: true; the input reads as it did. -/
def compileMeansSpec : ChangeSpec := { name := "compileMeans", fn := fun _ => fun
  | [d1, d2, d3, d4, d5] => { results := [.lit (.bool true)], args := [d1, d2, d3, d4, d5] }
  | _ => none }
def compileMeansRow : OpenClaim := { program := "ytnkakofcejkhiaadoor", sum := "3c38afd5b64b68c09316ff2c32da74393be9a5cd6b2b8555481c24d252f0c0bf", func := "errata/erratalaw26.CompileMeans", spec := "compileMeans", inPlace := ["internal/bytealg.abigen_runtime_cmpstring"], unfollowed := true, recurses := true, named := ["errata/code.names"], loops := true, plainKeys := false, apart := false, laid := [("errata/code.names", laid_errata_code_names)] }
def CompileMeansSaid : Prop := compileMeansRow.holds Tryd.pinned (OpenSpec.ofChange compileMeansSpec)

/-- ITS FALSE NEIGHBOUR: 'it returns false'. Refute it at one input. -/
def compileMeansWrong : ChangeSpec := { name := "compileMeans", fn := fun _ => fun
  | [d1, d2, d3, d4, d5] => { results := [.lit (.bool false)], args := [d1, d2, d3, d4, d5] }
  | _ => none }
def CompileMeansWrongFalsely : Prop := compileMeansRow.holds Tryd.pinned (OpenSpec.ofChange compileMeansWrong)

/- THE SECOND FORM. 'bulk': how many values and letters a reading holds, each counted each time it is reached (what is shared counts as often as it is met; a slice's spare places count too). A statement '..UptoSaid' is the law's where the arguments, and the package variables that the reading takes, are together of bulk at most 1048576: NARROWER than '..Said'. Prove '..Said' where nothing that the law and all that it calls make is longer than what came in: it says more and counts as full. Else prove '..UptoSaid'. A law counts once. -/
mutual
def uptoBulk {H : Type} : DataW H → Nat
  | .lit (.string bytes) => bytes.length + 1
  | .lit _ => 1
  | .nil => 1
  | .ptr d => uptoBulk d + 1
  | .slice elems spare => uptoBulkAll elems + uptoBulkAll spare + 1
  | .agg parts => uptoBulkAll parts + 1
  | .iface _ d => uptoBulk d + 1
  | .map entries => uptoBulkEntries entries + 1
  | .held _ => 1
def uptoBulkAll {H : Type} : List (DataW H) → Nat
  | [] => 0
  | d :: r => uptoBulk d + uptoBulkAll r
def uptoBulkEntries {H : Type} : List (Lit × DataW H) → Nat
  | [] => 0
  | x :: r => uptoBulkEntry x + uptoBulkEntries r
def uptoBulkEntry {H : Type} : Lit × DataW H → Nat
  | (.string bytes, d) => bytes.length + uptoBulk d + 1
  | (_, d) => uptoBulk d + 1
 end
def uptoSmall : (H : Type) → List (DataW H) → Bool := fun _ ds => decide (uptoBulkAll ds ≤ 1048576)
def OpenSpec.upto (s : _root_.Go.ChangeSpec) : _root_.Go.OpenSpec := { _root_.Go.OpenSpec.ofChange s with cond := some uptoSmall }

/-- 'erratalaw27.VmBatches', WHERE WHAT IT READS IS OF BULK AT MOST 1048576: true; the input reads as it did. -/
def vmBatchesUptoRow : OpenClaim := { program := "ytnkakofcejkhiaadoor", sum := "3c38afd5b64b68c09316ff2c32da74393be9a5cd6b2b8555481c24d252f0c0bf", func := "errata/erratalaw27.VmBatches", spec := "vmBatches", inPlace := ["internal/bytealg.abigen_runtime_cmpstring"], unfollowed := true, recurses := true, named := ["errata/code.names"], plainKeys := false, apart := false, laid := [("errata/code.names", laid_errata_code_names)], narrowed := true }
def VmBatchesUptoSaid : Prop := vmBatchesUptoRow.holds Tryd.pinned (OpenSpec.upto vmBatchesSpec)

/-- 'erratalaw27.VmTells', WHERE WHAT IT READS IS OF BULK AT MOST 1048576: true; the input reads as it did. -/
def vmTellsUptoRow : OpenClaim := { program := "ytnkakofcejkhiaadoor", sum := "3c38afd5b64b68c09316ff2c32da74393be9a5cd6b2b8555481c24d252f0c0bf", func := "errata/erratalaw27.VmTells", spec := "vmTells", inPlace := ["internal/bytealg.abigen_runtime_cmpstring"], unfollowed := true, recurses := true, named := ["errata/code.names"], plainKeys := false, apart := false, laid := [("errata/code.names", laid_errata_code_names)], narrowed := true }
def VmTellsUptoSaid : Prop := vmTellsUptoRow.holds Tryd.pinned (OpenSpec.upto vmTellsSpec)

/-- 'erratalaw27.VmTrims', WHERE WHAT IT READS IS OF BULK AT MOST 1048576: true; the input reads as it did. -/
def vmTrimsUptoRow : OpenClaim := { program := "ytnkakofcejkhiaadoor", sum := "3c38afd5b64b68c09316ff2c32da74393be9a5cd6b2b8555481c24d252f0c0bf", func := "errata/erratalaw27.VmTrims", spec := "vmTrims", inPlace := ["internal/bytealg.abigen_runtime_cmpstring"], unfollowed := true, recurses := true, named := ["errata/code.names"], plainKeys := false, apart := false, laid := [("errata/code.names", laid_errata_code_names)], narrowed := true }
def VmTrimsUptoSaid : Prop := vmTrimsUptoRow.holds Tryd.pinned (OpenSpec.upto vmTrimsSpec)

/-- 'erratalaw26.CompileBranches', WHERE WHAT IT READS IS OF BULK AT MOST 1048576: true; the input reads as it did. -/
def compileBranchesUptoRow : OpenClaim := { program := "ytnkakofcejkhiaadoor", sum := "3c38afd5b64b68c09316ff2c32da74393be9a5cd6b2b8555481c24d252f0c0bf", func := "errata/erratalaw26.CompileBranches", spec := "compileBranches", inPlace := ["internal/bytealg.abigen_runtime_cmpstring"], unfollowed := true, recurses := true, named := ["errata/code.names"], loops := true, plainKeys := false, apart := false, laid := [("errata/code.names", laid_errata_code_names)], narrowed := true }
def CompileBranchesUptoSaid : Prop := compileBranchesUptoRow.holds Tryd.pinned (OpenSpec.upto compileBranchesSpec)

/-- 'erratalaw26.CompileMeans', WHERE WHAT IT READS IS OF BULK AT MOST 1048576: true; the input reads as it did. -/
def compileMeansUptoRow : OpenClaim := { program := "ytnkakofcejkhiaadoor", sum := "3c38afd5b64b68c09316ff2c32da74393be9a5cd6b2b8555481c24d252f0c0bf", func := "errata/erratalaw26.CompileMeans", spec := "compileMeans", inPlace := ["internal/bytealg.abigen_runtime_cmpstring"], unfollowed := true, recurses := true, named := ["errata/code.names"], loops := true, plainKeys := false, apart := false, laid := [("errata/code.names", laid_errata_code_names)], narrowed := true }
def CompileMeansUptoSaid : Prop := compileMeansUptoRow.holds Tryd.pinned (OpenSpec.upto compileMeansSpec)

end Rows
end Go.Proofs.YtnkakofcejkhiaaDoor
