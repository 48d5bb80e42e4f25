/-
  NARROWER THAN 'FOR EVERY INPUT', by the rows' own cells (each row's printed sentence says how): CompileBranches: loops, laid.
  DERIVED. THE GIVEN ROWS OF THIS SEAT. 1 by the template 'for every input the law returns true; each argument reads behind the call as it read before'; 0 by the template 'total and deterministic' (their statements: YtnkimlkoijfcpaaDoorTotals.lean).
  GIVEN WITH THE SEED: the statements are not yours to turn. If you find one false, say at which input.
  Laid BY PROGRAM, IN A SANDBOX (cutbox-rows.mjs): the forced cells as the released guide's own fill.sh prints them over the translation 875db825f15d5610… (all of the seat's roots in one cut). By AI agents, Wed Nov 11 2026. No macro, syntax, notation, axiom, sorry.
-/
import Derived.Test.YtnkimlkoijfcpaaDoorChecked
import GoSem.Claim
import GoSem.ClaimJoined
import GoSem.ClaimMapViews
import Derived.JoinedTies
import Derived.KernelRfl
namespace Go.Proofs.YtnkimlkoijfcpaaDoor
/- THE CELL 'sum', in the pinned program and in every row, IS THE sha256 OF THE DUMP (.gsa) THAT YtnkimlkoijfcpaaDoorProg.lean LOADS. Nothing in Lean hashes anything: it is a label: what it is worth is what the hold of that sum in a sandbox is worth. -/
noncomputable def Tryd.pinned : Pinned := { name := "ytnkimlkoijfcpaadoor", sum := "875db825f15d561000b12fe653d0900735bb4f0d0ba396ee198f4b6511b3357f", checked := Tryd.checked }
namespace Rows
def none {H : Type} : Left H := { results := [], args := [] }

/- WHAT THE LISTED PACKAGE-LEVEL VARIABLES READ AS WHEN THE CALL BEGINS. Each datum BY PROGRAM (the guide's laid-datum.mjs) off the statement by which the dump's own 'gosem.cut.vars' lays the variable. In a bare row this is a premise. The card (YtnkimlkoijfcpaaDoorCards.lean) ties it to the program's text. -/
def laid_errata_code_names {H : Type} : DataW H := .agg [.lit (.string [105, 110, 116]), .lit (.string [116, 101, 120, 116]), .lit (.string [98, 111, 111, 108]), .lit (.string [99, 111, 108]), .lit (.string []), .lit (.string [116, 105, 109, 101]), .lit (.string [110, 111, 116]), .lit (.string [110, 101, 103]), .lit (.string [97, 100, 100]), .lit (.string [115, 117, 98]), .lit (.string [109, 117, 108]), .lit (.string [100, 105, 118]), .lit (.string [109, 111, 100]), .lit (.string [101, 113]), .lit (.string [110, 101]), .lit (.string [108, 116]), .lit (.string [108, 101]), .lit (.string [97, 110, 100]), .lit (.string [111, 114]), .lit (.string [99, 111, 110, 99, 97, 116]), .lit (.string [108, 101, 110]), .lit (.string [105, 102]), .lit (.string [])]

/-- 'erratalaw26.CompileBranches': WHATEVER THE INPUT: true; the input reads as it did. -/
def compileBranchesSpec : ChangeSpec := { name := "compileBranches", fn := fun _ => fun
  | [d1, d2, d3, d4, d5, d6] => { results := [.lit (.bool true)], args := [d1, d2, d3, d4, d5, d6] }
  | _ => none }
def compileBranchesRow : OpenClaim := { program := "ytnkimlkoijfcpaadoor", sum := "875db825f15d561000b12fe653d0900735bb4f0d0ba396ee198f4b6511b3357f", func := "errata/erratalaw26.CompileBranches", spec := "compileBranches", inPlace := ["internal/bytealg.abigen_runtime_cmpstring"], unfollowed := true, recurses := true, named := ["errata/code.names"], loops := true, plainKeys := false, apart := false, laid := [("errata/code.names", laid_errata_code_names)] }
def CompileBranchesSaid : Prop := compileBranchesRow.holds Tryd.pinned (OpenSpec.ofChange compileBranchesSpec)

/-- ITS FALSE NEIGHBOUR: 'it returns false'. Refute it at one input. -/
def compileBranchesWrong : ChangeSpec := { name := "compileBranches", fn := fun _ => fun
  | [d1, d2, d3, d4, d5, d6] => { results := [.lit (.bool false)], args := [d1, d2, d3, d4, d5, d6] }
  | _ => none }
def CompileBranchesWrongFalsely : Prop := compileBranchesRow.holds Tryd.pinned (OpenSpec.ofChange compileBranchesWrong)

/- THE SECOND FORM. 'bulk': how many values and letters a reading holds, each counted each time it is reached (what is shared counts as often as it is met; a slice's spare places count too). A statement '..UptoSaid' is the law's where the arguments, and the package variables that the reading takes, are together of bulk at most 1048576: NARROWER than '..Said'. Prove '..Said' where nothing that the law and all that it calls make is longer than what came in: it says more and counts as full. Else prove '..UptoSaid'. A law counts once. -/
mutual
def uptoBulk {H : Type} : DataW H → Nat
  | .lit (.string bytes) => bytes.length + 1
  | .lit _ => 1
  | .nil => 1
  | .ptr d => uptoBulk d + 1
  | .slice elems spare => uptoBulkAll elems + uptoBulkAll spare + 1
  | .agg parts => uptoBulkAll parts + 1
  | .iface _ d => uptoBulk d + 1
  | .map entries => uptoBulkEntries entries + 1
  | .held _ => 1
def uptoBulkAll {H : Type} : List (DataW H) → Nat
  | [] => 0
  | d :: r => uptoBulk d + uptoBulkAll r
def uptoBulkEntries {H : Type} : List (Lit × DataW H) → Nat
  | [] => 0
  | x :: r => uptoBulkEntry x + uptoBulkEntries r
def uptoBulkEntry {H : Type} : Lit × DataW H → Nat
  | (.string bytes, d) => bytes.length + uptoBulk d + 1
  | (_, d) => uptoBulk d + 1
 end
def uptoSmall : (H : Type) → List (DataW H) → Bool := fun _ ds => decide (uptoBulkAll ds ≤ 1048576)
def OpenSpec.upto (s : _root_.Go.ChangeSpec) : _root_.Go.OpenSpec := { _root_.Go.OpenSpec.ofChange s with cond := some uptoSmall }

/-- 'erratalaw26.CompileBranches', WHERE WHAT IT READS IS OF BULK AT MOST 1048576: true; the input reads as it did. -/
def compileBranchesUptoRow : OpenClaim := { program := "ytnkimlkoijfcpaadoor", sum := "875db825f15d561000b12fe653d0900735bb4f0d0ba396ee198f4b6511b3357f", func := "errata/erratalaw26.CompileBranches", spec := "compileBranches", inPlace := ["internal/bytealg.abigen_runtime_cmpstring"], unfollowed := true, recurses := true, named := ["errata/code.names"], loops := true, plainKeys := false, apart := false, laid := [("errata/code.names", laid_errata_code_names)], narrowed := true }
def CompileBranchesUptoSaid : Prop := compileBranchesUptoRow.holds Tryd.pinned (OpenSpec.upto compileBranchesSpec)

end Rows
end Go.Proofs.YtnkimlkoijfcpaaDoor
