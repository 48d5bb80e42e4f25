/-
  NARROWER THAN 'FOR EVERY INPUT', by the rows' own cells (each row's printed sentence says how): CompileFolds: loops, laid · CompileShares: loops, laid · CompileTells: loops, laid · VmExpr: loops, laid.
  DERIVED. THE GIVEN ROWS OF THIS SEAT. 4 by the template 'for every input the law returns true; each argument reads behind the call as it read before'; 0 by the template 'total and deterministic' (their statements: YtnkimlkoijfcpaaGreatDoorTotals.lean).
  GIVEN WITH THE SEED: the statements are not yours to turn. If you find one false, say at which input.
  Laid BY PROGRAM, IN A SANDBOX (cutbox-rows.mjs): the forced cells as the released guide's own fill.sh prints them over the translation c937873f10f27512… (all of the seat's roots in one cut). By AI agents, Wed Nov 11 2026. No macro, syntax, notation, axiom, sorry.
-/
import Derived.Test.YtnkimlkoijfcpaaGreatDoorChecked
import GoSem.Claim
import GoSem.ClaimJoined
import GoSem.ClaimMapViews
import Derived.JoinedTies
import Derived.KernelRfl
namespace Go.Proofs.YtnkimlkoijfcpaaGreatDoor
/- THE CELL 'sum', in the pinned program and in every row, IS THE sha256 OF THE DUMP (.gsa) THAT YtnkimlkoijfcpaaGreatDoorProg.lean LOADS. Nothing in Lean hashes anything: it is a label: what it is worth is what the hold of that sum in a sandbox is worth. -/
noncomputable def Tryz.pinned : Pinned := { name := "ytnkimlkoijfcpaagreatdoor", sum := "c937873f10f275124db5eabea484b336a5770e2b0d1da57bfe30878652c36a93", checked := Tryz.checked }
namespace Rows
def none {H : Type} : Left H := { results := [], args := [] }

/- WHAT THE LISTED PACKAGE-LEVEL VARIABLES READ AS WHEN THE CALL BEGINS. Each datum BY PROGRAM (the guide's laid-datum.mjs) off the statement by which the dump's own 'gosem.cut.vars' lays the variable. In a bare row this is a premise. The card (YtnkimlkoijfcpaaGreatDoorCards.lean) ties it to the program's text. -/
def laid_errata_code_names {H : Type} : DataW H := .agg [.lit (.string [105, 110, 116]), .lit (.string [116, 101, 120, 116]), .lit (.string [98, 111, 111, 108]), .lit (.string [99, 111, 108]), .lit (.string []), .lit (.string [116, 105, 109, 101]), .lit (.string [110, 111, 116]), .lit (.string [110, 101, 103]), .lit (.string [97, 100, 100]), .lit (.string [115, 117, 98]), .lit (.string [109, 117, 108]), .lit (.string [100, 105, 118]), .lit (.string [109, 111, 100]), .lit (.string [101, 113]), .lit (.string [110, 101]), .lit (.string [108, 116]), .lit (.string [108, 101]), .lit (.string [97, 110, 100]), .lit (.string [111, 114]), .lit (.string [99, 111, 110, 99, 97, 116]), .lit (.string [108, 101, 110]), .lit (.string [105, 102]), .lit (.string [])]

/-- 'erratalaw26.CompileFolds': WHATEVER THE INPUT: true; the input reads as it did. -/
def compileFoldsSpec : ChangeSpec := { name := "compileFolds", fn := fun _ => fun
  | [d1, d2, d3, d4] => { results := [.lit (.bool true)], args := [d1, d2, d3, d4] }
  | _ => none }
def compileFoldsRow : OpenClaim := { program := "ytnkimlkoijfcpaagreatdoor", sum := "c937873f10f275124db5eabea484b336a5770e2b0d1da57bfe30878652c36a93", func := "errata/erratalaw26.CompileFolds", spec := "compileFolds", inPlace := ["internal/bytealg.abigen_runtime_cmpstring"], unfollowed := true, recurses := true, named := ["errata/code.names"], loops := true, plainKeys := false, apart := false, laid := [("errata/code.names", laid_errata_code_names)] }
def CompileFoldsSaid : Prop := compileFoldsRow.holds Tryz.pinned (OpenSpec.ofChange compileFoldsSpec)

/-- ITS FALSE NEIGHBOUR: 'it returns false'. Refute it at one input. -/
def compileFoldsWrong : ChangeSpec := { name := "compileFolds", fn := fun _ => fun
  | [d1, d2, d3, d4] => { results := [.lit (.bool false)], args := [d1, d2, d3, d4] }
  | _ => none }
def CompileFoldsWrongFalsely : Prop := compileFoldsRow.holds Tryz.pinned (OpenSpec.ofChange compileFoldsWrong)

/-- 'erratalaw26.CompileShares': WHATEVER THE INPUT: true; the input reads as it did. -/
def compileSharesSpec : ChangeSpec := { name := "compileShares", fn := fun _ => fun
  | [d1, d2, d3] => { results := [.lit (.bool true)], args := [d1, d2, d3] }
  | _ => none }
def compileSharesRow : OpenClaim := { program := "ytnkimlkoijfcpaagreatdoor", sum := "c937873f10f275124db5eabea484b336a5770e2b0d1da57bfe30878652c36a93", func := "errata/erratalaw26.CompileShares", spec := "compileShares", inPlace := ["internal/bytealg.abigen_runtime_cmpstring"], unfollowed := true, recurses := true, named := ["errata/code.names"], loops := true, plainKeys := false, apart := false, laid := [("errata/code.names", laid_errata_code_names)] }
def CompileSharesSaid : Prop := compileSharesRow.holds Tryz.pinned (OpenSpec.ofChange compileSharesSpec)

/-- ITS FALSE NEIGHBOUR: 'it returns false'. Refute it at one input. -/
def compileSharesWrong : ChangeSpec := { name := "compileShares", fn := fun _ => fun
  | [d1, d2, d3] => { results := [.lit (.bool false)], args := [d1, d2, d3] }
  | _ => none }
def CompileSharesWrongFalsely : Prop := compileSharesRow.holds Tryz.pinned (OpenSpec.ofChange compileSharesWrong)

/-- 'erratalaw26.CompileTells': WHATEVER THE INPUT: true; the input reads as it did. -/
def compileTellsSpec : ChangeSpec := { name := "compileTells", fn := fun _ => fun
  | [d1, d2, d3, d4] => { results := [.lit (.bool true)], args := [d1, d2, d3, d4] }
  | _ => none }
def compileTellsRow : OpenClaim := { program := "ytnkimlkoijfcpaagreatdoor", sum := "c937873f10f275124db5eabea484b336a5770e2b0d1da57bfe30878652c36a93", func := "errata/erratalaw26.CompileTells", spec := "compileTells", inPlace := ["internal/bytealg.abigen_runtime_cmpstring"], unfollowed := true, recurses := true, named := ["errata/code.names"], loops := true, plainKeys := false, apart := false, laid := [("errata/code.names", laid_errata_code_names)] }
def CompileTellsSaid : Prop := compileTellsRow.holds Tryz.pinned (OpenSpec.ofChange compileTellsSpec)

/-- ITS FALSE NEIGHBOUR: 'it returns false'. Refute it at one input. -/
def compileTellsWrong : ChangeSpec := { name := "compileTells", fn := fun _ => fun
  | [d1, d2, d3, d4] => { results := [.lit (.bool false)], args := [d1, d2, d3, d4] }
  | _ => none }
def CompileTellsWrongFalsely : Prop := compileTellsRow.holds Tryz.pinned (OpenSpec.ofChange compileTellsWrong)

/-- 'erratalaw27.VmExpr': WHATEVER THE INPUT: true; the input reads as it did. -/
def vmExprSpec : ChangeSpec := { name := "vmExpr", fn := fun _ => fun
  | [d1, d2, d3, d4] => { results := [.lit (.bool true)], args := [d1, d2, d3, d4] }
  | _ => none }
def vmExprRow : OpenClaim := { program := "ytnkimlkoijfcpaagreatdoor", sum := "c937873f10f275124db5eabea484b336a5770e2b0d1da57bfe30878652c36a93", func := "errata/erratalaw27.VmExpr", spec := "vmExpr", inPlace := ["internal/bytealg.abigen_runtime_cmpstring"], unfollowed := true, recurses := true, named := ["errata/code.names"], loops := true, plainKeys := false, apart := false, laid := [("errata/code.names", laid_errata_code_names)] }
def VmExprSaid : Prop := vmExprRow.holds Tryz.pinned (OpenSpec.ofChange vmExprSpec)

/-- ITS FALSE NEIGHBOUR: 'it returns false'. Refute it at one input. -/
def vmExprWrong : ChangeSpec := { name := "vmExpr", fn := fun _ => fun
  | [d1, d2, d3, d4] => { results := [.lit (.bool false)], args := [d1, d2, d3, d4] }
  | _ => none }
def VmExprWrongFalsely : Prop := vmExprRow.holds Tryz.pinned (OpenSpec.ofChange vmExprWrong)

/- THE SECOND FORM. 'bulk': how many values and letters a reading holds, each counted each time it is reached (what is shared counts as often as it is met; a slice's spare places count too). A statement '..UptoSaid' is the law's where the arguments, and the package variables that the reading takes, are together of bulk at most 1048576: NARROWER than '..Said'. Prove '..Said' where nothing that the law and all that it calls make is longer than what came in: it says more and counts as full. Else prove '..UptoSaid'. A law counts once. -/
mutual
def uptoBulk {H : Type} : DataW H → Nat
  | .lit (.string bytes) => bytes.length + 1
  | .lit _ => 1
  | .nil => 1
  | .ptr d => uptoBulk d + 1
  | .slice elems spare => uptoBulkAll elems + uptoBulkAll spare + 1
  | .agg parts => uptoBulkAll parts + 1
  | .iface _ d => uptoBulk d + 1
  | .map entries => uptoBulkEntries entries + 1
  | .held _ => 1
def uptoBulkAll {H : Type} : List (DataW H) → Nat
  | [] => 0
  | d :: r => uptoBulk d + uptoBulkAll r
def uptoBulkEntries {H : Type} : List (Lit × DataW H) → Nat
  | [] => 0
  | x :: r => uptoBulkEntry x + uptoBulkEntries r
def uptoBulkEntry {H : Type} : Lit × DataW H → Nat
  | (.string bytes, d) => bytes.length + uptoBulk d + 1
  | (_, d) => uptoBulk d + 1
 end
def uptoSmall : (H : Type) → List (DataW H) → Bool := fun _ ds => decide (uptoBulkAll ds ≤ 1048576)
def OpenSpec.upto (s : _root_.Go.ChangeSpec) : _root_.Go.OpenSpec := { _root_.Go.OpenSpec.ofChange s with cond := some uptoSmall }

/-- 'erratalaw26.CompileFolds', WHERE WHAT IT READS IS OF BULK AT MOST 1048576: true; the input reads as it did. -/
def compileFoldsUptoRow : OpenClaim := { program := "ytnkimlkoijfcpaagreatdoor", sum := "c937873f10f275124db5eabea484b336a5770e2b0d1da57bfe30878652c36a93", func := "errata/erratalaw26.CompileFolds", spec := "compileFolds", inPlace := ["internal/bytealg.abigen_runtime_cmpstring"], unfollowed := true, recurses := true, named := ["errata/code.names"], loops := true, plainKeys := false, apart := false, laid := [("errata/code.names", laid_errata_code_names)], narrowed := true }
def CompileFoldsUptoSaid : Prop := compileFoldsUptoRow.holds Tryz.pinned (OpenSpec.upto compileFoldsSpec)

/-- 'erratalaw26.CompileShares', WHERE WHAT IT READS IS OF BULK AT MOST 1048576: true; the input reads as it did. -/
def compileSharesUptoRow : OpenClaim := { program := "ytnkimlkoijfcpaagreatdoor", sum := "c937873f10f275124db5eabea484b336a5770e2b0d1da57bfe30878652c36a93", func := "errata/erratalaw26.CompileShares", spec := "compileShares", inPlace := ["internal/bytealg.abigen_runtime_cmpstring"], unfollowed := true, recurses := true, named := ["errata/code.names"], loops := true, plainKeys := false, apart := false, laid := [("errata/code.names", laid_errata_code_names)], narrowed := true }
def CompileSharesUptoSaid : Prop := compileSharesUptoRow.holds Tryz.pinned (OpenSpec.upto compileSharesSpec)

/-- 'erratalaw26.CompileTells', WHERE WHAT IT READS IS OF BULK AT MOST 1048576: true; the input reads as it did. -/
def compileTellsUptoRow : OpenClaim := { program := "ytnkimlkoijfcpaagreatdoor", sum := "c937873f10f275124db5eabea484b336a5770e2b0d1da57bfe30878652c36a93", func := "errata/erratalaw26.CompileTells", spec := "compileTells", inPlace := ["internal/bytealg.abigen_runtime_cmpstring"], unfollowed := true, recurses := true, named := ["errata/code.names"], loops := true, plainKeys := false, apart := false, laid := [("errata/code.names", laid_errata_code_names)], narrowed := true }
def CompileTellsUptoSaid : Prop := compileTellsUptoRow.holds Tryz.pinned (OpenSpec.upto compileTellsSpec)

/-- 'erratalaw27.VmExpr', WHERE WHAT IT READS IS OF BULK AT MOST 1048576: true; the input reads as it did. -/
def vmExprUptoRow : OpenClaim := { program := "ytnkimlkoijfcpaagreatdoor", sum := "c937873f10f275124db5eabea484b336a5770e2b0d1da57bfe30878652c36a93", func := "errata/erratalaw27.VmExpr", spec := "vmExpr", inPlace := ["internal/bytealg.abigen_runtime_cmpstring"], unfollowed := true, recurses := true, named := ["errata/code.names"], loops := true, plainKeys := false, apart := false, laid := [("errata/code.names", laid_errata_code_names)], narrowed := true }
def VmExprUptoSaid : Prop := vmExprUptoRow.holds Tryz.pinned (OpenSpec.upto vmExprSpec)

end Rows
end Go.Proofs.YtnkimlkoijfcpaaGreatDoor
