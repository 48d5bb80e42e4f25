/-
  NARROWER THAN 'FOR EVERY INPUT', by the rows' own cells (each row's printed sentence says how): ExprSound: loops · ExprSteps: loops · ExprTells: loops · ExprReads: loops · ExprTypes: loops · ExprReplaces: loops.
  DERIVED. THE GIVEN ROWS OF THIS SEAT. 6 by the template 'for every input the law returns true; each argument reads behind the call as it read before'; 0 by the template 'total and deterministic' (their statements: YtmhelkhmgbbfhaaTotals.lean).
  GIVEN WITH THE SEED: the statements are not yours to turn. If you find one false, say at which input.
  Laid BY PROGRAM, IN A SANDBOX (cutbox-rows.mjs): the forced cells as the released guide's own fill.sh prints them over the translation f9661c3e3815f907… (all of the seat's roots in one cut). By AI agents, Wed Nov 11 2026. No macro, syntax, notation, axiom, sorry.
-/
import Derived.Test.YtmhelkhmgbbfhaaChecked
import GoSem.Claim
import GoSem.ClaimJoined
import GoSem.ClaimMapViews
import Derived.JoinedTies
import Derived.KernelRfl
namespace Go.Proofs.Ytmhelkhmgbbfhaa
/- THE CELL 'sum', in the pinned program and in every row, IS THE sha256 OF THE DUMP (.gsa) THAT YtmhelkhmgbbfhaaProg.lean LOADS. Nothing in Lean hashes anything: it is a label: what it is worth is what the hold of that sum in a sandbox is worth. -/
noncomputable def Try.pinned : Pinned := { name := "ytmhelkhmgbbfhaa", sum := "f9661c3e3815f90765a6fbc0447786adb898386a0a9561925e03e3d01bda8b9e", checked := Try.checked }
namespace Rows
def none {H : Type} : Left H := { results := [], args := [] }

/-- 'erratalaw16.ExprSound': WHATEVER THE INPUT: true; the input reads as it did. -/
def exprSoundSpec : ChangeSpec := { name := "exprSound", fn := fun _ => fun
  | [d1, d2, d3, d4] => { results := [.lit (.bool true)], args := [d1, d2, d3, d4] }
  | _ => none }
def exprSoundRow : OpenClaim := { program := "ytmhelkhmgbbfhaa", sum := "f9661c3e3815f90765a6fbc0447786adb898386a0a9561925e03e3d01bda8b9e", func := "errata/erratalaw16.ExprSound", spec := "exprSound", inPlace := ["internal/bytealg.abigen_runtime_cmpstring"], unfollowed := true, recurses := true, loops := true, apart := false }
def ExprSoundSaid : Prop := exprSoundRow.holds Try.pinned (OpenSpec.ofChange exprSoundSpec)

/-- ITS FALSE NEIGHBOUR: 'it returns false'. Refute it at one input. -/
def exprSoundWrong : ChangeSpec := { name := "exprSound", fn := fun _ => fun
  | [d1, d2, d3, d4] => { results := [.lit (.bool false)], args := [d1, d2, d3, d4] }
  | _ => none }
def ExprSoundWrongFalsely : Prop := exprSoundRow.holds Try.pinned (OpenSpec.ofChange exprSoundWrong)

/-- 'erratalaw16.ExprSteps': WHATEVER THE INPUT: true; the input reads as it did. -/
def exprStepsSpec : ChangeSpec := { name := "exprSteps", fn := fun _ => fun
  | [d1, d2, d3, d4] => { results := [.lit (.bool true)], args := [d1, d2, d3, d4] }
  | _ => none }
def exprStepsRow : OpenClaim := { program := "ytmhelkhmgbbfhaa", sum := "f9661c3e3815f90765a6fbc0447786adb898386a0a9561925e03e3d01bda8b9e", func := "errata/erratalaw16.ExprSteps", spec := "exprSteps", inPlace := ["internal/bytealg.abigen_runtime_cmpstring"], unfollowed := true, recurses := true, loops := true, apart := false }
def ExprStepsSaid : Prop := exprStepsRow.holds Try.pinned (OpenSpec.ofChange exprStepsSpec)

/-- ITS FALSE NEIGHBOUR: 'it returns false'. Refute it at one input. -/
def exprStepsWrong : ChangeSpec := { name := "exprSteps", fn := fun _ => fun
  | [d1, d2, d3, d4] => { results := [.lit (.bool false)], args := [d1, d2, d3, d4] }
  | _ => none }
def ExprStepsWrongFalsely : Prop := exprStepsRow.holds Try.pinned (OpenSpec.ofChange exprStepsWrong)

/-- 'erratalaw16.ExprTells': WHATEVER THE INPUT: true; the input reads as it did. -/
def exprTellsSpec : ChangeSpec := { name := "exprTells", fn := fun _ => fun
  | [d1, d2, d3, d4, d5] => { results := [.lit (.bool true)], args := [d1, d2, d3, d4, d5] }
  | _ => none }
def exprTellsRow : OpenClaim := { program := "ytmhelkhmgbbfhaa", sum := "f9661c3e3815f90765a6fbc0447786adb898386a0a9561925e03e3d01bda8b9e", func := "errata/erratalaw16.ExprTells", spec := "exprTells", inPlace := ["internal/bytealg.abigen_runtime_cmpstring"], unfollowed := true, recurses := true, loops := true, apart := false }
def ExprTellsSaid : Prop := exprTellsRow.holds Try.pinned (OpenSpec.ofChange exprTellsSpec)

/-- ITS FALSE NEIGHBOUR: 'it returns false'. Refute it at one input. -/
def exprTellsWrong : ChangeSpec := { name := "exprTells", fn := fun _ => fun
  | [d1, d2, d3, d4, d5] => { results := [.lit (.bool false)], args := [d1, d2, d3, d4, d5] }
  | _ => none }
def ExprTellsWrongFalsely : Prop := exprTellsRow.holds Try.pinned (OpenSpec.ofChange exprTellsWrong)

/-- 'erratalaw16.ExprReads': WHATEVER THE INPUT: true; the input reads as it did. -/
def exprReadsSpec : ChangeSpec := { name := "exprReads", fn := fun _ => fun
  | [d1, d2, d3, d4, d5, d6, d7] => { results := [.lit (.bool true)], args := [d1, d2, d3, d4, d5, d6, d7] }
  | _ => none }
def exprReadsRow : OpenClaim := { program := "ytmhelkhmgbbfhaa", sum := "f9661c3e3815f90765a6fbc0447786adb898386a0a9561925e03e3d01bda8b9e", func := "errata/erratalaw16.ExprReads", spec := "exprReads", inPlace := ["internal/bytealg.abigen_runtime_cmpstring"], unfollowed := true, recurses := true, loops := true, apart := false }
def ExprReadsSaid : Prop := exprReadsRow.holds Try.pinned (OpenSpec.ofChange exprReadsSpec)

/-- ITS FALSE NEIGHBOUR: 'it returns false'. Refute it at one input. -/
def exprReadsWrong : ChangeSpec := { name := "exprReads", fn := fun _ => fun
  | [d1, d2, d3, d4, d5, d6, d7] => { results := [.lit (.bool false)], args := [d1, d2, d3, d4, d5, d6, d7] }
  | _ => none }
def ExprReadsWrongFalsely : Prop := exprReadsRow.holds Try.pinned (OpenSpec.ofChange exprReadsWrong)

/-- 'erratalaw16.ExprTypes': WHATEVER THE INPUT: true; the input reads as it did. -/
def exprTypesSpec : ChangeSpec := { name := "exprTypes", fn := fun _ => fun
  | [d1, d2, d3, d4, d5] => { results := [.lit (.bool true)], args := [d1, d2, d3, d4, d5] }
  | _ => none }
def exprTypesRow : OpenClaim := { program := "ytmhelkhmgbbfhaa", sum := "f9661c3e3815f90765a6fbc0447786adb898386a0a9561925e03e3d01bda8b9e", func := "errata/erratalaw16.ExprTypes", spec := "exprTypes", inPlace := ["internal/bytealg.abigen_runtime_cmpstring"], unfollowed := true, recurses := true, loops := true, apart := false }
def ExprTypesSaid : Prop := exprTypesRow.holds Try.pinned (OpenSpec.ofChange exprTypesSpec)

/-- ITS FALSE NEIGHBOUR: 'it returns false'. Refute it at one input. -/
def exprTypesWrong : ChangeSpec := { name := "exprTypes", fn := fun _ => fun
  | [d1, d2, d3, d4, d5] => { results := [.lit (.bool false)], args := [d1, d2, d3, d4, d5] }
  | _ => none }
def ExprTypesWrongFalsely : Prop := exprTypesRow.holds Try.pinned (OpenSpec.ofChange exprTypesWrong)

/-- 'erratalaw16.ExprReplaces': WHATEVER THE INPUT: true; the input reads as it did. -/
def exprReplacesSpec : ChangeSpec := { name := "exprReplaces", fn := fun _ => fun
  | [d1, d2, d3, d4, d5] => { results := [.lit (.bool true)], args := [d1, d2, d3, d4, d5] }
  | _ => none }
def exprReplacesRow : OpenClaim := { program := "ytmhelkhmgbbfhaa", sum := "f9661c3e3815f90765a6fbc0447786adb898386a0a9561925e03e3d01bda8b9e", func := "errata/erratalaw16.ExprReplaces", spec := "exprReplaces", inPlace := ["internal/bytealg.abigen_runtime_cmpstring"], unfollowed := true, recurses := true, loops := true, apart := false }
def ExprReplacesSaid : Prop := exprReplacesRow.holds Try.pinned (OpenSpec.ofChange exprReplacesSpec)

/-- ITS FALSE NEIGHBOUR: 'it returns false'. Refute it at one input. -/
def exprReplacesWrong : ChangeSpec := { name := "exprReplaces", fn := fun _ => fun
  | [d1, d2, d3, d4, d5] => { results := [.lit (.bool false)], args := [d1, d2, d3, d4, d5] }
  | _ => none }
def ExprReplacesWrongFalsely : Prop := exprReplacesRow.holds Try.pinned (OpenSpec.ofChange exprReplacesWrong)

/- THE SECOND FORM. 'bulk': how many values and letters a reading holds, each counted each time it is reached (what is shared counts as often as it is met; a slice's spare places count too). A statement '..UptoSaid' is the law's where the arguments, and the package variables that the reading takes, are together of bulk at most 1048576: NARROWER than '..Said'. Prove '..Said' where nothing that the law and all that it calls make is longer than what came in: it says more and counts as full. Else prove '..UptoSaid'. A law counts once. -/
mutual
def uptoBulk {H : Type} : DataW H → Nat
  | .lit (.string bytes) => bytes.length + 1
  | .lit _ => 1
  | .nil => 1
  | .ptr d => uptoBulk d + 1
  | .slice elems spare => uptoBulkAll elems + uptoBulkAll spare + 1
  | .agg parts => uptoBulkAll parts + 1
  | .iface _ d => uptoBulk d + 1
  | .map entries => uptoBulkEntries entries + 1
  | .held _ => 1
def uptoBulkAll {H : Type} : List (DataW H) → Nat
  | [] => 0
  | d :: r => uptoBulk d + uptoBulkAll r
def uptoBulkEntries {H : Type} : List (Lit × DataW H) → Nat
  | [] => 0
  | x :: r => uptoBulkEntry x + uptoBulkEntries r
def uptoBulkEntry {H : Type} : Lit × DataW H → Nat
  | (.string bytes, d) => bytes.length + uptoBulk d + 1
  | (_, d) => uptoBulk d + 1
 end
def uptoSmall : (H : Type) → List (DataW H) → Bool := fun _ ds => decide (uptoBulkAll ds ≤ 1048576)
def OpenSpec.upto (s : _root_.Go.ChangeSpec) : _root_.Go.OpenSpec := { _root_.Go.OpenSpec.ofChange s with cond := some uptoSmall }

/-- 'erratalaw16.ExprSound', WHERE WHAT IT READS IS OF BULK AT MOST 1048576: true; the input reads as it did. -/
def exprSoundUptoRow : OpenClaim := { program := "ytmhelkhmgbbfhaa", sum := "f9661c3e3815f90765a6fbc0447786adb898386a0a9561925e03e3d01bda8b9e", func := "errata/erratalaw16.ExprSound", spec := "exprSound", inPlace := ["internal/bytealg.abigen_runtime_cmpstring"], unfollowed := true, recurses := true, loops := true, apart := false, narrowed := true }
def ExprSoundUptoSaid : Prop := exprSoundUptoRow.holds Try.pinned (OpenSpec.upto exprSoundSpec)

/-- 'erratalaw16.ExprSteps', WHERE WHAT IT READS IS OF BULK AT MOST 1048576: true; the input reads as it did. -/
def exprStepsUptoRow : OpenClaim := { program := "ytmhelkhmgbbfhaa", sum := "f9661c3e3815f90765a6fbc0447786adb898386a0a9561925e03e3d01bda8b9e", func := "errata/erratalaw16.ExprSteps", spec := "exprSteps", inPlace := ["internal/bytealg.abigen_runtime_cmpstring"], unfollowed := true, recurses := true, loops := true, apart := false, narrowed := true }
def ExprStepsUptoSaid : Prop := exprStepsUptoRow.holds Try.pinned (OpenSpec.upto exprStepsSpec)

/-- 'erratalaw16.ExprTells', WHERE WHAT IT READS IS OF BULK AT MOST 1048576: true; the input reads as it did. -/
def exprTellsUptoRow : OpenClaim := { program := "ytmhelkhmgbbfhaa", sum := "f9661c3e3815f90765a6fbc0447786adb898386a0a9561925e03e3d01bda8b9e", func := "errata/erratalaw16.ExprTells", spec := "exprTells", inPlace := ["internal/bytealg.abigen_runtime_cmpstring"], unfollowed := true, recurses := true, loops := true, apart := false, narrowed := true }
def ExprTellsUptoSaid : Prop := exprTellsUptoRow.holds Try.pinned (OpenSpec.upto exprTellsSpec)

/-- 'erratalaw16.ExprReads', WHERE WHAT IT READS IS OF BULK AT MOST 1048576: true; the input reads as it did. -/
def exprReadsUptoRow : OpenClaim := { program := "ytmhelkhmgbbfhaa", sum := "f9661c3e3815f90765a6fbc0447786adb898386a0a9561925e03e3d01bda8b9e", func := "errata/erratalaw16.ExprReads", spec := "exprReads", inPlace := ["internal/bytealg.abigen_runtime_cmpstring"], unfollowed := true, recurses := true, loops := true, apart := false, narrowed := true }
def ExprReadsUptoSaid : Prop := exprReadsUptoRow.holds Try.pinned (OpenSpec.upto exprReadsSpec)

/-- 'erratalaw16.ExprTypes', WHERE WHAT IT READS IS OF BULK AT MOST 1048576: true; the input reads as it did. -/
def exprTypesUptoRow : OpenClaim := { program := "ytmhelkhmgbbfhaa", sum := "f9661c3e3815f90765a6fbc0447786adb898386a0a9561925e03e3d01bda8b9e", func := "errata/erratalaw16.ExprTypes", spec := "exprTypes", inPlace := ["internal/bytealg.abigen_runtime_cmpstring"], unfollowed := true, recurses := true, loops := true, apart := false, narrowed := true }
def ExprTypesUptoSaid : Prop := exprTypesUptoRow.holds Try.pinned (OpenSpec.upto exprTypesSpec)

/-- 'erratalaw16.ExprReplaces', WHERE WHAT IT READS IS OF BULK AT MOST 1048576: true; the input reads as it did. -/
def exprReplacesUptoRow : OpenClaim := { program := "ytmhelkhmgbbfhaa", sum := "f9661c3e3815f90765a6fbc0447786adb898386a0a9561925e03e3d01bda8b9e", func := "errata/erratalaw16.ExprReplaces", spec := "exprReplaces", inPlace := ["internal/bytealg.abigen_runtime_cmpstring"], unfollowed := true, recurses := true, loops := true, apart := false, narrowed := true }
def ExprReplacesUptoSaid : Prop := exprReplacesUptoRow.holds Try.pinned (OpenSpec.upto exprReplacesSpec)

end Rows
end Go.Proofs.Ytmhelkhmgbbfhaa
