/- Walk of the reference of chapter 02: Unquote. -/
import Derived.Test.YtbkkjlcclddpdaaGreatDoorGd26
set_option linter.unusedSimpArgs false
set_option linter.unusedVariables false
namespace Go.Proofs.YtbkkjlcclddpdaaGreatDoor
open Go.RowKit Go.Lib
end Go.Proofs.YtbkkjlcclddpdaaGreatDoor
