/- Walks of the reference of chapter 02: Quote. -/
import Derived.Test.YtbkkjlcclddpdaaGreatDoorGd22
import Derived.Test.YtbkkjlcclddpdaaGreatDoorGd25
set_option linter.unusedSimpArgs false
set_option linter.unusedVariables false
namespace Go.Proofs.YtbkkjlcclddpdaaGreatDoor
open Go.RowKit Go.Lib
end Go.Proofs.YtbkkjlcclddpdaaGreatDoor

/- Walk of the reference of chapter 02: digit. -/
namespace Go.Proofs.YtbkkjlcclddpdaaGreatDoor
open Go.RowKit Go.Lib
end Go.Proofs.YtbkkjlcclddpdaaGreatDoor
