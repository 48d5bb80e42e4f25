/- Walk: Quote, of the program. -/
import Derived.Test.YtgpcpmfdklpifaaGreatDoorGa21
import Derived.Test.YtgpcpmfdklpifaaGreatDoorGa23
set_option linter.unusedSimpArgs false
set_option linter.unusedVariables false
namespace Go.Proofs.YtgpcpmfdklpifaaGreatDoor
open Go.RowKit Go.Lib
end Go.Proofs.YtgpcpmfdklpifaaGreatDoor
