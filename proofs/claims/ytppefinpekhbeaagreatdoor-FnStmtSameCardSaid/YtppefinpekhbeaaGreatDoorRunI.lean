
/- What a program says: the program's ProgRun. -/
import Derived.Test.YtppefinpekhbeaaGreatDoorRunS
import Derived.Test.YtppefinpekhbeaaGreatDoorPtyI
namespace Go.Proofs.YtppefinpekhbeaaGreatDoor
set_option maxRecDepth 100000
set_option linter.unusedSimpArgs false
set_option linter.unusedVariables false
open Go.RowKit
attribute [local go_sem] bs_toList bs_get bs_size

end Go.Proofs.YtppefinpekhbeaaGreatDoor
