
/- Segments: equality of two lists, as the laws, the reference and the library ask it. -/
import Derived.Test.YtppefinpekhbeaaGreatDoorRows
import Derived.Test.YtppefinpekhbeaaGreatDoorLib
namespace Go.Proofs.YtppefinpekhbeaaGreatDoor
set_option maxRecDepth 100000
set_option linter.unusedSimpArgs false
set_option linter.unusedVariables false
open Go.RowKit

end Go.Proofs.YtppefinpekhbeaaGreatDoor
