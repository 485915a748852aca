
/- Segments: equality of two lists, as the laws, the reference and the library ask it. -/
import Derived.Test.YtgfneifejafddaaGreatDoorRows
import Derived.Test.YtgfneifejafddaaGreatDoorLib
namespace Go.Proofs.YtgfneifejafddaaGreatDoor
set_option maxRecDepth 100000
set_option linter.unusedSimpArgs false
set_option linter.unusedVariables false
open Go.RowKit

end Go.Proofs.YtgfneifejafddaaGreatDoor
