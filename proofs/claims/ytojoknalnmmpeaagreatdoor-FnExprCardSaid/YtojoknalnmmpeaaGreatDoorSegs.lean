
/- Segments: equality of two lists, as the laws, the reference and the library ask it. -/
import Derived.Test.YtojoknalnmmpeaaGreatDoorRows
import Derived.Test.YtojoknalnmmpeaaGreatDoorLib
namespace Go.Proofs.YtojoknalnmmpeaaGreatDoor
set_option maxRecDepth 100000
set_option linter.unusedSimpArgs false
set_option linter.unusedVariables false
open Go.RowKit

end Go.Proofs.YtojoknalnmmpeaaGreatDoor
