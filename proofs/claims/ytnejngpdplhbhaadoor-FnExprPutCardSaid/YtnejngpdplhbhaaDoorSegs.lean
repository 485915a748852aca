
/- Segments: equality of two lists, as the laws, the reference and the library ask it. -/
import Derived.Test.YtnejngpdplhbhaaDoorRows
import Derived.Test.YtnejngpdplhbhaaDoorLib
namespace Go.Proofs.YtnejngpdplhbhaaDoor
set_option maxRecDepth 100000
set_option linter.unusedSimpArgs false
set_option linter.unusedVariables false
open Go.RowKit

end Go.Proofs.YtnejngpdplhbhaaDoor
