
/- Statements: the program's test and text. -/
import Derived.Test.YtnejngpdplhbhaaDoorImS
import Derived.Test.YtnejngpdplhbhaaDoorStOk
namespace Go.Proofs.YtnejngpdplhbhaaDoor
set_option maxRecDepth 100000
set_option linter.unusedSimpArgs false
set_option linter.unusedVariables false
open Go.RowKit
attribute [local go_sem] bs_toList bs_get bs_size

end Go.Proofs.YtnejngpdplhbhaaDoor
