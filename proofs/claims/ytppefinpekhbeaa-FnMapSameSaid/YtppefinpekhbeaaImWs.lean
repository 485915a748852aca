/- The words of what is reckoned: the program's, of two parts. -/
import Derived.Test.YtppefinpekhbeaaImW
namespace Go.Proofs.Ytppefinpekhbeaa
set_option maxRecDepth 100000
set_option linter.unusedSimpArgs false
set_option linter.unusedVariables false
open Go.RowKit
attribute [local go_sem] bs_toList bs_get bs_size

end Go.Proofs.Ytppefinpekhbeaa


/- The words of statements: the program's. -/
namespace Go.Proofs.Ytppefinpekhbeaa
set_option maxRecDepth 100000
set_option linter.unusedSimpArgs false
set_option linter.unusedVariables false
open Go.RowKit
attribute [local go_sem] bs_toList bs_get bs_size

theorem tgt_b (op : Op2) : tgt op.b = op.lv := by cases op <;> decide
end Go.Proofs.Ytppefinpekhbeaa
