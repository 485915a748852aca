/- Statements: the program's words. -/
import Derived.Test.YtppefinpekhbeaaImWs
import Derived.Test.YtppefinpekhbeaaStOk
namespace Go.Proofs.Ytppefinpekhbeaa
set_option maxRecDepth 100000
set_option linter.unusedSimpArgs false
set_option linter.unusedVariables false
open Go.RowKit
attribute [local go_sem] bs_toList bs_get bs_size

/-- what the program's words of a line tells -/
def SWP (wd : List Bytes) (w : World) (r : Ending) (w' : World) : Prop := ∃ u m, r = .returned u ∧ SlC w' w'.heap.size u m ∧ m.map (·.1) = wd ∧ m.length ≤ 1000 ∧ Below w.heap.size w w'
end Go.Proofs.Ytppefinpekhbeaa


/- Statements: the program's test and text. -/
namespace Go.Proofs.Ytppefinpekhbeaa
set_option maxRecDepth 100000
set_option linter.unusedSimpArgs false
set_option linter.unusedVariables false
open Go.RowKit
attribute [local go_sem] bs_toList bs_get bs_size

end Go.Proofs.Ytppefinpekhbeaa
