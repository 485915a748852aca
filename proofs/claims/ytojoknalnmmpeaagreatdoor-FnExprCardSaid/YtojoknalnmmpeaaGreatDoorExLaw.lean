
/- Trees in the laws' own hands: how much they hold, their copies, their equality. -/
import Derived.Test.YtojoknalnmmpeaaGreatDoorRows
import Derived.Test.YtojoknalnmmpeaaGreatDoorBas
import Derived.Deep.Light
namespace Go.Proofs.YtojoknalnmmpeaaGreatDoor
set_option maxRecDepth 100000
set_option linter.unusedSimpArgs false
set_option linter.unusedVariables false
open Go.RowKit
attribute [local go_sem] bs_toList bs_get bs_size

theorem szOut_sub {n : Int} {a b : Nat} (h : 0 ≤ n - a) : szOut (n - a) b = szOut n (a + b) := by unfold szOut; split <;> split <;> omega
end Go.Proofs.YtojoknalnmmpeaaGreatDoor
