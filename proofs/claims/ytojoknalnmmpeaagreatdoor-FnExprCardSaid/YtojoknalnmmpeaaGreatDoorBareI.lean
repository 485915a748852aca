
/- Without types: the program's walk. -/
import Derived.Test.YtojoknalnmmpeaaGreatDoorBare
import Derived.Lib.SliceRun
namespace Go.Proofs.YtojoknalnmmpeaaGreatDoor
set_option maxRecDepth 100000
set_option linter.unusedSimpArgs false
set_option linter.unusedVariables false
open Go.RowKit
attribute [local go_sem] bs_toList bs_get bs_size

theorem eqnil_ex (w : World) (a : Option Addr) (n c n' c' : Nat) : (binOp .eql 23 (.slice a n c) (.slice none n' c')).run Tryz.prog w = .ok (.bool a.isNone) w := Lib.run_eql_slice_nil w _ _ a n c n' c' Tryz.underlying23
end Go.Proofs.YtojoknalnmmpeaaGreatDoor
