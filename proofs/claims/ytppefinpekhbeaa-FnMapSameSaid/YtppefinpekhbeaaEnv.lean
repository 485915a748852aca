
/- What the package variables hold, and the library's contracts in this proof's words. -/
import Derived.Test.YtppefinpekhbeaaRows
import Derived.Test.YtppefinpekhbeaaShf
import Derived.Test.YtppefinpekhbeaaBas
import Derived.Lib.SmallJoins
import Derived.Lib.AppendIntMem
import Derived.Deep.Light
namespace Go.Proofs.Ytppefinpekhbeaa
set_option maxRecDepth 100000
set_option linter.unusedSimpArgs false
set_option linter.unusedVariables false
open Go.RowKit
attribute [local go_sem] bs_toList bs_get bs_size

def ownList : List Bytes := [cLet, cSay, cWhen, cAs, cPrint, cIf, cInt, cBool]
theorem decDigits_eq (n : Nat) : Lib.decDigits n = decL n := by
  induction n using Nat.strongRecOn with
  | _ n ih =>
    rw [Lib.decDigits]
    split
    · next h => rw [decL_lt h]
    · next h => rw [decL_ge h, ih _ (by omega)]
theorem libJoin (l : List Bytes) : Lib.join l [32] = joinL l := by
  match l with
  | [] => rfl
  | [w] => rw [Lib.join_one]; rfl
  | w :: v :: l =>
    rw [Lib.join_cons, joinL, ← libJoin (v :: l), Lib.join_cons]
    simp [Lib.joinTail]
end Go.Proofs.Ytppefinpekhbeaa
