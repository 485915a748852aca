
/- Statements: the reference's test and text. -/
import Derived.Test.YtnejngpdplhbhaaDoorStSp
import Derived.Test.YtnejngpdplhbhaaDoorOkE
import Derived.Test.YtnejngpdplhbhaaDoorSames
import Derived.Deep.CutBlock
namespace Go.Proofs.YtnejngpdplhbhaaDoor
set_option maxRecDepth 100000
set_option linter.unusedSimpArgs false
set_option linter.unusedVariables false
open Go.RowKit
attribute [local go_sem] bs_toList bs_get bs_size

theorem smText_lt {s : Sm} (h : formSB s = true) : (smText s).length ≤ 100000000 := Nat.le_trans (smText_len h) (by decide)
def smVal (k : Int) (nm ty : Bytes) (a b : Ex) (A1 A2 : Option Addr) (c1 c2 : Nat) : Array Value := #[.int .i64 k, .string (bs nm), .string (bs ty), .int .i64 a.kind, .int .i64 a.n, .string (bs a.s), .slice A1 a.kids.length c1, .int .i64 b.kind, .int .i64 b.n, .string (bs b.s), .slice A2 b.kids.length c2]
end Go.Proofs.YtnejngpdplhbhaaDoor
