
/- The laws FnExactStmtOk and FnExactStmtText: the walks. -/
import Derived.Test.YtgfdakgibjplkaaGreatDoorImSOk
import Derived.Test.YtgfdakgibjplkaaGreatDoorStLaw
namespace Go.Proofs.YtgfdakgibjplkaaGreatDoor
set_option maxRecDepth 100000
open Go.RowKit
attribute [local go_sem] bs_toList bs_get bs_size

noncomputable def smTxt (s : Sm) : Bytes := if smOkB s then smText s else []
theorem spTxt_any (s : Sm) (v : Value) (w : World) (hv : SmV w w.heap.size v s) : Calls Tryz.prog 43 #[v] w fun r w' => r = .returned (.string (bs (smTxt s))) ∧ Below w.heap.size w w' := spStmtText_any s v w hv
end Go.Proofs.YtgfdakgibjplkaaGreatDoor
