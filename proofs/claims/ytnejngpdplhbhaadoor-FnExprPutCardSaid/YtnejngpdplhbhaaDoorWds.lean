/- The words of what is reckoned: the reference's. -/
import Derived.Test.YtnejngpdplhbhaaDoorWords
import Derived.Test.YtnejngpdplhbhaaDoorGot
import Derived.Deep.CutBlock
namespace Go.Proofs.YtnejngpdplhbhaaDoor
set_option maxRecDepth 100000
set_option linter.unusedSimpArgs false
set_option linter.unusedVariables false
open Go.RowKit
attribute [local go_sem] bs_toList bs_get bs_size

/-- an empty row of the call's own, just laid -/
theorem gt_empty {α : Type} (row : α → List Value) (k : Nat) (t : TypeId) {B : Nat} (w w' : World) (hB : B ≤ w.heap.size) (hb : Below (w.heap.size + 1) (w.alloc (.cells #[] t)) w') : Gt row k t B w' (.slice (some ⟨w.heap.size, 0, none⟩) 0 0) [] :=
  ⟨by simp, .inr ⟨w.heap.size, 0, #[], rfl, hB, (hb.block _ (by omega)).trans (heap_alloc_new w _), Nat.le_refl _, by unfold maxLen; omega, by simp, by simp⟩⟩
end Go.Proofs.YtnejngpdplhbhaaDoor


/- The words of what is reckoned: the reference's. -/
namespace Go.Proofs.YtnejngpdplhbhaaDoor
set_option maxRecDepth 100000
set_option linter.unusedSimpArgs false
set_option linter.unusedVariables false
open Go.RowKit
attribute [local go_sem] bs_toList bs_get bs_size

end Go.Proofs.YtnejngpdplhbhaaDoor
