
/- Trees in the laws' own hands: their equality, their copies. -/
import Derived.Test.YtojoknalnmmpeaaGreatDoorExLaw
namespace Go.Proofs.YtojoknalnmmpeaaGreatDoor
set_option maxRecDepth 100000
set_option linter.unusedSimpArgs false
set_option linter.unusedVariables false
open Go.RowKit
attribute [local go_sem] bs_toList bs_get bs_size

theorem later_call' {P : Program} {f : FuncId} {args : Array Value} {W : World} {x : Later W.heap.size W} {v : Value}
    (h : ∀ y : Later W.heap.size W, Calls P f args y.w' fun e w' => e = .returned v ∧ Below y.w'.heap.size y.w' w') : Calls P f args x.w' fun e w'' => e = .returned v ∧ ∃ y : Later W.heap.size W, w'' = y.w' :=
  later_call (Nat.le_refl _) (h x)
theorem ExV.later {W : World} {v : Value} {e : Ex} (h : ExV W W.heap.size v e) (y : Later W.heap.size W) : ExV y.w' y.w'.heap.size v e := h.ext y.ok

theorem infoExpr : (Tryz.prog.info? 25).map (fun i => (i.zero, i.size, i.bytes)) = some (some (.agg #[.int .i64 0, .int .i64 0, .string ⟨#[]⟩, .slice none 0 0]), 4, 56) := by kernel_rfl
end Go.Proofs.YtojoknalnmmpeaaGreatDoor
