
/- What a program says: the reference's ProgRun. -/
import Derived.Test.YtppefinpekhbeaaGreatDoorRun
namespace Go.Proofs.YtppefinpekhbeaaGreatDoor
set_option maxRecDepth 100000
set_option linter.unusedSimpArgs false
set_option linter.unusedVariables false
open Go.RowKit
attribute [local go_sem] bs_toList bs_get bs_size

theorem DJ.symm {n t : Value} (h : DJ n t) : DJ t n := fun b hb e => h b e hb
theorem DJ.ne {n t : Value} (h : DJ n t) : t.ownBlock = none ∨ t.ownBlock ≠ n.ownBlock := by
  rcases hq : t.ownBlock with _ | q
  · exact .inl rfl
  · exact .inr (fun e => h q e.symm hq)
theorem ret2_bool {u : Value} {b c : Bool} (h : b = c) : Ending.returned (.tuple #[u, .bool b]) = .returned (.tuple #[u, .bool c]) := by rw [h]
theorem GtN.cells1 (x : Int) (w : World) : ∀ (j : Nat) (u : Value), ([x].flatMap intRow)[j]? = some u → (w.alloc (.cells #[.int .i64 x] 3)).cell? ((⟨w.heap.size, 0, none⟩ : Addr).add j) = some u :=
  World.news_of_block (heap_alloc_new w _)
end Go.Proofs.YtppefinpekhbeaaGreatDoor
