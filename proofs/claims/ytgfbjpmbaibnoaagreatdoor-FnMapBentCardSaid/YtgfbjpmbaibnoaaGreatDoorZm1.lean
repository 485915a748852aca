/- The law FnMapBack: the walk. -/
import Derived.Test.YtgfbjpmbaibnoaaGreatDoorDwGH
import Derived.Test.YtgfbjpmbaibnoaaGreatDoorMaps
namespace Go.Proofs.YtgfbjpmbaibnoaaGreatDoor
set_option maxRecDepth 100000
set_option linter.unusedSimpArgs false
set_option linter.unusedVariables false
open Go.RowKit
attribute [local go_sem] bs_toList bs_get bs_size

theorem neq_ps (p q p' q' : Int) (w : World) : (binOp .neq 68 (.agg #[.int .i64 p, .int .i64 q]) (.agg #[.int .i64 p', .int .i64 q'])).run Tryz.prog w =
    .ok (.bool (!decide ((p, q) = (p', q')))) w := by
  by_cases h1 : p = p' <;> by_cases h2 : q = q' <;> simp [go_sem, h1, h2]
theorem mapBackL_yes {l : List Sg} (h : SegsOk l) (p : Ps) : mapBackL l p = backL l p := by unfold mapBackL; rw [segsOkB_yes h]; rfl
theorem mapBackL_le (l : List Sg) (p : Ps) : (mapBackL l p).length ≤ 1280 := by
  by_cases h : SegsOk l
  · rw [mapBackL_yes h]
    have := backL_len l p l.length
    rw [List.take_length] at this
    have := h.2
    omega
  · unfold mapBackL
    rw [segsOkB_no h]
    simp
theorem mapBackL_no {l : List Sg} (h : ¬ SegsOk l) (p : Ps) : mapBackL l p = [] := by unfold mapBackL; rw [segsOkB_no h]; rfl
end Go.Proofs.YtgfbjpmbaibnoaaGreatDoor


/- The law FnMapLook: the walk. -/
namespace Go.Proofs.YtgfbjpmbaibnoaaGreatDoor
set_option maxRecDepth 100000
set_option linter.unusedSimpArgs false
set_option linter.unusedVariables false
open Go.RowKit
attribute [local go_sem] bs_toList bs_get bs_size

theorem mapLookL_yes {l : List Sg} (h : SegsOk l) (p : Ps) : mapLookL l p = lookL l p := by unfold mapLookL; rw [segsOkB_yes h]; rfl
theorem mapLookL_no {l : List Sg} (h : ¬ SegsOk l) (p : Ps) : mapLookL l p = none := by unfold mapLookL; rw [segsOkB_no h]; simp
/-- what a look tells, in parts -/
theorem lookV_of {o : Option Ps} {a b : Int} {t : Bool} (h : lookV o = .tuple #[.agg #[.int .i64 a, .int .i64 b], .bool t]) : (t = true ∧ o = some (a, b)) ∨ (t = false ∧ o = none) := by
  cases o with
  | none => unfold lookV at h; simp at h; exact .inr ⟨by simpa using h.2, rfl⟩
  | some q => obtain ⟨q1, q2⟩ := q; unfold lookV at h; simp at h; obtain ⟨⟨rfl, rfl⟩, rfl⟩ := h; exact .inl ⟨rfl, rfl⟩
end Go.Proofs.YtgfbjpmbaibnoaaGreatDoor
