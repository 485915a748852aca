
/- The law FnProgType: the walk. -/
import Derived.Test.YtppefinpekhbeaaGreatDoorDwPQ
import Derived.Test.YtppefinpekhbeaaGreatDoorPlans
import Derived.Test.YtppefinpekhbeaaGreatDoorRunI
import Derived.Test.YtppefinpekhbeaaGreatDoorPtyI
namespace Go.Proofs.YtppefinpekhbeaaGreatDoor
set_option maxRecDepth 100000
set_option linter.unusedSimpArgs false
set_option linter.unusedVariables false
open Go.RowKit
attribute [local go_sem] bs_toList bs_get bs_size

theorem DrS.smsF {lo : Nat} {w w' : World} {u : Value} {l : List Sm} (h : DrS lo w u l) (hb : Below w.heap.size w w') : SmS w' w'.heap.size u l := (h.sms.keep hb (Nat.le_refl _)).more hb.size
theorem type_facts (l : List Sm) : (progOkB l = false ∧ prTyp l = -2 ∧ prRun l = ([], false)) ∨ (progOkB l = true ∧ prTyp l = -1 ∧ prRun l = ((prRun l).1, true) ∧ 1 ≤ l.length) ∨
    ∃ k : Nat, progOkB l = true ∧ prTyp l = k ∧ k < l.length ∧ (0 < k → prTyp (l.take k) = -1) := by
  cases h : progOkB l with
  | false => exact .inl ⟨rfl, prTyp_bad h, prRun_bad h⟩
  | true =>
    right
    rcases prTyp_range h with h1 | ⟨h1, h2⟩
    · exact .inl ⟨rfl, h1, by rw [← prRun_of_prTyp h h1], (progOkB_iff.1 h).2.1⟩
    · obtain ⟨k, hk⟩ := Int.eq_ofNat_of_zero_le h1
      have hk2 : prTyp l = (k : Int) := hk
      exact .inr ⟨k, rfl, hk2, by omega, fun h0 => prTyp_take h hk2 h0⟩
end Go.Proofs.YtppefinpekhbeaaGreatDoor
