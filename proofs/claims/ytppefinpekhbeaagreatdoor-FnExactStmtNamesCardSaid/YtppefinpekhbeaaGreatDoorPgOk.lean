
/- Programs: the program's and the reference's test. -/
import Derived.Test.YtppefinpekhbeaaGreatDoorImSs
import Derived.Test.YtppefinpekhbeaaGreatDoorSmAt
namespace Go.Proofs.YtppefinpekhbeaaGreatDoor
set_option maxRecDepth 100000
set_option linter.unusedSimpArgs false
set_option linter.unusedVariables false
open Go.RowKit
attribute [local go_sem] bs_toList bs_get bs_size

theorem all_of {l : List Sm} (h : ∀ t x, t < l.length → l[t]? = some x → smOkB x = true) : l.all smOkB = true := by
  rw [List.all_eq_true]
  intro x hx
  obtain ⟨t, ht⟩ := List.mem_iff_getElem?.1 hx
  exact h t x (List.getElem?_eq_some_iff.1 ht).1 ht
theorem not_all_of {l : List Sm} {t : Nat} {x : Sm} (hx : l[t]? = some x) (h : smOkB x = false) : l.all smOkB = false := by
  rw [List.all_eq_false]
  exact ⟨x, List.mem_of_getElem? hx, by rw [h]; decide⟩
end Go.Proofs.YtppefinpekhbeaaGreatDoor
