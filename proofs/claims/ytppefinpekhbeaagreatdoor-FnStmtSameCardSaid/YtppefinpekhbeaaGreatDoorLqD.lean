
/- The law FnStmtBent: the walk. -/
import Derived.Test.YtppefinpekhbeaaGreatDoorLqT
import Derived.Test.YtppefinpekhbeaaGreatDoorImSs
import Derived.Test.YtppefinpekhbeaaGreatDoorPlans
namespace Go.Proofs.YtppefinpekhbeaaGreatDoor
set_option maxRecDepth 100000
set_option linter.unusedSimpArgs false
set_option linter.unusedVariables false
open Go.RowKit
attribute [local go_sem] bs_toList bs_get bs_size

theorem DrV.ext {lo : Nat} {w w' : World} {v : Value} {s : Sm} (h : DrV lo w v s) (hb : Below w.heap.size w w') : DrV lo w' v s :=
  h.grown (r := none) ⟨hb.os, hb.tape, hb.output, hb.size, fun k hk _ => hb.block k hk⟩ (fun q e => by cases e)
theorem DrV.smvF {lo : Nat} {w w' : World} {v : Value} {s : Sm} (h : DrV lo w v s) (hb : Below w.heap.size w w') : SmV w' w'.heap.size v s := (h.ext hb).smv
theorem bent_let {k : Int} {ty : Bytes} {a b : Ex} : smOkB ⟨k, [108, 101, 116], ty, a, b⟩ = false := smOkB_of_form (formSB_let ⟨k, [], ty, a, b⟩)
theorem bent_text {k : Int} {nm : Bytes} {a b : Ex} : smOkB ⟨k, nm, [116, 101, 120, 116], a, b⟩ = false := smOkB_of_form (formSB_text (s := ⟨k, nm, [], a, b⟩) (by decide) (by decide))
theorem bent_kind {nm ty : Bytes} {a b : Ex} : smOkB ⟨4, nm, ty, a, b⟩ = false := smOkB_of_form (formSB_kind (s := ⟨0, nm, ty, a, b⟩) (by omega))
theorem bent_then {k : Int} {nm ty : Bytes} {a : Ex} : smOkB ⟨k, nm, ty, a, .mk 1 (-1) [] []⟩ = false := sm_then_neg ⟨k, nm, ty, a, a⟩
end Go.Proofs.YtppefinpekhbeaaGreatDoor
