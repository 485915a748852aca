/- What a program says: the program's ProgRun. -/
import Derived.Test.YtgfbjpmbaibnoaaGreatDoorZm2
import Derived.Test.YtgfbjpmbaibnoaaGreatDoorDwPQ
import Derived.Test.YtgfbjpmbaibnoaaGreatDoorPlans
import Derived.Test.YtgfbjpmbaibnoaaGreatDoorImSs
namespace Go.Proofs.YtgfbjpmbaibnoaaGreatDoor
set_option maxRecDepth 100000
set_option linter.unusedSimpArgs false
set_option linter.unusedVariables false
open Go.RowKit
attribute [local go_sem] bs_toList bs_get bs_size

theorem clipInt_any (v : Value) (l : List Int) (lo : Nat) (w : World) (hv : Fr intRow 1 3 w lo v l) :
    Calls Tryz.prog 178 #[v] w fun e w' => ∃ u, e = .returned u ∧ Fr intRow 1 3 w' lo u l ∧ w = w' := by
  rcases hv.form with ⟨rfl, rfl⟩ | ⟨g, cap, cur, rfl, hlo, hc, hm, hB, hx⟩
  · go_enter Tryz.func178, Tryz.ntmps178
    go_wp2
    go_ret
    exact ⟨_, rfl, .inl ⟨rfl, rfl⟩, rfl⟩
  · go_enter Tryz.func178, Tryz.ntmps178
    go_wp2
    go_ret
    exact ⟨_, rfl, hv.clip, rfl⟩
end Go.Proofs.YtgfbjpmbaibnoaaGreatDoor


/- The law FnProgType: the walk. -/
namespace Go.Proofs.YtgfbjpmbaibnoaaGreatDoor
set_option maxRecDepth 100000
set_option linter.unusedSimpArgs false
set_option linter.unusedVariables false
open Go.RowKit
attribute [local go_sem] bs_toList bs_get bs_size

theorem DrS.smsF {lo : Nat} {w w' : World} {u : Value} {l : List Sm} (h : DrS lo w u l) (hb : Below w.heap.size w w') : SmS w' w'.heap.size u l := (h.sms.keep hb (Nat.le_refl _)).more hb.size
theorem type_facts (l : List Sm) : (progOkB l = false ∧ prTyp l = -2 ∧ prRun l = ([], false)) ∨ (progOkB l = true ∧ prTyp l = -1 ∧ prRun l = ((prRun l).1, true) ∧ 1 ≤ l.length) ∨
    ∃ k : Nat, progOkB l = true ∧ prTyp l = k ∧ k < l.length ∧ (0 < k → prTyp (l.take k) = -1) := by
  cases h : progOkB l with
  | false => exact .inl ⟨rfl, prTyp_bad h, prRun_bad h⟩
  | true =>
    right
    rcases prTyp_range h with h1 | ⟨h1, h2⟩
    · exact .inl ⟨rfl, h1, by rw [← prRun_of_prTyp h h1], (progOkB_iff.1 h).2.1⟩
    · obtain ⟨k, hk⟩ := Int.eq_ofNat_of_zero_le h1
      have hk2 : prTyp l = (k : Int) := hk
      exact .inr ⟨k, rfl, hk2, by omega, fun h0 => prTyp_take h hk2 h0⟩
end Go.Proofs.YtgfbjpmbaibnoaaGreatDoor


/- The law FnStmtBent: the walk. -/
namespace Go.Proofs.YtgfbjpmbaibnoaaGreatDoor
set_option maxRecDepth 100000
set_option linter.unusedSimpArgs false
set_option linter.unusedVariables false
open Go.RowKit
attribute [local go_sem] bs_toList bs_get bs_size

theorem DrV.ext {lo : Nat} {w w' : World} {v : Value} {s : Sm} (h : DrV lo w v s) (hb : Below w.heap.size w w') : DrV lo w' v s :=
  h.grown (r := none) ⟨hb.os, hb.tape, hb.output, hb.size, fun k hk _ => hb.block k hk⟩ (fun q e => by cases e)
theorem DrV.smvF {lo : Nat} {w w' : World} {v : Value} {s : Sm} (h : DrV lo w v s) (hb : Below w.heap.size w w') : SmV w' w'.heap.size v s := (h.ext hb).smv
theorem bent_let {k : Int} {ty : Bytes} {a b : Ex} : smOkB ⟨k, [108, 101, 116], ty, a, b⟩ = false := smOkB_of_form (formSB_let ⟨k, [], ty, a, b⟩)
theorem bent_text {k : Int} {nm : Bytes} {a b : Ex} : smOkB ⟨k, nm, [116, 101, 120, 116], a, b⟩ = false := smOkB_of_form (formSB_text (s := ⟨k, nm, [], a, b⟩) (by decide) (by decide))
theorem bent_kind {nm ty : Bytes} {a b : Ex} : smOkB ⟨4, nm, ty, a, b⟩ = false := smOkB_of_form (formSB_kind (s := ⟨0, nm, ty, a, b⟩) (by omega))
theorem bent_then {k : Int} {nm ty : Bytes} {a : Ex} : smOkB ⟨k, nm, ty, a, .mk 1 (-1) [] []⟩ = false := sm_then_neg ⟨k, nm, ty, a, a⟩
end Go.Proofs.YtgfbjpmbaibnoaaGreatDoor
