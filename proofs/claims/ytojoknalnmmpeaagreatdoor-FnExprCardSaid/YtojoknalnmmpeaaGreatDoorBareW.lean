
/- Without types, asked of any tree: the reference's and the program's; marks of one tree. -/
import Derived.Test.YtojoknalnmmpeaaGreatDoorBareI
import Derived.Test.YtojoknalnmmpeaaGreatDoorMks
import Derived.Test.YtojoknalnmmpeaaGreatDoorStLaw
namespace Go.Proofs.YtojoknalnmmpeaaGreatDoor
set_option maxRecDepth 100000
set_option linter.unusedSimpArgs false
set_option linter.unusedVariables false
open Go.RowKit
attribute [local go_sem] bs_toList bs_get bs_size

open Classical in
noncomputable def bareX (x : Ex) : Ex := if h : ∃ e : E, x = e.ex ∧ e.Ok then h.choose.bare.ex else Ex.none
theorem bareX_e {e : E} (h : e.Ok) : bareX e.ex = e.bare.ex := by
  have hx : ∃ e' : E, e.ex = e'.ex ∧ e'.Ok := ⟨e, rfl, h⟩
  unfold bareX
  rw [dif_pos hx]
  exact congrArg (fun q => (E.bare q).ex) (E.ex_inj hx.choose_spec.1).symm
theorem bareX_no {x : Ex} (h : exOkB x = false) : bareX x = Ex.none := by
  unfold bareX
  rw [dif_neg]
  intro hx
  rw [E.ok_iff.2 hx] at h
  cases h
theorem ex_nd : ∀ e : E, e.ex.nd + 1 = e.cnt
  | .num n => by simp [E.ex, Ex.nd_mk, ndL, E.cnt]
  | .nam s => by simp [E.ex, Ex.nd_mk, ndL, E.cnt]
  | .two o a b => by
    have h1 := ex_nd a
    have h2 := ex_nd b
    simp [E.ex, Ex.nd_mk, ndL, E.cnt]
    omega
  | .cast t a => by
    have h1 := ex_nd a
    simp [E.ex, Ex.nd_mk, ndL, E.cnt]
    omega
theorem bareX_nd (x : Ex) : ndL (bareX x).kids ≤ 100 := by
  cases h : exOkB x
  · rw [bareX_no h]
    decide
  · obtain ⟨e, rfl, he⟩ := E.ok_iff.1 h
    rw [bareX_e he, ← Ex.nd_kids]
    have h1 := ex_nd e.bare
    have h2 := (E.bare_Ok he).2.2
    omega
end Go.Proofs.YtojoknalnmmpeaaGreatDoor
