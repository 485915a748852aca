/- Statements: the program's words. -/
import Derived.Test.YtgfbjpmbaibnoaaDoorZm4
import Derived.Test.YtgfbjpmbaibnoaaDoorStOk
import Derived.Test.YtgfbjpmbaibnoaaDoorLasts
namespace Go.Proofs.YtgfbjpmbaibnoaaDoor
set_option maxRecDepth 100000
set_option linter.unusedSimpArgs false
set_option linter.unusedVariables false
open Go.RowKit
attribute [local go_sem] bs_toList bs_get bs_size

/-- what the program's words of a line tells -/
def SWP (wd : List Bytes) (w : World) (r : Ending) (w' : World) : Prop := ∃ u m, r = .returned u ∧ SlC w' w'.heap.size u m ∧ m.map (·.1) = wd ∧ m.length ≤ 1000 ∧ Below w.heap.size w w'
end Go.Proofs.YtgfbjpmbaibnoaaDoor


/- Statements: the program's test and text. -/
namespace Go.Proofs.YtgfbjpmbaibnoaaDoor
set_option maxRecDepth 100000
set_option linter.unusedSimpArgs false
set_option linter.unusedVariables false
open Go.RowKit
attribute [local go_sem] bs_toList bs_get bs_size

end Go.Proofs.YtgfbjpmbaibnoaaDoor


/- Whether a line has the types that it must have: plain Lean, and the reference's and the program's. -/
namespace Go.Proofs.YtgfbjpmbaibnoaaDoor
set_option maxRecDepth 100000
set_option linter.unusedSimpArgs false
set_option linter.unusedVariables false
open Go.RowKit
attribute [local go_sem] bs_toList bs_get bs_size

def fitsE (names types : List Bytes) : SE → Bool
  | .none => true
  | .slet _ t e => e.ty names types == tyB t
  | .say e => !(e.ty names types == [])
  | .when a b => a.ty names types == cBool && !(b.ty names types == [])
open Classical in
noncomputable def smFits (s : Sm) (names types : List Bytes) : Bool := if h : ∃ t : SE, s = t.sm ∧ t.form then fitsE names types h.choose else false
theorem smFits_se {t : SE} (h : t.form) (names types : List Bytes) : smFits t.sm names types = fitsE names types t := by
  have hx : ∃ u : SE, t.sm = u.sm ∧ u.form := ⟨t, rfl, h⟩
  unfold smFits
  rw [dif_pos hx]
  exact congrArg (fitsE names types) (SE.sm_inj hx.choose_spec.1).symm
def letN (s : Sm) : List Bytes := if s.kind = 1 then [s.name] else []
def letT (s : Sm) : List Bytes := if s.kind = 1 then [s.typ] else []
/-- the first line that is not as it must be -/
noncomputable def prT : List Sm → Nat → List Bytes → List Bytes → Int
  | [], _, _, _ => -1
  | s :: r, i, names, types => if smFits s names types then prT r (i + 1) (names ++ letN s) (types ++ letT s) else i
theorem prT_no {l : List Sm} {j : Nat} {s : Sm} {names types : List Bytes} (h : l[j]? = some s) (hf : smFits s names types = false) : prT (l.drop j) j names types = j := by
  have hi := (List.getElem?_eq_some_iff.1 h).1
  have he : l[j] = s := by rw [List.getElem?_eq_getElem hi] at h; exact Option.some.inj h
  rw [List.drop_eq_getElem_cons hi, he, prT, hf]
  rfl
theorem prT_yes {l : List Sm} {j : Nat} {s : Sm} {names types : List Bytes} (h : l[j]? = some s) (hf : smFits s names types = true) : prT (l.drop j) j names types = prT (l.drop (j + 1)) (j + 1) (names ++ letN s) (types ++ letT s) := by
  have hi := (List.getElem?_eq_some_iff.1 h).1
  have he : l[j] = s := by rw [List.getElem?_eq_getElem hi] at h; exact Option.some.inj h
  rw [List.drop_eq_getElem_cons hi, he, prT, hf]
  rfl
/-! ### the program's -/
theorem E.ex_ne (e : E) : e.ex ≠ Ex.none := by cases e <;> simp [E.ex, Ex.none]
end Go.Proofs.YtgfbjpmbaibnoaaDoor
