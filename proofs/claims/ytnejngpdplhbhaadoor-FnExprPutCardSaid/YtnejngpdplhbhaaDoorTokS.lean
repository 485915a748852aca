
/- Words with a space between: the reference's TokText. -/
import Derived.Test.YtnejngpdplhbhaaDoorBas
import Derived.Test.YtnejngpdplhbhaaDoorRows
import Derived.Deep.Light
namespace Go.Proofs.YtnejngpdplhbhaaDoor
set_option maxRecDepth 100000
set_option linter.unusedSimpArgs false
set_option linter.unusedVariables false
open Go.RowKit
attribute [local go_sem] bs_toList bs_get bs_size

/-- what has been joined of the first i words -/
def joinTo (l : List Bytes) (i : Nat) : Bytes := joinL (l.take i)
theorem joinTo_succ {l : List Bytes} {i : Nat} {s : Bytes} (h : l[i]? = some s) : joinTo l (i + 1) = (if 0 < i then joinTo l i ++ [32] else joinTo l i) ++ s := by
  have hi := (List.getElem?_eq_some_iff.1 h).1
  have he : l[i] = s := by rw [List.getElem?_eq_getElem hi] at h; exact Option.some.inj h
  unfold joinTo
  rw [List.take_succ_eq_append_getElem hi, he]
  by_cases h0 : 0 < i
  · rw [if_pos h0, joinL_snoc s (by intro e; have := congrArg List.length e; rw [List.length_take] at this; simp only [List.length_nil] at this; omega)]
    simp
  · obtain rfl : i = 0 := by omega
    simp [joinL]
theorem joinL_take_le (l : List Bytes) : ∀ i, (joinTo l i).length ≤ (joinL l).length := by
  have key : ∀ (l : List Bytes) (i : Nat), (joinL (l.take i)).length ≤ (joinL l).length := by
    intro l
    induction l with
    | nil => intro i; simp
    | cons w l ih =>
      intro i
      cases i with
      | zero => simp [joinL]
      | succ i =>
        rw [List.take_succ_cons, joinL_cons, joinL_cons]
        cases l with
        | nil => simp
        | cons v l =>
          cases i with
          | zero => simp
          | succ i =>
            have := ih (i + 1)
            rw [List.take_succ_cons] at this ⊢
            simp only [List.length_append, List.length_cons] at this ⊢
            omega
  exact key l
end Go.Proofs.YtnejngpdplhbhaaDoor
