
/- Rows of words: same, copied, sized, marked, held. -/
import Derived.Test.YtnejngpdplhbhaaDoorMks
import Derived.Test.YtnejngpdplhbhaaDoorLasts
import Derived.Test.YtnejngpdplhbhaaDoorImWs
import Derived.Test.YtnejngpdplhbhaaDoorMark
import Derived.BigQuiet
namespace Go.Proofs.YtnejngpdplhbhaaDoor
set_option maxRecDepth 100000
set_option linter.unusedSimpArgs false
set_option linter.unusedVariables false
open Go.RowKit
attribute [local go_sem] bs_toList bs_get bs_size

/-- how much a row of words holds -/
def strW (l : List Bytes) : Nat := l.length + (l.map List.length).sum
def strTo (l : List Bytes) (i : Nat) : Nat := ((l.take i).map List.length).sum
theorem strTo_succ {l : List Bytes} {i : Nat} {s : Bytes} (h : l[i]? = some s) : strTo l (i + 1) = strTo l i + s.length := by
  obtain ⟨hi, rfl⟩ := List.getElem?_eq_some_iff.1 h
  unfold strTo
  rw [List.take_succ_eq_append_getElem hi, List.map_append, List.sum_append]
  simp
theorem strTo_le (l : List Bytes) (i : Nat) : strTo l i ≤ (l.map List.length).sum := by
  have h := congrArg (fun l : List Bytes => (l.map List.length).sum) (List.take_append_drop i l)
  simp only [List.map_append, List.sum_append] at h
  unfold strTo
  omega
theorem strTo_all (l : List Bytes) : strTo l l.length = (l.map List.length).sum := by unfold strTo; rw [List.take_length]
theorem strW_mem {l : List Bytes} {s : Bytes} (h : s ∈ l) : s.length ≤ strW l := by
  obtain ⟨i, hi⟩ := List.mem_iff_getElem?.1 h
  have h1 := strTo_succ hi
  have h2 := strTo_le l (i + 1)
  unfold strW
  omega
def mkIn (k n : Nat) : List Bytes := (List.range n).map (fun i => mkW (k + i))
theorem mkIn_len (k n : Nat) : (mkIn k n).length = n := by simp [mkIn]
theorem mkIn_at (k : Nat) {n i : Nat} (h : i < n) : (mkIn k n)[i]? = some (mkW (k + i)) := by simp [mkIn, h]
end Go.Proofs.YtnejngpdplhbhaaDoor
