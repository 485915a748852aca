
/- The words of what is reckoned: the program's, each with the number of its part. -/
import Derived.Test.YtgfbjpmbaibnoaaDoorOkE
import Derived.Test.YtgfbjpmbaibnoaaDoorApp
import Derived.Test.YtgfbjpmbaibnoaaDoorStSp
import Derived.Deep.CutBlock
namespace Go.Proofs.YtgfbjpmbaibnoaaDoor
set_option maxRecDepth 100000
set_option linter.unusedSimpArgs false
set_option linter.unusedVariables false
open Go.RowKit
attribute [local go_sem] bs_toList bs_get bs_size

theorem grown_al {a w : World} {r : Option Nat} (h : a.grownBy w r) (o : Obj) : a.grownBy (w.alloc o) r :=
  grown_tr h ⟨rfl, rfl, rfl, by simp, fun k hk _ => Below.heap_alloc w o k hk⟩
theorem grown_dr {a w : World} {r : Option Nat} (h : a.grownBy w r) : a.grownBy w.drew r := ⟨h.os, h.tape, h.output, h.size, h.block⟩
theorem grown_app {a b c : World} {p : Nat} {r : Option Nat} (h : a.grownBy b (some p)) (hg : b.grownBy c r) (hr : ∀ k, r = some k → a.heap.size ≤ k) : a.grownBy c (some p) :=
  ⟨hg.os.trans h.os, hg.tape.trans h.tape, hg.output.trans h.output, Nat.le_trans h.size hg.size, fun k hk hne => (hg.block k (Nat.lt_of_lt_of_le hk h.size) (fun e => by have := hr k e.symm; omega)).trans (h.block k hk hne)⟩
theorem blk_app {b c : World} {p : Nat} {t : TypeId} {cs : Array Value} {r : Option Nat} (h : Blk b p t cs) (hg : b.grownBy c r) (hr : ∀ k, r = some k → p ≠ k) : Blk c p t cs :=
  (hg.block p h.lt (fun e => hr p e.symm rfl)).trans h
theorem wrap_small {n : Nat} (h : n ≤ 100000) : IntKind.i64.wrap ((n : Int) + 1) = (n : Int) + 1 := by
  rw [IntKind.wrap_i64]; omega
end Go.Proofs.YtgfbjpmbaibnoaaDoor
