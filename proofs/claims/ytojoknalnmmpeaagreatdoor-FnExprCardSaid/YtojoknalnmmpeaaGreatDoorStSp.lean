
/- Statements: the reference's words. -/
import Derived.Test.YtojoknalnmmpeaaGreatDoorWds
import Derived.Test.YtojoknalnmmpeaaGreatDoorTokS
import Derived.Test.YtojoknalnmmpeaaGreatDoorStLaw
import Derived.Test.YtojoknalnmmpeaaGreatDoorBas
import Derived.Test.YtojoknalnmmpeaaGreatDoorApp
namespace Go.Proofs.YtojoknalnmmpeaaGreatDoor
set_option maxRecDepth 100000
set_option linter.unusedSimpArgs false
set_option linter.unusedVariables false
open Go.RowKit
attribute [local go_sem] bs_toList bs_get bs_size

/-- a row just laid, in a later world -/
theorem Gt.laid {α : Type} {row : α → List Value} {k B : Nat} {t : TypeId} {w' w : World} {g : Nat} (l : List α) (n : Nat) (hg : g = w'.heap.size) (hn : n = l.length) (cs : Array Value) (hcs : cs = (l.flatMap row).toArray) (hl : 0 < l.length) (hk : ∀ s, (row s).length = k) (hm : l.length ≤ 1000000)
    (hb : w.heap[w'.heap.size]? = (w'.alloc (.cells cs t)).heap[w'.heap.size]?) (hB : B ≤ w'.heap.size) : Gt row k t B w (.slice (some ⟨g, 0, none⟩) n n) l := by
  subst hn hg
  exact Gt.built l hl hk hm (hb.trans (by rw [heap_alloc_new, hcs])) hB
theorem spWords1 (e : E) (v : Value) (w : World) (hok : e.Ok) (hv : ExV w w.heap.size v e.ex) :
    Calls Tryz.prog 19 #[v, .int .i64 1] w fun r w' => ∃ u, r = .returned u ∧ GtS w.heap.size w' u (e.words 1) ∧ Below w.heap.size w w' :=
  spWords_any e 1 v w hok.1 (by have := hok.2.2; omega) (by omega) hv
/-- two rows of one length are one -/
theorem Gt.len {α : Type} {row : α → List Value} {k B : Nat} {t : TypeId} {w : World} {g n n' c : Nat} {m m' : List α} (h : Gt row k t B w (.slice (some ⟨g, 0, none⟩) n c) m) (hn : n = n') (hm : m = m') : Gt row k t B w (.slice (some ⟨g, 0, none⟩) n' c) m' := by
  subst hn hm; exact h
end Go.Proofs.YtojoknalnmmpeaaGreatDoor
