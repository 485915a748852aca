
/- The type of a program: the reference's. -/
import Derived.Test.YtgfbjpmbaibnoaaGreatDoorZm4
import Derived.Test.YtgfbjpmbaibnoaaGreatDoorPgOk
namespace Go.Proofs.YtgfbjpmbaibnoaaGreatDoor
set_option maxRecDepth 100000
set_option linter.unusedSimpArgs false
set_option linter.unusedVariables false
open Go.RowKit
attribute [local go_sem] bs_toList bs_get bs_size

noncomputable def prTyp (l : List Sm) : Int := if progOkB l then prT l 0 [] [] else -2
/-- two rows that share no block -/
def DJ (n t : Value) : Prop := ∀ b, n.ownBlock = some b → t.ownBlock ≠ some b
theorem Gt.less_own {α : Type} {row : α → List Value} {k B : Nat} {t : TypeId} {w : World} {u : Value} {m : List α} (h : Gt row k t B w u m) : ∀ b, u.ownBlock = some b → B ≤ b := fun b hb => (h.lt hb).1
theorem DJ.first {α : Type} {row : α → List Value} {k B : Nat} {ty : TypeId} {w : World} {n t : Value} {m : List α} {g c q : Nat} (h : DJ n t) (ht : Gt row k ty B w t m) (hat : n.ownBlock = some g ∨ g = w.heap.size) : DJ (.slice (some ⟨g, 0, none⟩) q c) t := by
  intro b hb e
  have hb2 : g = b := by simpa [Value.ownBlock] using hb
  subst hb2
  rcases hat with h1 | h1
  · exact h g h1 e
  · have := (ht.lt e).2
    omega
theorem DJ.second {α : Type} {row : α → List Value} {k B : Nat} {ty : TypeId} {w : World} {t : Value} {m : List α} {g c q g2 c2 q2 : Nat} (h : DJ (.slice (some ⟨g, 0, none⟩) q c) t) (hn : Gt row k ty B w (.slice (some ⟨g, 0, none⟩) q c) m) (hat : t.ownBlock = some g2 ∨ g2 = w.heap.size) : DJ (.slice (some ⟨g, 0, none⟩) q c) (.slice (some ⟨g2, 0, none⟩) q2 c2) := by
  intro b hb e
  have hb2 : g = b := by simpa [Value.ownBlock] using hb
  have he : g2 = b := by simpa [Value.ownBlock] using e
  subst hb2
  rcases hat with h1 | h1
  · rw [he] at h1
    exact h g hb h1
  · have := (hn.lt (b := g) rfl).2
    omega
end Go.Proofs.YtgfbjpmbaibnoaaGreatDoor
