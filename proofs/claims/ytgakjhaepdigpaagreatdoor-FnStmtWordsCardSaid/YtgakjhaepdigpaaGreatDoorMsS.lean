
/- The law FnStmtSame: the walk. -/
import Derived.Test.YtgakjhaepdigpaaGreatDoorDwM
import Derived.Test.YtgakjhaepdigpaaGreatDoorZm6
namespace Go.Proofs.YtgakjhaepdigpaaGreatDoor
set_option maxRecDepth 100000
set_option linter.unusedSimpArgs false
set_option linter.unusedVariables false
open Go.RowKit
attribute [local go_sem] bs_toList bs_get bs_size

theorem smText_sm {t : SE} (h : t.form) : smText t.sm = t.text := by
  show joinL (smWords t.sm) = joinL t.words
  rw [smWords_se h]
/-- lines that are ok are one just if their texts are -/
theorem smText_same {a b : Sm} (ha : smOkB a = true) (hb : smOkB b = true) : (smText a == smText b) = decide (a = b) := by
  obtain ⟨s, rfl, hs⟩ := smOkB_iff.1 ha
  obtain ⟨t, rfl, ht⟩ := smOkB_iff.1 hb
  rw [smText_sm hs.1, smText_sm ht.1]
  by_cases h : s.sm = t.sm
  · rw [decide_eq_true h]
    have : s = t := SE.sm_inj h
    subst this
    simp
  · rw [decide_eq_false h, beq_eq_false_iff_ne]
    exact fun e => h (by rw [text_inj hs.1 ht.1 e])
theorem cS_cells {w : World} {b : Nat} {k : Int} {nm ty : Bytes} {k1 n1 : Int} {s1 : Bytes} {v1 : Value} {k2 n2 : Int} {s2 : Bytes} {v2 : Value} (h : Blk w b 26 (cS k nm ty k1 n1 s1 v1 k2 n2 s2 v2)) :
    (∀ y : Later w.heap.size w, y.w'.cell? ⟨b, 0, none⟩ = some (.int .i64 k)) ∧ (∀ y : Later w.heap.size w, y.w'.cell? ⟨b, 1, none⟩ = some (.string (bs nm))) ∧ (∀ y : Later w.heap.size w, y.w'.cell? ⟨b, 2, none⟩ = some (.string (bs ty))) ∧ (∀ y : Later w.heap.size w, y.w'.cell? ⟨b, 3, none⟩ = some (.int .i64 k1)) ∧ (∀ y : Later w.heap.size w, y.w'.cell? ⟨b, 4, none⟩ = some (.int .i64 n1)) ∧ (∀ y : Later w.heap.size w, y.w'.cell? ⟨b, 5, none⟩ = some (.string (bs s1))) ∧ (∀ y : Later w.heap.size w, y.w'.cell? ⟨b, 6, none⟩ = some v1) ∧ (∀ y : Later w.heap.size w, y.w'.cell? ⟨b, 7, none⟩ = some (.int .i64 k2)) ∧ (∀ y : Later w.heap.size w, y.w'.cell? ⟨b, 8, none⟩ = some (.int .i64 n2)) ∧ (∀ y : Later w.heap.size w, y.w'.cell? ⟨b, 9, none⟩ = some (.string (bs s2))) ∧ (∀ y : Later w.heap.size w, y.w'.cell? ⟨b, 10, none⟩ = some v2) := by
  have k : ∀ (i : Nat) (v : Value), (cS k nm ty k1 n1 s1 v1 k2 n2 s2 v2)[i]? = some v → ∀ y : Later w.heap.size w, y.w'.cell? ⟨b, i, none⟩ = some v := fun i v hv y => ((h.below y.ok h.lt).cell i).trans hv
  exact ⟨k 0 _ rfl, k 1 _ rfl, k 2 _ rfl, k 3 _ rfl, k 4 _ rfl, k 5 _ rfl, k 6 _ rfl, k 7 _ rfl, k 8 _ rfl, k 9 _ rfl, k 10 _ rfl⟩
end Go.Proofs.YtgakjhaepdigpaaGreatDoor
