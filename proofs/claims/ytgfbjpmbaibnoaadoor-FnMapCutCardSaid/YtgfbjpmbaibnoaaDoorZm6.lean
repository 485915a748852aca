/- Places that are drawn twice, the same or nearly. -/
import Derived.Test.YtgfbjpmbaibnoaaDoorDwGH
import Derived.Test.YtgfbjpmbaibnoaaDoorAppGs
import Derived.Test.YtgfbjpmbaibnoaaDoorMapS
namespace Go.Proofs.YtgfbjpmbaibnoaaDoor
set_option maxRecDepth 100000
set_option linter.unusedSimpArgs false
set_option linter.unusedVariables false
open Go.RowKit
attribute [local go_sem] bs_toList bs_get bs_size

theorem CodeV.later {w w' : World} {v : Value} {l : List Int} (h : CodeV w v l) (hb : Below w.heap.size w w') : CodeV w' v l := ⟨(h.1.below hb (Nat.le_refl _)).more hb.size, h.2⟩
theorem sg_tail {w : World} {B b o n c : Nat} {s : Sg} {l : List Sg} (h : SlS w B (.slice (some ⟨b, o, none⟩) n c) (s :: l)) : SlS w B (.slice (some ⟨b, o + 4, none⟩) l.length (c - 1)) l := by
  obtain ⟨A, c', hv, hc, hm, hh⟩ := h
  obtain ⟨hA, _, rfl⟩ : some ⟨b, o, none⟩ = A ∧ n = (s :: l).length ∧ c = c' := by injection hv; exact ⟨‹_›, ‹_›, ‹_›⟩
  simp only [List.length_cons] at hc
  refine ⟨_, c - 1, rfl, by omega, by omega, fun h0 => ?_⟩
  obtain ⟨b', o', hA', hb, hx⟩ := hh (by simp)
  rw [← hA] at hA'
  obtain ⟨rfl, rfl⟩ : b = b' ∧ o = o' := by injection hA' with e; injection e; exact ⟨‹_›, ‹_›⟩
  exact ⟨b, o + 4, rfl, hb, fun i t ht j x hj => by
    have := hx (i + 1) t (by simpa using ht) j x hj
    rw [show o + (i + 1) * 4 + j = o + 4 + i * 4 + j by omega] at this
    exact this⟩
theorem sg_tail' {w : World} {B b n c : Nat} {l : List Sg} (h : SlS w B (.slice (some ⟨b, 0, none⟩) n c) l) (h0 : 0 < l.length) : SlS w B (.slice (some ⟨b, 4, none⟩) (l.length - 1) (c - 1)) l.tail := by
  cases l with
  | nil => simp at h0
  | cons s l => simpa using sg_tail h
theorem sg_tail0 {w : World} {B : Nat} {A : Option Addr} {l : List Sg} (h : l.length ≤ 1) : SlS w B (.slice A 0 0) l.tail := by
  have e : l.tail = [] := List.length_eq_zero_iff.1 (by rw [List.length_tail]; omega)
  rw [e]
  exact ⟨A, 0, rfl, Nat.le_refl _, by unfold maxLen; omega, fun h => absurd h (by simp)⟩
theorem sg_nil (w : World) (B : Nat) : SlS w B (.slice none 0 0) [] := ⟨none, 0, rfl, Nat.le_refl _, by unfold maxLen; omega, fun h => absurd h (by simp)⟩
def DrewS2 (w : World) (e : Ending) (w' : World) : Prop := ∃ (u u2 : Value) (m m2 : List Sg), e = .returned (.tuple #[u, u2]) ∧ SlS w' w'.heap.size u m ∧ SlS w' w'.heap.size u2 m2 ∧ m.length ≤ 1200 ∧ m2.length ≤ 1200 ∧ Below w.heap.size w w'
end Go.Proofs.YtgfbjpmbaibnoaaDoor


/- The law FnMapSame: the walk. -/
namespace Go.Proofs.YtgfbjpmbaibnoaaDoor
set_option maxRecDepth 100000
set_option linter.unusedSimpArgs false
set_option linter.unusedVariables false
open Go.RowKit
attribute [local go_sem] bs_toList bs_get bs_size

theorem imMapTxt_any (v : Value) (l : List Sg) (w : World) (hv : SlS w w.heap.size v l) :
    Calls Tryd.prog 14 #[v] w fun e w' => e = .returned (.string (bs (mapTextL l))) ∧ Below w.heap.size w w' := by
  go_enter Tryd.func14, Tryd.ntmps14
  go_wp2_with fail
  refine (imSegsOk_any _ _ l hv).mono ?_
  rintro e w1 ⟨rfl, hE⟩
  by_cases hok : SegsOk l
  · rw [segsOkB_yes hok]
    go_wp2_with fail
    refine (imText_yes _ l _ (hv.ext hE) hok).mono ?_
    rintro e w2 ⟨rfl, hE2⟩
    go_wp2_with fail
    go_ret
    exact ⟨ret_bs (by unfold mapTextL; rw [if_pos (segsOkB_yes hok)]), hE.ext hE2⟩
  · rw [segsOkB_no hok]
    go_wp2_with fail
    go_ret
    exact ⟨ret_bs (a := []) (by unfold mapTextL; rw [if_neg (by rw [segsOkB_no hok]; decide)]), hE⟩
/-- texts compared -/
theorem eq_bs (x y : Bytes) : (x == y) = decide (x = y) := by
  by_cases h : x = y
  · subst h; simp
  · rw [decide_eq_false h]; rw [beq_eq_false_iff_ne]; exact h
theorem sg_take {w : World} {B n c k : Nat} {A : Option Addr} {l : List Sg} (h : SlS w B (.slice A n c) l) (hk : k ≤ l.length) : SlS w B (.slice A k c) (l.take k) := h.take hk
end Go.Proofs.YtgfbjpmbaibnoaaDoor
