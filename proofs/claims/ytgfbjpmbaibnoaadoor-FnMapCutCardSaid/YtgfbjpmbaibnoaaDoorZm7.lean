/- Programs: the program's and the reference's test. -/
import Derived.Test.YtgfbjpmbaibnoaaDoorZm8
namespace Go.Proofs.YtgfbjpmbaibnoaaDoor
set_option maxRecDepth 100000
set_option linter.unusedSimpArgs false
set_option linter.unusedVariables false
open Go.RowKit
attribute [local go_sem] bs_toList bs_get bs_size

theorem all_of {l : List Sm} (h : ∀ t x, t < l.length → l[t]? = some x → smOkB x = true) : l.all smOkB = true := by
  rw [List.all_eq_true]
  intro x hx
  obtain ⟨t, ht⟩ := List.mem_iff_getElem?.1 hx
  exact h t x (List.getElem?_eq_some_iff.1 ht).1 ht
theorem not_all_of {l : List Sm} {t : Nat} {x : Sm} (hx : l[t]? = some x) (h : smOkB x = false) : l.all smOkB = false := by
  rw [List.all_eq_false]
  exact ⟨x, List.mem_of_getElem? hx, by rw [h]; decide⟩
theorem spProgOk_any (l : List Sm) (v : Value) (W : World) (hv : SmS W W.heap.size v l) : Calls Tryd.prog 59 #[v] W fun r w' => r = .returned (.bool (progOkB l)) ∧ Below W.heap.size W w' := by
  obtain ⟨A, c, rfl, hc, hm⟩ := hv.val
  go_enter Tryd.func59, Tryd.ntmps59
  go_wp2_with fail
  go_loopg [3] l.length (fun k i wr => ∃ j : Nat, k = l.length - j ∧ j ≤ l.length ∧ i = .int .i64 j ∧ (∀ t x, t < j → l[t]? = some x → smOkB x = true) ∧ Below W.heap.size W wr)
  case atStart => exact ⟨0, by omega, by omega, rfl, fun t x h => by omega, Below.refl _ _⟩
  case round =>
    obtain ⟨j, hk, hj, rfl, ha, hbl⟩ := hrel
    have HK := Lib.hid (And.intro hk ha)
    clear hk ha
    by_cases hlt : j < l.length
    · obtain ⟨b, o, s, A1, A2, c1, c2, rfl, hb, hg, hS, f0, f1, f2, f3, f4, f5, f6, f7, f8, f9, f10⟩ := sm_at2 hv hlt
      have g0 := f0 ⟨wr, hbl⟩; have g1 := f1 ⟨wr, hbl⟩; have g2 := f2 ⟨wr, hbl⟩; have g3 := f3 ⟨wr, hbl⟩; have g4 := f4 ⟨wr, hbl⟩; have g5 := f5 ⟨wr, hbl⟩; have g6 := f6 ⟨wr, hbl⟩; have g7 := f7 ⟨wr, hbl⟩; have g8 := f8 ⟨wr, hbl⟩; have g9 := f9 ⟨wr, hbl⟩; have g10 := f10 ⟨wr, hbl⟩
      have HG := Lib.hid hg
      have hcall := spStmtOk_any s _ wr ((hS.keep hbl (Nat.le_refl _)).more hbl.size)
      clear f0 f1 f2 f3 f4 f5 f6 f7 f8 f9 f10 hg hS
      by_cases ho : smOkB s = true
      · rw [ho] at hcall
        have HC := Lib.hid (And.intro hcall ho)
        clear hcall ho
        go_wp2_with fail
        refine HC.out.1.mono ?_
        rintro r w1 ⟨rfl, hb1⟩
        go_wp2_with fail
        go_roundg (l.length - (j + 1))
        case measure => have := HK.out.1; omega
        case rel => exact ⟨j + 1, rfl, by omega, by go_num, fun t x ht hx => by
          by_cases e : t = j
          · subst e
            rw [HG.out] at hx
            obtain rfl := Option.some.inj hx
            exact HC.out.2
          · exact HK.out.2 t x (by omega) hx, hbl.ext hb1⟩
      · have ho2 : smOkB s = false := by simpa using ho
        rw [ho2] at hcall
        have HC := Lib.hid (And.intro hcall ho2)
        clear hcall ho ho2
        go_wp2_with fail
        refine HC.out.1.mono ?_
        rintro r w1 ⟨rfl, hb1⟩
        go_wp2_with fail
        go_ret
        exact ⟨ret_bool (by unfold progOkB; rw [not_all_of HG.out HC.out.2]; rfl), hbl.ext hb1⟩
    · obtain rfl : j = l.length := by omega
      have hr : progOkB l = (decide (1 ≤ l.length) && decide (l.length ≤ 16)) := by unfold progOkB; rw [all_of HK.out.2, Bool.true_and]
      have HR := Lib.hid hr
      clear hr
      go_wp2_with fail
      all_goals
        go_ret
        refine ⟨ret_bool ?_, hbl⟩
        rw [HR.out, Bool.eq_iff_iff]
        go_light
        simp
        omega
end Go.Proofs.YtgfbjpmbaibnoaaDoor


/- The type of a program: the reference's. -/
namespace Go.Proofs.YtgfbjpmbaibnoaaDoor
set_option maxRecDepth 100000
set_option linter.unusedSimpArgs false
set_option linter.unusedVariables false
open Go.RowKit
attribute [local go_sem] bs_toList bs_get bs_size

noncomputable def prTyp (l : List Sm) : Int := if progOkB l then prT l 0 [] [] else -2
/-- two rows that share no block -/
def DJ (n t : Value) : Prop := ∀ b, n.ownBlock = some b → t.ownBlock ≠ some b
theorem Gt.less_own {α : Type} {row : α → List Value} {k B : Nat} {t : TypeId} {w : World} {u : Value} {m : List α} (h : Gt row k t B w u m) : ∀ b, u.ownBlock = some b → B ≤ b := fun b hb => (h.lt hb).1
theorem DJ.first {α : Type} {row : α → List Value} {k B : Nat} {ty : TypeId} {w : World} {n t : Value} {m : List α} {g c q : Nat} (h : DJ n t) (ht : Gt row k ty B w t m) (hat : n.ownBlock = some g ∨ g = w.heap.size) : DJ (.slice (some ⟨g, 0, none⟩) q c) t := by
  intro b hb e
  have hb2 : g = b := by simpa [Value.ownBlock] using hb
  subst hb2
  rcases hat with h1 | h1
  · exact h g h1 e
  · have := (ht.lt e).2
    omega
theorem DJ.second {α : Type} {row : α → List Value} {k B : Nat} {ty : TypeId} {w : World} {t : Value} {m : List α} {g c q g2 c2 q2 : Nat} (h : DJ (.slice (some ⟨g, 0, none⟩) q c) t) (hn : Gt row k ty B w (.slice (some ⟨g, 0, none⟩) q c) m) (hat : t.ownBlock = some g2 ∨ g2 = w.heap.size) : DJ (.slice (some ⟨g, 0, none⟩) q c) (.slice (some ⟨g2, 0, none⟩) q2 c2) := by
  intro b hb e
  have hb2 : g = b := by simpa [Value.ownBlock] using hb
  have he : g2 = b := by simpa [Value.ownBlock] using e
  subst hb2
  rcases hat with h1 | h1
  · rw [he] at h1
    exact h g hb h1
  · have := (hn.lt (b := g) rfl).2
    omega
end Go.Proofs.YtgfbjpmbaibnoaaDoor
