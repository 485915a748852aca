
/- Words with a space between: the reference's TokText. -/
import Derived.Test.YtgfbjpmbaibnoaaDoorBas
import Derived.Test.YtgfbjpmbaibnoaaDoorRows
import Derived.Deep.Light
namespace Go.Proofs.YtgfbjpmbaibnoaaDoor
set_option maxRecDepth 100000
set_option linter.unusedSimpArgs false
set_option linter.unusedVariables false
open Go.RowKit
attribute [local go_sem] bs_toList bs_get bs_size

/-- what has been joined of the first i words -/
def joinTo (l : List Bytes) (i : Nat) : Bytes := joinL (l.take i)
theorem joinTo_succ {l : List Bytes} {i : Nat} {s : Bytes} (h : l[i]? = some s) : joinTo l (i + 1) = (if 0 < i then joinTo l i ++ [32] else joinTo l i) ++ s := by
  have hi := (List.getElem?_eq_some_iff.1 h).1
  have he : l[i] = s := by rw [List.getElem?_eq_getElem hi] at h; exact Option.some.inj h
  unfold joinTo
  rw [List.take_succ_eq_append_getElem hi, he]
  by_cases h0 : 0 < i
  · rw [if_pos h0, joinL_snoc s (by intro e; have := congrArg List.length e; rw [List.length_take] at this; simp only [List.length_nil] at this; omega)]
    simp
  · obtain rfl : i = 0 := by omega
    simp [joinL]
theorem joinL_take_le (l : List Bytes) : ∀ i, (joinTo l i).length ≤ (joinL l).length := by
  have key : ∀ (l : List Bytes) (i : Nat), (joinL (l.take i)).length ≤ (joinL l).length := by
    intro l
    induction l with
    | nil => intro i; simp
    | cons w l ih =>
      intro i
      cases i with
      | zero => simp [joinL]
      | succ i =>
        rw [List.take_succ_cons, joinL_cons, joinL_cons]
        cases l with
        | nil => simp
        | cons v l =>
          cases i with
          | zero => simp
          | succ i =>
            have := ih (i + 1)
            rw [List.take_succ_cons] at this ⊢
            simp only [List.length_append, List.length_cons] at this ⊢
            omega
  exact key l
theorem spTokText_any (l : List Bytes) (v : Value) (w : World) (hv : SlB w w.heap.size v l) (hl : (joinL l).length ≤ 100000000) :
    Calls Tryd.prog 91 #[v] w fun e w' => e = .returned (.string (bs (joinL l))) ∧ w = w' := by
  obtain ⟨A, c, rfl, hc, hm⟩ := hv.val
  go_enter Tryd.func91, Tryd.ntmps91
  go_wp2_with fail
  go_loopg [3, 4] l.length (fun k o i wr => ∃ j : Nat, k = l.length - j ∧ j ≤ l.length ∧ i = .int .i64 j ∧ o = .string (bs (joinTo l j)) ∧ wr = w)
  case atStart => exact ⟨0, by omega, by omega, rfl, by simp [joinTo, joinL, bs], rfl⟩
  case round =>
    obtain ⟨j, hk, hj, rfl, rfl, rfl⟩ := hrel
    have HK := Lib.hid hk
    clear hk
    by_cases hlt : j < l.length
    · obtain ⟨b, o, x, rfl, hb, hg, f0⟩ := str_at hv hlt
      have g0 := f0 ⟨wr, Below.refl _ _⟩
      have hs := joinTo_succ hg
      have hle := joinL_take_le l (j + 1)
      have HS := Lib.hid hs
      clear f0 hg
      by_cases h0 : 0 < j
      · rw [if_pos h0] at hs HS
        have hlen := congrArg List.length hs
        simp only [List.length_append, List.length_singleton] at hlen
        have d1 : decide ((0 : Int) < (j : Int)) = true := by simp; omega
        have d2 : decide (0 < j) = true := by simp; omega
        have hcat : ¬ 9223372036854775807 < (joinTo l j).length + 1 := by omega
        have hcat2 : ¬ 9223372036854775807 < (joinTo l j).length + 1 + x.length := by omega
        clear hs hlen hle
        go_wp2_with fail
        go_roundg (l.length - (j + 1))
        case measure => have := HK.out; omega
        case rel => exact ⟨j + 1, rfl, by omega, by go_num, by rw [HS.out, ← bs_append, ← bs_append]; rfl, rfl⟩
      · rw [if_neg h0] at hs HS
        have hlen := congrArg List.length hs
        simp only [List.length_append] at hlen
        have d1 : decide ((0 : Int) < (j : Int)) = false := by simp; omega
        have d2 : decide (0 < j) = false := by simp; omega
        have hcat : ¬ 9223372036854775807 < (joinTo l j).length + x.length := by omega
        clear hs hlen hle h0
        go_wp2_with fail
        go_roundg (l.length - (j + 1))
        case measure => have := HK.out; omega
        case rel => exact ⟨j + 1, rfl, by omega, by go_num, by rw [HS.out, ← bs_append], rfl⟩
    · obtain rfl : j = l.length := by omega
      go_wp2_with fail
      go_ret
      exact ⟨ret_bs (by simp [joinTo]), rfl⟩
end Go.Proofs.YtgfbjpmbaibnoaaDoor
