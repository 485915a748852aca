
/- The marks of trees: the word of a mark, plain trees of marks. -/
import Derived.Test.YtgoobhmbfjimoaaDoorWords
import Derived.Test.YtgoobhmbfjimoaaDoorBas
namespace Go.Proofs.YtgoobhmbfjimoaaDoor
set_option maxRecDepth 100000
set_option linter.unusedSimpArgs false
set_option linter.unusedVariables false
open Go.RowKit
attribute [local go_sem] bs_toList bs_get bs_size

/-- a number above nought in decimals, nought as nothing -/
def decZ (n : Nat) : Bytes := if n = 0 then [] else decL n
theorem decZ_div {n : Nat} (h : 0 < n) : decZ (n / 10) ++ [digC (n % 10)] = decZ n := by
  unfold decZ
  rw [if_neg (by omega : ¬ n = 0)]
  by_cases h9 : n < 10
  · rw [if_pos (by omega), decL_lt h9]
    simp [digC, Nat.mod_eq_of_lt h9]
  · rw [if_neg (by omega), decL_ge h9]
    rfl
def mkW (n : Nat) : Bytes := 109 :: decL n
theorem mkW_len {n : Nat} (h : n ≤ 100000000) : (mkW n).length ≤ 10 := by
  have := decL_len 8 n (by omega)
  simp only [mkW, List.length_cons]
  omega
theorem markText_any (n : Nat) (h1 : 1 ≤ n) (hn : n ≤ 100000000) (w : World) : Calls Tryd.prog 68 #[.int .i64 (n : Int)] w fun e w' => e = .returned (.string (bs (mkW n))) ∧ Below w.heap.size w w' := by
  have d1 : decide ((n : Int) ≤ 0) = false := by simp; omega
  go_enter Tryd.func68, Tryd.ntmps68
  go_wp2_with fail
  go_loopg [0, 3] n (fun g a o wr => ∃ (k : Nat) (out : Bytes), g = k ∧ k ≤ n ∧ a = .int .i64 k ∧ o = .string (bs out) ∧ decZ k ++ out = decL n ∧ Below w.heap.size w wr)
  case atStart => exact ⟨n, [], rfl, Nat.le_refl _, rfl, rfl, by simp [decZ]; omega, Below.refl _ _⟩
  case round =>
    obtain ⟨k, out, rfl, hk, rfl, rfl, he, hb⟩ := hrel
    have hl : out.length ≤ 10 := by
      have h1 := congrArg List.length he
      have h2 := decL_len 8 n (by omega)
      rw [List.length_append] at h1
      omega
    have HE := Lib.hid he
    have hz := hb.size
    clear he
    have hl2 : ¬ 9223372036854775807 < 1 + out.length := by omega
    have hl3 : 1 + out.length ≤ 9223372036854775807 := by omega
    by_cases h9 : 0 < gk
    · have d3 : decide ((0 : Int) < gk) = true := by simp; omega
      have hcv := conv1 (wr.alloc (.cells #[.int .u8 (48 + (gk : Int) % 10)] 5)) wr.heap.size (gk % 10) (by omega) ((gk : Int) % 10) (by omega) (by simp)
      go_wp2_with fail
      go_roundg (gk / 10)
      case measure => omega
      case rel => exact ⟨gk / 10, digC (gk % 10) :: out, rfl, by omega, by go_num, by rw [bs_append]; rfl, by rw [← HE.out, ← decZ_div h9]; simp, by (repeat (first | with_reducible assumption | with_reducible exact Below.refl _ _ | with_reducible refine Below.setCell ?_ (by first | omega | (simp; done) | (simp; omega)) _ | with_reducible refine Below.alloc ?_ (by first | omega | (simp; done) | (simp; omega)) _ | with_reducible refine below_drewN ?_ _ | with_reducible refine Below.drew ?_ | with_reducible refine Below.trans ?_ (Below.mono hb (by first | omega | (simp; done) | (simp; omega)))))⟩
    · obtain rfl : gk = 0 := by omega
      have he := HE.out
      simp [decZ] at he
      subst he
      have hl4 : ¬ 9223372036854775807 < 1 + (decL n).length := by omega
      go_wp2_with fail
      go_ret
      exact ⟨ret_cat rfl, by (repeat (first | with_reducible assumption | with_reducible exact Below.refl _ _ | with_reducible refine Below.setCell ?_ (by first | omega | (simp; done) | (simp; omega)) _ | with_reducible refine Below.alloc ?_ (by first | omega | (simp; done) | (simp; omega)) _ | with_reducible refine below_drewN ?_ _ | with_reducible refine Below.drew ?_ | with_reducible refine Below.trans ?_ (Below.mono hb (by first | omega | (simp; done) | (simp; omega)))))⟩
end Go.Proofs.YtgoobhmbfjimoaaDoor
