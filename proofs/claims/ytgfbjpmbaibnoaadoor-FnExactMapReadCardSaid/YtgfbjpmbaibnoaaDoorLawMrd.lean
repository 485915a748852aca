
/- The law FnExactMapRead: for all arguments it answers true. -/
import Derived.Test.YtgfbjpmbaibnoaaDoorMapRdI
import Derived.Test.YtgfbjpmbaibnoaaDoorOpenS
namespace Go.Proofs.YtgfbjpmbaibnoaaDoor
set_option maxRecDepth 100000
set_option linter.unusedSimpArgs false
set_option linter.unusedVariables false
open Go.RowKit Go.ChangeShapes Go.WideShapes Go.ChangeAt
attribute [local go_sem] bs_toList bs_get bs_size

theorem rdMapL_len (s : Bytes) : (rdMapL s).length ≤ 1280 := by
  unfold rdMapL
  cases h : rdMap s with
  | none => simp
  | some l => exact (rdMap_iff.1 h).1.2
theorem lawMapRead (W : World) (s : Bytes) (hM : MaxM W) : Calls Tryd.prog 3 #[.string (bs s)] W fun e w' => e = .returned (.bool true) ∧ Below W.heap.size W w' := by
  by_cases h1 : s.length ≤ 1048576
  rotate_left
  · have hd : decide ((1048576 : Int) < ((s.length : Nat) : Int)) = true := by rw [decide_eq_true_eq]; omega
    go_enter Tryd.func3, Tryd.ntmps3
    go_wp2_with fail
    go_ret
    exact ⟨rfl, Below.refl _ _⟩
  have hd : decide ((1048576 : Int) < ((s.length : Nat) : Int)) = false := by rw [decide_eq_false_iff_not]; omega
  have CS := Lib.hid (fun w' : World => spMapRead_any s w' (by omega))
  have CI := Lib.hid (fun (w' : World) (h : Below W.heap.size W w') => imMapRead_any s w' (by omega) (hM.ext h))
  unfold MrP at CS CI
  have hml := rdMapL_len s
  generalize rdMapL s = M at *
  generalize rdMapB s = ok at *
  have hoo : (ok != ok) = false := by cases ok <;> rfl
  have hoo2 : (!(ok == ok)) = false := by cases ok <;> rfl
  clear hM
  have hx := Below.refl W.heap.size W
  go_enter Tryd.func3, Tryd.ntmps3
  go_wp2_with fail
  refine (CS.out _).mono ?_
  rintro e w3 ⟨a0, rfl, hA, hE3⟩
  skip; replace hx := hx.ext hE3
  have hA' := hA
  have hs := hx.size
  obtain ⟨A3, c3, rfl, _, _⟩ := hA.sl.val
  go_wp2_with fail
  refine (CI.out _ hx).mono ?_
  rintro e w6 ⟨g0, rfl, hG, hE6⟩
  skip; replace hx := hx.ext hE6; replace hA := hA.ext hE6
  have dAG := apart hA' hG (Nat.le_refl _)
  replace hG := hG.less hs
  clear hA' hs
  obtain ⟨A6, c6, rfl, _, _⟩ := hG.sl.val
  go_wp2_with fail
  refine (eqSegS_any _ _ _ M M hG.sl hA.sl).mono ?_
  rintro e w7 ⟨rfl, hE7⟩
  skip; replace hx := hx.ext hE7; replace hA := hA.ext hE7; replace hG := hG.ext hE7
  rw [decide_eq_true (rfl : M = M)]
  go_wp2_with fail
  refine (markSegS_any _ _ _ M 1 hG (by omega) (by omega) (by omega)).mono ?_
  rintro e w15 ⟨rfl, hg15, hG15⟩
  replace hA := hA.grown hg15 dAG.1
  replace hx := below_grown hx hg15 hx.size (fun k hk => (hG.lt hk).1)
  clear hG hg15 dAG
  have d12 : decide ((1 : Int) + (M.length : Int) * 4 < 0) = false := by simp; omega
  go_wp2_with fail
  refine (heldSegS_any _ _ _ _ 1 hG15.sl (by omega) (by omega) (by omega)).mono ?_
  rintro e _ ⟨rfl, rfl⟩
  go_wp2_with fail
  refine (CI.out _ hx).mono ?_
  rintro e w18 ⟨h0, rfl, hH, hE18⟩
  skip; replace hx := hx.ext hE18; replace hA := hA.ext hE18; replace hG15 := hG15.ext hE18
  obtain ⟨A8, c8, rfl, _, _⟩ := hH.sl.val
  go_wp2_with fail
  refine (eqSegS_any _ _ _ M M hH.sl hA.sl).mono ?_
  rintro e w19 ⟨rfl, hE19⟩
  skip; replace hx := hx.ext hE19; replace hG15 := hG15.ext hE19
  rw [decide_eq_true (rfl : M = M)]
  go_wp2_with fail
  refine (heldSegS_any _ _ _ _ 1 hG15.sl (by omega) (by omega) (by omega)).mono ?_
  rintro e _ ⟨rfl, rfl⟩
  go_wp2_with fail
  go_ret
  exact ⟨rfl, hx⟩
end Go.Proofs.YtgfbjpmbaibnoaaDoor
