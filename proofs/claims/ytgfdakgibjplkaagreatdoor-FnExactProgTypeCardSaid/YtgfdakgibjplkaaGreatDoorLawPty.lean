
/- The law FnExactProgType: the walk. -/
import Derived.Test.YtgfdakgibjplkaaGreatDoorPtyI
import Derived.Test.YtgfdakgibjplkaaGreatDoorPrLaw
namespace Go.Proofs.YtgfdakgibjplkaaGreatDoor
set_option maxRecDepth 100000
open Go.RowKit
attribute [local go_sem] bs_toList bs_get bs_size

theorem lawProgType (W : World) (v : Value) (l : List Sm) (hv : SmS W W.heap.size v l) (hE : Env W) : Calls Tryz.prog 7 #[v] W fun e w' => e = .returned (.bool true) ∧ Below W.heap.size W w' := by
  by_cases h1 : smWt l ≤ 1048576
  rotate_left
  · have SZ := Lib.hid (szStmtS_any l v W 1048576 (by omega) (by omega) hv)
    have e1 : szOut 1048576 (smWt l) = -1 := szOut_no (by omega)
    rw [e1] at SZ
    obtain ⟨A, c, rfl, hc, hm⟩ := hv.val
    clear e1 h1 hE
    go_enter Tryz.func7, Tryz.ntmps7
    go_wp2_with fail
    refine SZ.out.mono ?_
    rintro r w1 ⟨rfl, hb1⟩
    go_wp2_with fail
    go_ret
    exact ⟨rfl, hb1⟩
  · have SZ := Lib.hid (szStmtS_any l v W 1048576 (by omega) (by omega) hv)
    have e1 : szOut 1048576 (smWt l) = 1048576 - smWt l := szOut_yes (by omega)
    rw [e1] at SZ
    have TO := Lib.hid (fun (w' : World) (h : Below W.heap.size W w') => toStmtS_any l v w' h1 ((hv.keep h (Nat.le_refl _)).more h.size))
    have ENV := Lib.hid (fun (w' : World) (h : Below W.heap.size W w') => hE.ext h)
    obtain ⟨A, c, rfl, hc, hm⟩ := hv.val
    have hw0 : (0 : Int) ≤ 1048576 - (smWt l : Int) := by omega
    clear e1 h1 hE
    go_enter Tryz.func7, Tryz.ntmps7
    go_wp2_with fail
    refine SZ.out.mono ?_
    rintro r w1 ⟨rfl, hbw1⟩
    clear SZ
    go_wp2_with fail
    refine (TO.out _ hbw1).mono ?_
    rintro r w2 ⟨u2, rfl, hS2, hb2⟩
    have hbw2 := hbw1.ext hb2
    have SP := Lib.hid (spProgType_any l _ w2 hS2)
    obtain ⟨A2, c2, rfl, _, _⟩ := hS2.val
    clear hS2
    go_wp2_with fail
    refine SP.out.mono ?_
    rintro r w3 ⟨rfl, hb3⟩
    have hbw3 := hbw2.ext hb3
    clear SP
    go_wp2_with fail
    refine (TO.out _ hbw3).mono ?_
    rintro r w4 ⟨u4, rfl, hS4, hb4⟩
    have hbw4 := hbw3.ext hb4
    have IM := Lib.hid (imProgType_any l _ w4 hS4 (ENV.out _ hbw4))
    have EQ := Lib.hid (fun (w' : World) (u : Value) (h : Below w4.heap.size w4 w') (hu : SmS w' w'.heap.size u l) => eqStmtS_any l l _ u w' ((hS4.keep h (Nat.le_refl _)).more h.size) hu)
    obtain ⟨A4, c4, rfl, _, _⟩ := hS4.val
    clear hS4
    go_wp2_with fail
    refine IM.out.mono ?_
    rintro r w5 ⟨rfl, hb5⟩
    have hbw5 := hbw4.ext hb5
    clear IM
    generalize prTyp l = so at *
    go_wp2_with fail
    refine (TO.out _ hbw5).mono ?_
    rintro r w6 ⟨u6, rfl, hS6, hb6⟩
    have hbw6 := hbw5.ext hb6
    have EQ2 := Lib.hid (EQ.out _ _ (hb5.ext hb6) hS6)
    obtain ⟨A6, c6, rfl, _, _⟩ := hS6.val
    clear hS6 EQ
    go_wp2_with fail
    refine EQ2.out.mono ?_
    rintro r w7 ⟨rfl, hb7⟩
    (try rw [decide_eq_true (rfl : l = l)])
    go_wp2_with fail
    go_ret
    exact ⟨rfl, hbw6.ext hb7⟩
end Go.Proofs.YtgfdakgibjplkaaGreatDoor
