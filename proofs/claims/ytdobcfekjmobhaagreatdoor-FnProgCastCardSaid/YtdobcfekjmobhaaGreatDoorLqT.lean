
/- The law FnProgType: the walk. -/
import Derived.Test.YtdobcfekjmobhaaGreatDoorDwPQ
import Derived.Test.YtdobcfekjmobhaaGreatDoorPlans
import Derived.Test.YtdobcfekjmobhaaGreatDoorRunI
import Derived.Test.YtdobcfekjmobhaaGreatDoorPtyI
namespace Go.Proofs.YtdobcfekjmobhaaGreatDoor
set_option maxRecDepth 100000
set_option linter.unusedSimpArgs false
set_option linter.unusedVariables false
open Go.RowKit
attribute [local go_sem] bs_toList bs_get bs_size

theorem DrS.smsF {lo : Nat} {w w' : World} {u : Value} {l : List Sm} (h : DrS lo w u l) (hb : Below w.heap.size w w') : SmS w' w'.heap.size u l := (h.sms.keep hb (Nat.le_refl _)).more hb.size
theorem type_facts (l : List Sm) : (progOkB l = false ∧ prTyp l = -2 ∧ prRun l = ([], false)) ∨ (progOkB l = true ∧ prTyp l = -1 ∧ prRun l = ((prRun l).1, true) ∧ 1 ≤ l.length) ∨
    ∃ k : Nat, progOkB l = true ∧ prTyp l = k ∧ k < l.length ∧ (0 < k → prTyp (l.take k) = -1) := by
  cases h : progOkB l with
  | false => exact .inl ⟨rfl, prTyp_bad h, prRun_bad h⟩
  | true =>
    right
    rcases prTyp_range h with h1 | ⟨h1, h2⟩
    · exact .inl ⟨rfl, h1, by rw [← prRun_of_prTyp h h1], (progOkB_iff.1 h).2.1⟩
    · obtain ⟨k, hk⟩ := Int.eq_ofNat_of_zero_le h1
      have hk2 : prTyp l = (k : Int) := hk
      exact .inr ⟨k, rfl, hk2, by omega, fun h0 => prTyp_take h hk2 h0⟩
set_option maxHeartbeats 1000000 in
theorem lawPType (W : World) (v : Value) (cl : List Int) (hv : CodeV W v cl) (hE : Env W) : Calls Tryz.prog 10 #[v] W fun e w' => e = .returned (.bool true) ∧ Below W.heap.size W w' := by
  have DR := Lib.hid (drawType_any v cl W hv)
  obtain ⟨A, c, rfl, hc, hm⟩ := hv.1.val
  clear hv
  by_cases hlen : (1048576 : Int) < ((cl.length : Nat) : Int)
  · have hd : decide ((1048576 : Int) < ((cl.length : Nat) : Int)) = true := by rw [decide_eq_true_eq]; exact hlen
    go_enter Tryz.func10, Tryz.ntmps10
    go_wp2_with fail
    go_ret
    exact ⟨rfl, Below.refl _ _⟩
  have hd : decide ((1048576 : Int) < ((cl.length : Nat) : Int)) = false := by rw [decide_eq_false_iff_not]; exact hlen
  go_enter Tryz.func10, Tryz.ntmps10
  go_wp2_with fail
  refine DR.out.mono ?_
  rintro r w1 ⟨u, l, rfl, hS, hN, hl, hb1⟩
  have IT := Lib.hid (fun (w' : World) (h : Below w1.heap.size w1 w') => imProgType_any l u w' (hS.smsF h) (hE.ext (hb1.ext h)))
  have IR := Lib.hid (fun (w' : World) (h : Below w1.heap.size w1 w') => imProgRun_any l u w' (hS.smsF h) (hE.ext (hb1.ext h)))
  have SR := Lib.hid (fun (w' : World) (h : Below w1.heap.size w1 w') => spProgRun_any l u w' (hS.smsF h))
  have ST := Lib.hid (fun (w' : World) (h : Below w1.heap.size w1 w') => spProgType_any l u w' (hS.smsF h))
  have SO := Lib.hid (fun (w' : World) (h : Below w1.heap.size w1 w') => spProgOk_any l u w' (hS.smsF h))
  have FA := Lib.hid (type_facts l)
  have HW := Lib.hid hb1
  have hB1 := Below.refl w1.heap.size w1
  have HEN := Lib.hid (And.intro hE hb1)
  have HSM := Lib.hid (fun (w' : World) (h : Below w1.heap.size w1 w') => hS.smsF h)
  obtain ⟨A1, c1, rfl, hc1, hm1⟩ := hS.val
  clear hS hN hb1 hE DR
  generalize prTyp l = n at *
  generalize progOkB l = po at *
  generalize prRun l = pr at *
  obtain ⟨out, ok⟩ := pr
  rcases FA.out with ⟨rfl, rfl, h3⟩ | ⟨rfl, rfl, h3, h4⟩ | ⟨k, rfl, rfl, hk, hk0⟩
  · simp only [Prod.mk.injEq] at h3
    obtain ⟨rfl, rfl⟩ := h3
    go_wp2_with fail
    refine (IT.out _ hB1).mono ?_
    rintro r w2 ⟨rfl, hb2⟩
    have hB2 := hB1.ext hb2
    go_wp2_with fail
    refine (IR.out _ hB2).mono ?_
    rintro r w3 ⟨o3, rfl, hF3, hb3⟩
    have hB3 := hB2.ext hb3
    have HF3 := Lib.hid hF3
    obtain ⟨X3, x3, rfl, hxc3, hxm3⟩ := hF3.sl.val
    clear hF3
    go_wp2_with fail
    refine (SR.out _ hB3).mono ?_
    rintro r w4 ⟨o4, rfl, hF4, hb4⟩
    have hB4 := hB3.ext hb4
    have HF4 := Lib.hid hF4
    obtain ⟨X4, x4, rfl, hxc4, hxm4⟩ := hF4.sl.val
    clear hF4
    go_wp2_with fail
    refine (ST.out _ hB4).mono ?_
    rintro r w5 ⟨rfl, hb5⟩
    have hB5 := hB4.ext hb5
    go_wp2_with fail
    refine (SO.out _ hB5).mono ?_
    rintro r w6 ⟨rfl, hb6⟩
    have hB6 := hB5.ext hb6
    go_wp2_with fail
    go_ret
    exact ⟨rfl, HW.out.ext hB6⟩
  · simp only [Prod.mk.injEq] at h3
    obtain ⟨_, rfl⟩ := h3
    have hn1 : decide (((l.length : Nat) : Int) ≤ -1) = false := by rw [decide_eq_false_iff_not]; omega
    go_wp2_with fail
    refine (IT.out _ hB1).mono ?_
    rintro r w2 ⟨rfl, hb2⟩
    have hB2 := hB1.ext hb2
    go_wp2_with fail
    refine (IR.out _ hB2).mono ?_
    rintro r w3 ⟨o3, rfl, hF3, hb3⟩
    have hB3 := hB2.ext hb3
    have HF3 := Lib.hid hF3
    obtain ⟨X3, x3, rfl, hxc3, hxm3⟩ := hF3.sl.val
    clear hF3
    go_wp2_with fail
    refine (SR.out _ hB3).mono ?_
    rintro r w4 ⟨o4, rfl, hF4, hb4⟩
    have hB4 := hB3.ext hb4
    have HF4 := Lib.hid hF4
    obtain ⟨X4, x4, rfl, hxc4, hxm4⟩ := hF4.sl.val
    clear hF4
    go_wp2_with fail
    refine (ST.out _ hB4).mono ?_
    rintro r w5 ⟨rfl, hb5⟩
    have hB5 := hB4.ext hb5
    go_wp2_with fail
    refine (SO.out _ hB5).mono ?_
    rintro r w6 ⟨rfl, hb6⟩
    have hB6 := hB5.ext hb6
    go_wp2_with fail
    go_ret
    exact ⟨rfl, HW.out.ext hB6⟩
  · have hn1 : decide (((l.length : Nat) : Int) ≤ (k : Int)) = false := by rw [decide_eq_false_iff_not]; omega
    have hn2 : decide ((k : Int) < -1) = false := by rw [decide_eq_false_iff_not]; omega
    have hn3 : decide ((0 : Int) ≤ (k : Int)) = true := by rw [decide_eq_true_eq]; omega
    by_cases h0 : 0 < k
    · have hn4 : decide ((0 : Int) < (k : Int)) = true := by rw [decide_eq_true_eq]; omega
      have hkc : (k : Int) ≤ (c1 : Int) := by omega
      have IT2 := Lib.hid (fun (w' : World) (h : Below w1.heap.size w1 w') => imProgType_any (l.take k) (.slice A1 k c1) w' ((HSM.out w' h).take (by omega)) (HEN.out.1.ext (HEN.out.2.ext h)))
      rw [hk0 h0] at IT2
      go_wp2_with fail
      refine (IT.out _ hB1).mono ?_
      rintro r w2 ⟨rfl, hb2⟩
      have hB2 := hB1.ext hb2
      go_wp2_with fail
      refine (IR.out _ hB2).mono ?_
      rintro r w3 ⟨o3, rfl, hF3, hb3⟩
      have hB3 := hB2.ext hb3
      have HF3 := Lib.hid hF3
      obtain ⟨X3, x3, rfl, hxc3, hxm3⟩ := hF3.sl.val
      clear hF3
      go_wp2_with fail
      refine (SR.out _ hB3).mono ?_
      rintro r w4 ⟨o4, rfl, hF4, hb4⟩
      have hB4 := hB3.ext hb4
      have HF4 := Lib.hid hF4
      obtain ⟨X4, x4, rfl, hxc4, hxm4⟩ := hF4.sl.val
      clear hF4
      go_wp2_with fail
      refine (ST.out _ hB4).mono ?_
      rintro r w5 ⟨rfl, hb5⟩
      have hB5 := hB4.ext hb5
      go_wp2_with fail
      refine (SO.out _ hB5).mono ?_
      rintro r w6 ⟨rfl, hb6⟩
      have hB6 := hB5.ext hb6
      go_wp2_with fail
      refine (IT2.out _ hB6).mono ?_
      rintro r w7 ⟨rfl, hb7⟩
      have hB7 := hB6.ext hb7
      go_wp2_with fail
      go_ret
      exact ⟨rfl, HW.out.ext hB7⟩
    · obtain rfl : k = 0 := by omega
      obtain ⟨L, hL⟩ : ∃ L, l.length = L + 1 := ⟨l.length - 1, by omega⟩
      rw [hL] at IT IR SR ST SO ⊢
      clear hn1 hn2 hn3 h0 hk0 hk hc1 hl hL HSM
      go_wp2_with fail
      refine (IT.out _ hB1).mono ?_
      rintro r w2 ⟨rfl, hb2⟩
      have hB2 := hB1.ext hb2
      go_wp2_with fail
      refine (IR.out _ hB2).mono ?_
      rintro r w3 ⟨o3, rfl, hF3, hb3⟩
      have hB3 := hB2.ext hb3
      have HF3 := Lib.hid hF3
      obtain ⟨X3, x3, rfl, hxc3, hxm3⟩ := hF3.sl.val
      clear hF3
      go_wp2_with fail
      refine (SR.out _ hB3).mono ?_
      rintro r w4 ⟨o4, rfl, hF4, hb4⟩
      have hB4 := hB3.ext hb4
      have HF4 := Lib.hid hF4
      obtain ⟨X4, x4, rfl, hxc4, hxm4⟩ := hF4.sl.val
      clear hF4
      go_wp2_with fail
      refine (ST.out _ hB4).mono ?_
      rintro r w5 ⟨rfl, hb5⟩
      have hB5 := hB4.ext hb5
      go_wp2_with fail
      refine (SO.out _ hB5).mono ?_
      rintro r w6 ⟨rfl, hb6⟩
      have hB6 := hB5.ext hb6
      go_wp2_with fail
      go_ret
      exact ⟨rfl, HW.out.ext hB6⟩
end Go.Proofs.YtdobcfekjmobhaaGreatDoor
