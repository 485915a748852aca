
/- The law FnMapSame: the walk. -/
import Derived.Test.YtppefinpekhbeaaMapS
import Derived.Test.YtppefinpekhbeaaDwK
namespace Go.Proofs.Ytppefinpekhbeaa
set_option maxRecDepth 100000
set_option linter.unusedSimpArgs false
set_option linter.unusedVariables false
open Go.RowKit
attribute [local go_sem] bs_toList bs_get bs_size

theorem imMapTxt_any (v : Value) (l : List Sg) (w : World) (hv : SlS w w.heap.size v l) :
    Calls Try.prog 24 #[v] w fun e w' => e = .returned (.string (bs (mapTextL l))) ∧ Below w.heap.size w w' := by
  go_enter Try.func24, Try.ntmps24
  go_wp2_with fail
  refine (imSegsOk_any _ _ l hv).mono ?_
  rintro e w1 ⟨rfl, hE⟩
  by_cases hok : SegsOk l
  · rw [segsOkB_yes hok]
    go_wp2_with fail
    refine (imText_yes _ l _ (hv.ext hE) hok).mono ?_
    rintro e w2 ⟨rfl, hE2⟩
    go_wp2_with fail
    go_ret
    exact ⟨ret_bs (by unfold mapTextL; rw [if_pos (segsOkB_yes hok)]), hE.ext hE2⟩
  · rw [segsOkB_no hok]
    go_wp2_with fail
    go_ret
    exact ⟨ret_bs (a := []) (by unfold mapTextL; rw [if_neg (by rw [segsOkB_no hok]; decide)]), hE⟩
/-- texts compared -/
theorem eq_bs (x y : Bytes) : (x == y) = decide (x = y) := by
  by_cases h : x = y
  · subst h; simp
  · rw [decide_eq_false h]; rw [beq_eq_false_iff_ne]; exact h
theorem sg_take {w : World} {B n c k : Nat} {A : Option Addr} {l : List Sg} (h : SlS w B (.slice A n c) l) (hk : k ≤ l.length) : SlS w B (.slice A k c) (l.take k) := h.take hk
set_option maxHeartbeats 2000000 in
theorem lawMSame (W : World) (v : Value) (cl : List Int) (hv : CodeV W v cl) : Calls Try.prog 8 #[v] W fun e w' => e = .returned (.bool true) ∧ Below W.heap.size W w' := by
  have DR := Lib.hid (drawSame_any v cl W hv)
  obtain ⟨A, c, rfl, hc, hm⟩ := hv.1.val
  clear hv
  obtain ⟨b1, hb1⟩ : ∃ b, decide ((1048576 : Int) < ((cl.length : Nat) : Int)) = b := ⟨_, rfl⟩
  cases b1
  rotate_left
  · go_enter Try.func8, Try.ntmps8
    go_wp2_with fail
    go_ret
    exact ⟨rfl, Below.refl _ _⟩
  go_enter Try.func8, Try.ntmps8
  go_wp2_with fail
  refine DR.out.mono ?_
  rintro r w2 ⟨ua, ub, ma, mb, rfl, hSa, hSb, hla, hlb, hbw2⟩
  obtain ⟨Aa, ca, rfl, hca, _⟩ := hSa.val
  obtain ⟨Ab, cb, rfl, _, _⟩ := hSb.val
  have TI := Lib.hid (fun (w' : World) (h : Below w2.heap.size w2 w') => imMapTxt_any _ ma w' (hSa.ext h))
  have TS := Lib.hid (fun (w' : World) (h : Below w2.heap.size w2 w') => spText_any _ ma w' (hSa.ext h))
  have TB := Lib.hid (fun (w' : World) (h : Below w2.heap.size w2 w') => imMapTxt_any _ mb w' (hSb.ext h))
  have KA := Lib.hid (fun (w' : World) (h : Below w2.heap.size w2 w') => spSegsOk_any w' _ ma (hSa.ext h))
  have KB := Lib.hid (fun (w' : World) (h : Below w2.heap.size w2 w') => spSegsOk_any w' _ mb (hSb.ext h))
  have SS := Lib.hid (fun (w' : World) (h : Below w2.heap.size w2 w') => imSegsSame_any w' _ _ ma mb (hSa.ext h) (hSb.ext h))
  have TT := Lib.hid (fun (w' : World) (h : Below w2.heap.size w2 w') => imMapTxt_any _ (ma.take (ma.length - 1)) w' ((sg_take hSa (Nat.sub_le _ _)).ext h))
  clear hSa hSb DR hb1
  have HX0 := Lib.hid (show ∃ z, z = mapTextL ma from ⟨_, rfl⟩)
  obtain ⟨ta, hta⟩ := HX0.out
  have HTA := Lib.hid hta
  rw [← hta] at TI TS
  clear hta HX0
  have hee : (ta == ta) = true := by simp
  have hne : (ta != ta) = false := by simp
  go_wp2_with fail
  refine (TI.out _ (Below.refl _ _)).mono ?_
  rintro r w3 ⟨rfl, hb3⟩
  go_wp2_with fail
  refine (TS.out _ hb3).mono ?_
  rintro r w4 ⟨rfl, hb4⟩
  have hb24 := hb3.ext hb4
  have KA1 := Lib.hid (KA.out _ hb24)
  by_cases ha : SegsOk ma
  rotate_left
  · rw [segsOkB_no ha] at KA1
    clear ha
    go_wp2_with fail
    refine KA1.out.mono ?_
    rintro r w5 ⟨rfl, hb5⟩
    have hb25 := hb24.ext hb5
    go_wp2_with fail
    refine (TS.out _ hb25).mono ?_
    rintro r w6 ⟨rfl, hb6⟩
    go_wp2_with fail
    go_ret
    exact ⟨rfl, hbw2.ext (hb25.ext hb6)⟩
  rw [segsOkB_yes ha] at KA1
  have HA := Lib.hid ha
  clear ha
  go_wp2_with fail
  refine KA1.out.mono ?_
  rintro r w5 ⟨rfl, hb5⟩
  have hb25 := hb24.ext hb5
  have KB1 := Lib.hid (KB.out _ hb25)
  by_cases hb : SegsOk mb
  rotate_left
  · rw [segsOkB_no hb] at KB1
    clear hb
    go_wp2_with fail
    refine KB1.out.mono ?_
    rintro r w6 ⟨rfl, hb6⟩
    have hb26 := hb25.ext hb6
    go_wp2_with fail
    refine (TS.out _ hb26).mono ?_
    rintro r w7 ⟨rfl, hb7⟩
    go_wp2_with fail
    go_ret
    exact ⟨rfl, hbw2.ext (hb26.ext hb7)⟩
  rw [segsOkB_yes hb] at KB1
  have HB := Lib.hid hb
  clear hb
  go_wp2_with fail
  refine KB1.out.mono ?_
  rintro r w6 ⟨rfl, hb6⟩
  have hb26 := hb25.ext hb6
  have HX0 := Lib.hid (show ∃ z, z = mapTextL mb from ⟨_, rfl⟩)
  obtain ⟨tb, htb⟩ := HX0.out
  have HTB := Lib.hid htb
  rw [← htb] at TB
  have hcmp : (ta == tb) = decide (ma = mb) := by
    rw [eq_bs, HTA.out, htb, mapTextL_yes HA.out, mapTextL_yes HB.out]
    by_cases e : ma = mb
    · subst e; simp
    · rw [decide_eq_false e, decide_eq_false (fun h => e (textL_inj HA.out HB.out h))]
  have HX1 := Lib.hid (show ∃ z, z = mapTextL (ma.take (ma.length - 1)) from ⟨_, rfl⟩)
  obtain ⟨tt, htt⟩ := HX1.out
  rw [← htt] at TT
  have hcut : 0 < ma.length → (tt == ta) = false := by
    intro h0
    rw [eq_bs, HTA.out, htt, mapTextL_yes HA.out, mapTextL_yes (take_ok HA.out _), decide_eq_false]
    · intro h
      have := congrArg List.length (textL_inj (take_ok HA.out _) HA.out h)
      rw [List.length_take] at this
      omega
  have HCUT := Lib.hid hcut
  generalize decide (ma = mb) = dd at *
  have hdd : (dd != dd) = false := by simp
  clear hcut htt HX1 htb HX0 KA1 KB1 KA KB TI TS
  go_wp2_with fail
  refine (SS.out _ hb26).mono ?_
  rintro r w7 ⟨rfl, hb7⟩
  have hb27 := hb26.ext hb7
  go_wp2_with fail
  refine (TB.out _ hb27).mono ?_
  rintro r w8 ⟨rfl, hb8⟩
  have hb28 := hb27.ext hb8
  by_cases h0 : ma.length = 0
  · obtain rfl : ma = [] := List.length_eq_zero_iff.1 h0
    go_wp2_with fail
    go_ret
    exact ⟨rfl, hbw2.ext hb28⟩
  · have hpos : 0 < ma.length := by omega
    have hct := HCUT.out hpos
    have hct2 : (tt != ta) = true := by rw [bne, hct]; rfl
    have hne0 : (((ma.length : Nat) : Int) == 0) = false := by rw [beq_eq_false_iff_ne]; omega
    have hw : IntKind.i64.wrap ((ma.length : Int) - 1) = ((ma.length - 1 : Nat) : Int) := by rw [IntKind.wrap_i64]; omega
    have hle : ma.length - 1 ≤ ca := by omega
    have TT1 := Lib.hid (TT.out _ hb28)
    generalize ma.length - 1 = k at *
    go_wp2_with fail
    refine TT1.out.mono ?_
    rintro r w9 ⟨rfl, hb9⟩
    go_wp2_with fail
    go_ret
    exact ⟨rfl, hbw2.ext (hb28.ext hb9)⟩
end Go.Proofs.Ytppefinpekhbeaa
