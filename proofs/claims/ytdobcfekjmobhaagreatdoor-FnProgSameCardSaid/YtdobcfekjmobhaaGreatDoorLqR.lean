
/- The law FnProgRun: the walk. -/
import Derived.Test.YtdobcfekjmobhaaGreatDoorLqT
import Derived.BigQuiet
namespace Go.Proofs.YtdobcfekjmobhaaGreatDoor
set_option maxRecDepth 100000
set_option linter.unusedSimpArgs false
set_option linter.unusedVariables false
open Go.RowKit
attribute [local go_sem] bs_toList bs_get bs_size

theorem run_bad (l : List Sm) (h : progOkB l = false) : prRun l = ([], false) := prRun_bad h
/-- the place at which a program is cut -/
def cutAt (m n : Nat) : Nat := 1 + m % n
theorem cutAt_le {m n : Nat} (h : 0 < n) : cutAt m n ≤ n := by unfold cutAt; have := Nat.mod_lt m h; omega
set_option maxHeartbeats 4000000 in
theorem lawPRun (W : World) (v mv : Value) (cl ml : List Int) (hv : CodeV W v cl) (hmv : CodeV W mv ml) (hE : Env W) : Calls Tryz.prog 5 #[v, mv] W fun e w' => e = .returned (.bool true) ∧ Below W.heap.size W w' := by
  have DR := Lib.hid (drawRun_any v cl W hv)
  obtain ⟨A, c, rfl, hc, hm⟩ := hv.1.val
  obtain ⟨Am, cm, rfl, hcm, hmm⟩ := hmv.1.val
  clear hv hmv
  obtain ⟨b1, hb1⟩ : ∃ b, decide ((1048576 : Int) < ((cl.length : Nat) : Int)) = b := ⟨_, rfl⟩
  obtain ⟨b2, hb2⟩ : ∃ b, decide ((1048576 : Int) < ((ml.length : Nat) : Int)) = b := ⟨_, rfl⟩
  cases b1
  rotate_left
  · go_enter Tryz.func5, Tryz.ntmps5
    go_wp2_with fail
    go_ret
    exact ⟨rfl, Below.refl _ _⟩
  cases b2
  rotate_left
  · go_enter Tryz.func5, Tryz.ntmps5
    go_wp2_with fail
    go_ret
    exact ⟨rfl, Below.refl _ _⟩
  go_enter Tryz.func5, Tryz.ntmps5
  go_wp2_with fail
  refine DR.out.mono ?_
  rintro r w1 ⟨u, l, rfl, hS, hN, hl, hbw⟩
  have IR := Lib.hid (fun (w' : World) (h : Below w1.heap.size w1 w') => imProgRun_any l u w' (hS.smsF h) (hE.ext (hbw.ext h)))
  have SR := Lib.hid (fun (w' : World) (h : Below w1.heap.size w1 w') => spProgRun_any l u w' (hS.smsF h))
  have SO := Lib.hid (fun (w' : World) (h : Below w1.heap.size w1 w') => spProgOk_any l u w' (hS.smsF h))
  have HW := Lib.hid hbw
  have hB1 := Below.refl w1.heap.size w1
  have HEN := Lib.hid (And.intro hE hbw)
  have HSM := Lib.hid (fun (w' : World) (h : Below w1.heap.size w1 w') => hS.smsF h)
  have FB := Lib.hid (fun h : progOkB l = false => congrArg (fun x => x.1.length) (run_bad l h))
  have FG := Lib.hid (fun h : progOkB l = true => (progOkB_iff.1 h).2.1)
  have FT := Lib.hid (fun (h : progOkB l = true) => prRun_take (k := cutAt ml.length l.length) h (by unfold cutAt; omega))
  obtain ⟨A1, c1, rfl, hc1, hm1⟩ := hS.val
  have IR2 := Lib.hid (fun (hl0 : 0 < l.length) (w' : World) (h : Below w1.heap.size w1 w') => imProgRun_any (l.take (cutAt ml.length l.length)) (.slice A1 (cutAt ml.length l.length) c1) w' ((HSM.out w' h).take (cutAt_le hl0)) (HEN.out.1.ext (HEN.out.2.ext h)))
  clear hS hN hbw hE DR hb1 hb2
  generalize progOkB l = po at *
  generalize prRun l = pr at *
  generalize prRun (l.take (cutAt ml.length l.length)) = pr2 at *
  obtain ⟨out, ok⟩ := pr
  obtain ⟨o1, f1⟩ := pr2
  go_wp2_with fail
  refine (IR.out _ hB1).mono ?_
  rintro r w2 ⟨o2, rfl, hF2, hb2⟩
  have hB2 := hB1.ext hb2
  have HF2 := Lib.hid hF2
  obtain ⟨X2, x2, rfl, hxc2, hxm2⟩ := hF2.sl.val
  clear hF2
  go_wp2_with fail
  refine (SR.out _ hB2).mono ?_
  rintro r w3 ⟨o3, rfl, hF3, hb3⟩
  have hB3 := hB2.ext hb3
  have HF3 := Lib.hid hF3
  obtain ⟨X3, x3, rfl, hxc3, hxm3⟩ := hF3.sl.val
  clear hF3
  go_wp2_with fail
  have HO2 := Lib.hid ((HF2.out.ext hb3).sl)
  have HO3 := Lib.hid (HF3.out.sl)
  go_loopg [10] out.length (fun k i wr => ∃ j : Nat, k = out.length - j ∧ j ≤ out.length ∧ i = .int .i64 j ∧ Below w3.heap.size w3 wr)
  case atStart => exact ⟨0, by omega, by omega, rfl, Below.refl _ _⟩
  case round =>
    obtain ⟨j, hk, hj, rfl, hbl⟩ := hrel
    have HK := Lib.hid hk
    clear hk
    by_cases hlt : j < out.length
    · have hdl : decide (((j : Nat) : Int) < ((out.length : Nat) : Int)) = true := by rw [decide_eq_true_eq]; omega
      obtain ⟨q2, p2, x, rfl, hq2, hgx, fx⟩ := num_at HO2.out hlt
      obtain ⟨q3, p3, y, rfl, hq3, hgy, fy⟩ := num_at HO3.out hlt
      obtain rfl : x = y := Option.some.inj (hgx.symm.trans hgy)
      have gx := fx ⟨wr, hbl⟩
      have gy := fy ⟨wr, hbl⟩
      clear fx fy hgx hgy
      go_wp2_with fail
      go_quiet (fail)
      go_wp2_with fail
      go_roundg (out.length - (j + 1))
      case measure => have := HK.out; omega
      case rel => exact ⟨j + 1, rfl, by omega, by go_num, below_drewN hbl _⟩
    · have hdl : decide (((j : Nat) : Int) < ((out.length : Nat) : Int)) = false := by rw [decide_eq_false_iff_not]; omega
      obtain rfl : j = out.length := by omega
      have hB4 := hB3.ext hbl
      clear hlt hj HK
      go_wp2_with fail
      refine (SO.out _ hB4).mono ?_
      rintro r w5 ⟨rfl, hb5⟩
      have hB5 := hB4.ext hb5
      have hbl5 := hbl.ext hb5
      cases po
      · have e0 := FB.out rfl
        simp only [List.length_nil] at e0
        rw [List.length_eq_zero_iff] at e0
        subst e0
        go_wp2_with fail
        go_ret
        exact ⟨rfl, HW.out.ext hB5⟩
      · have hl1 := FG.out rfl
        obtain ⟨t, h1, h2, h3⟩ := FT.out rfl
        have h1' : out = o1 ++ t := h1
        have h2' : ok = true → f1 = true := h2
        have h3' : f1 = false → t = [] := h3
        have HOUT := Lib.hid h1'
        have hcut := cutAt_le (m := ml.length) (n := l.length) (by omega)
        have q1 : ((ml.length : Nat) : Int).tmod ((l.length : Nat) : Int) = ((ml.length % l.length : Nat) : Int) := by rw [Int.tmod_eq_emod_of_nonneg (by omega)]; rfl
        have q2 : IntKind.i64.wrap (1 + ((ml.length % l.length : Nat) : Int)) = ((cutAt ml.length l.length : Nat) : Int) := by unfold cutAt; rw [IntKind.wrap_i64]; have := Nat.mod_lt ml.length (show 0 < l.length by omega); omega
        have q2' : (1 + ((ml.length % l.length : Nat) : Int)) = ((cutAt ml.length l.length : Nat) : Int) := by unfold cutAt; omega
        have q3 : (((l.length : Nat) : Int) == 0) = false := by simp; intro e; rw [e] at hl1; simp at hl1
        have IR3 := Lib.hid (IR2.out (by omega))
        have hcc : ((cutAt ml.length l.length : Nat) : Int) ≤ (c1 : Int) := by omega
        have hc0 : (0 : Int) ≤ ((cutAt ml.length l.length : Nat) : Int) := by omega
        have hlen : decide (((out.length : Nat) : Int) < ((o1.length : Nat) : Int)) = false := by rw [decide_eq_false_iff_not, h1', List.length_append]; omega
        have hln : ¬ (out.length < o1.length) := by rw [h1', List.length_append]; omega
        have hln2 : decide (out.length < o1.length) = false := by rw [decide_eq_false_iff_not]; exact hln
        have HL1 := Lib.hid hl1
        clear h1 h2 h3 h1' hl1 FT FG FB IR2
        generalize cutAt ml.length l.length = kc at *
        generalize ml.length % l.length = km at *
        cases f1
        · obtain rfl : ok = false := by cases ok with | true => exact absurd (h2' rfl) (by simp) | false => rfl
          have e1 : o1 = out := by rw [HOUT.out, h3' rfl, List.append_nil]
          subst e1
          clear h2' h3' hlen hln hln2
          go_wp2_with fail
          refine (IR3.out _ hB5).mono ?_
          rintro r w6 ⟨o6, rfl, hF6, hb6⟩
          have hB6 := hB5.ext hb6
          have hbl6 := hbl5.ext hb6
          have HO6 := Lib.hid hF6.sl
          have HO2' := Lib.hid ((HF2.out.ext hb3).ext hbl6).sl
          obtain ⟨X6, x6, rfl, hxc6, hxm6⟩ := hF6.sl.val
          clear hF6
          go_wp2_with fail
          go_loopg [14] o1.length (fun k i wr => ∃ j : Nat, k = o1.length - j ∧ j ≤ o1.length ∧ i = .int .i64 j ∧ Below w6.heap.size w6 wr)
          case atStart => exact ⟨0, by omega, by omega, rfl, Below.refl _ _⟩
          case round =>
            obtain ⟨j6, hk6, hj6, rfl, hbl7⟩ := hrel
            have HK6 := Lib.hid hk6
            clear hk6
            by_cases hlt6 : j6 < o1.length
            · have hdl6 : decide (((j6 : Nat) : Int) < ((o1.length : Nat) : Int)) = true := by rw [decide_eq_true_eq]; omega
              have hgq : o1[j6]? = o1[j6]? := rfl
              have hlo : j6 < o1.length := (List.getElem?_eq_some_iff.1 (hgq.trans (List.getElem?_eq_getElem hlt6))).1
              obtain ⟨qa, pa, x, rfl, hqa, hgx, fx⟩ := num_at HO6.out hlt6
              obtain ⟨qb, pb, y, rfl, hqb, hgy, fy⟩ := num_at HO2'.out hlo
              obtain rfl : x = y := Option.some.inj (hgx.symm.trans (hgq.symm.trans hgy))
              have gx := fx ⟨_, hbl7⟩
              have gy := fy ⟨_, hbl7⟩
              clear fx fy hgx hgy hgq
              go_wp2_with fail
              go_quiet (fail)
              go_wp2_with fail
              go_roundg (o1.length - (j6 + 1))
              case measure => have := HK6.out; omega
              case rel => exact ⟨j6 + 1, rfl, by omega, by go_num, below_drewN hbl7 _⟩
            · have hdl6 : decide (((j6 : Nat) : Int) < ((o1.length : Nat) : Int)) = false := by rw [decide_eq_false_iff_not]; omega
              clear HK6
              go_wp2_with fail
              go_ret
              exact ⟨rfl, HW.out.ext (hB6.ext hbl7)⟩
        · clear h2' h3'
          obtain ⟨bk, hbk⟩ : ∃ b, ok = b := ⟨_, rfl⟩
          cases ok
          all_goals
            clear hbk
            go_wp2_with fail
            refine (IR3.out _ hB5).mono ?_
            rintro r w6 ⟨o6, rfl, hF6, hb6⟩
            have hB6 := hB5.ext hb6
            have hbl6 := hbl5.ext hb6
            have HO6 := Lib.hid hF6.sl
            have HO2' := Lib.hid ((HF2.out.ext hb3).ext hbl6).sl
            obtain ⟨X6, x6, rfl, hxc6, hxm6⟩ := hF6.sl.val
            clear hF6
            go_wp2_with fail
            go_loopg [14] o1.length (fun k i wr => ∃ j : Nat, k = o1.length - j ∧ j ≤ o1.length ∧ i = .int .i64 j ∧ Below w6.heap.size w6 wr)
            case atStart => exact ⟨0, by omega, by omega, rfl, Below.refl _ _⟩
            case round =>
              obtain ⟨j6, hk6, hj6, rfl, hbl7⟩ := hrel
              have HK6 := Lib.hid hk6
              clear hk6
              by_cases hlt6 : j6 < o1.length
              · have hdl6 : decide (((j6 : Nat) : Int) < ((o1.length : Nat) : Int)) = true := by rw [decide_eq_true_eq]; omega
                have hgq : out[j6]? = o1[j6]? := (by rw [HOUT.out, List.getElem?_append_left hlt6])
                have hlo : j6 < out.length := (List.getElem?_eq_some_iff.1 (hgq.trans (List.getElem?_eq_getElem hlt6))).1
                obtain ⟨qa, pa, x, rfl, hqa, hgx, fx⟩ := num_at HO6.out hlt6
                obtain ⟨qb, pb, y, rfl, hqb, hgy, fy⟩ := num_at HO2'.out hlo
                obtain rfl : x = y := Option.some.inj (hgx.symm.trans (hgq.symm.trans hgy))
                have gx := fx ⟨_, hbl7⟩
                have gy := fy ⟨_, hbl7⟩
                clear fx fy hgx hgy hgq
                go_wp2_with fail
                go_quiet (fail)
                go_wp2_with fail
                go_roundg (o1.length - (j6 + 1))
                case measure => have := HK6.out; omega
                case rel => exact ⟨j6 + 1, rfl, by omega, by go_num, below_drewN hbl7 _⟩
              · have hdl6 : decide (((j6 : Nat) : Int) < ((o1.length : Nat) : Int)) = false := by rw [decide_eq_false_iff_not]; omega
                clear HK6
                go_wp2_with fail
                go_ret
                exact ⟨rfl, HW.out.ext (hB6.ext hbl7)⟩
end Go.Proofs.YtdobcfekjmobhaaGreatDoor
