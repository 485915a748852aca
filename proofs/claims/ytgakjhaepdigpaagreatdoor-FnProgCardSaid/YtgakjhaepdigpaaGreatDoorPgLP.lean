
/- The law FnProg: the walk. -/
import Derived.Test.YtgakjhaepdigpaaGreatDoorPg1
import Derived.Test.YtgakjhaepdigpaaGreatDoorStSame
namespace Go.Proofs.YtgakjhaepdigpaaGreatDoor
set_option maxRecDepth 100000
set_option linter.unusedSimpArgs false
set_option linter.unusedVariables false
open Go.RowKit
attribute [local go_sem] bs_toList bs_get bs_size cS

theorem DrS.smsH {lo : Nat} {w w' : World} {u : Value} {l : List Sm} (h : DrS lo w u l) (hb : Below w.heap.size w w') : SmS w' w'.heap.size u l := (h.sms.keep hb (Nat.le_refl _)).more hb.size
set_option maxHeartbeats 4000000 in
theorem lawPTxt (W : World) (v v2 : Value) (cl cl2 : List Int) (hv : CodeV W v cl) (hv2 : CodeV W v2 cl2) (hM : MaxM W) (hE : EnvA W) : Calls Tryz.prog 10 #[v, v2] W fun e w' => e = .returned (.bool true) ∧ Below W.heap.size W w' := by
  have DR := Lib.hid (drawPT_any v cl W hv)
  have DL := Lib.hid (fun (w' : World) (h : Below W.heap.size W w') => drawPR_any v2 cl2 w' ⟨(hv2.1.below h (Nat.le_refl _)).more h.size, hv2.2⟩)
  unfold DrewPT at DL
  obtain ⟨A, c, rfl, hc, hm⟩ := hv.1.val
  obtain ⟨A2, c2, rfl, hc2, hm2⟩ := hv2.1.val
  clear hv hv2
  obtain ⟨b1, hb1⟩ : ∃ b, decide ((1048576 : Int) < ((cl.length : Nat) : Int)) = b := ⟨_, rfl⟩
  obtain ⟨b2, hb2⟩ : ∃ b, decide ((1048576 : Int) < ((cl2.length : Nat) : Int)) = b := ⟨_, rfl⟩
  cases b1
  rotate_left
  · go_enter Tryz.func10, Tryz.ntmps10
    go_wp2_with fail
    go_ret
    exact ⟨rfl, Below.refl _ _⟩
  cases b2
  rotate_left
  · go_enter Tryz.func10, Tryz.ntmps10
    go_wp2_with fail
    go_ret
    exact ⟨rfl, Below.refl _ _⟩
  have HE := Lib.hid (And.intro hM hE)
  clear hE hM
  go_enter Tryz.func10, Tryz.ntmps10
  go_wp2_with fail
  refine DR.out.mono ?_
  rintro r w1 ⟨u, l, rfl, hS, hN, hl, hbw1⟩
  have TI := Lib.hid (imProgText_any l u w1 (hS.smsH (Below.refl _ _)) (HE.out.2.ext hbw1).env)
  have TS := Lib.hid (fun (w' : World) (h : Below w1.heap.size w1 w') => spProgText_any l u w' (hS.smsH h))
  have IO := Lib.hid (fun (w' : World) (h : Below w1.heap.size w1 w') => imProgOk_any l u w' (hS.smsH h) (HE.out.2.ext (hbw1.ext h)).env)
  have SO := Lib.hid (fun (w' : World) (h : Below w1.heap.size w1 w') => spProgOk_any l u w' (hS.smsH h))
  have hxl := prTxt_len l
  have SM := Lib.hid (fun (w' : World) (h : Below w1.heap.size w1 w') => hS.smsH h)
  obtain ⟨A1, c1, rfl, hc1, hm1⟩ := hS.val
  have RD := Lib.hid (fun (w' : World) (h : Below w1.heap.size w1 w') => imProgRead_any (prTxt l) w' (by omega) (HE.out.1.ext (hbw1.ext h)) (HE.out.2.ext (hbw1.ext h)))
  have HRD := Lib.hid (fun h : progOkB l = true => (rdP_txt h).2)
  have HW := Lib.hid hbw1
  clear hS hN hbw1 hb1 hb2 DR
  unfold RpA at RD
  generalize rdPOk (prTxt l) = ro at *
  generalize rdPs (prTxt l) = rl at *
  generalize prTxt l = tx at *
  have hte : (tx != tx) = false := by simp
  go_wp2_with fail
  refine TI.out.mono ?_
  rintro r w2 ⟨rfl, hb12⟩
  clear TI
  go_wp2_with fail
  refine (RD.out _ hb12).mono ?_
  rintro r w3 ⟨u3, rfl, hP, hb3⟩
  have hb13 := hb12.ext hb3
  have HX := Lib.hid (fun (w' : World) (h : Below w3.heap.size w3 w') => (hP.ext h).sms)
  obtain ⟨A3, c3, rfl, hc3, hm3⟩ := hP.sms.val
  clear hP RD hb3 hb12
  generalize progOkB l = po at *
  have hpp : (po != po) = false := by cases po <;> rfl
  go_wp2_with fail
  refine (TS.out _ hb13).mono ?_
  rintro r w4 ⟨rfl, hb4⟩
  have hb14 := hb13.ext hb4
  clear TS
  go_wp2_with fail
  refine (IO.out _ hb14).mono ?_
  rintro r w5 ⟨rfl, hb5⟩
  have hb15 := hb14.ext hb5
  clear IO
  go_wp2_with fail
  refine (SO.out _ hb15).mono ?_
  rintro r w6 ⟨rfl, hb6⟩
  have hb16 := hb15.ext hb6
  go_wp2_with fail
  refine (SO.out _ hb16).mono ?_
  rintro r w7 ⟨rfl, hb7⟩
  have hb17 := hb16.ext hb7
  have hb37 := ((hb4.ext hb5).ext hb6).ext hb7
  clear hb13 hb4 hb14 hb5 hb15 hb6 hb16 hb7
  cases po
  · go_wp2_with fail
    go_loopg [9] l.length (fun k p wr => ∃ j : Nat, k = l.length - j ∧ j ≤ l.length ∧ p = .int .i64 j ∧ Below w7.heap.size w7 wr)
    case atStart => exact ⟨0, by omega, by omega, rfl, Below.refl _ _⟩
    case round =>
      obtain ⟨j, hk, hj, rfl, hbl⟩ := hrel
      have hb1r := hb17.ext hbl
      clear hk
      by_cases hlt : j < l.length
      · go_wp2_with fail
        refine (SO.out _ hb1r).mono ?_
        rintro r w8 ⟨rfl, hb8⟩
        have hb18 := hb1r.ext hb8
        clear hb1r hb8 hbl
        have hbWt := HW.out.ext hb18
        clear hb18
        go_wp2_with fail
        refine (DL.out _ hbWt).mono ?_
        rintro r wa ⟨text, rfl, htx, hba⟩
        have hbWa := hbWt.ext hba
        have RI := Lib.hid (imProgRead_any text wa htx (HE.out.1.ext hbWa) (HE.out.2.ext hbWa))
        have RS := Lib.hid (fun (w' : World) => spProgRead_any text w' htx)
        have HY := Lib.hid (@rdP_back text)
        unfold RpA at RI RS
        generalize rdPOk text = fine at *
        generalize rdPs text = ys at *
        clear hbWt hba
        go_wp2_with fail
        refine RI.out.mono ?_
        rintro r wb ⟨ub, rfl, hPb, hbb⟩
        have hbWb := hbWa.ext hbb
        have YT := Lib.hid (fun (w' : World) (h : Below wb.heap.size wb w') => imProgText_any ys ub w' (hPb.ext h).sms (HE.out.2.ext (hbWb.ext h)).env)
        have YK := Lib.hid (fun (w' : World) (h : Below wb.heap.size wb w') => imProgOk_any ys ub w' (hPb.ext h).sms (HE.out.2.ext (hbWb.ext h)).env)
        obtain ⟨Ab, nb, cb, rfl⟩ := hPb.slv
        clear hPb RI hbWa hbb
        go_wp2_with fail
        refine (RS.out _).mono ?_
        rintro r wc ⟨uc, rfl, hPc, hbc⟩
        obtain ⟨Ac, nc, cc, rfl⟩ := hPc.slv
        clear hPc RS
        cases fine
        · go_wp2_with fail
          go_ret
          exact ⟨rfl, hbWb.ext hbc⟩
        · obtain ⟨hy1, hy2⟩ := HY.out rfl
          rw [hy2] at YT
          rw [hy1] at YK
          clear hy1 hy2 HY
          have htt : (text == text) = true := by simp
          go_wp2_with fail
          refine (YT.out _ hbc).mono ?_
          rintro r wd ⟨rfl, hbd⟩
          have hbbd := hbc.ext hbd
          go_wp2_with fail
          refine (YK.out _ hbbd).mono ?_
          rintro r we ⟨rfl, hbe⟩
          go_wp2_with fail
          go_ret
          exact ⟨rfl, hbWb.ext (hbbd.ext hbe)⟩
      · clear hbl
        have hbWt := HW.out.ext hb1r
        clear hb1r
        go_wp2_with fail
        refine (DL.out _ hbWt).mono ?_
        rintro r wa ⟨text, rfl, htx, hba⟩
        have hbWa := hbWt.ext hba
        have RI := Lib.hid (imProgRead_any text wa htx (HE.out.1.ext hbWa) (HE.out.2.ext hbWa))
        have RS := Lib.hid (fun (w' : World) => spProgRead_any text w' htx)
        have HY := Lib.hid (@rdP_back text)
        unfold RpA at RI RS
        generalize rdPOk text = fine at *
        generalize rdPs text = ys at *
        clear hbWt hba
        go_wp2_with fail
        refine RI.out.mono ?_
        rintro r wb ⟨ub, rfl, hPb, hbb⟩
        have hbWb := hbWa.ext hbb
        have YT := Lib.hid (fun (w' : World) (h : Below wb.heap.size wb w') => imProgText_any ys ub w' (hPb.ext h).sms (HE.out.2.ext (hbWb.ext h)).env)
        have YK := Lib.hid (fun (w' : World) (h : Below wb.heap.size wb w') => imProgOk_any ys ub w' (hPb.ext h).sms (HE.out.2.ext (hbWb.ext h)).env)
        obtain ⟨Ab, nb, cb, rfl⟩ := hPb.slv
        clear hPb RI hbWa hbb
        go_wp2_with fail
        refine (RS.out _).mono ?_
        rintro r wc ⟨uc, rfl, hPc, hbc⟩
        obtain ⟨Ac, nc, cc, rfl⟩ := hPc.slv
        clear hPc RS
        cases fine
        · go_wp2_with fail
          go_ret
          exact ⟨rfl, hbWb.ext hbc⟩
        · obtain ⟨hy1, hy2⟩ := HY.out rfl
          rw [hy2] at YT
          rw [hy1] at YK
          clear hy1 hy2 HY
          have htt : (text == text) = true := by simp
          go_wp2_with fail
          refine (YT.out _ hbc).mono ?_
          rintro r wd ⟨rfl, hbd⟩
          have hbbd := hbc.ext hbd
          go_wp2_with fail
          refine (YK.out _ hbbd).mono ?_
          rintro r we ⟨rfl, hbe⟩
          go_wp2_with fail
          go_ret
          exact ⟨rfl, hbWb.ext (hbbd.ext hbe)⟩
  · obtain ⟨rfl, rfl⟩ := HRD.out rfl
    have hnn : (((rl.length : Nat) : Int) != ((rl.length : Nat) : Int)) = false := by simp
    have hX7 := HX.out _ hb37
    have hS7 := SM.out _ hb17
    go_wp2_with fail
    go_loopg [9] rl.length (fun k p wr => ∃ j : Nat, k = rl.length - j ∧ j ≤ rl.length ∧ p = .int .i64 j ∧ Below w7.heap.size w7 wr)
    case atStart => exact ⟨0, by omega, by omega, rfl, Below.refl _ _⟩
    case round =>
      obtain ⟨j, hk, hj, rfl, hbl⟩ := hrel
      have HK := Lib.hid hk
      have hb1r := hb17.ext hbl
      clear hk
      by_cases hlt : j < rl.length
      · go_wp2_with fail
        refine (SO.out _ hb1r).mono ?_
        rintro r w8 ⟨rfl, hb8⟩
        have hbl8 := hbl.ext hb8
        obtain ⟨b, o, s, B1, B2, d1, d2, rfl, hb, hg, hSV, f0, f1, f2, f3, f4, f5, f6, f7, f8, f9, f10⟩ := sm_at2 hX7 hlt
        obtain ⟨b', o', s', B1', B2', d1', d2', rfl, hb', hg', hSV', g0, g1, g2, g3, g4, g5, g6, g7, g8, g9, g10⟩ := sm_at2 hS7 hlt
        obtain rfl : s = s' := Option.some.inj (hg.symm.trans hg')
        have SS := Lib.hid (fun (y : Later w7.heap.size w7) => imStmtSame_any s s _ _ y.w' ((hSV.keep y.ok (Nat.le_refl _)).more y.ok.size) ((hSV'.keep y.ok (Nat.le_refl _)).more y.ok.size))
        rw [decide_eq_true (rfl : s = s)] at SS
        clear hSV hSV' hg hg' hb1r hbl hb8
        go_wp2_with fail
        refine wp_region_later hbl8 (by kernel_rfl) (by kernel_rfl) ?_
        repeat (go_big_quiet_step ((go_at_call 22; with_reducible exact later_call2 SS.out)))
        refine wpQuiet_nil ?_
        rintro _ ⟨y, rfl⟩
        have hy := y.ok
        go_wp2_with fail
        go_roundg (rl.length - (j + 1))
        case measure => have := HK.out; omega
        case rel => exact ⟨j + 1, rfl, by omega, by go_num, hy⟩
      · clear hbl HK hX7 hS7
        have hbWt := HW.out.ext hb1r
        clear hb1r
        go_wp2_with fail
        refine (DL.out _ hbWt).mono ?_
        rintro r wa ⟨text, rfl, htx, hba⟩
        have hbWa := hbWt.ext hba
        have RI := Lib.hid (imProgRead_any text wa htx (HE.out.1.ext hbWa) (HE.out.2.ext hbWa))
        have RS := Lib.hid (fun (w' : World) => spProgRead_any text w' htx)
        have HY := Lib.hid (@rdP_back text)
        unfold RpA at RI RS
        generalize rdPOk text = fine at *
        generalize rdPs text = ys at *
        clear hbWt hba
        go_wp2_with fail
        refine RI.out.mono ?_
        rintro r wb ⟨ub, rfl, hPb, hbb⟩
        have hbWb := hbWa.ext hbb
        have YT := Lib.hid (fun (w' : World) (h : Below wb.heap.size wb w') => imProgText_any ys ub w' (hPb.ext h).sms (HE.out.2.ext (hbWb.ext h)).env)
        have YK := Lib.hid (fun (w' : World) (h : Below wb.heap.size wb w') => imProgOk_any ys ub w' (hPb.ext h).sms (HE.out.2.ext (hbWb.ext h)).env)
        obtain ⟨Ab, nb, cb, rfl⟩ := hPb.slv
        clear hPb RI hbWa hbb
        go_wp2_with fail
        refine (RS.out _).mono ?_
        rintro r wc ⟨uc, rfl, hPc, hbc⟩
        obtain ⟨Ac, nc, cc, rfl⟩ := hPc.slv
        clear hPc RS
        cases fine
        · go_wp2_with fail
          go_ret
          exact ⟨rfl, hbWb.ext hbc⟩
        · obtain ⟨hy1, hy2⟩ := HY.out rfl
          rw [hy2] at YT
          rw [hy1] at YK
          clear hy1 hy2 HY
          have htt : (text == text) = true := by simp
          go_wp2_with fail
          refine (YT.out _ hbc).mono ?_
          rintro r wd ⟨rfl, hbd⟩
          have hbbd := hbc.ext hbd
          go_wp2_with fail
          refine (YK.out _ hbbd).mono ?_
          rintro r we ⟨rfl, hbe⟩
          go_wp2_with fail
          go_ret
          exact ⟨rfl, hbWb.ext (hbbd.ext hbe)⟩
end Go.Proofs.YtgakjhaepdigpaaGreatDoor
