
/- The law FnProgRead: the walk. -/
import Derived.Test.YtgakjhaepdigpaaGreatDoorPg1
namespace Go.Proofs.YtgakjhaepdigpaaGreatDoor
set_option maxRecDepth 100000
set_option linter.unusedSimpArgs false
set_option linter.unusedVariables false
open Go.RowKit
attribute [local go_sem] bs_toList bs_get bs_size cS

theorem DrS.smsG {lo : Nat} {w w' : World} {u : Value} {l : List Sm} (h : DrS lo w u l) (hb : Below w.heap.size w w') : SmS w' w'.heap.size u l := (h.sms.keep hb (Nat.le_refl _)).more hb.size
set_option maxHeartbeats 4000000 in
theorem lawPRead (W : World) (v : Value) (cl : List Int) (hv : CodeV W v cl) (hM : MaxM W) (hE : EnvA W) : Calls Tryz.prog 8 #[v] W fun e w' => e = .returned (.bool true) ∧ Below W.heap.size W w' := by
  have DR := Lib.hid (drawPT_any v cl W hv)
  obtain ⟨A, c, rfl, hc, hm⟩ := hv.1.val
  clear hv
  obtain ⟨big, hb1⟩ : ∃ b, decide ((1048576 : Int) < ((cl.length : Nat) : Int)) = b := ⟨_, rfl⟩
  cases big
  rotate_left
  · clear hE hM
    go_enter Tryz.func8, Tryz.ntmps8
    go_wp2_with fail
    go_ret
    exact ⟨rfl, Below.refl _ _⟩
  have HE := Lib.hid (And.intro hM hE)
  clear hE hM
  go_enter Tryz.func8, Tryz.ntmps8
  go_wp2_with fail
  refine DR.out.mono ?_
  rintro r w1 ⟨u, l, rfl, hS, hN, hl, hbw1⟩
  have SM := Lib.hid (fun (w' : World) (h : Below w1.heap.size w1 w') => hS.smsG h)
  have TI := Lib.hid (fun (w' : World) (h : Below w1.heap.size w1 w') => imProgText_any l u w' (hS.smsG h) (HE.out.2.ext (hbw1.ext h)).env)
  have TS := Lib.hid (fun (w' : World) (h : Below w1.heap.size w1 w') => spProgText_any l u w' (hS.smsG h))
  have SO := Lib.hid (fun (w' : World) (h : Below w1.heap.size w1 w') => spProgOk_any l u w' (hS.smsG h))
  have hxl := prTxt_len l
  obtain ⟨A1, c1, rfl, hc1, hm1⟩ := hS.val
  have TL := Lib.hid (fun (w' : World) (h : Below w1.heap.size w1 w') => imTextLines_any (prTxt l) w' (by omega) (HE.out.1.ext (hbw1.ext h)))
  have RD := Lib.hid (fun (t : Bytes) (ht : t.length ≤ 100000000) (w' : World) (h : Below w1.heap.size w1 w') => imProgRead_any t w' ht (HE.out.1.ext (hbw1.ext h)) (HE.out.2.ext (hbw1.ext h)))
  have F1 := Lib.hid (fun h : progOkB l = true => (rdP_txt h).1)
  have F2 := Lib.hid (fun h : progOkB l = true => rdP_say h)
  have F3 := Lib.hid (fun h : progOkB l = true => rdP_nil h)
  have FO := Lib.hid (fun h : progOkB l = true => And.intro (all_ok h) (prOk_len h))
  have HS := Lib.hid (And.intro hS hbw1)
  clear hS hN hbw1 hb1
  unfold LnP at TL
  generalize prTxt l = tx at *
  have hte : (tx != tx) = false := by simp
  have hte2 : (tx == tx) = true := by simp
  go_wp2_with fail
  refine (TI.out _ (Below.refl _ _)).mono ?_
  rintro r w2 ⟨rfl, hb2⟩
  clear TI
  go_wp2_with fail
  refine (TS.out _ hb2).mono ?_
  rintro r w3 ⟨rfl, hb3⟩
  have hb13 := hb2.ext hb3
  go_wp2_with fail
  have S1 := Lib.hid (SO.out _ hb13)
  clear SO
  cases hok : progOkB l
  · rw [hok] at S1
    refine S1.out.mono ?_
    rintro r w4 ⟨rfl, hb4⟩
    go_wp2_with fail
    refine (TS.out _ (hb13.ext hb4)).mono ?_
    rintro r w5 ⟨rfl, hb5⟩
    go_wp2_with fail
    go_ret
    exact ⟨rfl, HS.out.2.ext ((hb13.ext hb4).ext hb5)⟩
  rw [hok] at S1
  have hL := F1.out hok
  have hsay := F2.out hok
  have hnil := F3.out hok
  obtain ⟨hall, hl16⟩ := FO.out hok
  rw [hL] at TL
  refine S1.out.mono ?_
  rintro r w4 ⟨rfl, hb4⟩
  have hb14 := hb13.ext hb4
  clear S1 F1 F2 F3 FO hL TS hb2 hb3 hb4 hb13
  have HALL := Lib.hid hall
  clear hall hok
  go_wp2_with fail
  refine (TL.out _ hb14).mono ?_
  rintro r w5 ⟨u5, rfl, hv5, hb5⟩
  obtain ⟨A5, c5, rfl, hc5, hm5⟩ := hv5.val
  have hb15 := hb14.ext hb5
  have hln : (l.map smTxt).length = l.length := List.length_map ..
  have HLN := Lib.hid hln
  have hS5 := SM.out _ hb15
  have hnn : (((l.length : Nat) : Int) != ((l.length : Nat) : Int)) = false := by simp
  rw [hln]
  clear TL hln
  go_wp2_with fail
  go_loopg [6] l.length (fun k p wr => ∃ j : Nat, k = l.length - j ∧ j ≤ l.length ∧ p = .int .i64 j ∧ Below w5.heap.size w5 wr)
  case atStart => exact ⟨0, by omega, by omega, rfl, Below.refl _ _⟩
  case round =>
    obtain ⟨j, hk, hj, rfl, hbl⟩ := hrel
    have HK := Lib.hid hk
    clear hk
    by_cases hlt : j < l.length
    · obtain ⟨b, o, s, B1, B2, d1, d2, rfl, hb, hg, hSV, f0, f1, f2, f3, f4, f5, f6, f7, f8, f9, f10⟩ := sm_at2 hS5 hlt
      obtain ⟨b', o', s', rfl, hb', hg', hx⟩ := sl_at hv5 (show j < (l.map smTxt).length by rw [HLN.out]; exact hlt)
      have x0 := fun x : Later w5.heap.size w5 => hx x 0 _ rfl
      simp only [Nat.mul_one, Nat.add_zero] at x0
      obtain rfl : s' = smTxt s := by
        rw [List.getElem?_map, hg] at hg'
        exact (Option.some.inj hg').symm
      have ST := Lib.hid (fun (y : Later w5.heap.size w5) => imStmtText_any s _ y.w' ((hSV.keep y.ok (Nat.le_refl _)).more y.ok.size) (HE.out.2.ext ((HS.out.2.ext hb15).ext y.ok)).env)
      have hso : smTxt s = if smOkB s = true then smText s else [] := rfl
      rw [← hso] at ST
      generalize smTxt s = ts at *
      have htt : (ts != ts) = false := by simp
      have h2 : j < l.length := hlt
      clear hSV hx hg hg' hso
      go_wp2_with fail
      refine wp_region_later hbl (by kernel_rfl) (by kernel_rfl) ?_
      repeat (go_big_quiet_step ((go_at_call 18; with_reducible exact later_call2 ST.out)))
      refine wpQuiet_nil ?_
      rintro _ ⟨y, rfl⟩
      have hy := y.ok
      go_wp2_with fail
      go_roundg (l.length - (j + 1))
      case measure => have := HK.out; omega
      case rel => exact ⟨j + 1, rfl, by omega, by go_num, hy⟩
    · obtain rfl : j = l.length := by omega
      have hb1r := hb15.ext hbl
      have e1 : bs tx ++ ⟨#[10, 115, 97, 121]⟩ = bs (tx ++ 10 :: cSay) := (bs_append _ _).symm
      have e2 : bs tx ++ ⟨#[10]⟩ = bs (tx ++ [10]) := (bs_append _ _).symm
      have z1 : ¬ 9223372036854775807 < tx.length + 4 := by omega
      have z2 : ¬ 9223372036854775807 < tx.length + 1 := by omega
      have R1 := Lib.hid (RD.out (tx ++ 10 :: cSay) (by simp [cSay]; omega) wr hb1r)
      have R2 := Lib.hid (fun (w' : World) (h : Below w1.heap.size w1 w') => RD.out (tx ++ [10]) (by simp; omega) w' h)
      unfold RpA at R1 R2
      rw [hsay] at R1
      rw [hnil] at R2
      have d16 : decide ((l.length : Int) < 16) = decide (l.length < 16) := by rw [Bool.eq_iff_iff]; simp; omega
      obtain ⟨q, hq⟩ : ∃ q, decide (l.length < 16) = q := ⟨_, rfl⟩
      rw [hq] at R2 d16
      clear hsay hnil RD hv5 hS5
      go_wp2_with fail
      refine R1.out.mono ?_
      rintro r w6 ⟨u6, rfl, hP6, hb6⟩
      obtain ⟨A6, n6, c6, rfl⟩ := hP6.slv
      have hb16 := hb1r.ext hb6
      clear hP6 R1 e1 z1
      go_wp2_with fail
      refine (R2.out _ hb16).mono ?_
      rintro r w7 ⟨u7, rfl, hP7, hb7⟩
      obtain ⟨A7, n7, c7, rfl⟩ := hP7.slv
      have hb17 := hb16.ext hb7
      clear hP7 R2 e2 z2
      cases q
      · have hq2 := of_decide_eq_false hq
        go_wp2_with fail
        go_ret
        exact ⟨rfl, HS.out.2.ext hb17⟩
      · have hq2 := of_decide_eq_true hq
        go_wp2_with fail
        go_ret
        exact ⟨rfl, HS.out.2.ext hb17⟩
end Go.Proofs.YtgakjhaepdigpaaGreatDoor
