
/- The law FnMap: the walk. -/
import Derived.Test.YtgfbjpmbaibnoaaGreatDoorZm9
import Derived.Test.YtgfbjpmbaibnoaaGreatDoorZm6
import Derived.Test.YtgfbjpmbaibnoaaGreatDoorMapRdI
namespace Go.Proofs.YtgfbjpmbaibnoaaGreatDoor
set_option maxRecDepth 100000
set_option linter.unusedSimpArgs false
set_option linter.unusedVariables false
open Go.RowKit
attribute [local go_sem] bs_toList bs_get bs_size

set_option maxHeartbeats 2000000 in
theorem lawMMap (W : World) (v v2 : Value) (cl cl2 : List Int) (hv : CodeV W v cl) (hv2 : CodeV W v2 cl2) (hM : MaxM W) : Calls Tryz.prog 10 #[v, v2] W fun e w' => e = .returned (.bool true) ∧ Below W.heap.size W w' := by
  have DR := Lib.hid (drawMText_any v cl W hv)
  have D2 := Lib.hid (fun (w' : World) (h : Below W.heap.size W w') => drawMRead_any v2 cl2 w' (hv2.later h))
  have DS := Lib.hid (fun (w' : World) (h : Below W.heap.size W w') => drawSame_any v cl w' (hv.later h))
  obtain ⟨A, c, rfl, hc, hm⟩ := hv.1.val
  obtain ⟨A2, c2, rfl, hc2, hm2⟩ := hv2.1.val
  clear hv hv2
  have HMX := Lib.hid hM
  clear hM
  obtain ⟨b1, hb1⟩ : ∃ b, decide ((1048576 : Int) < ((cl.length : Nat) : Int)) = b := ⟨_, rfl⟩
  obtain ⟨b2, hb2⟩ : ∃ b, decide ((1048576 : Int) < ((cl2.length : Nat) : Int)) = b := ⟨_, rfl⟩
  cases b1
  rotate_left
  · go_enter Tryz.func10, Tryz.ntmps10
    go_wp2_with fail
    go_ret
    exact ⟨rfl, Below.refl _ _⟩
  cases b2
  rotate_left
  · go_enter Tryz.func10, Tryz.ntmps10
    go_wp2_with fail
    go_ret
    exact ⟨rfl, Below.refl _ _⟩
  go_enter Tryz.func10, Tryz.ntmps10
  go_wp2_with fail
  refine DR.out.mono ?_
  rintro r w1 ⟨u, m, rfl, hG, hml, hbw1⟩
  have hS := hG.sl (fun _ => rfl)
  obtain ⟨Au, cu, rfl, _, _⟩ := hG.val
  have TI := Lib.hid (imMapTxt_any _ m w1 hS)
  have TS := Lib.hid (fun (w' : World) (h : Below w1.heap.size w1 w') => spText_any _ m w' (hS.ext h))
  have KI := Lib.hid (fun (w' : World) (h : Below w1.heap.size w1 w') => imSegsOk_any w' _ m (hS.ext h))
  have KS := Lib.hid (fun (w' : World) (h : Below w1.heap.size w1 w') => spSegsOk_any w' _ m (hS.ext h))
  have RI := Lib.hid (fun (s : Bytes) (w' : World) (hs : s.length ≤ 100000000) (h : Below w1.heap.size w1 w') => imMapRead_any s w' hs (HMX.out.ext (hbw1.ext h)))
  have SS := Lib.hid (fun (x : Value) (l : List Sg) (w' : World) (h : Below w1.heap.size w1 w') (hx : SlS w' w'.heap.size x l) => imSegsSame_any w' x _ l m hx (hS.ext h))
  have htl := mapTextL_len m
  have CI := Lib.hid (RI.out (mapTextL m))
  have HT := Lib.hid (fun (h : SegsOk m) (hl : (mapTextL m).length ≤ 20000) => rdMap_text h hl)
  unfold MrP at CI
  unfold rdMapL rdMapB at CI
  generalize mapTextL m = tx at *
  generalize rdMap tx = rd at *
  have htt : (tx != tx) = false := by simp
  clear hG DR hb1 hb2
  go_wp2_with fail
  refine TI.out.mono ?_
  rintro r w2 ⟨rfl, hb2⟩
  go_wp2_with fail
  refine (CI.out w2 (by omega) hb2).mono ?_
  rintro r w3 ⟨x3, rfl, hF3, hb3⟩
  have hb13 := hb2.ext hb3
  have hS3 := hF3.sl
  obtain ⟨A3, c3, rfl, _, _⟩ := hS3.val
  clear hF3 hS
  by_cases hok : SegsOk m
  · by_cases hlen : tx.length ≤ 20000
    · have hrd := HT.out hok hlen
      subst hrd
      have hd : decide (((tx.length : Nat) : Int) ≤ 20000) = true := by rw [decide_eq_true_eq]; omega
      rw [segsOkB_yes hok] at KI KS
      rw [Option.getD_some] at hS3
      have SS3 := Lib.hid (fun (w' : World) (h : Below w3.heap.size w3 w') => decide_eq_true (rfl : m = m) ▸ SS.out _ m w' (hb13.ext h) (hS3.ext h))
      clear HT hok hS3
      go_wp2_with fail
      refine (TS.out _ hb13).mono ?_
      rintro r w4 ⟨rfl, hb4⟩
      have hb14 := hb13.ext hb4
      go_wp2_with fail
      refine (KI.out _ hb14).mono ?_
      rintro r w5 ⟨rfl, hb5⟩
      have hb15 := hb14.ext hb5
      go_wp2_with fail
      refine (KS.out _ hb15).mono ?_
      rintro r w6 ⟨rfl, hb6⟩
      have hb16 := hb15.ext hb6
      go_wp2_with fail
      refine (KS.out _ hb16).mono ?_
      rintro r w7 ⟨rfl, hb7⟩
      have hb17 := hb16.ext hb7
      go_wp2_with fail
      refine (SS3.out _ (hb4.ext (hb5.ext (hb6.ext hb7)))).mono ?_
      rintro r w8 ⟨rfl, hb8⟩
      have hb18 := hb17.ext hb8
      clear SS3
      clear CI TS KI KS SS
      go_wp2_with fail
      refine (D2.out _ (hbw1.ext hb18)).mono ?_
      rintro r wa ⟨t, rfl, htl2, hba⟩
      have hb1a := hb18.ext hba
      have CIt := Lib.hid (fun (w' : World) (h : Below w1.heap.size w1 w') => RI.out t w' htl2 h)
      have CSt := Lib.hid (fun (w' : World) => spMapRead_any t w' htl2)
      have HT2 := Lib.hid (rdMapB_text (s := t))
      unfold MrP at CIt CSt
      generalize rdMapL t = M at *
      generalize rdMapB t = fine at *
      clear RI htl2
      have hff : (fine == fine) = true := by simp
      have hte : (t == t) = true := by simp
      go_wp2_with fail
      refine (CIt.out _ hb1a).mono ?_
      rintro r wb ⟨xb, rfl, hFb, hbb⟩
      have hb1b := hb1a.ext hbb
      have hSb := hFb.sl
      obtain ⟨Ab, cb, rfl, _, _⟩ := hSb.val
      clear hFb
      go_wp2_with fail
      refine (CSt.out _).mono ?_
      rintro r wc ⟨xc, rfl, hFc, hbc⟩
      have hb1c := hb1b.ext hbc
      have hSc := hFc.sl
      obtain ⟨Ac, cc, rfl, _, _⟩ := hSc.val
      clear hFc hSc
      have hSbc := hSb.ext hbc
      clear hSb
      go_wp2_with fail
      refine (DS.out _ (hbw1.ext hb1c)).mono ?_
      rintro r wd ⟨ua, ub, ma, mb, rfl, hSa, hSm, hla, hlb, hbd⟩
      obtain ⟨Aa, ca, rfl, hca, _⟩ := hSa.val
      obtain ⟨Am, cm, rfl, _, _⟩ := hSm.val
      have hb1d := hb1c.ext hbd
      have hSbd := hSbc.ext hbd
      have S1 := Lib.hid (fun (w' : World) (h : Below wd.heap.size wd w') => imSegsSame_any w' _ _ ma mb (hSa.ext h) (hSm.ext h))
      have S2 := Lib.hid (fun (w' : World) (h : Below wd.heap.size wd w') => spSegsSame_any w' _ _ ma mb (hSa.ext h) (hSm.ext h))
      generalize decide (ma = mb) = dd at *
      have hdd : (dd == dd) = true := by simp
      clear hSa hSm hSbc CIt CSt D2 DS
      cases fine
      · clear HT2 hSbd
        go_wp2_with fail
        refine (S1.out _ (Below.refl _ _)).mono ?_
        rintro r we ⟨rfl, hbe⟩
        go_wp2_with fail
        refine (S2.out _ hbe).mono ?_
        rintro r wf ⟨rfl, hbf⟩
        go_wp2_with fail
        go_ret
        exact ⟨rfl, hbw1.ext (hb1d.ext (hbe.ext hbf))⟩
      · obtain ⟨hk, hkt⟩ := HT2.out rfl
        have T3 := Lib.hid (hkt ▸ imMapTxt_any _ M wd hSbd)
        have K3 := Lib.hid (fun (w' : World) (h : Below wd.heap.size wd w') => segsOkB_yes hk ▸ imSegsOk_any w' _ M (hSbd.ext h))
        clear HT2 hk hkt hSbd
        go_wp2_with fail
        refine T3.out.mono ?_
        rintro r we ⟨rfl, hbe⟩
        go_wp2_with fail
        refine (K3.out _ hbe).mono ?_
        rintro r wf ⟨rfl, hbf⟩
        have hbdf := hbe.ext hbf
        go_wp2_with fail
        refine (S1.out _ hbdf).mono ?_
        rintro r wg ⟨rfl, hbg⟩
        have hbdg := hbdf.ext hbg
        go_wp2_with fail
        refine (S2.out _ hbdg).mono ?_
        rintro r wh ⟨rfl, hbh⟩
        go_wp2_with fail
        go_ret
        exact ⟨rfl, hbw1.ext (hb1d.ext (hbdg.ext hbh))⟩
    · have hd : decide (((tx.length : Nat) : Int) ≤ 20000) = false := by rw [decide_eq_false_iff_not]; omega
      rw [segsOkB_yes hok] at KI KS
      clear HT hok hS3
      generalize (rd.getD []).length = n3 at *
      generalize rd.isSome = o3 at *
      go_wp2_with fail
      refine (TS.out _ hb13).mono ?_
      rintro r w4 ⟨rfl, hb4⟩
      have hb14 := hb13.ext hb4
      go_wp2_with fail
      refine (KI.out _ hb14).mono ?_
      rintro r w5 ⟨rfl, hb5⟩
      have hb15 := hb14.ext hb5
      go_wp2_with fail
      refine (KS.out _ hb15).mono ?_
      rintro r w6 ⟨rfl, hb6⟩
      have hb16 := hb15.ext hb6
      go_wp2_with fail
      refine (KS.out _ hb16).mono ?_
      rintro r w7 ⟨rfl, hb7⟩
      have hb17 := hb16.ext hb7
      clear CI TS KI KS SS
      go_wp2_with fail
      refine (D2.out _ (hbw1.ext hb17)).mono ?_
      rintro r wa ⟨t, rfl, htl2, hba⟩
      have hb1a := hb17.ext hba
      have CIt := Lib.hid (fun (w' : World) (h : Below w1.heap.size w1 w') => RI.out t w' htl2 h)
      have CSt := Lib.hid (fun (w' : World) => spMapRead_any t w' htl2)
      have HT2 := Lib.hid (rdMapB_text (s := t))
      unfold MrP at CIt CSt
      generalize rdMapL t = M at *
      generalize rdMapB t = fine at *
      clear RI htl2
      have hff : (fine == fine) = true := by simp
      have hte : (t == t) = true := by simp
      go_wp2_with fail
      refine (CIt.out _ hb1a).mono ?_
      rintro r wb ⟨xb, rfl, hFb, hbb⟩
      have hb1b := hb1a.ext hbb
      have hSb := hFb.sl
      obtain ⟨Ab, cb, rfl, _, _⟩ := hSb.val
      clear hFb
      go_wp2_with fail
      refine (CSt.out _).mono ?_
      rintro r wc ⟨xc, rfl, hFc, hbc⟩
      have hb1c := hb1b.ext hbc
      have hSc := hFc.sl
      obtain ⟨Ac, cc, rfl, _, _⟩ := hSc.val
      clear hFc hSc
      have hSbc := hSb.ext hbc
      clear hSb
      go_wp2_with fail
      refine (DS.out _ (hbw1.ext hb1c)).mono ?_
      rintro r wd ⟨ua, ub, ma, mb, rfl, hSa, hSm, hla, hlb, hbd⟩
      obtain ⟨Aa, ca, rfl, hca, _⟩ := hSa.val
      obtain ⟨Am, cm, rfl, _, _⟩ := hSm.val
      have hb1d := hb1c.ext hbd
      have hSbd := hSbc.ext hbd
      have S1 := Lib.hid (fun (w' : World) (h : Below wd.heap.size wd w') => imSegsSame_any w' _ _ ma mb (hSa.ext h) (hSm.ext h))
      have S2 := Lib.hid (fun (w' : World) (h : Below wd.heap.size wd w') => spSegsSame_any w' _ _ ma mb (hSa.ext h) (hSm.ext h))
      generalize decide (ma = mb) = dd at *
      have hdd : (dd == dd) = true := by simp
      clear hSa hSm hSbc CIt CSt D2 DS
      cases fine
      · clear HT2 hSbd
        go_wp2_with fail
        refine (S1.out _ (Below.refl _ _)).mono ?_
        rintro r we ⟨rfl, hbe⟩
        go_wp2_with fail
        refine (S2.out _ hbe).mono ?_
        rintro r wf ⟨rfl, hbf⟩
        go_wp2_with fail
        go_ret
        exact ⟨rfl, hbw1.ext (hb1d.ext (hbe.ext hbf))⟩
      · obtain ⟨hk, hkt⟩ := HT2.out rfl
        have T3 := Lib.hid (hkt ▸ imMapTxt_any _ M wd hSbd)
        have K3 := Lib.hid (fun (w' : World) (h : Below wd.heap.size wd w') => segsOkB_yes hk ▸ imSegsOk_any w' _ M (hSbd.ext h))
        clear HT2 hk hkt hSbd
        go_wp2_with fail
        refine T3.out.mono ?_
        rintro r we ⟨rfl, hbe⟩
        go_wp2_with fail
        refine (K3.out _ hbe).mono ?_
        rintro r wf ⟨rfl, hbf⟩
        have hbdf := hbe.ext hbf
        go_wp2_with fail
        refine (S1.out _ hbdf).mono ?_
        rintro r wg ⟨rfl, hbg⟩
        have hbdg := hbdf.ext hbg
        go_wp2_with fail
        refine (S2.out _ hbdg).mono ?_
        rintro r wh ⟨rfl, hbh⟩
        go_wp2_with fail
        go_ret
        exact ⟨rfl, hbw1.ext (hb1d.ext (hbdg.ext hbh))⟩
  · rw [segsOkB_no hok] at KI KS
    clear HT hok hS3
    generalize (rd.getD []).length = n3 at *
    generalize rd.isSome = o3 at *
    go_wp2_with fail
    refine (TS.out _ hb13).mono ?_
    rintro r w4 ⟨rfl, hb4⟩
    have hb14 := hb13.ext hb4
    go_wp2_with fail
    refine (KI.out _ hb14).mono ?_
    rintro r w5 ⟨rfl, hb5⟩
    have hb15 := hb14.ext hb5
    go_wp2_with fail
    refine (KS.out _ hb15).mono ?_
    rintro r w6 ⟨rfl, hb6⟩
    have hb16 := hb15.ext hb6
    go_wp2_with fail
    refine (KS.out _ hb16).mono ?_
    rintro r w7 ⟨rfl, hb7⟩
    have hb17 := hb16.ext hb7
    clear CI TS KI KS SS
    go_wp2_with fail
    refine (D2.out _ (hbw1.ext hb17)).mono ?_
    rintro r wa ⟨t, rfl, htl2, hba⟩
    have hb1a := hb17.ext hba
    have CIt := Lib.hid (fun (w' : World) (h : Below w1.heap.size w1 w') => RI.out t w' htl2 h)
    have CSt := Lib.hid (fun (w' : World) => spMapRead_any t w' htl2)
    have HT2 := Lib.hid (rdMapB_text (s := t))
    unfold MrP at CIt CSt
    generalize rdMapL t = M at *
    generalize rdMapB t = fine at *
    clear RI htl2
    have hff : (fine == fine) = true := by simp
    have hte : (t == t) = true := by simp
    go_wp2_with fail
    refine (CIt.out _ hb1a).mono ?_
    rintro r wb ⟨xb, rfl, hFb, hbb⟩
    have hb1b := hb1a.ext hbb
    have hSb := hFb.sl
    obtain ⟨Ab, cb, rfl, _, _⟩ := hSb.val
    clear hFb
    go_wp2_with fail
    refine (CSt.out _).mono ?_
    rintro r wc ⟨xc, rfl, hFc, hbc⟩
    have hb1c := hb1b.ext hbc
    have hSc := hFc.sl
    obtain ⟨Ac, cc, rfl, _, _⟩ := hSc.val
    clear hFc hSc
    have hSbc := hSb.ext hbc
    clear hSb
    go_wp2_with fail
    refine (DS.out _ (hbw1.ext hb1c)).mono ?_
    rintro r wd ⟨ua, ub, ma, mb, rfl, hSa, hSm, hla, hlb, hbd⟩
    obtain ⟨Aa, ca, rfl, hca, _⟩ := hSa.val
    obtain ⟨Am, cm, rfl, _, _⟩ := hSm.val
    have hb1d := hb1c.ext hbd
    have hSbd := hSbc.ext hbd
    have S1 := Lib.hid (fun (w' : World) (h : Below wd.heap.size wd w') => imSegsSame_any w' _ _ ma mb (hSa.ext h) (hSm.ext h))
    have S2 := Lib.hid (fun (w' : World) (h : Below wd.heap.size wd w') => spSegsSame_any w' _ _ ma mb (hSa.ext h) (hSm.ext h))
    generalize decide (ma = mb) = dd at *
    have hdd : (dd == dd) = true := by simp
    clear hSa hSm hSbc CIt CSt D2 DS
    cases fine
    · clear HT2 hSbd
      go_wp2_with fail
      refine (S1.out _ (Below.refl _ _)).mono ?_
      rintro r we ⟨rfl, hbe⟩
      go_wp2_with fail
      refine (S2.out _ hbe).mono ?_
      rintro r wf ⟨rfl, hbf⟩
      go_wp2_with fail
      go_ret
      exact ⟨rfl, hbw1.ext (hb1d.ext (hbe.ext hbf))⟩
    · obtain ⟨hk, hkt⟩ := HT2.out rfl
      have T3 := Lib.hid (hkt ▸ imMapTxt_any _ M wd hSbd)
      have K3 := Lib.hid (fun (w' : World) (h : Below wd.heap.size wd w') => segsOkB_yes hk ▸ imSegsOk_any w' _ M (hSbd.ext h))
      clear HT2 hk hkt hSbd
      go_wp2_with fail
      refine T3.out.mono ?_
      rintro r we ⟨rfl, hbe⟩
      go_wp2_with fail
      refine (K3.out _ hbe).mono ?_
      rintro r wf ⟨rfl, hbf⟩
      have hbdf := hbe.ext hbf
      go_wp2_with fail
      refine (S1.out _ hbdf).mono ?_
      rintro r wg ⟨rfl, hbg⟩
      have hbdg := hbdf.ext hbg
      go_wp2_with fail
      refine (S2.out _ hbdg).mono ?_
      rintro r wh ⟨rfl, hbh⟩
      go_wp2_with fail
      go_ret
      exact ⟨rfl, hbw1.ext (hb1d.ext (hbdg.ext hbh))⟩
end Go.Proofs.YtgfbjpmbaibnoaaGreatDoor
