
/- The law FnMapThree: the walk. -/
import Derived.Test.YtppefinpekhbeaaMlL
namespace Go.Proofs.Ytppefinpekhbeaa
set_option maxRecDepth 100000
set_option linter.unusedSimpArgs false
set_option linter.unusedVariables false
open Go.RowKit
attribute [local go_sem] bs_toList bs_get bs_size

theorem CodeV.later {w w' : World} {v : Value} {l : List Int} (h : CodeV w v l) (hb : Below w.heap.size w w') : CodeV w' v l := ⟨(h.1.below hb (Nat.le_refl _)).more hb.size, h.2⟩
set_option maxHeartbeats 1000000 in
theorem lawMThree (W : World) (v v2 : Value) (cl cl2 : List Int) (hv : CodeV W v cl) (hv2 : CodeV W v2 cl2) : Calls Try.prog 6 #[v, v2] W fun e w' => e = .returned (.bool true) ∧ Below W.heap.size W w' := by
  have DR := Lib.hid (drawJoin_any v cl W hv)
  have DR2 := Lib.hid (fun (w' : World) (h : Below W.heap.size W w') => drawJoin_any v2 cl2 w' (hv2.later h))
  obtain ⟨A, c, rfl, hc, hm⟩ := hv.1.val
  obtain ⟨A2, c2, rfl, hc2, hm2⟩ := hv2.1.val
  clear hv hv2
  obtain ⟨b1, hb1⟩ : ∃ b, decide ((1048576 : Int) < ((cl.length : Nat) : Int)) = b := ⟨_, rfl⟩
  obtain ⟨b2, hb2⟩ : ∃ b, decide ((1048576 : Int) < ((cl2.length : Nat) : Int)) = b := ⟨_, rfl⟩
  cases b1
  rotate_left
  · go_enter Try.func6, Try.ntmps6
    go_wp2_with fail
    go_ret
    exact ⟨rfl, Below.refl _ _⟩
  cases b2
  rotate_left
  · go_enter Try.func6, Try.ntmps6
    go_wp2_with fail
    go_ret
    exact ⟨rfl, Below.refl _ _⟩
  go_enter Try.func6, Try.ntmps6
  go_wp2_with fail
  refine DR.out.mono ?_
  rintro r w1 ⟨ua, ub, ma, mb, rfl, hGa, hGb, hla, hlb, hbw1⟩
  go_wp2_with fail
  refine (DR2.out _ hbw1).mono ?_
  rintro r w2 ⟨uc, ud, mc, md, rfl, hGc, hGd, hlc, hld, hbw2⟩
  have hSa := (hGa.sl (fun _ => rfl)).ext hbw2
  have hSb := (hGb.sl (fun _ => rfl)).ext hbw2
  have hSc := hGc.sl (fun _ => rfl)
  replace hbw2 := hbw1.ext hbw2
  obtain ⟨Aa, ca, rfl, _, _⟩ := hGa.val
  obtain ⟨Ab, cb, rfl, _, _⟩ := hGb.val
  obtain ⟨Ac, cc, rfl, _, _⟩ := hGc.val
  obtain ⟨Ad, cd, rfl, _, _⟩ := hGd.val
  have CI := Lib.hid (fun (w' : World) (h : Below w2.heap.size w2 w') => imMapJoin_any _ _ ma mb w' (hSa.ext h) (hSb.ext h))
  have CJ := Lib.hid (fun (w' : World) (h : Below w2.heap.size w2 w') => spMapJoin_any _ _ ma mb w' (hSa.ext h) (hSb.ext h))
  have KA := Lib.hid (fun (w' : World) (h : Below w2.heap.size w2 w') => spSegsOk_any w' _ ma (hSa.ext h))
  have KB := Lib.hid (fun (w' : World) (h : Below w2.heap.size w2 w') => spSegsOk_any w' _ mb (hSb.ext h))
  have KC := Lib.hid (fun (w' : World) (h : Below w2.heap.size w2 w') => spSegsOk_any w' _ mc (hSc.ext h))
  have LA := Lib.hid (fun (p q : Int) (w' : World) (h : Below w2.heap.size w2 w') => imMapLook_any _ ma p q w' (hSa.ext h))
  have LB := Lib.hid (fun (p q : Int) (w' : World) (h : Below w2.heap.size w2 w') => imMapLook_any _ mb p q w' (hSb.ext h))
  have LC := Lib.hid (fun (p q : Int) (w' : World) (h : Below w2.heap.size w2 w') => imMapLook_any _ mc p q w' (hSc.ext h))
  have CY := Lib.hid (fun (x : Value) (l : List Sg) (w' : World) (h : Below w2.heap.size w2 w') (hx : SlS w' w'.heap.size x l) => imMapJoin_any _ _ l mc w' hx (hSc.ext h))
  clear hGa hGb hGc hGd DR DR2 hb1 hb2 hSa hSb hSc
  have HX0 := Lib.hid (show ∃ z, z = mapJoinL ma mb from ⟨_, rfl⟩)
  obtain ⟨xl, hxl⟩ := HX0.out
  have HXL := Lib.hid hxl
  have hxl2 : xl.length ≤ 1280 := by rw [hxl]; exact mapJoinL_len _ _
  clear hxl HX0
  go_wp2_with fail
  refine (CI.out _ (Below.refl _ _)).mono ?_
  rintro r w3 ⟨x3, rfl, hF3, hb3⟩
  rw [← HXL.out] at hF3
  have hS3 := hF3.sl
  have HSX := Lib.hid (fun (w' : World) (h : Below w2.heap.size w2 w') => h)
  clear HSX
  have HS3 := Lib.hid hS3
  obtain ⟨A3, c3, rfl, _, _⟩ := hS3.val
  clear hF3 hS3
  go_wp2_with fail
  refine (CJ.out _ hb3).mono ?_
  rintro r w4 ⟨x4, rfl, hF4, hb4⟩
  rw [← HXL.out] at hF4
  have hb24 := hb3.ext hb4
  have S4 := Lib.hid (imSegsSame_any w4 _ _ xl xl (HS3.out.ext hb4) hF4.sl)
  rw [decide_eq_true (rfl : xl = xl)] at S4
  obtain ⟨A4, c4, rfl, _, _⟩ := hF4.sl.val
  clear hF4
  go_wp2_with fail
  refine S4.out.mono ?_
  rintro r w5 ⟨rfl, hb5⟩
  have hb25 := hb24.ext hb5
  have HS5 := Lib.hid ((HS3.out.ext hb4).ext hb5)
  clear hb24 S4
  have KA1 := Lib.hid (KA.out _ hb25)
  by_cases ha : SegsOk ma
  rotate_left
  · rw [segsOkB_no ha] at KA1
    clear ha
    go_wp2_with fail
    refine KA1.out.mono ?_
    rintro r w6 ⟨rfl, hb6⟩
    have hb26 := hb25.ext hb6
    have HSX := Lib.hid (fun (w' : World) (h : Below w6.heap.size w6 w') => (HS5.out.ext hb6).ext h)
    go_wp2_with fail
    refine (CJ.out _ hb26).mono ?_
    rintro r wf ⟨xf, rfl, hFf, hbf⟩
    rw [← HXL.out] at hFf
    have SF := Lib.hid (imSegsSame_any wf _ _ xl xl (HSX.out wf hbf) hFf.sl)
    rw [decide_eq_true (rfl : xl = xl)] at SF
    obtain ⟨Af, cf, rfl, _, _⟩ := hFf.sl.val
    clear hFf
    go_wp2_with fail
    refine SF.out.mono ?_
    rintro r wg ⟨rfl, hbg⟩
    go_wp2_with fail
    go_ret
    exact ⟨rfl, hbw2.ext ((hb26.ext hbf).ext hbg)⟩
  rw [segsOkB_yes ha] at KA1
  have HA := Lib.hid ha
  clear ha
  go_wp2_with fail
  refine KA1.out.mono ?_
  rintro r w6 ⟨rfl, hb6⟩
  have hb26 := hb25.ext hb6
  have HS6 := Lib.hid (HS5.out.ext hb6)
  have KB1 := Lib.hid (KB.out _ hb26)
  clear KA1 HS5 HS3 hb25
  by_cases hb : SegsOk mb
  rotate_left
  · rw [segsOkB_no hb] at KB1
    clear hb
    go_wp2_with fail
    refine KB1.out.mono ?_
    rintro r w7 ⟨rfl, hb7⟩
    have hb27 := hb26.ext hb7
    have HSX := Lib.hid (fun (w' : World) (h : Below w7.heap.size w7 w') => (HS6.out.ext hb7).ext h)
    go_wp2_with fail
    refine (CJ.out _ hb27).mono ?_
    rintro r wf ⟨xf, rfl, hFf, hbf⟩
    rw [← HXL.out] at hFf
    have SF := Lib.hid (imSegsSame_any wf _ _ xl xl (HSX.out wf hbf) hFf.sl)
    rw [decide_eq_true (rfl : xl = xl)] at SF
    obtain ⟨Af, cf, rfl, _, _⟩ := hFf.sl.val
    clear hFf
    go_wp2_with fail
    refine SF.out.mono ?_
    rintro r wg ⟨rfl, hbg⟩
    go_wp2_with fail
    go_ret
    exact ⟨rfl, hbw2.ext ((hb27.ext hbf).ext hbg)⟩
  rw [segsOkB_yes hb] at KB1
  have HB := Lib.hid hb
  clear hb
  go_wp2_with fail
  refine KB1.out.mono ?_
  rintro r w7 ⟨rfl, hb7⟩
  have hb27 := hb26.ext hb7
  have HS7 := Lib.hid (HS6.out.ext hb7)
  have KC1 := Lib.hid (KC.out _ hb27)
  clear KB1 HS6 hb26
  by_cases hc : SegsOk mc
  rotate_left
  · rw [segsOkB_no hc] at KC1
    clear hc
    go_wp2_with fail
    refine KC1.out.mono ?_
    rintro r w8 ⟨rfl, hb8⟩
    have hb28 := hb27.ext hb8
    have HSX := Lib.hid (fun (w' : World) (h : Below w8.heap.size w8 w') => (HS7.out.ext hb8).ext h)
    go_wp2_with fail
    refine (CJ.out _ hb28).mono ?_
    rintro r wf ⟨xf, rfl, hFf, hbf⟩
    rw [← HXL.out] at hFf
    have SF := Lib.hid (imSegsSame_any wf _ _ xl xl (HSX.out wf hbf) hFf.sl)
    rw [decide_eq_true (rfl : xl = xl)] at SF
    obtain ⟨Af, cf, rfl, _, _⟩ := hFf.sl.val
    clear hFf
    go_wp2_with fail
    refine SF.out.mono ?_
    rintro r wg ⟨rfl, hbg⟩
    go_wp2_with fail
    go_ret
    exact ⟨rfl, hbw2.ext ((hb28.ext hbf).ext hbg)⟩
  rw [segsOkB_yes hc] at KC1
  have HC := Lib.hid hc
  clear hc
  go_wp2_with fail
  refine KC1.out.mono ?_
  rintro r w8 ⟨rfl, hb8⟩
  have hb28 := hb27.ext hb8
  have CY1 := Lib.hid (CY.out _ xl w8 hb28 (HS7.out.ext hb8))
  have HX0 := Lib.hid (show ∃ z, z = mapJoinL xl mc from ⟨_, rfl⟩)
  obtain ⟨yl, hyl⟩ := HX0.out
  have HYL := Lib.hid hyl
  rw [← hyl] at CY1
  have hyl2 : yl.length ≤ 1280 := by rw [hyl]; exact mapJoinL_len _ _
  clear hyl HX0 KC1 CY CI CJ KA KB KC hb27
  go_wp2_with fail
  refine CY1.out.mono ?_
  rintro r w9 ⟨y9, rfl, hF9, hb9⟩
  have hb29 := hb28.ext hb9
  have hSy := hF9.sl
  obtain ⟨A9, c9, rfl, _, _⟩ := hSy.val
  clear hF9
  have HJ := Lib.hid (show yl = joinG (joinG ma mb) mc by rw [HYL.out, HXL.out, mapJoinL_yes HA.out HB.out, mapJoinL_yes (joinG_ok HA.out HB.out) HC.out])
  have hl1 : yl.length ≤ xl.length := by
    rw [HYL.out, HXL.out, mapJoinL_yes HA.out HB.out, mapJoinL_yes (joinG_ok HA.out HB.out) HC.out]
    have := joinG_len (joinG ma mb) mc (joinG ma mb).length
    rwa [List.take_length] at this
  have hl2 : xl.length ≤ ma.length := by
    rw [HXL.out, mapJoinL_yes HA.out HB.out]
    have := joinG_len ma mb ma.length
    rwa [List.take_length] at this
  have hd1 : decide (((yl.length : Nat) : Int) ≤ ((xl.length : Nat) : Int)) = true := by simpa using hl1
  have hd2 : decide (((xl.length : Nat) : Int) ≤ ((ma.length : Nat) : Int)) = true := by simpa using hl2
  clear HS7 HXL HYL CY1
  go_wp2_with fail
  go_loopg [11] yl.length (fun k i wr => ∃ j : Nat, k = yl.length - j ∧ j ≤ yl.length ∧ i = .int .i64 j ∧ Below w9.heap.size w9 wr)
  case atStart => exact ⟨0, by omega, by omega, rfl, Below.refl _ _⟩
  case round =>
    obtain ⟨j, hk, hj, rfl, hbl⟩ := hrel
    have HK := Lib.hid hk
    clear hk
    by_cases hlt : j < yl.length
    rotate_left
    · obtain rfl : j = yl.length := by omega
      go_wp2_with fail
      go_ret
      exact ⟨rfl, hbw2.ext (hb29.ext hbl)⟩
    · obtain ⟨b, o, p, q, r, t, rfl, hbb, hgt, f0, f1, f2, f3⟩ := sg_at hSy hlt
      have hmem := List.mem_of_getElem? hgt
      rw [HJ.out] at hmem
      obtain ⟨⟨a1, a2⟩, ⟨d1, d2⟩, e1, e2, e3⟩ := three_look HA.out HB.out hmem
      simp only at e1 e2 e3
      have M1 := Lib.hid (LA.out p q wr (hb29.ext hbl))
      rw [mapLookL_yes HA.out, e1] at M1
      have M2 := Lib.hid (fun (w' : World) (h : Below w2.heap.size w2 w') => LB.out a1 a2 w' h)
      have M3 := Lib.hid (fun (w' : World) (h : Below w2.heap.size w2 w') => LC.out d1 d2 w' h)
      rw [mapLookL_yes HB.out, e2] at M2
      rw [mapLookL_yes HC.out, e3] at M3
      have g0 := f0 ⟨wr, hbl⟩; have g1 := f1 ⟨wr, hbl⟩
      clear hgt hmem e1 e2 e3 hd1 hd2
      unfold lookV at M1 M2 M3
      simp only at M1 M2 M3
      go_wp2_with fail
      refine M1.out.mono ?_
      rintro e wa ⟨rfl, hba⟩
      have hBa := hbl.ext hba
      clear g0 g1
      go_upto_region 13 with fail
      generalize hWE : World.alloc wa _ = wE
      have hbE : Below wa.heap.size wa wE := by rw [← hWE]; (repeat (first | with_reducible assumption | with_reducible exact Below.refl _ _ | with_reducible refine Below.setCell ?_ (by first | omega | (simp; done) | (simp; omega)) _ | with_reducible refine Below.alloc ?_ (by first | omega | (simp; done) | (simp; omega)) _ | with_reducible refine below_drewN ?_ _ | with_reducible refine Below.drew ?_))
      have x0 : wE.cell? ⟨wa.heap.size, 0, none⟩ = some (.int .i64 a1) := by rw [← hWE]; simp [go_sem]
      have x1 : wE.cell? ⟨wa.heap.size, 1, none⟩ = some (.int .i64 a2) := by rw [← hWE]; simp [go_sem]
      clear hWE
      have hBE := hBa.ext hbE
      go_wp2_with fail
      refine (M2.out wE (hb29.ext hBE)).mono ?_
      rintro e wb ⟨rfl, hbb'⟩
      have hBb := hBE.ext hbb'
      clear x0 x1
      go_upto_region 14 with fail
      generalize hWF : World.alloc wb _ = wF
      have hbF : Below wb.heap.size wb wF := by rw [← hWF]; (repeat (first | with_reducible assumption | with_reducible exact Below.refl _ _ | with_reducible refine Below.setCell ?_ (by first | omega | (simp; done) | (simp; omega)) _ | with_reducible refine Below.alloc ?_ (by first | omega | (simp; done) | (simp; omega)) _ | with_reducible refine below_drewN ?_ _ | with_reducible refine Below.drew ?_))
      have x0 : wF.cell? ⟨wb.heap.size, 0, none⟩ = some (.int .i64 d1) := by rw [← hWF]; simp [go_sem]
      have x1 : wF.cell? ⟨wb.heap.size, 1, none⟩ = some (.int .i64 d2) := by rw [← hWF]; simp [go_sem]
      clear hWF
      have hBF := hBb.ext hbF
      go_wp2_with fail
      refine (M3.out wF (hb29.ext hBF)).mono ?_
      rintro e wc ⟨rfl, hbc'⟩
      have hBc := hBF.ext hbc'
      clear x0 x1
      go_upto_region 15 with fail
      generalize hWG : World.alloc wc _ = wG
      have hbG : Below wc.heap.size wc wG := by rw [← hWG]; (repeat (first | with_reducible assumption | with_reducible exact Below.refl _ _ | with_reducible refine Below.setCell ?_ (by first | omega | (simp; done) | (simp; omega)) _ | with_reducible refine Below.alloc ?_ (by first | omega | (simp; done) | (simp; omega)) _ | with_reducible refine below_drewN ?_ _ | with_reducible refine Below.drew ?_))
      have x0 : wG.cell? ⟨wc.heap.size, 0, none⟩ = some (.int .i64 r) := by rw [← hWG]; simp [go_sem]
      have x1 : wG.cell? ⟨wc.heap.size, 1, none⟩ = some (.int .i64 t) := by rw [← hWG]; simp [go_sem]
      clear hWG
      have hBG := hBc.ext hbG
      have g2 := Later.up f2 hBG hBG.size
      have g3 := Later.up f3 hBG hBG.size
      have y0 := Later.of x0
      have y1 := Later.of x1
      have hq := neq_ps r t r t
      rw [decide_eq_true (rfl : (r, t) = (r, t))] at hq
      clear f0 f1 f2 f3 x0 x1
      refine wp_region_later (Below.refl wG.heap.size wG) (by kernel_rfl) (by kernel_rfl) ?_
      repeat (go_big_quiet_step (fail))
      refine wpQuiet_nil ?_
      rintro _ ⟨y, rfl⟩
      have hy := y.ok
      go_wp2_with fail
      go_roundg (yl.length - (j + 1))
      case measure => have := HK.out; omega
      case rel => exact ⟨j + 1, rfl, by omega, by go_num, hBG.ext hy⟩
end Go.Proofs.Ytppefinpekhbeaa
