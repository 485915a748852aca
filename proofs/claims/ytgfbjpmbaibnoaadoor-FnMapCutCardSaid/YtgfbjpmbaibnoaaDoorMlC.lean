
/- The law FnMapCut: the walk. -/
import Derived.Test.YtgfbjpmbaibnoaaDoorZm2
import Derived.Test.YtgfbjpmbaibnoaaDoorZm6
import Derived.Test.YtgfbjpmbaibnoaaDoorZm13
import Derived.Test.YtgfbjpmbaibnoaaDoorMapRdI
namespace Go.Proofs.YtgfbjpmbaibnoaaDoor
set_option maxRecDepth 100000
set_option linter.unusedSimpArgs false
set_option linter.unusedVariables false
open Go.RowKit
attribute [local go_sem] bs_toList bs_get bs_size

theorem cut_form {ta tf z : Bytes} (h : ta = tf ++ z) : tf.length ≤ ta.length ∧ (bs ta).extract 0 tf.length = bs tf := by
  subst h
  refine ⟨by simp, ?_⟩
  rw [bs_extS]
  simp
set_option maxHeartbeats 2000000 in
theorem lawMCut (W : World) (v : Value) (cl : List Int) (hv : CodeV W v cl) (hM : MaxM W) : Calls Tryd.prog 4 #[v] W fun e w' => e = .returned (.bool true) ∧ Below W.heap.size W w' := by
  have DR := Lib.hid (drawLook_any v cl W hv)
  obtain ⟨A, c, rfl, hc, hm⟩ := hv.1.val
  clear hv
  have HMX := Lib.hid hM
  clear hM
  obtain ⟨b1, hb1⟩ : ∃ b, decide ((1048576 : Int) < ((cl.length : Nat) : Int)) = b := ⟨_, rfl⟩
  cases b1
  rotate_left
  · go_enter Tryd.func4, Tryd.ntmps4
    go_wp2_with fail
    go_ret
    exact ⟨rfl, Below.refl _ _⟩
  go_enter Tryd.func4, Tryd.ntmps4
  go_wp2_with fail
  refine DR.out.mono ?_
  rintro r w1 ⟨u, m, p1, p2, rfl, hG, hml, hbw1⟩
  have hS := hG.sl (fun _ => rfl)
  obtain ⟨Au, cu, rfl, _, _⟩ := hG.val
  obtain ⟨qa, qb, qt, hq⟩ := lookV_form (mapLookL m (p1, p2))
  have CI := Lib.hid (fun (w' : World) (h : Below w1.heap.size w1 w') => hq ▸ imMapLook_any _ m p1 p2 w' (hS.ext h))
  have CS := Lib.hid (fun (w' : World) (h : Below w1.heap.size w1 w') => hq ▸ spMapLook_any _ m p1 p2 w' (hS.ext h))
  have CK := Lib.hid (fun (w' : World) (h : Below w1.heap.size w1 w') => spSegsOk_any w' _ m (hS.ext h))
  have TI := Lib.hid (fun (w' : World) (h : Below w1.heap.size w1 w') => imMapTxt_any _ m w' (hS.ext h))
  have RI := Lib.hid (fun (s : Bytes) (w' : World) (hs : s.length ≤ 100000000) (h : Below w1.heap.size w1 w') => imMapRead_any s w' hs (HMX.out.ext (hbw1.ext h)))
  have HQ := Lib.hid hq
  clear hG DR hb1 hq
  go_upto_region 4 with fail
  generalize hWB : World.alloc w1 _ = wB
  have hbB : Below w1.heap.size w1 wB := by rw [← hWB]; (repeat (first | with_reducible assumption | with_reducible exact Below.refl _ _ | with_reducible refine Below.setCell ?_ (by first | omega | (simp; done) | (simp; omega)) _ | with_reducible refine Below.alloc ?_ (by first | omega | (simp; done) | (simp; omega)) _ | with_reducible refine below_drewN ?_ _ | with_reducible refine Below.drew ?_))
  have k0 : wB.cell? ⟨w1.heap.size, 0, none⟩ = some (.int .i64 p1) := by rw [← hWB]; simp [go_sem]
  have k1 : wB.cell? ⟨w1.heap.size, 1, none⟩ = some (.int .i64 p2) := by rw [← hWB]; simp [go_sem]
  clear hWB
  go_wp2_with fail
  refine (CI.out _ hbB).mono ?_
  rintro r w3 ⟨rfl, hb3⟩
  have hb13 := hbB.ext hb3
  skip; replace k0 := hb3.keepc k0; replace k1 := hb3.keepc k1
  go_upto_region 5 with fail
  generalize hWC : World.alloc w3 _ = wC
  have hbC : Below w3.heap.size w3 wC := by rw [← hWC]; (repeat (first | with_reducible assumption | with_reducible exact Below.refl _ _ | with_reducible refine Below.setCell ?_ (by first | omega | (simp; done) | (simp; omega)) _ | with_reducible refine Below.alloc ?_ (by first | omega | (simp; done) | (simp; omega)) _ | with_reducible refine below_drewN ?_ _ | with_reducible refine Below.drew ?_))
  have n0 : wC.cell? ⟨w3.heap.size, 0, none⟩ = some (.int .i64 qa) := by rw [← hWC]; simp [go_sem]
  have n1 : wC.cell? ⟨w3.heap.size, 1, none⟩ = some (.int .i64 qb) := by rw [← hWC]; simp [go_sem]
  clear hWC
  have hb1C := hb13.ext hbC
  skip; replace k0 := hbC.keepc k0; replace k1 := hbC.keepc k1
  go_wp2_with fail
  refine (CS.out _ hb1C).mono ?_
  rintro r w4 ⟨rfl, hb4⟩
  have hb14 := hb1C.ext hb4
  skip; replace k0 := hb4.keepc k0; replace k1 := hb4.keepc k1; replace n0 := hb4.keepc n0; replace n1 := hb4.keepc n1
  go_upto_region 6 with fail
  generalize hWD : World.alloc w4 _ = wD
  have hbD : Below w4.heap.size w4 wD := by rw [← hWD]; (repeat (first | with_reducible assumption | with_reducible exact Below.refl _ _ | with_reducible refine Below.setCell ?_ (by first | omega | (simp; done) | (simp; omega)) _ | with_reducible refine Below.alloc ?_ (by first | omega | (simp; done) | (simp; omega)) _ | with_reducible refine below_drewN ?_ _ | with_reducible refine Below.drew ?_))
  have o0 : wD.cell? ⟨w4.heap.size, 0, none⟩ = some (.int .i64 qa) := by rw [← hWD]; simp [go_sem]
  have o1 : wD.cell? ⟨w4.heap.size, 1, none⟩ = some (.int .i64 qb) := by rw [← hWD]; simp [go_sem]
  clear hWD
  have hb1D := hb14.ext hbD
  skip; replace k0 := hbD.keepc k0; replace k1 := hbD.keepc k1; replace n0 := hbD.keepc n0; replace n1 := hbD.keepc n1
  have hqq := neq_ps qa qb qa qb
  have hqe := eq_ps qa qb qa qb
  rw [decide_eq_true (rfl : (qa, qb) = (qa, qb))] at hqq hqe
  have hqt : (qt != qt) = false := by simp
  have hqt2 : (qt == qt) = true := by simp
  have CK1 := Lib.hid (CK.out _ hb1D)
  by_cases hok : SegsOk m
  rotate_left
  · rw [segsOkB_no hok] at CK1
    go_wp2_with fail
    refine CK1.out.mono ?_
    rintro r w5 ⟨rfl, hb5⟩
    skip; replace o0 := hb5.keepc o0; replace o1 := hb5.keepc o1; replace n0 := hb5.keepc n0; replace n1 := hb5.keepc n1
    go_wp2_with fail
    go_ret
    exact ⟨rfl, hbw1.ext (hb1D.ext hb5)⟩
  rw [segsOkB_yes hok] at CK1
  have HOK := Lib.hid hok
  clear hok
  go_wp2_with fail
  refine CK1.out.mono ?_
  rintro r w5 ⟨rfl, hb5⟩
  skip; replace k0 := hb5.keepc k0; replace k1 := hb5.keepc k1; replace n0 := hb5.keepc n0; replace n1 := hb5.keepc n1
  have hb15 := hb1D.ext hb5
  have hSm := hS.ext hb15
  clear o0 o1 hqq hqt CK1 CI CS CK
  go_wp2_with fail
  go_loopg [9, 10] m.length (fun k u i wr => ∃ j : Nat, k = m.length - j ∧ j ≤ m.length ∧ GtG w5.heap.size wr u (firstM (m.take j) p1) ∧ i = .int .i64 j ∧ Below w5.heap.size w5 wr)
  case atStart => exact ⟨0, by omega, by omega, gt_empty sgRow 4 37 w5 _ (Nat.le_refl _) (by (repeat (first | with_reducible assumption | with_reducible exact Below.refl _ _ | with_reducible refine Below.setCell ?_ (by first | omega | (simp; done) | (simp; omega)) _ | with_reducible refine Below.alloc ?_ (by first | omega | (simp; done) | (simp; omega)) _ | with_reducible refine below_drewN ?_ _ | with_reducible refine Below.drew ?_))), rfl, by (repeat (first | with_reducible assumption | with_reducible exact Below.refl _ _ | with_reducible refine Below.setCell ?_ (by first | omega | (simp; done) | (simp; omega)) _ | with_reducible refine Below.alloc ?_ (by first | omega | (simp; done) | (simp; omega)) _ | with_reducible refine below_drewN ?_ _ | with_reducible refine Below.drew ?_))⟩
  case round =>
    obtain ⟨j, hk, hj, hG, rfl, hbl⟩ := hrel
    have HK := Lib.hid hk
    clear hk
    by_cases hlt : j < m.length
    rotate_left
    · obtain rfl : j = m.length := by omega
      rw [List.take_length] at hG
      have hSF := hG.sl (fun _ => rfl)
      have hFok := firstM_ok HOK.out p1
      have hFr := firstM_read HOK.out p1
      have hFl := firstM_look m p1 p2
      rw [← mapLookL_yes HOK.out, ← mapLookL_yes hFok] at hFl
      have hqF := HQ.out
      rw [← hFl] at hqF
      obtain ⟨z, hz⟩ := firstM_text HOK.out p1
      obtain ⟨hle, hex⟩ := cut_form hz
      have htl := mapTextL_few (firstM m p1)
      have hb1r := hb15.ext hbl
      obtain ⟨AF, cF, rfl, _, _⟩ := hG.val
      have LF := Lib.hid (fun (w' : World) (h : Below wr.heap.size wr w') => hqF ▸ imMapLook_any _ _ p1 p2 w' (hSF.ext h))
      have TF := Lib.hid (fun (w' : World) (h : Below wr.heap.size wr w') => imMapTxt_any _ _ w' (hSF.ext h))
      have RF := Lib.hid (fun (w' : World) (h : Below wr.heap.size wr w') => RI.out (mapTextL (firstM m p1)) w' (by omega) (hb1r.ext h))
      have SS := Lib.hid (fun (x : Value) (l : List Sg) (w' : World) (h : Below wr.heap.size wr w') (hx : SlS w' w'.heap.size x l) => imSegsSame_any w' x _ l (firstM m p1) hx (hSF.ext h))
      unfold MrP at RF
      rw [hFr.1, hFr.2] at RF
      have c0 := hbl.keepc k0
      have c1 := hbl.keepc k1
      have e0 := hbl.keepc n0
      have e1 := hbl.keepc n1
      clear hG hSF hFok hFr hFl hqF hz RI k0 k1 n0 n1
      generalize mapTextL m = ta at *
      generalize mapTextL (firstM m p1) = tf at *
      generalize firstM m p1 = F at *
      have hle2 : decide ((tf.length : Int) ≤ (ta.length : Int)) = true := by rw [decide_eq_true_eq]; omega
      have hte : (tf == tf) = true := by simp
      go_wp2_with fail
      refine (TF.out _ (Below.refl _ _)).mono ?_
      rintro r w6 ⟨rfl, hb6⟩
      go_wp2_with fail
      refine (RF.out _ hb6).mono ?_
      rintro r w7 ⟨x7, rfl, hF7, hb7⟩
      have hbr7 := hb6.ext hb7
      have hS7 := hF7.sl
      obtain ⟨A7, c7, rfl, _, _⟩ := hS7.val
      skip; replace c0 := hbr7.keepc c0; replace c1 := hbr7.keepc c1; replace e0 := hbr7.keepc e0; replace e1 := hbr7.keepc e1
      clear hF7 RF
      go_wp2_with fail
      refine (LF.out _ hbr7).mono ?_
      rintro r w8 ⟨rfl, hb8⟩
      have hbr8 := hbr7.ext hb8
      skip; replace c0 := hb8.keepc c0; replace c1 := hb8.keepc c1; replace e0 := hb8.keepc e0; replace e1 := hb8.keepc e1
      go_upto_region 16 with fail
      generalize hWE : World.alloc w8 _ = wE
      have hbE : Below w8.heap.size w8 wE := by rw [← hWE]; (repeat (first | with_reducible assumption | with_reducible exact Below.refl _ _ | with_reducible refine Below.setCell ?_ (by first | omega | (simp; done) | (simp; omega)) _ | with_reducible refine Below.alloc ?_ (by first | omega | (simp; done) | (simp; omega)) _ | with_reducible refine below_drewN ?_ _ | with_reducible refine Below.drew ?_))
      have x0 : wE.cell? ⟨w8.heap.size, 0, none⟩ = some (.int .i64 qa) := by rw [← hWE]; simp [go_sem]
      have x1 : wE.cell? ⟨w8.heap.size, 1, none⟩ = some (.int .i64 qb) := by rw [← hWE]; simp [go_sem]
      clear hWE
      have hbrE := hbr8.ext hbE
      skip; replace c0 := hbE.keepc c0; replace c1 := hbE.keepc c1; replace e0 := hbE.keepc e0; replace e1 := hbE.keepc e1
      have hS7E := (hS7.ext hb8).ext hbE
      go_wp2_with fail
      refine (TI.out _ (hb1r.ext hbrE)).mono ?_
      rintro r w9 ⟨rfl, hb9⟩
      have hbr9 := hbrE.ext hb9
      skip; replace c0 := hb9.keepc c0; replace c1 := hb9.keepc c1; replace e0 := hb9.keepc e0; replace e1 := hb9.keepc e1; replace x0 := hb9.keepc x0; replace x1 := hb9.keepc x1
      go_wp2_with fail
      refine (TF.out _ hbr9).mono ?_
      rintro r wa ⟨rfl, hba⟩
      have hbra := hbr9.ext hba
      skip; replace c0 := hba.keepc c0; replace c1 := hba.keepc c1; replace e0 := hba.keepc e0; replace e1 := hba.keepc e1; replace x0 := hba.keepc x0; replace x1 := hba.keepc x1
      have S1 := Lib.hid (decide_eq_true (rfl : F = F) ▸ SS.out _ F wa hbra ((hS7E.ext hb9).ext hba))
      clear hS7E hS7 SS TF TI LF
      go_wp2_with fail
      refine S1.out.mono ?_
      rintro r wb ⟨rfl, hbb⟩
      skip; replace c0 := hbb.keepc c0; replace c1 := hbb.keepc c1; replace e0 := hbb.keepc e0; replace e1 := hbb.keepc e1; replace x0 := hbb.keepc x0; replace x1 := hbb.keepc x1
      go_wp2_with fail
      go_ret
      exact ⟨rfl, hbw1.ext (hb1r.ext (hbra.ext hbb))⟩
    · obtain ⟨b, o, p, q, r, t, rfl, hbb, hgt, f0, f1, f2, f3⟩ := sg_at hSm hlt
      have HG := Lib.hid hgt
      have HX := Lib.hid (And.intro hG (firstM_take (a := p1) hgt))
      have hLl : (firstM (m.take j) p1).length ≤ 1200 := by
        have := List.length_filter_le (fun s : Sg => decide (s.1.1 ≤ p1)) (m.take j)
        rw [List.length_take] at this
        unfold firstM
        omega
      obtain ⟨AF, cF, rfl, _, _⟩ := hG.val
      have g0 := Later.up f0 hbl hbl.size
      have g1 := Later.up f1 hbl hbl.size
      have g2 := Later.up f2 hbl hbl.size
      have g3 := Later.up f3 hbl hbl.size
      have m0 := Later.of (hbl.keepc k0)
      have m1 := Later.of (hbl.keepc k1)
      clear hgt hG
      go_wp2_with fail
      refine wp_region_later (Below.refl wr.heap.size wr) (by kernel_rfl) (by kernel_rfl) ?_
      repeat (go_big_quiet_step (fail))
      refine wpQuiet_nil ?_
      rintro _ ⟨y, rfl⟩
      have hy := y.ok
      by_cases hp : p ≤ p1
      · have hd : decide (p ≤ p1) = true := decide_eq_true hp
        have z0 := g0 y
        have z1 := g1 y
        have z2 := g2 y
        have z3 := g3 y
        have hGy := HX.out.1.ext hy
        have HT := Lib.hid HX.out.2
        rw [if_pos hp] at HT
        generalize firstM (m.take j) p1 = L at *
        have hzl := hbl.size
        have hzy := hy.size
        clear HX g0 g1 g2 g3 m0 m1
        go_wp2_with (first
          | (at_builtin; refine app_plain rtSg (by rfl) (.tmp 74) (.tmp 79) (by rfl) w5.heap.size (.slice AF L.length cF) L (by rfl) (hGy.ext (by (repeat (first | with_reducible assumption | with_reducible exact Below.refl _ _ | with_reducible refine Below.setCell ?_ (by first | omega | (simp; done) | (simp; omega)) _ | with_reducible refine Below.alloc ?_ (by first | omega | (simp; done) | (simp; omega)) _ | with_reducible refine below_drewN ?_ _ | with_reducible refine Below.drew ?_)))) ⟨y.w'.heap.size, 0, none⟩ 1 [((p, q), (r, t))] (by rfl) (news_sg (by simp)) Nat.zero_lt_one (by simp; omega) (by simp; omega) ?_; intro g6 cap6 w6 hG6 hgr6 hat6)
          | fail)
        have hb6 : Below w5.heap.size w5 w6 := below_app (by have hx := hbl.ext hy; (repeat (first | with_reducible assumption | with_reducible exact Below.refl _ _ | with_reducible refine Below.setCell ?_ (by first | omega | (simp; done) | (simp; omega)) _ | with_reducible refine Below.alloc ?_ (by first | omega | (simp; done) | (simp; omega)) _ | with_reducible refine below_drewN ?_ _ | with_reducible refine Below.drew ?_ | with_reducible refine Below.trans ?_ (Below.mono hx (by first | omega | (simp; done) | (simp; omega)))))) hgr6 (fun q hq => (hGy.lt hq).1) (by simp; omega)
        have HE := Lib.hid (And.intro hG6 hb6)
        clear hG6 hgr6 hat6 hb6 hGy
        go_roundg (m.length - (j + 1))
        case measure => have := HK.out; omega
        case rel => exact ⟨j + 1, rfl, by omega, by rw [HT.out]; exact HE.out.1, by go_num, HE.out.2⟩
      · have hd : decide (p ≤ p1) = false := by rw [decide_eq_false_iff_not]; exact hp
        have hGy := HX.out.1.ext hy
        have HT := Lib.hid HX.out.2
        rw [if_neg hp] at HT
        clear HX
        go_wp2_with fail
        go_roundg (m.length - (j + 1))
        case measure => have := HK.out; omega
        case rel => exact ⟨j + 1, rfl, by omega, by rw [HT.out, List.append_nil]; exact hGy, by go_num, hbl.ext hy⟩
end Go.Proofs.YtgfbjpmbaibnoaaDoor
