
/- The law FnExpr: the walk. -/
import Derived.Test.YtojoknalnmmpeaaGreatDoorDwR
import Derived.Test.YtojoknalnmmpeaaGreatDoorRdR
import Derived.Test.YtojoknalnmmpeaaGreatDoorSames
namespace Go.Proofs.YtojoknalnmmpeaaGreatDoor
set_option maxRecDepth 100000
set_option linter.unusedSimpArgs false
set_option linter.unusedVariables false
open Go.RowKit
attribute [local go_sem] bs_toList bs_get bs_size

theorem rd_none_nil : rdE [] = none := by
  rcases h : rdE [] with _ | e
  · rfl
  · obtain ⟨_, h2, h3⟩ := rdE_iff.1 h
    have := congrArg List.length h3
    have h4 := E.words_pos e 1
    simp at this
    rw [this] at h4
    simp at h4
/-- of its words: whether it is read, and what -/
theorem rd_exW (x : Ex) : rdOk (exW x) = (exOkB x && decide ((exW x).length ≤ 40)) ∧ (rdOk (exW x) = true → rdX (exW x) = x) := by
  by_cases h : exOkB x = true
  · obtain ⟨e, rfl, he⟩ := E.ok_iff.1 h
    rw [exW_yes he, h]
    by_cases hl : (e.words 1).length ≤ 40
    · have hr := rdE_some hl he rfl
      rw [rdOk_some hr, rdX_some hr, decide_eq_true hl]
      exact ⟨rfl, fun _ => rfl⟩
    · have hr := rd_long hl
      rw [rdOk_none hr, decide_eq_false hl]
      exact ⟨rfl, fun h => by cases h⟩
  · replace h : exOkB x = false := by simpa using h
    rw [exW_no h, rdOk_none rd_none_nil, h]
    exact ⟨rfl, fun h => by cases h⟩
/-- what is read is right, and its words are those -/
theorem rd_back {vs : List Bytes} (h : rdOk vs = true) : exW (rdX vs) = vs ∧ exOkB (rdX vs) = true := by
  rcases hr : rdE vs with _ | e
  · rw [rdOk_none hr] at h; cases h
  · obtain ⟨_, h2, h3⟩ := rdE_iff.1 hr
    rw [rdX_some hr]
    exact ⟨by rw [exW_yes h2, h3], E.ok_iff.2 ⟨e, rfl, h2⟩⟩
theorem join_short {l : List Bytes} (h : ∀ s ∈ l, s.length ≤ 8) (hn : l.length ≤ 1000) : (joinL l).length ≤ 100000000 := by
  have := joinL_le 8 l h
  omega
theorem bx4 {w : World} {b : Nat} {x : Ex} {A : Option Addr} {c : Nat} (h : Blk w b 25 #[.int .i64 x.kind, .int .i64 x.n, .string (bs x.s), .slice A x.kids.length c]) : (∀ y : Later w.heap.size w, y.w'.cell? ⟨b, 0, none⟩ = some (.int .i64 x.kind)) ∧ (∀ y : Later w.heap.size w, y.w'.cell? ⟨b, 1, none⟩ = some (.int .i64 x.n)) ∧ (∀ y : Later w.heap.size w, y.w'.cell? ⟨b, 2, none⟩ = some (.string (bs x.s))) ∧ (∀ y : Later w.heap.size w, y.w'.cell? ⟨b, 3, none⟩ = some (.slice A x.kids.length c)) := by
  have k : ∀ (i : Nat) (v : Value), (#[Value.int .i64 x.kind, .int .i64 x.n, .string (bs x.s), .slice A x.kids.length c] : Array Value)[i]? = some v → ∀ y : Later w.heap.size w, y.w'.cell? ⟨b, i, none⟩ = some v := fun i v hv y => ((h.below y.ok h.lt).cell i).trans hv
  exact ⟨k 0 _ rfl, k 1 _ rfl, k 2 _ rfl, k 3 _ rfl⟩
set_option maxHeartbeats 4000000 in
theorem lawExpr (W : World) (v v2 : Value) (cl cl2 : List Int) (hv : CodeV W v cl) (hv2 : CodeV W v2 cl2) (hE : EnvA W) : Calls Tryz.prog 3 #[v, v2] W fun e w' => e = .returned (.bool true) ∧ Below W.heap.size W w' := by
  have DR := Lib.hid (drawEW_any v cl W hv)
  have DQ := Lib.hid (fun (w' : World) (h : Below W.heap.size W w') => drawRW_any v2 cl2 w' (hv2.later h))
  obtain ⟨A, c, rfl, hc, hm⟩ := hv.1.val
  obtain ⟨A2, c2, rfl, hc2, hm2⟩ := hv2.1.val
  clear hv hv2
  obtain ⟨b1, hb1⟩ : ∃ b, decide ((1048576 : Int) < ((cl.length : Nat) : Int)) = b := ⟨_, rfl⟩
  obtain ⟨b2, hb2⟩ : ∃ b, decide ((1048576 : Int) < ((cl2.length : Nat) : Int)) = b := ⟨_, rfl⟩
  cases b1
  rotate_left
  · go_enter Tryz.func3, Tryz.ntmps3
    go_wp2_with fail
    go_ret
    exact ⟨rfl, Below.refl _ _⟩
  cases b2
  rotate_left
  · go_enter Tryz.func3, Tryz.ntmps3
    go_wp2_with fail
    go_ret
    exact ⟨rfl, Below.refl _ _⟩
  go_enter Tryz.func3, Tryz.ntmps3
  go_wp2_with fail
  refine DR.out.mono ?_
  rintro r w1 ⟨u1, x, rfl, hD, hbw1⟩
  obtain ⟨Ax, cx, rfl, _, _, hxs, _⟩ := hD.exv.form4
  have HD := Lib.hid (fun (w' : World) (h : Below w1.heap.size w1 w') => (hD.ext h).exv)
  clear hD hb1 hb2 DR
  go_upto_region 4 with fail
  generalize hWB : World.alloc w1 _ = wB
  have hb1B : Below w1.heap.size w1 wB := by rw [← hWB]; (repeat (first | with_reducible assumption | with_reducible exact Below.refl _ _ | with_reducible refine Below.setCell ?_ (by first | omega | (simp; done) | (simp; omega)) _ | with_reducible refine Below.alloc ?_ (by first | omega | (simp; done) | (simp; omega)) _ | with_reducible refine below_drewN ?_ _ | with_reducible refine Below.drew ?_))
  have hBx : Blk wB w1.heap.size 25 #[.int .i64 x.kind, .int .i64 x.n, .string (bs x.s), .slice Ax x.kids.length cx] := by rw [← hWB]; exact Blk.new _ _ _
  clear hWB
  have hbWB := hbw1.ext hb1B
  obtain ⟨x0, x1, x2, x3⟩ := bx4 hBx
  have EX := Lib.hid (fun (w' : World) (h : Below wB.heap.size wB w') => HD.out w' (hb1B.ext h))
  have EV := Lib.hid (fun (w' : World) (h : Below wB.heap.size wB w') => hE.ext (hbWB.ext h))
  clear hBx HD hE
  have IW := Lib.hid (fun (w' : World) (h : Below wB.heap.size wB w') => imEW_any x _ w' (EX.out w' h) (EV.out w' h).env)
  have SW := Lib.hid (fun (w' : World) (h : Below wB.heap.size wB w') => spEW_any x _ w' (EX.out w' h))
  have IO := Lib.hid (fun (w' : World) (h : Below wB.heap.size wB w') => imOk_any x _ w' (EX.out w' h) (EV.out w' h).env)
  have SO := Lib.hid (fun (w' : World) (h : Below wB.heap.size wB w') => spOk_any x _ w' (EX.out w' h))
  have SM := Lib.hid (fun (w' : World) (h : Below wB.heap.size wB w') (u : Value) (y : Ex) (hu : ExV w' w'.heap.size u y) => imSame_any y x u _ w' hu (EX.out w' h))
  have HRD := Lib.hid (rd_exW x)
  have hwl := exW_len x
  have HWS := Lib.hid (fun s hs => (exW_short x s hs).2)
  generalize exW x = ws at *
  generalize exOkB x = ox at *
  have hwj := join_short HWS.out (by omega)
  have k0 := x0 ⟨wB, Below.refl _ _⟩; have k1 := x1 ⟨wB, Below.refl _ _⟩; have k2 := x2 ⟨wB, Below.refl _ _⟩; have k3 := x3 ⟨wB, Below.refl _ _⟩
  go_wp2_with fail
  refine (IW.out _ (Below.refl _ _)).mono ?_
  rintro r w4 ⟨u4, rfl, hS4, hb4⟩
  have HS4 := Lib.hid hS4
  obtain ⟨A4, c4, rfl, _, _⟩ := hS4.val
  clear k0 k1 k2 k3 hS4
  have k0 := x0 ⟨w4, hb4⟩; have k1 := x1 ⟨w4, hb4⟩; have k2 := x2 ⟨w4, hb4⟩; have k3 := x3 ⟨w4, hb4⟩
  go_wp2_with fail
  refine (SW.out _ hb4).mono ?_
  rintro r w5 ⟨u5, rfl, hG5, hb5⟩
  have hS5 := hG5.sl (fun _ => rfl)
  have hbB5 := hb4.ext hb5
  obtain ⟨A5, c5, rfl, _, _⟩ := hS5.val
  have HS45 := Lib.hid (And.intro (HS4.out.ext hb5) hS5)
  have y0 := Later.up x0 hbB5 hbB5.size
  have y1 := Later.up x1 hbB5 hbB5.size
  have y2 := Later.up x2 hbB5 hbB5.size
  have y3 := Later.up x3 hbB5 hbB5.size
  have T1 := Lib.hid (fun (y : Later w5.heap.size w5) => imTokText_any ws _ y.w' (HS45.out.1.ext y.ok) hwj (by omega))
  have T2 := Lib.hid (fun (y : Later w5.heap.size w5) => spTokText_any ws _ y.w' (HS45.out.2.ext y.ok) hwj)
  have O1 := Lib.hid (fun (y : Later w5.heap.size w5) => IO.out y.w' (hbB5.ext y.ok))
  have O2 := Lib.hid (fun (y : Later w5.heap.size w5) => SO.out y.w' (hbB5.ext y.ok))
  have hne : (joinL ws != joinL ws) = false := by simp
  have hoo : (ox != ox) = false := by simp
  have HWJ := Lib.hid hwj
  clear k0 k1 k2 k3 hG5 hS5 HS4 hwj
  go_wp2_with fail
  refine wp_region_later (Below.refl w5.heap.size w5) (by kernel_rfl) (by kernel_rfl) ?_
  repeat (go_big_quiet_step ((first
    | (go_at_call 7; with_reducible exact later_call2 T1.out)
    | (go_at_call 8; with_reducible exact later_call_same (T2.out _))
    | (go_at_call 9; with_reducible exact later_call2 O1.out)
    | (go_at_call 10; with_reducible exact later_call2 O2.out))))
  refine wpQuiet_nil ?_
  rintro _ ⟨z, rfl⟩
  have hz := z.ok
  have hbBz := hbB5.ext hz
  have RD := Lib.hid (imExprRead_any ws _ z.w' (HS45.out.1.ext hz) (fun s hs => by have := HWS.out s hs; omega) (EV.out _ hbBz))
  unfold RdP at RD
  obtain ⟨ro, hro⟩ : ∃ ro, ro = rdOk ws := ⟨_, rfl⟩
  obtain ⟨rx, hrx⟩ : ∃ rx, rx = rdX ws := ⟨_, rfl⟩
  rw [← hro, ← hrx] at RD HRD
  clear hro hrx y0 y1 y2 y3 T1 T2 O1 O2
  go_wp2_with fail
  refine RD.out.mono ?_
  rintro r w8 ⟨v8, rfl, hM8, hb8⟩
  have hbB8 := hbBz.ext hb8
  obtain ⟨A8, c8, rfl, _⟩ := hM8.form3
  have HM8 := Lib.hid (fun (w' : World) (h : Below w8.heap.size w8 w') => (hM8.ext h).exv)
  clear hM8 RD
  go_upto_region 9 with fail
  generalize hWC : World.alloc w8 _ = wC
  have hb8C : Below w8.heap.size w8 wC := by rw [← hWC]; (repeat (first | with_reducible assumption | with_reducible exact Below.refl _ _ | with_reducible refine Below.setCell ?_ (by first | omega | (simp; done) | (simp; omega)) _ | with_reducible refine Below.alloc ?_ (by first | omega | (simp; done) | (simp; omega)) _ | with_reducible refine below_drewN ?_ _ | with_reducible refine Below.drew ?_))
  have hBy : Blk wC w8.heap.size 25 #[.int .i64 rx.kind, .int .i64 rx.n, .string (bs rx.s), .slice A8 rx.kids.length c8] := by rw [← hWC]; exact Blk.new _ _ _
  clear hWC
  have hbBC := hbB8.ext hb8C
  obtain ⟨r0, r1, r2, r3⟩ := bx4 hBy
  clear hBy
  go_cut [70] (fun q wx => q = .bool false ∧ Below wB.heap.size wB wx)
  case first =>
    have k0 := x0 ⟨wC, hbBC⟩; have k1 := x1 ⟨wC, hbBC⟩; have k2 := x2 ⟨wC, hbBC⟩; have k3 := x3 ⟨wC, hbBC⟩
    go_wp2_with fail
    refine (SO.out _ hbBC).mono ?_
    rintro r w9 ⟨rfl, hb9⟩
    have hbB9 := hbBC.ext hb9
    clear k0 k1 k2 k3
    cases ox
    · obtain rfl : ro = false := by rw [HRD.out.1]; rfl
      go_wp2_with fail
      go_meet
      exact ⟨rfl, hbB9⟩
    by_cases hl : ws.length ≤ 40
    rotate_left
    · obtain rfl : ro = false := by rw [HRD.out.1, decide_eq_false hl]; rfl
      have hd : decide (((ws.length : Nat) : Int) ≤ 40) = false := by rw [decide_eq_false_iff_not]; omega
      go_wp2_with fail
      go_meet
      exact ⟨rfl, hbB9⟩
    · obtain rfl : ro = true := by rw [HRD.out.1, decide_eq_true hl]; rfl
      have hd : decide (((ws.length : Nat) : Int) ≤ 40) = true := by rw [decide_eq_true_eq]; omega
      have hrx := HRD.out.2 rfl
      have SM1 := Lib.hid (SM.out w9 hbB9 _ rx (HM8.out w9 (hb8C.ext hb9)))
      rw [decide_eq_true hrx] at SM1
      have k0 := x0 ⟨w9, hbB9⟩; have k1 := x1 ⟨w9, hbB9⟩; have k2 := x2 ⟨w9, hbB9⟩; have k3 := x3 ⟨w9, hbB9⟩
      have l0 := r0 ⟨w9, hb9⟩; have l1 := r1 ⟨w9, hb9⟩; have l2 := r2 ⟨w9, hb9⟩; have l3 := r3 ⟨w9, hb9⟩
      clear hrx
      go_wp2_with fail
      refine SM1.out.mono ?_
      rintro r wa ⟨rfl, hba⟩
      go_wp2_with fail
      go_meet
      exact ⟨rfl, hbB9.ext hba⟩
  case rest =>
    obtain ⟨rfl, hbx⟩ := hcut
    clear x0 x1 x2 x3 r0 r1 r2 r3 SM SO IO SW IW HRD HM8 HWS HS45
    go_wp2_with fail
    refine (DQ.out _ (hbWB.ext hbx)).mono ?_
    rintro r wd ⟨ud, vs, rfl, hSd, hvs, hvl, hbd⟩
    have hbBd := hbx.ext hbd
    have HSd := Lib.hid hSd
    obtain ⟨Ad, cd, rfl, _, _⟩ := hSd.val
    have hvj := join_short hvs (by omega)
    have HV8 := Lib.hid (fun (s : Bytes) (hs : s ∈ vs) => (show s.length ≤ 100000000 by have := hvs s hs; omega))
    have IR := Lib.hid (imExprRead_any vs _ wd hSd HV8.out (EV.out _ hbBd))
    unfold RdP at IR
    clear hSd hvs
    obtain ⟨ro2, hro2⟩ : ∃ q, q = rdOk vs := ⟨_, rfl⟩
    obtain ⟨ry, hry⟩ : ∃ q, q = rdX vs := ⟨_, rfl⟩
    have HBK := Lib.hid (@rd_back vs)
    rw [← hro2, ← hry] at IR HBK
    have HRO := Lib.hid (And.intro hro2 hry)
    clear hro2 hry
    go_wp2_with fail
    refine IR.out.mono ?_
    rintro r we ⟨v8, rfl, hM8, hbe⟩
    have hbde := hbe
    obtain ⟨A8, c8, rfl, _⟩ := hM8.form3
    have HM8 := Lib.hid (fun (w' : World) (h : Below we.heap.size we w') => (hM8.ext h).exv)
    clear hM8 IR
    go_upto_region 13 with fail
    generalize hWF : World.alloc we _ = wF
    have hbeF : Below we.heap.size we wF := by rw [← hWF]; (repeat (first | with_reducible assumption | with_reducible exact Below.refl _ _ | with_reducible refine Below.setCell ?_ (by first | omega | (simp; done) | (simp; omega)) _ | with_reducible refine Below.alloc ?_ (by first | omega | (simp; done) | (simp; omega)) _ | with_reducible refine below_drewN ?_ _ | with_reducible refine Below.drew ?_))
    have hBy : Blk wF we.heap.size 25 #[.int .i64 ry.kind, .int .i64 ry.n, .string (bs ry.s), .slice A8 ry.kids.length c8] := by rw [← hWF]; exact Blk.new _ _ _
    clear hWF
    have hbdF := hbde.ext hbeF
    obtain ⟨r0, r1, r2, r3⟩ := bx4 hBy
    have SR := Lib.hid (spExprRead_any vs _ wF (HSd.out.ext hbdF) HV8.out)
    unfold RdP at SR
    rw [← HRO.out.1, ← HRO.out.2] at SR
    clear hBy
    go_wp2_with fail
    refine SR.out.mono ?_
    rintro r wg ⟨v9, rfl, hM9, hbg⟩
    obtain ⟨A9, c9, rfl, _⟩ := hM9.form3
    clear hM9 SR
    have hbFg := hbg
    go_upto_region 14 with fail
    generalize hWH : World.alloc wg _ = wH
    have hbgH : Below wg.heap.size wg wH := by rw [← hWH]; (repeat (first | with_reducible assumption | with_reducible exact Below.refl _ _ | with_reducible refine Below.setCell ?_ (by first | omega | (simp; done) | (simp; omega)) _ | with_reducible refine Below.alloc ?_ (by first | omega | (simp; done) | (simp; omega)) _ | with_reducible refine below_drewN ?_ _ | with_reducible refine Below.drew ?_))
    clear hWH
    have hbFH := hbFg.ext hbgH
    have hbdH := hbdF.ext hbFH
    have hbBH := hbBd.ext hbdH
    cases ro2
    · go_wp2_with fail
      go_ret
      exact ⟨rfl, hbWB.ext hbBH⟩
    · obtain ⟨hw, ho⟩ := HBK.out (by trivial)
      have EY := Lib.hid (fun (w' : World) (h : Below wH.heap.size wH w') => HM8.out w' ((hbeF.ext hbFH).ext h))
      have W1 := Lib.hid (imEW_any ry _ wH (EY.out wH (Below.refl _ _)) (EV.out _ hbBH).env)
      rw [hw] at W1
      have O1 := Lib.hid (fun (w' : World) (h : Below wH.heap.size wH w') => imOk_any ry _ w' (EY.out w' h) (EV.out _ (hbBH.ext h)).env)
      rw [ho] at O1
      have hee : (joinL vs == joinL vs) = true := by simp
      have l0 := r0 ⟨wH, hbFH⟩; have l1 := r1 ⟨wH, hbFH⟩; have l2 := r2 ⟨wH, hbFH⟩; have l3 := r3 ⟨wH, hbFH⟩
      clear hw ho
      go_wp2_with fail
      refine W1.out.mono ?_
      rintro r wi ⟨ui, rfl, hSi, hbi⟩
      have TI := Lib.hid (imTokText_any vs _ wi hSi hvj (by omega))
      obtain ⟨Ai, ci, rfl, _, _⟩ := hSi.val
      clear hSi l0 l1 l2 l3
      go_wp2_with fail
      refine TI.out.mono ?_
      rintro r wj ⟨rfl, hbj⟩
      have hbHj := hbi.ext hbj
      have TJ := Lib.hid (imTokText_any vs _ wj (HSd.out.ext (hbdH.ext hbHj)) hvj (by omega))
      go_wp2_with fail
      refine TJ.out.mono ?_
      rintro r wk ⟨rfl, hbk⟩
      have hbHk := hbHj.ext hbk
      have l0 := r0 ⟨wk, hbFH.ext hbHk⟩; have l1 := r1 ⟨wk, hbFH.ext hbHk⟩; have l2 := r2 ⟨wk, hbFH.ext hbHk⟩; have l3 := r3 ⟨wk, hbFH.ext hbHk⟩
      go_wp2_with fail
      refine (O1.out wk hbHk).mono ?_
      rintro r wl ⟨rfl, hbl⟩
      go_wp2_with fail
      go_ret
      exact ⟨rfl, hbWB.ext (hbBH.ext (hbHk.ext hbl))⟩
end Go.Proofs.YtojoknalnmmpeaaGreatDoor
