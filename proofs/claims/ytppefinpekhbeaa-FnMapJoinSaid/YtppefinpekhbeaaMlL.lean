
/- The law FnMapLook: the walk. -/
import Derived.Test.YtppefinpekhbeaaMlB
namespace Go.Proofs.Ytppefinpekhbeaa
set_option maxRecDepth 100000
set_option linter.unusedSimpArgs false
set_option linter.unusedVariables false
open Go.RowKit
attribute [local go_sem] bs_toList bs_get bs_size

theorem mapLookL_yes {l : List Sg} (h : SegsOk l) (p : Ps) : mapLookL l p = lookL l p := by unfold mapLookL; rw [segsOkB_yes h]; rfl
theorem mapLookL_no {l : List Sg} (h : ¬ SegsOk l) (p : Ps) : mapLookL l p = none := by unfold mapLookL; rw [segsOkB_no h]; simp
/-- what a look tells, in parts -/
theorem lookV_of {o : Option Ps} {a b : Int} {t : Bool} (h : lookV o = .tuple #[.agg #[.int .i64 a, .int .i64 b], .bool t]) : (t = true ∧ o = some (a, b)) ∨ (t = false ∧ o = none) := by
  cases o with
  | none => unfold lookV at h; simp at h; exact .inr ⟨by simpa using h.2, rfl⟩
  | some q => obtain ⟨q1, q2⟩ := q; unfold lookV at h; simp at h; obtain ⟨⟨rfl, rfl⟩, rfl⟩ := h; exact .inl ⟨rfl, rfl⟩
set_option maxHeartbeats 1000000 in
theorem lawMLook (W : World) (v : Value) (cl : List Int) (hv : CodeV W v cl) : Calls Try.prog 5 #[v] W fun e w' => e = .returned (.bool true) ∧ Below W.heap.size W w' := by
  have DR := Lib.hid (drawLook_any v cl W hv)
  obtain ⟨A, c, rfl, hc, hm⟩ := hv.1.val
  clear hv
  obtain ⟨b1, hb1⟩ : ∃ b, decide ((1048576 : Int) < ((cl.length : Nat) : Int)) = b := ⟨_, rfl⟩
  cases b1
  rotate_left
  · go_enter Try.func5, Try.ntmps5
    go_wp2_with fail
    go_ret
    exact ⟨rfl, Below.refl _ _⟩
  go_enter Try.func5, Try.ntmps5
  go_wp2_with fail
  refine DR.out.mono ?_
  rintro r w1 ⟨u, m, p1, p2, rfl, hG, hml, hbw1⟩
  have hS := hG.sl (fun _ => rfl)
  obtain ⟨Au, cu, rfl, _, _⟩ := hG.val
  obtain ⟨qa, qb, qt, hq⟩ := lookV_form (mapLookL m (p1, p2))
  have CI := Lib.hid (fun (w' : World) (h : Below w1.heap.size w1 w') => hq ▸ imMapLook_any _ m p1 p2 w' (hS.ext h))
  have CS := Lib.hid (fun (w' : World) (h : Below w1.heap.size w1 w') => hq ▸ spMapLook_any _ m p1 p2 w' (hS.ext h))
  have CK := Lib.hid (fun (w' : World) (h : Below w1.heap.size w1 w') => spSegsOk_any w' _ m (hS.ext h))
  have CL := Lib.hid (fun (a b : Int) (w' : World) (h : Below w1.heap.size w1 w') => imMapLook_any _ m a b w' (hS.ext h))
  have HQ := Lib.hid (lookV_of hq)
  clear hG DR hb1 hq
  go_upto_region 4 with fail
  generalize hWB : World.alloc w1 _ = wB
  have hbB : Below w1.heap.size w1 wB := by rw [← hWB]; (repeat (first | with_reducible assumption | with_reducible exact Below.refl _ _ | with_reducible refine Below.setCell ?_ (by first | omega | (simp; done) | (simp; omega)) _ | with_reducible refine Below.alloc ?_ (by first | omega | (simp; done) | (simp; omega)) _ | with_reducible refine below_drewN ?_ _ | with_reducible refine Below.drew ?_))
  have k0 : wB.cell? ⟨w1.heap.size, 0, none⟩ = some (.int .i64 p1) := by rw [← hWB]; simp [go_sem]
  have k1 : wB.cell? ⟨w1.heap.size, 1, none⟩ = some (.int .i64 p2) := by rw [← hWB]; simp [go_sem]
  clear hWB
  go_wp2_with fail
  refine (CI.out _ hbB).mono ?_
  rintro r w3 ⟨rfl, hb3⟩
  have hb13 := hbB.ext hb3
  skip; replace k0 := hb3.keepc k0; replace k1 := hb3.keepc k1
  go_upto_region 5 with fail
  generalize hWC : World.alloc w3 _ = wC
  have hbC : Below w3.heap.size w3 wC := by rw [← hWC]; (repeat (first | with_reducible assumption | with_reducible exact Below.refl _ _ | with_reducible refine Below.setCell ?_ (by first | omega | (simp; done) | (simp; omega)) _ | with_reducible refine Below.alloc ?_ (by first | omega | (simp; done) | (simp; omega)) _ | with_reducible refine below_drewN ?_ _ | with_reducible refine Below.drew ?_))
  have n0 : wC.cell? ⟨w3.heap.size, 0, none⟩ = some (.int .i64 qa) := by rw [← hWC]; simp [go_sem]
  have n1 : wC.cell? ⟨w3.heap.size, 1, none⟩ = some (.int .i64 qb) := by rw [← hWC]; simp [go_sem]
  clear hWC
  have hb1C := hb13.ext hbC
  skip; replace k0 := hbC.keepc k0; replace k1 := hbC.keepc k1
  go_wp2_with fail
  refine (CS.out _ hb1C).mono ?_
  rintro r w4 ⟨rfl, hb4⟩
  have hb14 := hb1C.ext hb4
  skip; replace k0 := hb4.keepc k0; replace k1 := hb4.keepc k1; replace n0 := hb4.keepc n0; replace n1 := hb4.keepc n1
  go_upto_region 6 with fail
  generalize hWD : World.alloc w4 _ = wD
  have hbD : Below w4.heap.size w4 wD := by rw [← hWD]; (repeat (first | with_reducible assumption | with_reducible exact Below.refl _ _ | with_reducible refine Below.setCell ?_ (by first | omega | (simp; done) | (simp; omega)) _ | with_reducible refine Below.alloc ?_ (by first | omega | (simp; done) | (simp; omega)) _ | with_reducible refine below_drewN ?_ _ | with_reducible refine Below.drew ?_))
  have o0 : wD.cell? ⟨w4.heap.size, 0, none⟩ = some (.int .i64 qa) := by rw [← hWD]; simp [go_sem]
  have o1 : wD.cell? ⟨w4.heap.size, 1, none⟩ = some (.int .i64 qb) := by rw [← hWD]; simp [go_sem]
  clear hWD
  have hb1D := hb14.ext hbD
  skip; replace k0 := hbD.keepc k0; replace k1 := hbD.keepc k1; replace n0 := hbD.keepc n0; replace n1 := hbD.keepc n1
  have hqq := neq_ps qa qb qa qb
  rw [decide_eq_true (rfl : (qa, qb) = (qa, qb))] at hqq
  have hqt : (qt != qt) = false := by simp
  have CK1 := Lib.hid (CK.out _ hb1D)
  by_cases hok : SegsOk m
  rotate_left
  · rw [segsOkB_no hok] at CK1
    have hqf : qt = false := by
      rcases HQ.out with ⟨_, h⟩ | ⟨h, _⟩
      · rw [mapLookL_no hok] at h; cases h
      · exact h
    subst hqf
    go_wp2_with fail
    refine CK1.out.mono ?_
    rintro r w5 ⟨rfl, hb5⟩
    go_wp2_with fail
    go_ret
    exact ⟨rfl, hbw1.ext (hb1D.ext hb5)⟩
  rw [segsOkB_yes hok] at CK1
  have HOK := Lib.hid hok
  clear hok
  go_wp2_with fail
  refine CK1.out.mono ?_
  rintro r w5 ⟨rfl, hb5⟩
  skip; replace k0 := hb5.keepc k0; replace k1 := hb5.keepc k1; replace n0 := hb5.keepc n0; replace n1 := hb5.keepc n1
  have hb15 := hb1D.ext hb5
  have hSm := hS.ext hb15
  clear o0 o1 hqq hqt CK1 hS CI CS CK
  go_wp2_with fail
  go_loopg [9, 10] m.length (fun k b i wr => ∃ (j : Nat) (best : Int), k = m.length - j ∧ j ≤ m.length ∧ b = .int .i64 best ∧ BestTo m (p1, p2) j best ∧ i = .int .i64 j ∧ Below w5.heap.size w5 wr)
  case atStart => exact ⟨0, -1, by omega, by omega, rfl, BestTo.zero _ _, rfl, Below.refl _ _⟩
  case round =>
    obtain ⟨j, best, hk, hj, rfl, hB, rfl, hbl⟩ := hrel
    have HK := Lib.hid (And.intro hk hB)
    clear hk hB
    by_cases hlt : j < m.length
    rotate_left
    · obtain rfl : j = m.length := by omega
      have hbst := HK.out.2.look
      rw [← mapLookL_yes HOK.out] at hbst
      clear HK
      rcases hbst with ⟨rfl, hl⟩ | ⟨i, s, rfl, hil, hs, hl⟩
      · have hqf : qt = false := by
          rcases HQ.out with ⟨_, h⟩ | ⟨h, _⟩
          · rw [hl] at h; cases h
          · exact h
        subst hqf
        clear hl
        go_wp2_with fail
        refine wp_region_later hbl (by kernel_rfl) (by kernel_rfl) ?_
        repeat (go_big_quiet_step (fail))
        refine wpQuiet_nil ?_
        rintro _ ⟨y, rfl⟩
        have hy := y.ok
        go_wp2_with fail
        go_ret
        exact ⟨rfl, hbw1.ext (hb15.ext hy)⟩
      · obtain ⟨hqf, hab⟩ : qt = true ∧ s.2 = (qa, qb) := by
          rcases HQ.out with ⟨h1, h⟩ | ⟨_, h⟩
          · rw [hl] at h; exact ⟨h1, Option.some.inj h⟩
          · rw [hl] at h; cases h
        subst hqf
        obtain ⟨b, o, p, q, r, t, rfl, hbb, hgt, f0, f1, f2, f3⟩ := sg_at hSm hil
        have hrt : (r, t) = (qa, qb) := by rw [hs] at hgt; rw [← hab, Option.some.inj hgt]
        obtain ⟨rfl, rfl⟩ := Prod.mk.inj hrt
        have hq := eq_ps r t r t
        rw [decide_eq_true (rfl : (r, t) = (r, t))] at hq
        have m0 := Later.of n0
        have m1 := Later.of n1
        have hd0 : decide ((0 : Int) ≤ (i : Int)) = true := by simp
        clear hl hs hgt hab hrt
        go_wp2_with fail
        refine wp_region_later hbl (by kernel_rfl) (by kernel_rfl) ?_
        repeat (go_big_quiet_step (fail))
        refine wpQuiet_nil ?_
        rintro _ ⟨y, rfl⟩
        have hy := y.ok
        go_wp2_with fail
        go_ret
        exact ⟨rfl, hbw1.ext (hb15.ext hy)⟩
    · obtain ⟨b, o, p, q, r, t, rfl, hbb, hgt, f0, f1, f2, f3⟩ := sg_at hSm hlt
      have HG := Lib.hid hgt
      have C1 := Lib.hid (CL.out p q wr (hb15.ext hbl))
      have hlk := look_self HOK.out hgt
      simp only at hlk
      rw [mapLookL_yes HOK.out, hlk] at C1
      have g0 := f0 ⟨wr, hbl⟩; have g1 := f1 ⟨wr, hbl⟩
      clear hgt hlk
      unfold lookV at C1
      go_wp2_with fail
      refine C1.out.mono ?_
      rintro e w6 ⟨rfl, hb6⟩
      have hB6 := hbl.ext hb6
      clear g0 g1
      go_upto_region 15 with fail
      generalize hWE : World.alloc w6 _ = wE
      have hbE : Below w6.heap.size w6 wE := by rw [← hWE]; (repeat (first | with_reducible assumption | with_reducible exact Below.refl _ _ | with_reducible refine Below.setCell ?_ (by first | omega | (simp; done) | (simp; omega)) _ | with_reducible refine Below.alloc ?_ (by first | omega | (simp; done) | (simp; omega)) _ | with_reducible refine below_drewN ?_ _ | with_reducible refine Below.drew ?_))
      have x0 : wE.cell? ⟨w6.heap.size, 0, none⟩ = some (.int .i64 r) := by rw [← hWE]; simp [go_sem]
      have x1 : wE.cell? ⟨w6.heap.size, 1, none⟩ = some (.int .i64 t) := by rw [← hWE]; simp [go_sem]
      clear hWE
      have hBE := hB6.ext hbE
      have g0 := Later.up f0 hBE hBE.size
      have g1 := Later.up f1 hBE hBE.size
      have g2 := Later.up f2 hBE hBE.size
      have g3 := Later.up f3 hBE hBE.size
      have m0 := Later.of (hBE.keepc k0)
      have m1 := Later.of (hBE.keepc k1)
      have y0 := Later.of x0
      have y1 := Later.of x1
      have hq := neq_ps r t r t
      rw [decide_eq_true (rfl : (r, t) = (r, t))] at hq
      clear f0 f1 f2 f3 x0 x1
      refine wp_region_later (Below.refl wE.heap.size wE) (by kernel_rfl) (by kernel_rfl) ?_
      repeat (go_big_quiet_step (fail))
      refine wpQuiet_nil ?_
      rintro _ ⟨y, rfl⟩
      have hy := y.ok
      go_wp2_with fail
      by_cases hp : p = p1
      · by_cases hqp : q ≤ p2
        · subst hp
          refine wp_region_later hy (by kernel_rfl) (by kernel_rfl) ?_
          repeat (go_big_quiet_step (fail))
          refine wpQuiet_nil ?_
          rintro _ ⟨z, rfl⟩
          have hz := z.ok
          go_wp2_with fail
          go_roundg (m.length - (j + 1))
          case measure => have := HK.out.1; omega
          case rel => exact ⟨j + 1, (j : Int), rfl, by omega, rfl, .yes HG.out ⟨rfl, hqp⟩, by go_num, hBE.ext hz⟩
        · subst hp
          have hd : decide (q ≤ p2) = false := by simpa using hqp
          refine wp_region_later hy (by kernel_rfl) (by kernel_rfl) ?_
          repeat (go_big_quiet_step (fail))
          refine wpQuiet_nil ?_
          rintro _ ⟨z, rfl⟩
          have hz := z.ok
          go_wp2_with fail
          go_roundg (m.length - (j + 1))
          case measure => have := HK.out.1; omega
          case rel => exact ⟨j + 1, best, rfl, by omega, rfl, HK.out.2.no HG.out (fun h => absurd h.2 (by simpa using hqp)), by go_num, hBE.ext hz⟩
      · have hd : (p == p1) = false := by simpa using hp
        refine wp_region_later hy (by kernel_rfl) (by kernel_rfl) ?_
        repeat (go_big_quiet_step (fail))
        refine wpQuiet_nil ?_
        rintro _ ⟨z, rfl⟩
        have hz := z.ok
        go_wp2_with fail
        go_roundg (m.length - (j + 1))
        case measure => have := HK.out.1; omega
        case rel => exact ⟨j + 1, best, rfl, by omega, rfl, HK.out.2.no HG.out (fun h => absurd h.1 (by simpa using hp)), by go_num, hBE.ext hz⟩
end Go.Proofs.Ytppefinpekhbeaa
