
/- The law FnMapBack: the walk. -/
import Derived.Test.YtppefinpekhbeaaDwGH
import Derived.Test.YtppefinpekhbeaaMaps
namespace Go.Proofs.Ytppefinpekhbeaa
set_option maxRecDepth 100000
set_option linter.unusedSimpArgs false
set_option linter.unusedVariables false
open Go.RowKit
attribute [local go_sem] bs_toList bs_get bs_size

theorem neq_ps (p q p' q' : Int) (w : World) : (binOp .neq 27 (.agg #[.int .i64 p, .int .i64 q]) (.agg #[.int .i64 p', .int .i64 q'])).run Try.prog w =
    .ok (.bool (!decide ((p, q) = (p', q')))) w := by
  by_cases h1 : p = p' <;> by_cases h2 : q = q' <;> simp [go_sem, h1, h2]
theorem mapBackL_yes {l : List Sg} (h : SegsOk l) (p : Ps) : mapBackL l p = backL l p := by unfold mapBackL; rw [segsOkB_yes h]; rfl
theorem mapBackL_le (l : List Sg) (p : Ps) : (mapBackL l p).length ≤ 1280 := by
  by_cases h : SegsOk l
  · rw [mapBackL_yes h]
    have := backL_len l p l.length
    rw [List.take_length] at this
    have := h.2
    omega
  · unfold mapBackL
    rw [segsOkB_no h]
    simp
theorem mapBackL_no {l : List Sg} (h : ¬ SegsOk l) (p : Ps) : mapBackL l p = [] := by unfold mapBackL; rw [segsOkB_no h]; rfl
set_option maxHeartbeats 1000000 in
theorem lawMBack (W : World) (v : Value) (cl : List Int) (hv : CodeV W v cl) : Calls Try.prog 4 #[v] W fun e w' => e = .returned (.bool true) ∧ Below W.heap.size W w' := by
  have DR := Lib.hid (drawBack_any v cl W hv)
  obtain ⟨A, c, rfl, hc, hm⟩ := hv.1.val
  clear hv
  obtain ⟨b1, hb1⟩ : ∃ b, decide ((1048576 : Int) < ((cl.length : Nat) : Int)) = b := ⟨_, rfl⟩
  cases b1
  rotate_left
  · go_enter Try.func4, Try.ntmps4
    go_wp2_with fail
    go_ret
    exact ⟨rfl, Below.refl _ _⟩
  go_enter Try.func4, Try.ntmps4
  go_wp2_with fail
  refine DR.out.mono ?_
  rintro r w1 ⟨u, m, p1, p2, rfl, hG, hml, hbw1⟩
  have hS := hG.sl (fun _ => rfl)
  obtain ⟨Au, cu, rfl, _, _⟩ := hG.val
  have CI := Lib.hid (fun (w' : World) (h : Below w1.heap.size w1 w') => imMapBack_any _ m p1 p2 w' (hS.ext h))
  have CS := Lib.hid (fun (w' : World) (h : Below w1.heap.size w1 w') => spMapBack_any _ m p1 p2 w' (hS.ext h))
  have CK := Lib.hid (fun (w' : World) (h : Below w1.heap.size w1 w') => spSegsOk_any w' _ m (hS.ext h))
  clear hG DR hb1
  go_upto_region 4 with fail
  generalize hWB : World.alloc w1 _ = wB
  have hbB : Below w1.heap.size w1 wB := by rw [← hWB]; (repeat (first | with_reducible assumption | with_reducible exact Below.refl _ _ | with_reducible refine Below.setCell ?_ (by first | omega | (simp; done) | (simp; omega)) _ | with_reducible refine Below.alloc ?_ (by first | omega | (simp; done) | (simp; omega)) _ | with_reducible refine below_drewN ?_ _ | with_reducible refine Below.drew ?_))
  have k0 : wB.cell? ⟨w1.heap.size, 0, none⟩ = some (.int .i64 p1) := by rw [← hWB]; simp [go_sem]
  have k1 : wB.cell? ⟨w1.heap.size, 1, none⟩ = some (.int .i64 p2) := by rw [← hWB]; simp [go_sem]
  clear hWB
  go_wp2_with fail
  refine (CI.out _ hbB).mono ?_
  rintro r w3 ⟨x3, rfl, hF3, hb3⟩
  have hS3 := hF3.sl
  have hb13 := hbB.ext hb3
  skip; replace k0 := hb3.keepc k0; replace k1 := hb3.keepc k1
  have HBL := Lib.hid (show ∃ z, z = mapBackL m (p1, p2) from ⟨_, rfl⟩)
  obtain ⟨bl, hbl0⟩ := HBL.out
  rw [← hbl0] at hS3
  obtain ⟨A3, c3, rfl, _, _⟩ := hS3.val
  have HBL2 := Lib.hid hbl0
  clear hF3 HBL hbl0
  go_wp2_with fail
  refine (CS.out _ hb13).mono ?_
  rintro r w4 ⟨x4, rfl, hF4, hb4⟩
  have hS4 := hF4.sl
  rw [← HBL2.out] at hS4
  obtain ⟨A4, c4, rfl, _, _⟩ := hS4.val
  have hb14 := hb13.ext hb4
  have hSm := hS.ext hb14
  have hSb := hS3.ext hb4
  skip; replace k0 := hb4.keepc k0; replace k1 := hb4.keepc k1
  clear hF4 hS4 hS3 hS CI CS
  have hlt4 : w1.heap.size < w4.heap.size := World.block_lt_of_cell? _ _ k0
  by_cases hok : SegsOk m
  rotate_left
  · rw [segsOkB_no hok] at CK
    have hbn : bl = [] := by rw [HBL2.out, mapBackL_no hok]
    subst hbn
    clear k0 k1 hSb HBL2 hok
    go_wp2_with fail
    go_loopg [7, 8] 0 (fun k n i wr => k = 0 ∧ n = .int .i64 0 ∧ i = .int .i64 0 ∧ Below w4.heap.size w4 wr)
    case atStart => exact ⟨rfl, rfl, rfl, Below.refl _ _⟩
    case round =>
      obtain ⟨hk, rfl, rfl, hbl⟩ := hrel
      have C1 := Lib.hid (CK.out wr (hb14.ext hbl))
      by_cases h0 : m.length = 0
      · obtain rfl : m = [] := List.length_eq_zero_iff.1 h0
        go_wp2_with fail
        go_ret
        exact ⟨rfl, hbw1.ext (hb14.ext hbl)⟩
      · have hd : decide ((0 : Int) < ((m.length : Nat) : Int)) = true := by rw [decide_eq_true_eq]; omega
        have hpos : 0 < m.length := by omega
        go_wp2_with fail
        refine C1.out.mono ?_
        rintro r w5 ⟨rfl, hb5⟩
        go_wp2_with fail
        go_ret
        exact ⟨rfl, hbw1.ext ((hb14.ext hbl).ext hb5)⟩
  rw [segsOkB_yes hok] at CK
  have HBB := Lib.hid (show bl = backL m (p1, p2) by rw [HBL2.out, mapBackL_yes hok])
  have hbll : bl.length ≤ 1280 := by rw [HBL2.out]; exact mapBackL_le _ _
  clear HBL2 hok
  go_wp2_with fail
  go_loopg [7, 8] m.length (fun k n i wr => ∃ j : Nat, k = m.length - j ∧ j ≤ m.length ∧ n = .int .i64 ((backL (m.take j) (p1, p2)).length : Nat) ∧ i = .int .i64 j ∧ Below w4.heap.size w4 wr)
  case atStart => exact ⟨0, by omega, by omega, rfl, rfl, Below.refl _ _⟩
  case round =>
    obtain ⟨j, hk, hj, rfl, rfl, hbl⟩ := hrel
    have HK := Lib.hid hk
    clear hk
    have C1 := Lib.hid (CK.out wr (hb14.ext hbl))
    by_cases hlt : j < m.length
    rotate_left
    · obtain rfl : j = m.length := by omega
      have hn : (backL (m.take m.length) (p1, p2)).length = bl.length := by rw [List.take_length, HBB.out]
      rw [hn]
      clear hn
      go_wp2_with fail
      go_ret
      exact ⟨rfl, hbw1.ext (hb14.ext hbl)⟩
    · obtain ⟨b, o, p, q, r, t, rfl, hbb, hgt, f0, f1, f2, f3⟩ := sg_at hSm hlt
      have HG := Lib.hid hgt
      have HN := Lib.hid (show ∃ z, z = (backL (m.take j) (p1, p2)).length from ⟨_, rfl⟩)
      obtain ⟨n, hn⟩ := HN.out
      have HN2 := Lib.hid hn
      have hn1 : n ≤ 1280 := by rw [hn]; have := backL_len m (p1, p2) j; omega
      rw [← hn]
      clear hgt hn HN
      go_wp2_with fail
      refine C1.out.mono ?_
      rintro e w5 ⟨rfl, hb5⟩
      have hB5 := hbl.ext hb5
      have g0 := Later.up f0 hB5 hB5.size
      have g1 := Later.up f1 hB5 hB5.size
      have g2 := Later.up f2 hB5 hB5.size
      have g3 := Later.up f3 hB5 hB5.size
      have m0 := Later.of (hB5.keepc k0)
      have m1 := Later.of (hB5.keepc k1)
      clear f0 f1 f2 f3
      have hq := eq_ps r t p1 p2
      by_cases hst : (r, t) = (p1, p2)
      rotate_left
      · rw [decide_eq_false hst] at hq
        have HS := Lib.hid hst
        clear hst
        go_wp2_with fail
        refine wp_region_later (Below.refl w5.heap.size w5) (by kernel_rfl) (by kernel_rfl) ?_
        repeat (go_big_quiet_step (fail))
        refine wpQuiet_nil ?_
        rintro _ ⟨y, rfl⟩
        have hy := y.ok
        go_wp2_with fail
        go_roundg (m.length - (j + 1))
        case measure => have := HK.out; omega
        case rel => exact ⟨j + 1, rfl, by omega, by rw [backL_skip HG.out HS.out, ← HN2.out], by go_num, hB5.ext hy⟩
      · rw [decide_eq_true hst] at hq
        have hhd := backL_head HG.out hst
        rw [← HN2.out, ← HBB.out] at hhd
        have hnl : n < bl.length := (List.getElem?_eq_some_iff.1 hhd).1
        obtain ⟨b', o', p', q', rfl, hbb', hgt', f0', f1'⟩ := ps_at hSb hnl
        have hpq : (p', q') = (p, q) := by rw [hhd] at hgt'; exact (Option.some.inj hgt').symm
        obtain ⟨rfl, rfl⟩ := Prod.mk.inj hpq
        have g0' := Later.up f0' hB5 hB5.size
        have g1' := Later.up f1' hB5 hB5.size
        have hq2 := neq_ps p' q' p' q'
        rw [decide_eq_true (rfl : (p', q') = (p', q'))] at hq2
        have HS := Lib.hid (And.intro hst hhd)
        clear hst f0' f1' hhd hgt' hpq
        have hd : decide (((bl.length : Nat) : Int) ≤ (n : Int)) = false := by rw [decide_eq_false_iff_not]; omega
        have hd2 : decide (bl.length ≤ n) = false := by rw [decide_eq_false_iff_not]; omega
        have hd3 : ¬ bl.length ≤ n := by omega
        go_wp2_with fail
        refine wp_region_later (Below.refl w5.heap.size w5) (by kernel_rfl) (by kernel_rfl) ?_
        repeat (go_big_quiet_step (fail))
        refine wpQuiet_nil ?_
        rintro _ ⟨y, rfl⟩
        have hy := y.ok
        go_wp2_with fail
        refine wp_region_later hy (by kernel_rfl) (by kernel_rfl) ?_
        repeat (go_big_quiet_step (fail))
        refine wpQuiet_nil ?_
        rintro _ ⟨z, rfl⟩
        have hz := z.ok
        go_wp2_with fail
        go_roundg (m.length - (j + 1))
        case measure => have := HK.out; omega
        case rel => exact ⟨j + 1, rfl, by omega, by rw [backL_step HG.out HS.out.1, List.length_append, ← HN2.out]; go_num, by go_num, hB5.ext hz⟩
end Go.Proofs.Ytppefinpekhbeaa
