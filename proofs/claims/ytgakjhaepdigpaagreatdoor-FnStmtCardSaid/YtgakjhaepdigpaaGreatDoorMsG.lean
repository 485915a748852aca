
/- The law FnStmt: the walk. -/
import Derived.Test.YtgakjhaepdigpaaGreatDoorZm20
import Derived.Test.YtgakjhaepdigpaaGreatDoorZn3
import Derived.Test.YtgakjhaepdigpaaGreatDoorZm19
import Derived.Test.YtgakjhaepdigpaaGreatDoorZn2
import Derived.Test.YtgakjhaepdigpaaGreatDoorZn1
namespace Go.Proofs.YtgakjhaepdigpaaGreatDoor
set_option maxRecDepth 100000
set_option linter.unusedSimpArgs false
set_option linter.unusedVariables false
open Go.RowKit
attribute [local go_sem] bs_toList bs_get bs_size cS

theorem cS_now {w : World} {b : Nat} {k : Int} {nm ty : Bytes} {k1 n1 : Int} {s1 : Bytes} {v1 : Value} {k2 n2 : Int} {s2 : Bytes} {v2 : Value} (h : Blk w b 26 (cS k nm ty k1 n1 s1 v1 k2 n2 s2 v2)) :
    w.cell? ⟨b, 0, none⟩ = some (.int .i64 k) ∧ w.cell? ⟨b, 1, none⟩ = some (.string (bs nm)) ∧ w.cell? ⟨b, 2, none⟩ = some (.string (bs ty)) ∧ w.cell? ⟨b, 3, none⟩ = some (.int .i64 k1) ∧ w.cell? ⟨b, 4, none⟩ = some (.int .i64 n1) ∧ w.cell? ⟨b, 5, none⟩ = some (.string (bs s1)) ∧ w.cell? ⟨b, 6, none⟩ = some v1 ∧ w.cell? ⟨b, 7, none⟩ = some (.int .i64 k2) ∧ w.cell? ⟨b, 8, none⟩ = some (.int .i64 n2) ∧ w.cell? ⟨b, 9, none⟩ = some (.string (bs s2)) ∧ w.cell? ⟨b, 10, none⟩ = some v2 :=
  ⟨h.cell 0, h.cell 1, h.cell 2, h.cell 3, h.cell 4, h.cell 5, h.cell 6, h.cell 7, h.cell 8, h.cell 9, h.cell 10⟩
set_option maxHeartbeats 4000000 in
theorem lawSTxt (W : World) (v v2 : Value) (cl cl2 : List Int) (hv : CodeV W v cl) (hv2 : CodeV W v2 cl2) (hE : EnvA W) : Calls Tryz.prog 4 #[v, v2] W fun e w' => e = .returned (.bool true) ∧ Below W.heap.size W w' := by
  have DR := Lib.hid (drawSt_any v cl W hv)
  have DS := Lib.hid (fun (w' : World) (h : Below W.heap.size W w') => drawSS_any v cl w' (hv.later h))
  have DL := Lib.hid (fun (w' : World) (h : Below W.heap.size W w') => drawStR_any v2 cl2 w' (hv2.later h))
  obtain ⟨A, c, rfl, hc, hm⟩ := hv.1.val
  obtain ⟨A2, c2, rfl, hc2, hm2⟩ := hv2.1.val
  clear hv hv2
  obtain ⟨b1, hb1⟩ : ∃ b, decide ((1048576 : Int) < ((cl.length : Nat) : Int)) = b := ⟨_, rfl⟩
  obtain ⟨b2, hb2⟩ : ∃ b, decide ((1048576 : Int) < ((cl2.length : Nat) : Int)) = b := ⟨_, rfl⟩
  cases b1
  rotate_left
  · go_enter Tryz.func4, Tryz.ntmps4
    go_wp2_with fail
    go_ret
    exact ⟨rfl, Below.refl _ _⟩
  cases b2
  rotate_left
  · go_enter Tryz.func4, Tryz.ntmps4
    go_wp2_with fail
    go_ret
    exact ⟨rfl, Below.refl _ _⟩
  have HE := Lib.hid hE
  clear hE
  go_enter Tryz.func4, Tryz.ntmps4
  go_wp2_with fail
  refine DR.out.mono ?_
  rintro r w1 ⟨u, s, rfl, hV, hbw1⟩
  have hV := hV.less (Nat.zero_le _)
  obtain ⟨k, nm, ty, k1, n1, s1, A1, m1, cp1, k2, n2, s2, A3, m2, cp2, x1, x2, rfl, hs, _, _, _, _⟩ := id hV.form
  have HV := Lib.hid hV
  clear hV hs hb1 hb2
  go_upto_region 4 with fail
  generalize hW3 : World.alloc _ _ = W3
  have hB3 : Blk W3 w1.heap.size 26 (cS k nm ty k1 n1 s1 (.slice A1 m1 cp1) k2 n2 s2 (.slice A3 m2 cp2)) := by rw [← hW3]; exact Blk.new _ _ _
  have hb3 : Below w1.heap.size w1 W3 := by rw [← hW3]; (repeat (first | with_reducible assumption | with_reducible exact Below.refl _ _ | with_reducible refine Below.setCell ?_ (by first | omega | (simp; done) | (simp; omega)) _ | with_reducible refine Below.alloc ?_ (by first | omega | (simp; done) | (simp; omega)) _ | with_reducible refine below_drewN ?_ _ | with_reducible refine Below.drew ?_))
  clear hW3
  have hbW3 := hbw1.ext hb3
  have VA : ∀ w' : World, Below W3.heap.size W3 w' → SmV w' w'.heap.size (.agg #[.int .i64 k, .string (bs nm), .string (bs ty), .int .i64 k1, .int .i64 n1, .string (bs s1), .slice A1 m1 cp1, .int .i64 k2, .int .i64 n2, .string (bs s2), .slice A3 m2 cp2]) s := fun w' h => HV.out.smvF (hb3.ext h)
  have TI := Lib.hid (imStmtText_any _ _ W3 (VA W3 (Below.refl _ _)) (HE.out.ext hbW3).env)
  have htl : (if smOkB s = true then smText s else []).length ≤ 51200 := by
    split
    · rename_i hk
      rw [smOkB_form, Bool.and_eq_true] at hk
      have := smText_len hk.1
      omega
    · simp
  have HRD := Lib.hid (show smOkB s = true → rdSOk (if smOkB s = true then smText s else []) = true ∧ rdSm (if smOkB s = true then smText s else []) = s from fun h => by rw [if_pos h]; exact rdSOk_of h)
  have HTXI := Lib.hid (fun (w' : World) (h : Below W3.heap.size W3 w') => spStmtText_any _ _ w' (VA w' h))
  have HOKI := Lib.hid (fun (w' : World) (h : Below W3.heap.size W3 w') => imStmtOk_any _ _ w' (VA w' h) (HE.out.ext (hbW3.ext h)).env)
  have HOKS := Lib.hid (fun (w' : World) (h : Below W3.heap.size W3 w') => spStmtOk_any _ _ w' (VA w' h))
  generalize (if smOkB s = true then smText s else []) = tx at *
  clear HV
  have HVA := Lib.hid VA
  clear VA
  have hz3 := hB3.lt
  obtain ⟨y0, y1, y2, y3, y4, y5, y6, y7, y8, y9, y10⟩ := cS_now hB3
  go_wp2_with fail
  refine TI.out.mono ?_
  rintro r w4 ⟨rfl, hb4⟩
  have hB4 := hB3.below hb4 hB3.lt
  clear y0 y1 y2 y3 y4 y5 y6 y7 y8 y9 y10 hB3 TI
  have RS := Lib.hid (imStmtRead_any tx w4 (by omega) (HE.out.ext (hbW3.ext hb4)))
  go_wp2_with fail
  refine RS.out.mono ?_
  rintro r w5 ⟨v5, rfl, hT5, hb5⟩
  generalize hro : rdSOk tx = ro at *
  generalize hrs : rdSm tx = rs at *
  obtain ⟨B1, B2, e1, e2, mid, rfl, _⟩ := id hT5
  go_upto_region 6 with fail
  generalize hW6 : World.alloc _ _ = W6
  have hB6 : Blk W6 w5.heap.size 26 (cS rs.kind rs.name rs.typ rs.ex.kind rs.ex.n rs.ex.s (.slice B1 rs.ex.kids.length e1) rs.th.kind rs.th.n rs.th.s (.slice B2 rs.th.kids.length e2)) := by rw [← hW6]; exact Blk.new _ _ _
  have hb6 : Below w5.heap.size w5 W6 := by rw [← hW6]; (repeat (first | with_reducible assumption | with_reducible exact Below.refl _ _ | with_reducible refine Below.setCell ?_ (by first | omega | (simp; done) | (simp; omega)) _ | with_reducible refine Below.alloc ?_ (by first | omega | (simp; done) | (simp; omega)) _ | with_reducible refine below_drewN ?_ _ | with_reducible refine Below.drew ?_))
  clear hW6
  have hz45 := hb5.size
  have hb36 := (hb4.ext hb5).ext hb6
  have hB4 := (hB4.below hb5 hB4.lt).below hb6 (by have := hB4.lt; omega)
  have hT6 := hT5.ext hb6
  have VX : ∀ w' : World, Below W6.heap.size W6 w' → SmV w' w'.heap.size (.agg #[.int .i64 rs.kind, .string (bs rs.name), .string (bs rs.typ), .int .i64 rs.ex.kind, .int .i64 rs.ex.n, .string (bs rs.ex.s), .slice B1 rs.ex.kids.length e1, .int .i64 rs.th.kind, .int .i64 rs.th.n, .string (bs rs.th.s), .slice B2 rs.th.kids.length e2]) rs := fun w' h => (hT6.ext h).smv
  have LT := Lib.hid (fun (y : Later W6.heap.size W6) => HTXI.out y.w' (hb36.ext y.ok))
  have LI := Lib.hid (fun (y : Later W6.heap.size W6) => HOKI.out y.w' (hb36.ext y.ok))
  have LS := Lib.hid (fun (y : Later W6.heap.size W6) => HOKS.out y.w' (hb36.ext y.ok))
  have LM := Lib.hid (fun (y : Later W6.heap.size W6) => imStmtSame_any _ _ _ _ y.w' (VX _ y.ok) (HVA.out _ (hb36.ext y.ok)))
  have hte : (tx != tx) = false := by simp
  have hsame : smOkB s = true → ro = true ∧ decide (rs = s) = true := fun h => by
    obtain ⟨h1, h2⟩ := HRD.out h
    exact ⟨h1, decide_eq_true h2⟩
  obtain ⟨a0, a1, a2, a3, a4, a5, a6, a7, a8, a9, a10⟩ := cS_cells hB4
  obtain ⟨b0, b1, b2, b3, b4, b5, b6, b7, b8, b9, b10⟩ := cS_cells hB6
  clear hB4 hB6 HTXI HOKI HOKS HRD VX hT5 hT6 RS hro hrs htl
  generalize decide (rs = s) = ds at *
  generalize smOkB s = so at *
  have hbW6 := hbW3.ext hb36
  clear hbW3 hb36 hbw1 hb3 hb4 hb5 hb6
  cases so
  · refine wp_region_later (Below.refl W6.heap.size W6) (by kernel_rfl) (by kernel_rfl) ?_
    repeat (go_big_quiet_step ((first
      | (go_at_call 19; with_reducible exact later_call2 LT.out)
      | (go_at_call 20; with_reducible exact later_call2 LI.out)
      | (go_at_call 21; with_reducible exact later_call2 LS.out))))
    refine wpQuiet_nil ?_
    rintro _ ⟨y, rfl⟩
    have hbW7 := hbW6.ext y.ok
    generalize y.w' = w7 at *
    clear a0 a1 a2 a3 a4 a5 a6 a7 a8 a9 a10 b0 b1 b2 b3 b4 b5 b6 b7 b8 b9 b10 LT LI LS LM hbW6 hsame
    go_wp2_with fail
    refine (DL.out w7 hbW7).mono ?_
    rintro r w8 ⟨line, rfl, hln, hb8⟩
    have hbW8 := hbW7.ext hb8
    clear hbW7 hb8
    have RI := Lib.hid (imStmtRead_any line w8 hln (HE.out.ext hbW8))
    have RSP := Lib.hid (fun (w' : World) => spStmtRead_any line w' hln)
    have HY := Lib.hid (@rdSm_of line)
    unfold RsA at RI RSP
    generalize rdSOk line = f at *
    generalize rdSm line = ys at *
    go_wp2_with fail
    refine RI.out.mono ?_
    rintro r w9 ⟨v9, rfl, hT9, hb9⟩
    obtain ⟨C1, C2, g1, g2, mid9, rfl, _⟩ := id hT9
    go_upto_region 10 with fail
    generalize hWA : World.alloc _ _ = WA
    have hBA : Blk WA w9.heap.size 26 (cS ys.kind ys.name ys.typ ys.ex.kind ys.ex.n ys.ex.s (.slice C1 ys.ex.kids.length g1) ys.th.kind ys.th.n ys.th.s (.slice C2 ys.th.kids.length g2)) := by rw [← hWA]; exact Blk.new _ _ _
    have hbA : Below w9.heap.size w9 WA := by rw [← hWA]; (repeat (first | with_reducible assumption | with_reducible exact Below.refl _ _ | with_reducible refine Below.setCell ?_ (by first | omega | (simp; done) | (simp; omega)) _ | with_reducible refine Below.alloc ?_ (by first | omega | (simp; done) | (simp; omega)) _ | with_reducible refine below_drewN ?_ _ | with_reducible refine Below.drew ?_))
    clear hWA RI
    have hTA := hT9.ext hbA
    have hbWA := (hbW8.ext hb9).ext hbA
    clear hT9 hb9 hbA hbW8
    go_wp2_with fail
    refine (RSP.out WA).mono ?_
    rintro r w10 ⟨v10, rfl, hT10, hb10⟩
    obtain ⟨D1, D2, i1, i2, mid10, rfl, _⟩ := id hT10
    go_upto_region 11 with fail
    generalize hWB : World.alloc _ _ = WB
    have hbB : Below w10.heap.size w10 WB := by rw [← hWB]; (repeat (first | with_reducible assumption | with_reducible exact Below.refl _ _ | with_reducible refine Below.setCell ?_ (by first | omega | (simp; done) | (simp; omega)) _ | with_reducible refine Below.alloc ?_ (by first | omega | (simp; done) | (simp; omega)) _ | with_reducible refine below_drewN ?_ _ | with_reducible refine Below.drew ?_))
    clear hWB RSP hT10
    have hz10 := hb10.size
    have hBB := (hBA.below hb10 hBA.lt).below hbB (by have := hBA.lt; omega)
    have hTB := (hTA.ext hb10).ext hbB
    have hbWB := (hbWA.ext hb10).ext hbB
    clear hBA hTA hb10 hbB hbWA
    go_wp2_with fail
    refine (DS.out WB hbWB).mono ?_
    rintro r w11 ⟨ua, ub, sa, sb, rfl, hVa, hVb, hb11⟩
    have hVa := hVa.less (Nat.zero_le _)
    have hVb := hVb.less (Nat.zero_le _)
    obtain ⟨ka, nma, tya, ka1, na1, sa1, Aa1, ma1, ca1, ka2, na2, sa2, Aa3, ma2, ca2, xa1, xa2, rfl, hsa, _, _, _, _⟩ := id hVa.form
    obtain ⟨kb, nmb, tyb, kb1, nb1, sb1, Ab1, mb1, cb1, kb2, nb2, sb2, Ab3, mb2, cb2, xb1, xb2, rfl, hsb, _, _, _, _⟩ := id hVb.form
    clear hsa hsb
    go_upto_region 12 with fail
    generalize hWZ : World.alloc (World.alloc w11 _) _ = WZ
    have hb11Z : Below w11.heap.size w11 WZ := by rw [← hWZ]; (repeat (first | with_reducible assumption | with_reducible exact Below.refl _ _ | with_reducible refine Below.setCell ?_ (by first | omega | (simp; done) | (simp; omega)) _ | with_reducible refine Below.alloc ?_ (by first | omega | (simp; done) | (simp; omega)) _ | with_reducible refine below_drewN ?_ _ | with_reducible refine Below.drew ?_))
    have hBa : Blk WZ w11.heap.size 26 (cS ka nma tya ka1 na1 sa1 (.slice Aa1 ma1 ca1) ka2 na2 sa2 (.slice Aa3 ma2 ca2)) := by rw [← hWZ]; exact (Blk.new _ _ _).alloc _
    have hBb : Blk WZ (w11.heap.size + 1) 26 (cS kb nmb tyb kb1 nb1 sb1 (.slice Ab1 mb1 cb1) kb2 nb2 sb2 (.slice Ab3 mb2 cb2)) := by rw [← hWZ]; exact Blk.new' (by simp)
    clear hWZ
    have hz11 := hb11.size
    have hBY := (hBB.below hb11 hBB.lt).below hb11Z (by have := hBB.lt; omega)
    have hTY := (hTB.ext hb11).ext hb11Z
    have hbWZ := (hbWB.ext hb11).ext hb11Z
    have XA : ∀ w' : World, Below WZ.heap.size WZ w' → SmV w' w'.heap.size (.agg #[.int .i64 ka, .string (bs nma), .string (bs tya), .int .i64 ka1, .int .i64 na1, .string (bs sa1), .slice Aa1 ma1 ca1, .int .i64 ka2, .int .i64 na2, .string (bs sa2), .slice Aa3 ma2 ca2]) sa := fun w' h => hVa.smvF (hb11Z.ext h)
    have XB : ∀ w' : World, Below WZ.heap.size WZ w' → SmV w' w'.heap.size (.agg #[.int .i64 kb, .string (bs nmb), .string (bs tyb), .int .i64 kb1, .int .i64 nb1, .string (bs sb1), .slice Ab1 mb1 cb1, .int .i64 kb2, .int .i64 nb2, .string (bs sb2), .slice Ab3 mb2 cb2]) sb := fun w' h => hVb.smvF (hb11Z.ext h)
    have XY : ∀ w' : World, Below WZ.heap.size WZ w' → SmV w' w'.heap.size (.agg #[.int .i64 ys.kind, .string (bs ys.name), .string (bs ys.typ), .int .i64 ys.ex.kind, .int .i64 ys.ex.n, .string (bs ys.ex.s), .slice C1 ys.ex.kids.length g1, .int .i64 ys.th.kind, .int .i64 ys.th.n, .string (bs ys.th.s), .slice C2 ys.th.kids.length g2]) ys := fun w' h => (hTY.ext h).smv
    have SI := Lib.hid (fun (y : Later WZ.heap.size WZ) => imStmtSame_any _ _ _ _ y.w' (XA _ y.ok) (XB _ y.ok))
    have SP := Lib.hid (fun (y : Later WZ.heap.size WZ) => spStmtSame_any _ _ _ _ y.w' (XA _ y.ok) (XB _ y.ok))
    have SA := Lib.hid (fun (y : Later WZ.heap.size WZ) => imStmtSame_any _ _ _ _ y.w' (XA _ y.ok) (XA _ y.ok))
    rw [decide_eq_true (rfl : sa = sa)] at SA
    have YT := Lib.hid (fun (y : Later WZ.heap.size WZ) => imStmtText_any _ _ y.w' (XY _ y.ok) (HE.out.ext (hbWZ.ext y.ok)).env)
    have YK := Lib.hid (fun (y : Later WZ.heap.size WZ) => imStmtOk_any _ _ y.w' (XY _ y.ok) (HE.out.ext (hbWZ.ext y.ok)).env)
    generalize decide (sa = sb) = dab at *
    have hdd : (dab == dab) = true := by simp
    have hll : (line == line) = true := by simp
    obtain ⟨p0, p1, p2, p3, p4, p5, p6, p7, p8, p9, p10⟩ := cS_cells hBY
    obtain ⟨q0, q1, q2, q3, q4, q5, q6, q7, q8, q9, q10⟩ := cS_cells hBa
    obtain ⟨r0, r1, r2, r3, r4, r5, r6, r7, r8, r9, r10⟩ := cS_cells hBb
    clear hBY hBa hBb hTY hTB hBB hVa hVb XA XB XY hb11 hb11Z hbWB
    cases f
    · clear YT YK
      refine wp_region_later (Below.refl WZ.heap.size WZ) (by kernel_rfl) (by kernel_rfl) ?_
      repeat (go_big_quiet_step ((first
        | (go_at_call 22; first | with_reducible exact later_call2 SI.out | with_reducible exact later_call2 SA.out)
        | (go_at_call 25; with_reducible exact later_call2 SP.out))))
      refine wpQuiet_nil ?_
      rintro _ ⟨z, rfl⟩
      have hz := z.ok
      go_wp2_with fail
      go_ret
      exact ⟨rfl, hbWZ.ext hz⟩
    · obtain ⟨hy1, hy2⟩ := HY.out rfl
      rw [hy1, if_pos rfl, hy2] at YT
      rw [hy1] at YK
      refine wp_region_later (Below.refl WZ.heap.size WZ) (by kernel_rfl) (by kernel_rfl) ?_
      repeat (go_big_quiet_step ((first
        | (go_at_call 22; first | with_reducible exact later_call2 SI.out | with_reducible exact later_call2 SA.out)
        | (go_at_call 25; with_reducible exact later_call2 SP.out)
        | (go_at_call 18; with_reducible exact later_call2 YT.out)
        | (go_at_call 20; with_reducible exact later_call2 YK.out))))
      refine wpQuiet_nil ?_
      rintro _ ⟨z, rfl⟩
      have hz := z.ok
      go_wp2_with fail
      go_ret
      exact ⟨rfl, hbWZ.ext hz⟩
  · obtain ⟨rfl, rfl⟩ := hsame rfl
    refine wp_region_later (Below.refl W6.heap.size W6) (by kernel_rfl) (by kernel_rfl) ?_
    repeat (go_big_quiet_step ((first
      | (go_at_call 19; with_reducible exact later_call2 LT.out)
      | (go_at_call 20; with_reducible exact later_call2 LI.out)
      | (go_at_call 21; with_reducible exact later_call2 LS.out)
      | (go_at_call 22; with_reducible exact later_call2 LM.out))))
    refine wpQuiet_nil ?_
    rintro _ ⟨y, rfl⟩
    have hbW7 := hbW6.ext y.ok
    generalize y.w' = w7 at *
    clear a0 a1 a2 a3 a4 a5 a6 a7 a8 a9 a10 b0 b1 b2 b3 b4 b5 b6 b7 b8 b9 b10 LT LI LS LM hbW6 hsame
    go_wp2_with fail
    refine (DL.out w7 hbW7).mono ?_
    rintro r w8 ⟨line, rfl, hln, hb8⟩
    have hbW8 := hbW7.ext hb8
    clear hbW7 hb8
    have RI := Lib.hid (imStmtRead_any line w8 hln (HE.out.ext hbW8))
    have RSP := Lib.hid (fun (w' : World) => spStmtRead_any line w' hln)
    have HY := Lib.hid (@rdSm_of line)
    unfold RsA at RI RSP
    generalize rdSOk line = f at *
    generalize rdSm line = ys at *
    go_wp2_with fail
    refine RI.out.mono ?_
    rintro r w9 ⟨v9, rfl, hT9, hb9⟩
    obtain ⟨C1, C2, g1, g2, mid9, rfl, _⟩ := id hT9
    go_upto_region 10 with fail
    generalize hWA : World.alloc _ _ = WA
    have hBA : Blk WA w9.heap.size 26 (cS ys.kind ys.name ys.typ ys.ex.kind ys.ex.n ys.ex.s (.slice C1 ys.ex.kids.length g1) ys.th.kind ys.th.n ys.th.s (.slice C2 ys.th.kids.length g2)) := by rw [← hWA]; exact Blk.new _ _ _
    have hbA : Below w9.heap.size w9 WA := by rw [← hWA]; (repeat (first | with_reducible assumption | with_reducible exact Below.refl _ _ | with_reducible refine Below.setCell ?_ (by first | omega | (simp; done) | (simp; omega)) _ | with_reducible refine Below.alloc ?_ (by first | omega | (simp; done) | (simp; omega)) _ | with_reducible refine below_drewN ?_ _ | with_reducible refine Below.drew ?_))
    clear hWA RI
    have hTA := hT9.ext hbA
    have hbWA := (hbW8.ext hb9).ext hbA
    clear hT9 hb9 hbA hbW8
    go_wp2_with fail
    refine (RSP.out WA).mono ?_
    rintro r w10 ⟨v10, rfl, hT10, hb10⟩
    obtain ⟨D1, D2, i1, i2, mid10, rfl, _⟩ := id hT10
    go_upto_region 11 with fail
    generalize hWB : World.alloc _ _ = WB
    have hbB : Below w10.heap.size w10 WB := by rw [← hWB]; (repeat (first | with_reducible assumption | with_reducible exact Below.refl _ _ | with_reducible refine Below.setCell ?_ (by first | omega | (simp; done) | (simp; omega)) _ | with_reducible refine Below.alloc ?_ (by first | omega | (simp; done) | (simp; omega)) _ | with_reducible refine below_drewN ?_ _ | with_reducible refine Below.drew ?_))
    clear hWB RSP hT10
    have hz10 := hb10.size
    have hBB := (hBA.below hb10 hBA.lt).below hbB (by have := hBA.lt; omega)
    have hTB := (hTA.ext hb10).ext hbB
    have hbWB := (hbWA.ext hb10).ext hbB
    clear hBA hTA hb10 hbB hbWA
    go_wp2_with fail
    refine (DS.out WB hbWB).mono ?_
    rintro r w11 ⟨ua, ub, sa, sb, rfl, hVa, hVb, hb11⟩
    have hVa := hVa.less (Nat.zero_le _)
    have hVb := hVb.less (Nat.zero_le _)
    obtain ⟨ka, nma, tya, ka1, na1, sa1, Aa1, ma1, ca1, ka2, na2, sa2, Aa3, ma2, ca2, xa1, xa2, rfl, hsa, _, _, _, _⟩ := id hVa.form
    obtain ⟨kb, nmb, tyb, kb1, nb1, sb1, Ab1, mb1, cb1, kb2, nb2, sb2, Ab3, mb2, cb2, xb1, xb2, rfl, hsb, _, _, _, _⟩ := id hVb.form
    clear hsa hsb
    go_upto_region 12 with fail
    generalize hWZ : World.alloc (World.alloc w11 _) _ = WZ
    have hb11Z : Below w11.heap.size w11 WZ := by rw [← hWZ]; (repeat (first | with_reducible assumption | with_reducible exact Below.refl _ _ | with_reducible refine Below.setCell ?_ (by first | omega | (simp; done) | (simp; omega)) _ | with_reducible refine Below.alloc ?_ (by first | omega | (simp; done) | (simp; omega)) _ | with_reducible refine below_drewN ?_ _ | with_reducible refine Below.drew ?_))
    have hBa : Blk WZ w11.heap.size 26 (cS ka nma tya ka1 na1 sa1 (.slice Aa1 ma1 ca1) ka2 na2 sa2 (.slice Aa3 ma2 ca2)) := by rw [← hWZ]; exact (Blk.new _ _ _).alloc _
    have hBb : Blk WZ (w11.heap.size + 1) 26 (cS kb nmb tyb kb1 nb1 sb1 (.slice Ab1 mb1 cb1) kb2 nb2 sb2 (.slice Ab3 mb2 cb2)) := by rw [← hWZ]; exact Blk.new' (by simp)
    clear hWZ
    have hz11 := hb11.size
    have hBY := (hBB.below hb11 hBB.lt).below hb11Z (by have := hBB.lt; omega)
    have hTY := (hTB.ext hb11).ext hb11Z
    have hbWZ := (hbWB.ext hb11).ext hb11Z
    have XA : ∀ w' : World, Below WZ.heap.size WZ w' → SmV w' w'.heap.size (.agg #[.int .i64 ka, .string (bs nma), .string (bs tya), .int .i64 ka1, .int .i64 na1, .string (bs sa1), .slice Aa1 ma1 ca1, .int .i64 ka2, .int .i64 na2, .string (bs sa2), .slice Aa3 ma2 ca2]) sa := fun w' h => hVa.smvF (hb11Z.ext h)
    have XB : ∀ w' : World, Below WZ.heap.size WZ w' → SmV w' w'.heap.size (.agg #[.int .i64 kb, .string (bs nmb), .string (bs tyb), .int .i64 kb1, .int .i64 nb1, .string (bs sb1), .slice Ab1 mb1 cb1, .int .i64 kb2, .int .i64 nb2, .string (bs sb2), .slice Ab3 mb2 cb2]) sb := fun w' h => hVb.smvF (hb11Z.ext h)
    have XY : ∀ w' : World, Below WZ.heap.size WZ w' → SmV w' w'.heap.size (.agg #[.int .i64 ys.kind, .string (bs ys.name), .string (bs ys.typ), .int .i64 ys.ex.kind, .int .i64 ys.ex.n, .string (bs ys.ex.s), .slice C1 ys.ex.kids.length g1, .int .i64 ys.th.kind, .int .i64 ys.th.n, .string (bs ys.th.s), .slice C2 ys.th.kids.length g2]) ys := fun w' h => (hTY.ext h).smv
    have SI := Lib.hid (fun (y : Later WZ.heap.size WZ) => imStmtSame_any _ _ _ _ y.w' (XA _ y.ok) (XB _ y.ok))
    have SP := Lib.hid (fun (y : Later WZ.heap.size WZ) => spStmtSame_any _ _ _ _ y.w' (XA _ y.ok) (XB _ y.ok))
    have SA := Lib.hid (fun (y : Later WZ.heap.size WZ) => imStmtSame_any _ _ _ _ y.w' (XA _ y.ok) (XA _ y.ok))
    rw [decide_eq_true (rfl : sa = sa)] at SA
    have YT := Lib.hid (fun (y : Later WZ.heap.size WZ) => imStmtText_any _ _ y.w' (XY _ y.ok) (HE.out.ext (hbWZ.ext y.ok)).env)
    have YK := Lib.hid (fun (y : Later WZ.heap.size WZ) => imStmtOk_any _ _ y.w' (XY _ y.ok) (HE.out.ext (hbWZ.ext y.ok)).env)
    generalize decide (sa = sb) = dab at *
    have hdd : (dab == dab) = true := by simp
    have hll : (line == line) = true := by simp
    obtain ⟨p0, p1, p2, p3, p4, p5, p6, p7, p8, p9, p10⟩ := cS_cells hBY
    obtain ⟨q0, q1, q2, q3, q4, q5, q6, q7, q8, q9, q10⟩ := cS_cells hBa
    obtain ⟨r0, r1, r2, r3, r4, r5, r6, r7, r8, r9, r10⟩ := cS_cells hBb
    clear hBY hBa hBb hTY hTB hBB hVa hVb XA XB XY hb11 hb11Z hbWB
    cases f
    · clear YT YK
      refine wp_region_later (Below.refl WZ.heap.size WZ) (by kernel_rfl) (by kernel_rfl) ?_
      repeat (go_big_quiet_step ((first
        | (go_at_call 22; first | with_reducible exact later_call2 SI.out | with_reducible exact later_call2 SA.out)
        | (go_at_call 25; with_reducible exact later_call2 SP.out))))
      refine wpQuiet_nil ?_
      rintro _ ⟨z, rfl⟩
      have hz := z.ok
      go_wp2_with fail
      go_ret
      exact ⟨rfl, hbWZ.ext hz⟩
    · obtain ⟨hy1, hy2⟩ := HY.out rfl
      rw [hy1, if_pos rfl, hy2] at YT
      rw [hy1] at YK
      refine wp_region_later (Below.refl WZ.heap.size WZ) (by kernel_rfl) (by kernel_rfl) ?_
      repeat (go_big_quiet_step ((first
        | (go_at_call 22; first | with_reducible exact later_call2 SI.out | with_reducible exact later_call2 SA.out)
        | (go_at_call 25; with_reducible exact later_call2 SP.out)
        | (go_at_call 18; with_reducible exact later_call2 YT.out)
        | (go_at_call 20; with_reducible exact later_call2 YK.out))))
      refine wpQuiet_nil ?_
      rintro _ ⟨z, rfl⟩
      have hz := z.ok
      go_wp2_with fail
      go_ret
      exact ⟨rfl, hbWZ.ext hz⟩
end Go.Proofs.YtgakjhaepdigpaaGreatDoor
