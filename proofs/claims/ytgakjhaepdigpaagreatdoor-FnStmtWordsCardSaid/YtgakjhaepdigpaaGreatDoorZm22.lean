/- The law FnStmtWords: the walk. -/
import Derived.Test.YtgakjhaepdigpaaGreatDoorZm20
import Derived.Test.YtgakjhaepdigpaaGreatDoorZm19
import Derived.Test.YtgakjhaepdigpaaGreatDoorRsL
import Derived.Test.YtgakjhaepdigpaaGreatDoorStOk
import Derived.Test.YtgakjhaepdigpaaGreatDoorMsS
import Derived.Test.YtgakjhaepdigpaaGreatDoorZm7
import Derived.Test.YtgakjhaepdigpaaGreatDoorZm15
import Derived.Test.YtgakjhaepdigpaaGreatDoorDwPQ
namespace Go.Proofs.YtgakjhaepdigpaaGreatDoor
set_option maxRecDepth 100000
set_option linter.unusedSimpArgs false
set_option linter.unusedVariables false
open Go.RowKit
attribute [local go_sem] bs_toList bs_get bs_size cS

theorem cS_now {w : World} {b : Nat} {k : Int} {nm ty : Bytes} {k1 n1 : Int} {s1 : Bytes} {v1 : Value} {k2 n2 : Int} {s2 : Bytes} {v2 : Value} (h : Blk w b 26 (cS k nm ty k1 n1 s1 v1 k2 n2 s2 v2)) :
    w.cell? ⟨b, 0, none⟩ = some (.int .i64 k) ∧ w.cell? ⟨b, 1, none⟩ = some (.string (bs nm)) ∧ w.cell? ⟨b, 2, none⟩ = some (.string (bs ty)) ∧ w.cell? ⟨b, 3, none⟩ = some (.int .i64 k1) ∧ w.cell? ⟨b, 4, none⟩ = some (.int .i64 n1) ∧ w.cell? ⟨b, 5, none⟩ = some (.string (bs s1)) ∧ w.cell? ⟨b, 6, none⟩ = some v1 ∧ w.cell? ⟨b, 7, none⟩ = some (.int .i64 k2) ∧ w.cell? ⟨b, 8, none⟩ = some (.int .i64 n2) ∧ w.cell? ⟨b, 9, none⟩ = some (.string (bs s2)) ∧ w.cell? ⟨b, 10, none⟩ = some v2 :=
  ⟨h.cell 0, h.cell 1, h.cell 2, h.cell 3, h.cell 4, h.cell 5, h.cell 6, h.cell 7, h.cell 8, h.cell 9, h.cell 10⟩
theorem line_tok {s : Sm} (h : smOkB s = true) : (smText s).length ≤ 120 ∧ ∃ l, tokL 0 (smText s) = some l := by
  obtain ⟨t, rfl, ht⟩ := smOkB_iff.1 h
  rw [smText_se ht.1]
  exact ⟨by have := ht.2; omega, _, tok_join t.words 0 (SE.words_kind' t ht.1)⟩
theorem tk_str {b o n c B : Nat} {W : World} {l : List Tk} {i : Nat} {s : Bytes} (h : Sl tkRow 3 W B (.slice (some ⟨b, o, none⟩) n c) l) (hi : (l.map Tk.s)[i]? = some s) : ∀ x : Later B W, x.w'.cell? ⟨b, o + i * 3 + 1, none⟩ = some (.string (bs s)) := by
  rw [List.getElem?_map, Option.map_eq_some_iff] at hi
  obtain ⟨y, hy, rfl⟩ := hi
  obtain ⟨b', o', k', s', q', e, _, hg, _, f1, _⟩ := tk_at h (List.getElem?_eq_some_iff.1 hy).1
  obtain ⟨rfl, rfl⟩ : b = b' ∧ o = o' := by simpa using e
  rw [hy] at hg
  obtain rfl := Option.some.inj hg
  exact f1
set_option maxHeartbeats 4000000 in
theorem lawSWords (W : World) (v : Value) (cl : List Int) (hv : CodeV W v cl) (hE : EnvA W) : Calls Tryz.prog 5 #[v] W fun e w' => e = .returned (.bool true) ∧ Below W.heap.size W w' := by
  have DR := Lib.hid (drawSt_any v cl W hv)
  obtain ⟨A, c, rfl, hc, hm⟩ := hv.1.val
  clear hv
  obtain ⟨big, hb1⟩ : ∃ b, decide ((1048576 : Int) < ((cl.length : Nat) : Int)) = b := ⟨_, rfl⟩
  cases big
  rotate_left
  · clear hE
    go_enter Tryz.func5, Tryz.ntmps5
    go_wp2_with fail
    go_ret
    exact ⟨rfl, Below.refl _ _⟩
  have HE := Lib.hid hE
  clear hE
  go_enter Tryz.func5, Tryz.ntmps5
  go_wp2_with fail
  refine DR.out.mono ?_
  rintro r w1 ⟨u, s, rfl, hV, hbw1⟩
  have hV := hV.less (Nat.zero_le _)
  obtain ⟨k, nm, ty, k1, n1, s1, A1, m1, cp1, k2, n2, s2, A2, m2, cp2, x1, x2, rfl, rfl, _, _, hla1, hla2⟩ := id hV.form
  have HV := Lib.hid hV
  clear hV
  go_upto_region 4 with fail
  generalize hW3 : World.alloc _ _ = W3
  have hB3 : Blk W3 w1.heap.size 26 (cS k nm ty k1 n1 s1 (.slice A1 m1 cp1) k2 n2 s2 (.slice A2 m2 cp2)) := by rw [← hW3]; exact Blk.new _ _ _
  have hb3 : Below w1.heap.size w1 W3 := by rw [← hW3]; (repeat (first | with_reducible assumption | with_reducible exact Below.refl _ _ | with_reducible refine Below.setCell ?_ (by first | omega | (simp; done) | (simp; omega)) _ | with_reducible refine Below.alloc ?_ (by first | omega | (simp; done) | (simp; omega)) _ | with_reducible refine below_drewN ?_ _ | with_reducible refine Below.drew ?_))
  clear hW3
  have hbW3 := hbw1.ext hb3
  have VA : ∀ w' : World, Below W3.heap.size W3 w' → SmV w' w'.heap.size (.agg #[.int .i64 k, .string (bs nm), .string (bs ty), .int .i64 k1, .int .i64 n1, .string (bs s1), .slice A1 m1 cp1, .int .i64 k2, .int .i64 n2, .string (bs s2), .slice A2 m2 cp2]) ⟨k, nm, ty, x1, x2⟩ := fun w' h => HV.out.smvF (hb3.ext h)
  have TI := Lib.hid (fun (w' : World) (h : Below W3.heap.size W3 w') => imStmtText_any _ _ w' (VA w' h) (HE.out.ext (hbW3.ext h)).env)
  have TS := Lib.hid (fun (w' : World) (h : Below W3.heap.size W3 w') => spStmtText_any _ _ w' (VA w' h))
  have OK := Lib.hid (fun (w' : World) (h : Below W3.heap.size W3 w') => spStmtOk_any _ _ w' (VA w' h))
  have TL := Lib.hid (fun (t : Bytes) (ht : t.length ≤ 100000000) (w' : World) (h : Below W3.heap.size W3 w') => imTokLine_any t w' ht (HE.out.ext (hbW3.ext h)))
  have RS := Lib.hid (fun (t : Bytes) (ht : t.length ≤ 100000000) (w' : World) (h : Below W3.heap.size W3 w') => imStmtRead_any t w' ht (HE.out.ext (hbW3.ext h)))
  have htl : (if smOkB ⟨k, nm, ty, x1, x2⟩ = true then smText ⟨k, nm, ty, x1, x2⟩ else []).length ≤ 51200 := by
    split
    · rename_i hk
      rw [smOkB_form, Bool.and_eq_true] at hk
      have := smText_len hk.1
      omega
    · simp
  have HTX := Lib.hid (show ∀ h : smOkB ⟨k, nm, ty, x1, x2⟩ = true, (if smOkB ⟨k, nm, ty, x1, x2⟩ = true then smText ⟨k, nm, ty, x1, x2⟩ else []) = smText ⟨k, nm, ty, x1, x2⟩ from fun h => if_pos h)
  generalize (if smOkB ⟨k, nm, ty, x1, x2⟩ = true then smText ⟨k, nm, ty, x1, x2⟩ else []) = tx at *
  have hte : (tx != tx) = false := by simp
  have hte2 : (tx == tx) = true := by simp
  clear HV VA
  have hz3 := hB3.lt
  obtain ⟨y0, y1, y2, y3, y4, y5, y6, y7, y8, y9, y10⟩ := cS_now hB3
  go_wp2_with fail
  refine (TI.out _ (Below.refl _ _)).mono ?_
  rintro r w4 ⟨rfl, hb4⟩
  have hB4 := hB3.below hb4 hB3.lt
  clear y0 y1 y2 y3 y4 y5 y6 y7 y8 y9 y10
  clear hB3 TI
  obtain ⟨y0, y1, y2, y3, y4, y5, y6, y7, y8, y9, y10⟩ := cS_now hB4
  go_wp2_with fail
  refine (TS.out _ hb4).mono ?_
  rintro r w5 ⟨rfl, hb5⟩
  have hb35 := hb4.ext hb5
  have hB5 := hB4.below hb5 hB4.lt
  clear y0 y1 y2 y3 y4 y5 y6 y7 y8 y9 y10
  clear hB4
  obtain ⟨y0, y1, y2, y3, y4, y5, y6, y7, y8, y9, y10⟩ := cS_now hB5
  have O1 := Lib.hid (OK.out _ hb35)
  clear OK
  cases hok : smOkB ⟨k, nm, ty, x1, x2⟩
  · rw [hok] at O1
    go_wp2_with fail
    refine O1.out.mono ?_
    rintro r w6 ⟨rfl, hb6⟩
    have hB6 := hB5.below hb6 hB5.lt
    clear y0 y1 y2 y3 y4 y5 y6 y7 y8 y9 y10
    clear hB5
    obtain ⟨y0, y1, y2, y3, y4, y5, y6, y7, y8, y9, y10⟩ := cS_now hB6
    go_wp2_with fail
    refine (TS.out _ (hb35.ext hb6)).mono ?_
    rintro r w7 ⟨rfl, hb7⟩
    go_wp2_with fail
    go_ret
    exact ⟨rfl, hbW3.ext ((hb35.ext hb6).ext hb7)⟩
  rw [hok] at O1
  obtain rfl : tx = smText ⟨k, nm, ty, x1, x2⟩ := HTX.out hok
  obtain ⟨htl, l0, hl0⟩ := line_tok hok
  have hLW := line_words hok hl0
  have HL1 := Lib.hid (fun (h : k ≠ 0) => line_let hok h)
  have HL2 := Lib.hid (line_two (smText ⟨k, nm, ty, x1, x2⟩))
  have HOK := Lib.hid hok
  clear hok HTX
  generalize smText ⟨k, nm, ty, x1, x2⟩ = tx at *
  go_wp2_with fail
  refine O1.out.mono ?_
  rintro r w6 ⟨rfl, hb6⟩
  have hb36 := hb35.ext hb6
  have hB6 := hB5.below hb6 hB5.lt
  clear y0 y1 y2 y3 y4 y5 y6 y7 y8 y9 y10
  clear hB5 O1 TS
  go_wp2_with fail
  refine (TL.out tx (by omega) _ hb36).mono ?_
  rintro r w7 ⟨x7, l, ok, rfl, hF7, hor, hb7⟩
  have hb37 := hb36.ext hb7
  have hB7 := hB6.below hb7 hB6.lt
  obtain ⟨rfl, rfl⟩ : ok = true ∧ l = l0 := by
    rcases hor with ⟨rfl, _, h⟩ | ⟨_, _, h | h⟩
    · exact ⟨rfl, by rw [hl0] at h; exact (Option.some.inj h).symm⟩
    · omega
    · rw [hl0] at h; cases h
  have hv := hF7.sl
  obtain ⟨A, c, rfl, hc, hm⟩ := hv.val
  clear hF7 hor TL hB6 hl0 hte hte2
  rcases hLW with ⟨rfl, rfl⟩ | ⟨rfl, h5, g0, g1, g2, g3, g4⟩ | ⟨rfl, h5, g0⟩ | ⟨rfl, h5, g0⟩
  · obtain ⟨y0, y1, y2, y3, y4, y5, y6, y7, y8, y9, y10⟩ := cS_now hB7
    go_wp2_with fail
    go_ret
    exact ⟨rfl, hbW3.ext hb37⟩
  · obtain ⟨b, o, _, _, _, rfl, hbB, _, _, _, _⟩ := tk_at hv (show 0 < l.length by omega)
    have t0 := tk_str hv g0
    have t1 := tk_str hv g1
    have t2 := tk_str hv g2
    have t3 := tk_str hv g3
    have t4 := tk_str hv g4
    simp only [Nat.zero_mul, Nat.add_zero] at t0
    have t0' := t0 ⟨w7, Below.refl _ _⟩
    have a0 := hB7.cell 0
    have hne0 : ¬ l.length = 0 := by omega
    have hz7 := hB7.lt
    obtain ⟨q0, q1, q2, q3, q4, q5, q6, q7, q8, q9, q10⟩ := cS_cells hB7
    simp [cS] at a0
    go_upto_region 10 with fail
    go_region
    go_upto_region 12 with fail
    generalize hWY : World.drew _ = WY
    have hbY : Below w7.heap.size w7 WY := by rw [← hWY]; (repeat (first | with_reducible assumption | with_reducible exact Below.refl _ _ | with_reducible refine Below.setCell ?_ (by first | omega | (simp; done) | (simp; omega)) _ | with_reducible refine Below.alloc ?_ (by first | omega | (simp; done) | (simp; omega)) _ | with_reducible refine below_drewN ?_ _ | with_reducible refine Below.drew ?_))
    clear hWY
    have i1 : 1 < l.length := by omega
    have i2 : 2 < l.length := by omega
    have i3 : 3 < l.length := by omega
    have i4 : 4 < l.length := by omega
    have hnm : (nm != nm) = false := by simp
    have hty : (ty != ty) = false := by simp
    clear t0 t0' g0 g1 g2 g3 g4
    refine wp_region_later hbY (by kernel_rfl) (by kernel_rfl) ?_
    repeat (go_big_quiet_step (fail))
    refine wpQuiet_nil ?_
    rintro _ ⟨y, rfl⟩
    have hb3Y := hb37.ext y.ok
    generalize y.w' = w8 at *
    have e1 : bs tx ++ ⟨#[32, 108, 101, 116]⟩ = bs (tx ++ [32, 108, 101, 116]) := (bs_append _ _).symm
    have e2 : bs tx ++ ⟨#[32, 32]⟩ = bs (tx ++ [32, 32]) := (bs_append _ _).symm
    have z1 : ¬ 9223372036854775807 < tx.length + 4 := by omega
    have z2 : ¬ 9223372036854775807 < tx.length + 2 := by omega
    have R1 := Lib.hid (RS.out (tx ++ [32, 108, 101, 116]) (by simp; omega) w8 hb3Y)
    have R2 := Lib.hid (fun (w' : World) (h : Below W3.heap.size W3 w') => RS.out (tx ++ [32, 32]) (by simp; omega) w' h)
    have hl1 := HL1.out (by decide)
    have hl2 := HL2.out
    unfold RsA at R1 R2
    rw [hl1] at R1
    rw [hl2] at R2
    clear hl1 hl2 HL1 HL2
    generalize rdSm (tx ++ [32, 108, 101, 116]) = ra at *
    generalize rdSm (tx ++ [32, 32]) = rb at *
    go_wp2_with fail
    refine R1.out.mono ?_
    rintro r w9 ⟨v9, rfl, hT9, hb9⟩
    obtain ⟨A3, A4, c3, c4, mid, rfl, _⟩ := id hT9
    have hb39 := hb3Y.ext hb9
    clear hT9 R1 e1 z1
    go_upto_region 15 with fail
    generalize hWA : World.alloc _ _ = WA
    have hbA : Below w9.heap.size w9 WA := by rw [← hWA]; (repeat (first | with_reducible assumption | with_reducible exact Below.refl _ _ | with_reducible refine Below.setCell ?_ (by first | omega | (simp; done) | (simp; omega)) _ | with_reducible refine Below.alloc ?_ (by first | omega | (simp; done) | (simp; omega)) _ | with_reducible refine below_drewN ?_ _ | with_reducible refine Below.drew ?_))
    have hb3A := hb39.ext hbA
    clear hWA
    go_wp2_with fail
    refine (R2.out _ hb3A).mono ?_
    rintro r wb ⟨vb, rfl, hTb, hbb⟩
    obtain ⟨A5, A6, c5, c6, mid2, rfl, _⟩ := id hTb
    have hb3b := hb3A.ext hbb
    clear hTb
    go_wp2_with fail
    go_ret
    exact ⟨rfl, by have hh := hbW3.ext hb3b; have hzz := hh.size; (repeat (first | with_reducible assumption | with_reducible exact Below.refl _ _ | with_reducible refine Below.setCell ?_ (by first | omega | (simp; done) | (simp; omega)) _ | with_reducible refine Below.alloc ?_ (by first | omega | (simp; done) | (simp; omega)) _ | with_reducible refine below_drewN ?_ _ | with_reducible refine Below.drew ?_ | with_reducible refine Below.trans ?_ (Below.mono hh (by first | omega | (simp; done) | (simp; omega)))))⟩
  · obtain ⟨b, o, _, _, _, rfl, hbB, _, _, _, _⟩ := tk_at hv h5
    have t0 := tk_str hv g0
    simp only [Nat.zero_mul, Nat.add_zero] at t0
    have t0' := t0 ⟨w7, Below.refl _ _⟩
    have a0 := hB7.cell 0
    have hne0 : ¬ l.length = 0 := by omega
    have hz7 := hB7.lt
    obtain ⟨q0, q1, q2, q3, q4, q5, q6, q7, q8, q9, q10⟩ := cS_cells hB7
    simp [cS] at a0
    go_upto_region 10 with fail
    go_region
    go_upto_region 12 with fail
    generalize hWY : World.drew _ = WY
    have hbY : Below w7.heap.size w7 WY := by rw [← hWY]; (repeat (first | with_reducible assumption | with_reducible exact Below.refl _ _ | with_reducible refine Below.setCell ?_ (by first | omega | (simp; done) | (simp; omega)) _ | with_reducible refine Below.alloc ?_ (by first | omega | (simp; done) | (simp; omega)) _ | with_reducible refine below_drewN ?_ _ | with_reducible refine Below.drew ?_))
    clear hWY t0 t0' g0
    refine wp_region_later hbY (by kernel_rfl) (by kernel_rfl) ?_
    repeat (go_big_quiet_step (fail))
    refine wpQuiet_nil ?_
    rintro _ ⟨y, rfl⟩
    have hb3Y := hb37.ext y.ok
    generalize y.w' = w8 at *
    have e1 : bs tx ++ ⟨#[32, 108, 101, 116]⟩ = bs (tx ++ [32, 108, 101, 116]) := (bs_append _ _).symm
    have e2 : bs tx ++ ⟨#[32, 32]⟩ = bs (tx ++ [32, 32]) := (bs_append _ _).symm
    have z1 : ¬ 9223372036854775807 < tx.length + 4 := by omega
    have z2 : ¬ 9223372036854775807 < tx.length + 2 := by omega
    have R1 := Lib.hid (RS.out (tx ++ [32, 108, 101, 116]) (by simp; omega) w8 hb3Y)
    have R2 := Lib.hid (fun (w' : World) (h : Below W3.heap.size W3 w') => RS.out (tx ++ [32, 32]) (by simp; omega) w' h)
    have hl1 := HL1.out (by decide)
    have hl2 := HL2.out
    unfold RsA at R1 R2
    rw [hl1] at R1
    rw [hl2] at R2
    clear hl1 hl2 HL1 HL2
    generalize rdSm (tx ++ [32, 108, 101, 116]) = ra at *
    generalize rdSm (tx ++ [32, 32]) = rb at *
    go_wp2_with fail
    refine R1.out.mono ?_
    rintro r w9 ⟨v9, rfl, hT9, hb9⟩
    obtain ⟨A3, A4, c3, c4, mid, rfl, _⟩ := id hT9
    have hb39 := hb3Y.ext hb9
    clear hT9 R1 e1 z1
    go_upto_region 15 with fail
    generalize hWA : World.alloc _ _ = WA
    have hbA : Below w9.heap.size w9 WA := by rw [← hWA]; (repeat (first | with_reducible assumption | with_reducible exact Below.refl _ _ | with_reducible refine Below.setCell ?_ (by first | omega | (simp; done) | (simp; omega)) _ | with_reducible refine Below.alloc ?_ (by first | omega | (simp; done) | (simp; omega)) _ | with_reducible refine below_drewN ?_ _ | with_reducible refine Below.drew ?_))
    have hb3A := hb39.ext hbA
    clear hWA
    go_wp2_with fail
    refine (R2.out _ hb3A).mono ?_
    rintro r wb ⟨vb, rfl, hTb, hbb⟩
    obtain ⟨A5, A6, c5, c6, mid2, rfl, _⟩ := id hTb
    have hb3b := hb3A.ext hbb
    clear hTb
    go_wp2_with fail
    go_ret
    exact ⟨rfl, by have hh := hbW3.ext hb3b; have hzz := hh.size; (repeat (first | with_reducible assumption | with_reducible exact Below.refl _ _ | with_reducible refine Below.setCell ?_ (by first | omega | (simp; done) | (simp; omega)) _ | with_reducible refine Below.alloc ?_ (by first | omega | (simp; done) | (simp; omega)) _ | with_reducible refine below_drewN ?_ _ | with_reducible refine Below.drew ?_ | with_reducible refine Below.trans ?_ (Below.mono hh (by first | omega | (simp; done) | (simp; omega)))))⟩
  · obtain ⟨b, o, _, _, _, rfl, hbB, _, _, _, _⟩ := tk_at hv h5
    have t0 := tk_str hv g0
    simp only [Nat.zero_mul, Nat.add_zero] at t0
    have t0' := t0 ⟨w7, Below.refl _ _⟩
    have a0 := hB7.cell 0
    have hne0 : ¬ l.length = 0 := by omega
    have hz7 := hB7.lt
    obtain ⟨q0, q1, q2, q3, q4, q5, q6, q7, q8, q9, q10⟩ := cS_cells hB7
    simp [cS] at a0
    go_upto_region 10 with fail
    go_region
    go_upto_region 12 with fail
    generalize hWY : World.drew _ = WY
    have hbY : Below w7.heap.size w7 WY := by rw [← hWY]; (repeat (first | with_reducible assumption | with_reducible exact Below.refl _ _ | with_reducible refine Below.setCell ?_ (by first | omega | (simp; done) | (simp; omega)) _ | with_reducible refine Below.alloc ?_ (by first | omega | (simp; done) | (simp; omega)) _ | with_reducible refine below_drewN ?_ _ | with_reducible refine Below.drew ?_))
    clear hWY t0 t0' g0
    refine wp_region_later hbY (by kernel_rfl) (by kernel_rfl) ?_
    repeat (go_big_quiet_step (fail))
    refine wpQuiet_nil ?_
    rintro _ ⟨y, rfl⟩
    have hb3Y := hb37.ext y.ok
    generalize y.w' = w8 at *
    have e1 : bs tx ++ ⟨#[32, 108, 101, 116]⟩ = bs (tx ++ [32, 108, 101, 116]) := (bs_append _ _).symm
    have e2 : bs tx ++ ⟨#[32, 32]⟩ = bs (tx ++ [32, 32]) := (bs_append _ _).symm
    have z1 : ¬ 9223372036854775807 < tx.length + 4 := by omega
    have z2 : ¬ 9223372036854775807 < tx.length + 2 := by omega
    have R1 := Lib.hid (RS.out (tx ++ [32, 108, 101, 116]) (by simp; omega) w8 hb3Y)
    have R2 := Lib.hid (fun (w' : World) (h : Below W3.heap.size W3 w') => RS.out (tx ++ [32, 32]) (by simp; omega) w' h)
    have hl1 := HL1.out (by decide)
    have hl2 := HL2.out
    unfold RsA at R1 R2
    rw [hl1] at R1
    rw [hl2] at R2
    clear hl1 hl2 HL1 HL2
    generalize rdSm (tx ++ [32, 108, 101, 116]) = ra at *
    generalize rdSm (tx ++ [32, 32]) = rb at *
    go_wp2_with fail
    refine R1.out.mono ?_
    rintro r w9 ⟨v9, rfl, hT9, hb9⟩
    obtain ⟨A3, A4, c3, c4, mid, rfl, _⟩ := id hT9
    have hb39 := hb3Y.ext hb9
    clear hT9 R1 e1 z1
    go_upto_region 15 with fail
    generalize hWA : World.alloc _ _ = WA
    have hbA : Below w9.heap.size w9 WA := by rw [← hWA]; (repeat (first | with_reducible assumption | with_reducible exact Below.refl _ _ | with_reducible refine Below.setCell ?_ (by first | omega | (simp; done) | (simp; omega)) _ | with_reducible refine Below.alloc ?_ (by first | omega | (simp; done) | (simp; omega)) _ | with_reducible refine below_drewN ?_ _ | with_reducible refine Below.drew ?_))
    have hb3A := hb39.ext hbA
    clear hWA
    go_wp2_with fail
    refine (R2.out _ hb3A).mono ?_
    rintro r wb ⟨vb, rfl, hTb, hbb⟩
    obtain ⟨A5, A6, c5, c6, mid2, rfl, _⟩ := id hTb
    have hb3b := hb3A.ext hbb
    clear hTb
    go_wp2_with fail
    go_ret
    exact ⟨rfl, by have hh := hbW3.ext hb3b; have hzz := hh.size; (repeat (first | with_reducible assumption | with_reducible exact Below.refl _ _ | with_reducible refine Below.setCell ?_ (by first | omega | (simp; done) | (simp; omega)) _ | with_reducible refine Below.alloc ?_ (by first | omega | (simp; done) | (simp; omega)) _ | with_reducible refine below_drewN ?_ _ | with_reducible refine Below.drew ?_ | with_reducible refine Below.trans ?_ (Below.mono hh (by first | omega | (simp; done) | (simp; omega)))))⟩
end Go.Proofs.YtgakjhaepdigpaaGreatDoor


/- From the data of a law's code to bytes in memory. No condition. -/
namespace Go.Proofs.YtgakjhaepdigpaaGreatDoor
set_option maxRecDepth 100000
set_option linter.unusedSimpArgs false
set_option linter.unusedVariables false
open Go.RowKit Go.ChangeShapes Go.WideShapes Go.ChangeAt Go.Deep
section
variable {H : Type} {enc : TypeId × Value → H} {W W' : World}
theorem code_open {sp : Nat → Bool} {v : Value} {d : DataW H} {p : List MemPlace} {r : Reach} {b0 : Nat} (hv : Value.okWide Tryz.prog W r b0 32 v) (h : DataW.Trod enc Tryz.prog W 0 sp true 32 v d p) : ∃ l : List Int, CodeV W v l := by
  obtain ⟨a0, len0, cap0, rfl⟩ := okWide_slice Tryz.underlying32 hv
  obtain ⟨fuel, hf⟩ := h
  rcases DataW.trod_slice Tryz.underlying32 hf with ⟨hcs, _⟩ | ⟨a, len, cap, elems, rest, n, _, hcs, _, _, hl, hm, hel, hi, _⟩
  · simp [Value.cells] at hcs
    obtain ⟨rfl, rfl, rfl⟩ := hcs
    exact ⟨[], ⟨none, 0, rfl, Nat.le_refl _, by unfold maxLen; omega, fun h => absurd h (by simp)⟩, fun s h => by simp at h⟩
  · simp [Value.cells] at hcs
    obtain ⟨rfl, rfl, rfl⟩ := hcs
    exact sl_of_reads (row := byRow) (k := 1) (by decide) hl hm (reads_of_trod (k := 1) (by kernel_rfl) hi hel (fun cs x hx => by
      obtain ⟨n, hn, _, hz⟩ := DataW.trod_int Tryz.underlying5 hx
      refine ⟨n, hn, rfl, ?_⟩
      have h1 : IntKind.u8.min = 0 := by decide
      have h2 : IntKind.u8.max = 255 := by decide
      simp [Lit.wf, h1, h2] at hz
      omega))
end
end Go.Proofs.YtgakjhaepdigpaaGreatDoor
