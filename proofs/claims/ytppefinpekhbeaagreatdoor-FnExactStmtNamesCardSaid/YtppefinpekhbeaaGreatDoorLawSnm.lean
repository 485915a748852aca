
/- The law FnExactStmtNames: the walk. -/
import Derived.Test.YtppefinpekhbeaaGreatDoorMkZ
import Derived.Test.YtppefinpekhbeaaGreatDoorNmI
namespace Go.Proofs.YtppefinpekhbeaaGreatDoor
set_option maxRecDepth 100000
set_option linter.unusedSimpArgs false
set_option linter.unusedVariables false
open Go.RowKit
attribute [local go_sem] bs_toList bs_get bs_size

set_option maxHeartbeats 4000000 in
theorem lawStmtNames (W : World) (v : Value) (s : Sm) (hv : SmV W W.heap.size v s) (hE : Env W) : Calls Tryz.prog 5 #[v] W fun e w' => e = .returned (.bool true) ∧ Below W.heap.size W w' := by
  by_cases h1 : s.wt ≤ 1048576
  rotate_left
  · have SZ := Lib.hid (fun (w' : World) (h : Below W.heap.size W w') => szStmt_any s v w' 1048576 (by omega) (by omega) ((hv.keep h (Nat.le_refl _)).more h.size))
    have e1 : szOut 1048576 s.wt = -1 := szOut_no (by omega)
    rw [e1] at SZ
    obtain ⟨A1, A2, c1, c2, rfl, hn, ht, hE1, hE2⟩ := hv.form2
    clear hE1 hE2 e1 h1 hE
    go_enter Tryz.func5, Tryz.ntmps5
    go_wp2_with fail
    refine (SZ.out _ (by (repeat (first | with_reducible assumption | with_reducible exact Below.refl _ _ | with_reducible refine Below.setCell ?_ (by first | omega | (simp; done) | (simp; omega)) _ | with_reducible refine Below.alloc ?_ (by first | omega | (simp; done) | (simp; omega)) _ | with_reducible refine below_drewN ?_ _ | with_reducible refine Below.drew ?_)))).mono ?_
    rintro r w1 ⟨rfl, hb1⟩
    go_wp2_with fail
    go_ret
    exact ⟨rfl, by (repeat (first | with_reducible assumption | with_reducible exact Below.refl _ _ | with_reducible refine Below.setCell ?_ (by first | omega | (simp; done) | (simp; omega)) _ | with_reducible refine Below.alloc ?_ (by first | omega | (simp; done) | (simp; omega)) _ | with_reducible refine below_drewN ?_ _ | with_reducible refine Below.drew ?_ | with_reducible refine Below.trans ?_ (Below.mono hb1 (by first | omega | (simp; done) | (simp; omega)))))⟩
  have SZ := Lib.hid (fun (w' : World) (h : Below W.heap.size W w') => szStmt_any s v w' 1048576 (by omega) (by omega) ((hv.keep h (Nat.le_refl _)).more h.size))
  have e1 : szOut 1048576 s.wt = 1048576 - s.wt := szOut_yes (by omega)
  rw [e1] at SZ
  have TO := Lib.hid (fun (w' : World) (h : Below W.heap.size W w') => toStmt_any s v w' h1 ((hv.keep h (Nat.le_refl _)).more h.size))
  have SP := Lib.hid (fun (w' : World) (u : Value) (hu : SmV w' w'.heap.size u s) => spStmtNames_any s u w' hu)
  have IM := Lib.hid (fun (w' : World) (u : Value) (hu : SmV w' w'.heap.size u s) (h : Below W.heap.size W w') => imStmtNames_any s u w' hu (hE.ext h))
  have hln := smNm_len s
  generalize smNm s = nm at *
  obtain ⟨A1, A2, c1, c2, rfl, hn, ht, hE1, hE2⟩ := hv.form2
  have hw0 : (0 : Int) ≤ 1048576 - (s.wt : Int) := by omega
  have H1 := Lib.hid h1
  clear hE1 hE2 e1 h1 hE hv
  go_enter Tryz.func5, Tryz.ntmps5
  go_wp2_with fail
  refine (SZ.out _ (by (repeat (first | with_reducible assumption | with_reducible exact Below.refl _ _ | with_reducible refine Below.setCell ?_ (by first | omega | (simp; done) | (simp; omega)) _ | with_reducible refine Below.alloc ?_ (by first | omega | (simp; done) | (simp; omega)) _ | with_reducible refine below_drewN ?_ _ | with_reducible refine Below.drew ?_)))).mono ?_
  rintro r w1 ⟨rfl, hb1⟩
  have hz1 := hb1.size
  (try simp at hz1)
  have hbw1 : Below W.heap.size W w1 := by (repeat (first | with_reducible assumption | with_reducible exact Below.refl _ _ | with_reducible refine Below.setCell ?_ (by first | omega | (simp; done) | (simp; omega)) _ | with_reducible refine Below.alloc ?_ (by first | omega | (simp; done) | (simp; omega)) _ | with_reducible refine below_drewN ?_ _ | with_reducible refine Below.drew ?_ | with_reducible refine Below.trans ?_ (Below.mono hb1 (by first | omega | (simp; done) | (simp; omega)))))
  have BX : Hid (∀ w', Below (W.heap.size + 1) w1 w' → w'.cell? ⟨W.heap.size, 0, none⟩ = some (.int .i64 s.kind) ∧ w'.cell? ⟨W.heap.size, 1, none⟩ = some (.string (bs s.name)) ∧ w'.cell? ⟨W.heap.size, 2, none⟩ = some (.string (bs s.typ)) ∧ w'.cell? ⟨W.heap.size, 3, none⟩ = some (.int .i64 s.ex.kind) ∧ w'.cell? ⟨W.heap.size, 4, none⟩ = some (.int .i64 s.ex.n) ∧ w'.cell? ⟨W.heap.size, 5, none⟩ = some (.string (bs s.ex.s)) ∧ w'.cell? ⟨W.heap.size, 6, none⟩ = some (.slice A1 s.ex.kids.length c1) ∧ w'.cell? ⟨W.heap.size, 7, none⟩ = some (.int .i64 s.th.kind) ∧ w'.cell? ⟨W.heap.size, 8, none⟩ = some (.int .i64 s.th.n) ∧ w'.cell? ⟨W.heap.size, 9, none⟩ = some (.string (bs s.th.s)) ∧ w'.cell? ⟨W.heap.size, 10, none⟩ = some (.slice A2 s.th.kids.length c2)) := Lib.hid (fun w' h => by
    have hh : Below (W.heap.size + 1) _ w' := (hb1.mono (by simp)).trans h
    refine ⟨?_, ?_, ?_, ?_, ?_, ?_, ?_, ?_, ?_, ?_, ?_⟩ <;> exact (hh.cell (p := ⟨W.heap.size, _, none⟩) (Nat.lt_succ_self _)).trans (by simp [go_sem]))
  obtain ⟨x0, x1, x2, x3, x4, x5, x6, x7, x8, x9, x10⟩ := BX.out w1 (Below.refl _ _)
  clear hb1 SZ
  go_wp2_with fail
  refine (TO.out _ hbw1).mono ?_
  rintro r w2 ⟨u2, bl2, rfl, hO2, hOw2, hb2⟩
  have hz2 := hb2.size
  have hS2 := hO2.smv
  clear hO2 hOw2
  have SP2 := Lib.hid (SP.out w2 u2 hS2)
  obtain ⟨B1, B2, d1, d2, rfl, _, _, _, _⟩ := hS2.form2
  clear hS2 x0 x1 x2 x3 x4 x5 x6 x7 x8 x9 x10 SP
  have hbw2 : Below W.heap.size W w2 := by (repeat (first | with_reducible assumption | with_reducible exact Below.refl _ _ | with_reducible refine Below.setCell ?_ (by first | omega | (simp; done) | (simp; omega)) _ | with_reducible refine Below.alloc ?_ (by first | omega | (simp; done) | (simp; omega)) _ | with_reducible refine below_drewN ?_ _ | with_reducible refine Below.drew ?_ | with_reducible refine Below.trans ?_ (Below.mono hb2 (by first | omega | (simp; done) | (simp; omega))) | with_reducible refine Below.trans ?_ (Below.mono hbw1 (by first | omega | (simp; done) | (simp; omega)))))
  have hbx2 : Below (W.heap.size + 1) w1 w2 := by (repeat (first | with_reducible assumption | with_reducible exact Below.refl _ _ | with_reducible refine Below.setCell ?_ (by first | omega | (simp; done) | (simp; omega)) _ | with_reducible refine Below.alloc ?_ (by first | omega | (simp; done) | (simp; omega)) _ | with_reducible refine below_drewN ?_ _ | with_reducible refine Below.drew ?_ | with_reducible refine Below.trans ?_ (Below.mono hb2 (by first | omega | (simp; done) | (simp; omega)))))
  clear hb2
  go_wp2_with fail
  refine SP2.out.mono ?_
  rintro r w3 ⟨u3, rfl, hG3, hb3⟩
  have hz3 := hb3.size
  have hbw3 : Below W.heap.size W w3 := by (repeat (first | with_reducible assumption | with_reducible exact Below.refl _ _ | with_reducible refine Below.setCell ?_ (by first | omega | (simp; done) | (simp; omega)) _ | with_reducible refine Below.alloc ?_ (by first | omega | (simp; done) | (simp; omega)) _ | with_reducible refine below_drewN ?_ _ | with_reducible refine Below.drew ?_ | with_reducible refine Below.trans ?_ (Below.mono hb3 (by first | omega | (simp; done) | (simp; omega))) | with_reducible refine Below.trans ?_ (Below.mono hbw2 (by first | omega | (simp; done) | (simp; omega)))))
  have hbx3 : Below (W.heap.size + 1) w1 w3 := hbx2.trans (hb3.mono (by omega))
  have hSl3 : SlB w3 w3.heap.size u3 nm := hG3.sl (fun _ => rfl)
  have HW3 := Lib.hid (fun (w' : World) (h : Below w3.heap.size w3 w') => (hSl3.ext h : SlB w' w'.heap.size u3 nm))
  obtain ⟨A3, c3, rfl, hc3, hm3⟩ := hSl3.val
  obtain ⟨x0, x1, x2, x3, x4, x5, x6, x7, x8, x9, x10⟩ := BX.out w3 hbx3
  clear SP2 hG3 hSl3 hb3 hbx2
  go_wp2_with fail
  refine (TO.out _ hbw3).mono ?_
  rintro r w4 ⟨u4, bl4, rfl, hO4, hOw4, hb4⟩
  have hz4 := hb4.size
  have hS4 := hO4.smv
  have HM4 := Lib.hid (fun (w' : World) (h : Below w4.heap.size w4 w') => markStmt_any s _ bl4 w' (hO4.ext h) hOw4.2 H1.out)
  have hbl4 : ∀ x ∈ bl4, w3.heap.size ≤ x ∧ x < w4.heap.size := hOw4.1
  have HS4 := Lib.hid (fun (w' : World) (h : Below w4.heap.size w4 w') => (hS4.keep h (Nat.le_refl _)).more h.size)
  obtain ⟨C1, C2, f1, f2, rfl, _, _, _, _⟩ := hS4.form2
  have HB4 := Lib.hid hbl4
  have hbx4 : Below (W.heap.size + 1) w1 w4 := hbx3.trans (hb4.mono (by omega))
  have hb34 := hb4
  clear hS4 x0 x1 x2 x3 x4 x5 x6 x7 x8 x9 x10 hO4 hOw4 hbl4 hb4
  have hbw4 : Below W.heap.size W w4 := hbw3.ext hb34
  go_upto_region 7 with fail
  obtain ⟨V4, hV4⟩ : ∃ V, V = w4.alloc (.cells #[.int .i64 s.kind, .string (bs s.name), .string (bs s.typ), .int .i64 s.ex.kind, .int .i64 s.ex.n, .string (bs s.ex.s), .slice C1 s.ex.kids.length f1, .int .i64 s.th.kind, .int .i64 s.th.n, .string (bs s.th.s), .slice C2 s.th.kids.length f2] 27) := ⟨_, rfl⟩
  have hbV4 : Below w4.heap.size w4 V4 := by rw [hV4]; (repeat (first | with_reducible assumption | with_reducible exact Below.refl _ _ | with_reducible refine Below.setCell ?_ (by first | omega | (simp; done) | (simp; omega)) _ | with_reducible refine Below.alloc ?_ (by first | omega | (simp; done) | (simp; omega)) _ | with_reducible refine below_drewN ?_ _ | with_reducible refine Below.drew ?_))
  have hX4 : Blk V4 w4.heap.size 27 #[.int .i64 s.kind, .string (bs s.name), .string (bs s.typ), .int .i64 s.ex.kind, .int .i64 s.ex.n, .string (bs s.ex.s), .slice C1 s.ex.kids.length f1, .int .i64 s.th.kind, .int .i64 s.th.n, .string (bs s.th.s), .slice C2 s.th.kids.length f2] := by rw [hV4]; exact Blk.new _ _ _
  have hzV4 : V4.heap.size = w4.heap.size + 1 := by rw [hV4]; simp
  have IM5 := Lib.hid (IM.out V4 _ (HS4.out V4 hbV4) (hbw4.ext hbV4))
  rw [← hV4]
  have YX : Hid (∀ w' : World, w'.heap[w4.heap.size]? = V4.heap[w4.heap.size]? → w'.cell? ⟨w4.heap.size, 0, none⟩ = some (.int .i64 s.kind) ∧ w'.cell? ⟨w4.heap.size, 1, none⟩ = some (.string (bs s.name)) ∧ w'.cell? ⟨w4.heap.size, 2, none⟩ = some (.string (bs s.typ)) ∧ w'.cell? ⟨w4.heap.size, 3, none⟩ = some (.int .i64 s.ex.kind) ∧ w'.cell? ⟨w4.heap.size, 4, none⟩ = some (.int .i64 s.ex.n) ∧ w'.cell? ⟨w4.heap.size, 5, none⟩ = some (.string (bs s.ex.s)) ∧ w'.cell? ⟨w4.heap.size, 6, none⟩ = some (.slice C1 s.ex.kids.length f1) ∧ w'.cell? ⟨w4.heap.size, 7, none⟩ = some (.int .i64 s.th.kind) ∧ w'.cell? ⟨w4.heap.size, 8, none⟩ = some (.int .i64 s.th.n) ∧ w'.cell? ⟨w4.heap.size, 9, none⟩ = some (.string (bs s.th.s)) ∧ w'.cell? ⟨w4.heap.size, 10, none⟩ = some (.slice C2 s.th.kids.length f2)) := Lib.hid (fun w' h => by
    have hh : Blk w' w4.heap.size 27 #[.int .i64 s.kind, .string (bs s.name), .string (bs s.typ), .int .i64 s.ex.kind, .int .i64 s.ex.n, .string (bs s.ex.s), .slice C1 s.ex.kids.length f1, .int .i64 s.th.kind, .int .i64 s.th.n, .string (bs s.th.s), .slice C2 s.th.kids.length f2] := Eq.trans h hX4
    refine ⟨?_, ?_, ?_, ?_, ?_, ?_, ?_, ?_, ?_, ?_, ?_⟩ <;> exact (hh.cell _).trans (by simp))
  obtain ⟨y0, y1, y2, y3, y4, y5, y6, y7, y8, y9, y10⟩ := YX.out V4 rfl
  clear hV4
  go_wp2_with fail
  refine IM5.out.mono ?_
  rintro r w5 ⟨u5, rfl, hF5, hb5⟩
  have hz5 := hb5.size
  have hk5 : w5.heap[w4.heap.size]? = V4.heap[w4.heap.size]? := hb5.block _ (by omega)
  have hbw5 : Below W.heap.size W w5 := (hbw4.ext hbV4).ext hb5
  have hbx5 : Below (W.heap.size + 1) w1 w5 := hbx4.trans ((hbV4.ext hb5).mono (by omega))
  have hb35 : Below w3.heap.size w3 w5 := (hb34.ext hbV4).ext hb5
  have hb45 : Below w4.heap.size w4 w5 := hbV4.ext hb5
  have HF5 := Lib.hid (fun (w' : World) (h : Below w5.heap.size w5 w') => (hF5.ext h : Fr strRow 1 9 w' V4.heap.size u5 nm))
  have EQ5 := Lib.hid (eqStr_any w5 _ _ nm nm hF5.sl (HW3.out w5 hb35))
  rw [decide_eq_true (rfl : nm = nm)] at EQ5
  obtain ⟨A5, c5, rfl, hc5, hm5⟩ := hF5.sl.val
  have HL5 := Lib.hid (fun (q : Nat) (hq : (Value.slice A5 nm.length c5).ownBlock = some q) => (show V4.heap.size ≤ q ∧ q < w5.heap.size from hF5.lt hq))
  clear y0 y1 y2 y3 y4 y5 y6 y7 y8 y9 y10 hF5 IM5
  go_wp2_with fail
  refine EQ5.out.mono ?_
  rintro r w6 ⟨rfl, hb6⟩
  have hz6 := hb6.size
  have hk6 : w6.heap[w4.heap.size]? = V4.heap[w4.heap.size]? := (hb6.block _ (by omega)).trans hk5
  have hbw6 := hbw5.ext hb6
  have hbx6 : Below (W.heap.size + 1) w1 w6 := hbx5.trans (hb6.mono (by omega))
  have hb36 := hb35.ext hb6
  have hb46 := hb45.ext hb6
  have hb56 := hb6
  clear EQ5 hb6
  have KEEP : Hid (∀ w', Below w6.heap.size w6 w' → ((w'.cell? ⟨W.heap.size, 0, none⟩ = some (.int .i64 s.kind) ∧ w'.cell? ⟨W.heap.size, 1, none⟩ = some (.string (bs s.name)) ∧ w'.cell? ⟨W.heap.size, 2, none⟩ = some (.string (bs s.typ)) ∧ w'.cell? ⟨W.heap.size, 3, none⟩ = some (.int .i64 s.ex.kind) ∧ w'.cell? ⟨W.heap.size, 4, none⟩ = some (.int .i64 s.ex.n) ∧ w'.cell? ⟨W.heap.size, 5, none⟩ = some (.string (bs s.ex.s)) ∧ w'.cell? ⟨W.heap.size, 6, none⟩ = some (.slice A1 s.ex.kids.length c1) ∧ w'.cell? ⟨W.heap.size, 7, none⟩ = some (.int .i64 s.th.kind) ∧ w'.cell? ⟨W.heap.size, 8, none⟩ = some (.int .i64 s.th.n) ∧ w'.cell? ⟨W.heap.size, 9, none⟩ = some (.string (bs s.th.s)) ∧ w'.cell? ⟨W.heap.size, 10, none⟩ = some (.slice A2 s.th.kids.length c2)) ∧ (w'.cell? ⟨w4.heap.size, 0, none⟩ = some (.int .i64 s.kind) ∧ w'.cell? ⟨w4.heap.size, 1, none⟩ = some (.string (bs s.name)) ∧ w'.cell? ⟨w4.heap.size, 2, none⟩ = some (.string (bs s.typ)) ∧ w'.cell? ⟨w4.heap.size, 3, none⟩ = some (.int .i64 s.ex.kind) ∧ w'.cell? ⟨w4.heap.size, 4, none⟩ = some (.int .i64 s.ex.n) ∧ w'.cell? ⟨w4.heap.size, 5, none⟩ = some (.string (bs s.ex.s)) ∧ w'.cell? ⟨w4.heap.size, 6, none⟩ = some (.slice C1 s.ex.kids.length f1) ∧ w'.cell? ⟨w4.heap.size, 7, none⟩ = some (.int .i64 s.th.kind) ∧ w'.cell? ⟨w4.heap.size, 8, none⟩ = some (.int .i64 s.th.n) ∧ w'.cell? ⟨w4.heap.size, 9, none⟩ = some (.string (bs s.th.s)) ∧ w'.cell? ⟨w4.heap.size, 10, none⟩ = some (.slice C2 s.th.kids.length f2)))) := Lib.hid (fun w' h => ⟨BX.out w' (hbx6.trans (h.mono (by omega))), YX.out w' ((h.block _ (by omega)).trans hk6)⟩)
  have EQ := Lib.hid (fun (w' : World) (u : Value) (h : Below w4.heap.size w4 w') (hu : SmV w' w'.heap.size u s) => eqStmt_any s s _ u w' (HS4.out w' h) hu)
  go_upto_region 10 with fail
  go_region_held3 (fun w' => (w'.cell? ⟨W.heap.size, 0, none⟩ = some (.int .i64 s.kind) ∧ w'.cell? ⟨W.heap.size, 1, none⟩ = some (.string (bs s.name)) ∧ w'.cell? ⟨W.heap.size, 2, none⟩ = some (.string (bs s.typ)) ∧ w'.cell? ⟨W.heap.size, 3, none⟩ = some (.int .i64 s.ex.kind) ∧ w'.cell? ⟨W.heap.size, 4, none⟩ = some (.int .i64 s.ex.n) ∧ w'.cell? ⟨W.heap.size, 5, none⟩ = some (.string (bs s.ex.s)) ∧ w'.cell? ⟨W.heap.size, 6, none⟩ = some (.slice A1 s.ex.kids.length c1) ∧ w'.cell? ⟨W.heap.size, 7, none⟩ = some (.int .i64 s.th.kind) ∧ w'.cell? ⟨W.heap.size, 8, none⟩ = some (.int .i64 s.th.n) ∧ w'.cell? ⟨W.heap.size, 9, none⟩ = some (.string (bs s.th.s)) ∧ w'.cell? ⟨W.heap.size, 10, none⟩ = some (.slice A2 s.th.kids.length c2)) ∧ (w'.cell? ⟨w4.heap.size, 0, none⟩ = some (.int .i64 s.kind) ∧ w'.cell? ⟨w4.heap.size, 1, none⟩ = some (.string (bs s.name)) ∧ w'.cell? ⟨w4.heap.size, 2, none⟩ = some (.string (bs s.typ)) ∧ w'.cell? ⟨w4.heap.size, 3, none⟩ = some (.int .i64 s.ex.kind) ∧ w'.cell? ⟨w4.heap.size, 4, none⟩ = some (.int .i64 s.ex.n) ∧ w'.cell? ⟨w4.heap.size, 5, none⟩ = some (.string (bs s.ex.s)) ∧ w'.cell? ⟨w4.heap.size, 6, none⟩ = some (.slice C1 s.ex.kids.length f1) ∧ w'.cell? ⟨w4.heap.size, 7, none⟩ = some (.int .i64 s.th.kind) ∧ w'.cell? ⟨w4.heap.size, 8, none⟩ = some (.int .i64 s.th.n) ∧ w'.cell? ⟨w4.heap.size, 9, none⟩ = some (.string (bs s.th.s)) ∧ w'.cell? ⟨w4.heap.size, 10, none⟩ = some (.slice C2 s.th.kids.length f2)))
    (first | exact KEEP.out _ (by (repeat (first | with_reducible assumption | with_reducible exact Below.refl _ _ | with_reducible refine Below.setCell ?_ (by first | omega | (simp; done) | (simp; omega)) _ | with_reducible refine Below.alloc ?_ (by first | omega | (simp; done) | (simp; omega)) _ | with_reducible refine below_drewN ?_ _ | with_reducible refine Below.drew ?_ | with_reducible refine Below.trans ?_ (Below.mono hb8 (by first | omega | (simp; done) | (simp; omega))) | with_reducible refine Below.trans ?_ (Below.mono hb7 (by first | omega | (simp; done) | (simp; omega)))))) | go_keep)
    (first
      | (go_at_call 21; refine (TO.out _ (by (repeat (first | with_reducible assumption | with_reducible exact Below.refl _ _ | with_reducible refine Below.setCell ?_ (by first | omega | (simp; done) | (simp; omega)) _ | with_reducible refine Below.alloc ?_ (by first | omega | (simp; done) | (simp; omega)) _ | with_reducible refine below_drewN ?_ _ | with_reducible refine Below.drew ?_ | with_reducible refine Below.trans ?_ (Below.mono hbw6 (by first | omega | (simp; done) | (simp; omega))))))).mono ?_; rintro r w7 ⟨u7, bl7, rfl, hO7, hOw7, hb7⟩; have hz7 := hb7.size; (try simp at hz7); have hS7 := hO7.smv; clear hO7 hOw7; have HS7 := Lib.hid hS7; obtain ⟨D1, D2, g1, g2, rfl, _, _, _, _⟩ := hS7.form2; clear hS7)
      | (go_at_call 24; refine (EQ.out _ _ (by (repeat (first | with_reducible assumption | with_reducible exact Below.refl _ _ | with_reducible refine Below.setCell ?_ (by first | omega | (simp; done) | (simp; omega)) _ | with_reducible refine Below.alloc ?_ (by first | omega | (simp; done) | (simp; omega)) _ | with_reducible refine below_drewN ?_ _ | with_reducible refine Below.drew ?_ | with_reducible refine Below.trans ?_ (Below.mono hb7 (by first | omega | (simp; done) | (simp; omega))) | with_reducible refine Below.trans ?_ (Below.mono hb46 (by first | omega | (simp; done) | (simp; omega)))))) HS7.out).mono ?_; rintro r w8 ⟨rfl, hb8⟩; have hz8 := hb8.size)
      | fail)
  all_goals
    (try rw [decide_eq_true (⟨rfl, rfl, rfl, rfl, rfl⟩ : s.kind = s.kind ∧ s.name = s.name ∧ s.typ = s.typ ∧ s.ex = s.ex ∧ s.th = s.th)])
    have hb68 : Below w6.heap.size w6 w8 := by (repeat (first | with_reducible assumption | with_reducible exact Below.refl _ _ | with_reducible refine Below.setCell ?_ (by first | omega | (simp; done) | (simp; omega)) _ | with_reducible refine Below.alloc ?_ (by first | omega | (simp; done) | (simp; omega)) _ | with_reducible refine below_drewN ?_ _ | with_reducible refine Below.drew ?_ | with_reducible refine Below.trans ?_ (Below.mono hb8 (by first | omega | (simp; done) | (simp; omega))) | with_reducible refine Below.trans ?_ (Below.mono hb7 (by first | omega | (simp; done) | (simp; omega)))))
    have hz68 := hb68.size
    have hb48 := hb46.ext hb68
    have hbw8 := hbw6.ext hb68
    have HM8 := Lib.hid (HM4.out w8 hb48)
    have HF8 := Lib.hid (HF5.out w8 (hb56.ext hb68))
    have hk8 : w8.heap[w4.heap.size]? = V4.heap[w4.heap.size]? := (hb68.block _ (by omega)).trans hk6
    obtain ⟨y0, y1, y2, y3, y4, y5, y6, y7, y8, y9, y10⟩ := YX.out w8 hk8
    have hbx8 : Below (W.heap.size + 1) w1 w8 := hbx6.trans (hb68.mono (by omega))
    have hb38 := hb36.ext hb68
    clear HS7 EQ HM4 hb8 hb7 KEEP
    go_wp2_with fail
    refine HM8.out.mono ?_
    rintro r w9 ⟨k, rfl, hF9⟩
    have hz9 : w8.heap.size ≤ w9.heap.size := hF9.2.2.2.1
    have hb39 : Below w3.heap.size w3 w9 := hb38.trans (hF9.below (fun q hq => (HB4.out q hq).1) hb38.size)
    have hbw9 : Below W.heap.size W w9 := hbw8.trans (hF9.below (fun q hq => by have := (HB4.out q hq).1; omega) hbw8.size)
    have hbx9 : Below (W.heap.size + 1) w1 w9 := hbx8.trans (hF9.below (fun q hq => by have := (HB4.out q hq).1; omega) (by omega))
    have hF89 := Lib.hid (HF8.out.footZ hF9 (fun q hq => by have := (HB4.out q hq).2; omega))
    have EQ9 := Lib.hid (eqStr_any w9 _ _ nm nm hF89.out.sl (HW3.out w9 hb39))
    rw [decide_eq_true (rfl : nm = nm)] at EQ9
    have hkn : ¬ (k : Int) < 0 := by omega
    clear hF9 y0 y1 y2 y3 y4 y5 y6 y7 y8 y9 y10 HM8 HF8
    go_wp2_with fail
    refine EQ9.out.mono ?_
    rintro r w10 ⟨rfl, hb10⟩
    have hbw10 := hbw9.ext hb10
    have hbx10 := hbx9.trans (hb10.mono (by omega))
    have hb310 := hb39.ext hb10
    have hz10 := hb10.size
    have MK := Lib.hid (markStr_any w10 _ _ nm 1 (hF89.out.ext hb10) (by omega) (by omega) (by omega))
    clear EQ9 hF89 hb10
    go_wp2_with fail
    refine MK.out.mono ?_
    rintro r w11 ⟨rfl, hg11, hF11⟩
    have hz11 := hg11.size
    have hbw11 := below_grown hbw10 hg11 hbw10.size (fun q hq => by have := HL5.out q hq; omega)
    have hbx11 := below_grown hbx10 hg11 (by omega) (fun q hq => by have := HL5.out q hq; omega)
    have hb311 := below_grown hb310 hg11 hb310.size (fun q hq => by have := HL5.out q hq; omega)
    have HH := Lib.hid (fun (w' : World) (h : Below w11.heap.size w11 w') => heldStr_any w' _ 1 nm.length ((hF11.sl : SlB w11 w11.heap.size _ _).ext h) (by omega) (by omega) (by omega))
    have hqn : ¬ ((1 + nm.length : Nat) : Int) < 0 := by omega
    generalize ((1 + nm.length : Nat) : Int) = kx at *
    clear hg11 hF11 MK
    go_wp2_with fail
    refine (HH.out w11 (Below.refl _ _)).mono ?_
    rintro r w12 ⟨rfl, hb12⟩
    have hz12 := hb12.size
    have hbw12 := hbw11.ext hb12
    have hbx12 := hbx11.trans (hb12.mono (by omega))
    have hb312 := hb311.ext hb12
    obtain ⟨x0, x1, x2, x3, x4, x5, x6, x7, x8, x9, x10⟩ := BX.out w12 hbx12
    go_wp2_with fail
    refine (TO.out w12 hbw12).mono ?_
    rintro r w13 ⟨u13, bl13, rfl, hO13, hOw13, hb13⟩
    have hz13 := hb13.size
    have hbw13 := hbw12.ext hb13
    have IM13 := Lib.hid (IM.out w13 _ hO13.smv hbw13)
    obtain ⟨D1', D2', g1', g2', rfl, _, _, _, _⟩ := hO13.smv.form2
    clear hO13 hOw13 x0 x1 x2 x3 x4 x5 x6 x7 x8 x9 x10
    go_wp2_with fail
    refine IM13.out.mono ?_
    rintro r w14 ⟨u14, rfl, hF14, hb14⟩
    have hbw14 := hbw13.ext hb14
    have hb314 := (hb312.ext hb13).ext hb14
    have hb1114 := (hb12.ext hb13).ext hb14
    have EQ14 := Lib.hid (eqStr_any w14 _ _ nm nm hF14.sl (HW3.out w14 hb314))
    rw [decide_eq_true (rfl : nm = nm)] at EQ14
    obtain ⟨A14, c14, rfl, _, _⟩ := hF14.sl.val
    clear hF14 IM13
    go_wp2_with fail
    refine EQ14.out.mono ?_
    rintro r w15 ⟨rfl, hb15⟩
    have hb1115 := hb1114.ext hb15
    have hbw15 := hbw14.ext hb15
    clear EQ14
    go_wp2_with fail
    refine (HH.out w15 hb1115).mono ?_
    rintro r w16 ⟨rfl, hb16⟩
    have hbw16 := hbw15.ext hb16
    go_wp2_with fail
    go_ret
    exact ⟨rfl, hbw16⟩
end Go.Proofs.YtppefinpekhbeaaGreatDoor
