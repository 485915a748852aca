
/- The laws FnExactStmtOk and FnExactStmtText: the walks. -/
import Derived.Test.YtgfdakgibjplkaaDoorImSOk
import Derived.Test.YtgfdakgibjplkaaDoorStLaw
namespace Go.Proofs.YtgfdakgibjplkaaDoor
set_option maxRecDepth 100000
open Go.RowKit
attribute [local go_sem] bs_toList bs_get bs_size

set_option maxHeartbeats 4000000 in
theorem lawStmtOk (W : World) (v : Value) (s : Sm) (hv : SmV W W.heap.size v s) (hE : Env W) : Calls Tryd.prog 3 #[v] W fun e w' => e = .returned (.bool true) ∧ Below W.heap.size W w' := by
  by_cases h1 : s.wt ≤ 1048576
  rotate_left
  · have SZ := Lib.hid (fun (w' : World) (h : Below W.heap.size W w') => szStmt_any s v w' 1048576 (by omega) (by omega) ((hv.keep h (Nat.le_refl _)).more h.size))
    have e1 : szOut 1048576 s.wt = -1 := szOut_no (by omega)
    rw [e1] at SZ
    obtain ⟨A1, A2, c1, c2, rfl, hn, ht, hE1, hE2⟩ := hv.form2
    clear hE1 hE2 e1 h1 hE
    go_enter Tryd.func3, Tryd.ntmps3
    go_wp2_with fail
    refine (SZ.out _ (by (repeat (first | with_reducible assumption | with_reducible exact Below.refl _ _ | with_reducible refine Below.setCell ?_ (by first | omega | (simp; done) | (simp; omega)) _ | with_reducible refine Below.alloc ?_ (by first | omega | (simp; done) | (simp; omega)) _ | with_reducible refine below_drewN ?_ _ | with_reducible refine Below.drew ?_)))).mono ?_
    rintro r w1 ⟨rfl, hb1⟩
    go_wp2_with fail
    go_ret
    exact ⟨rfl, by (repeat (first | with_reducible assumption | with_reducible exact Below.refl _ _ | with_reducible refine Below.setCell ?_ (by first | omega | (simp; done) | (simp; omega)) _ | with_reducible refine Below.alloc ?_ (by first | omega | (simp; done) | (simp; omega)) _ | with_reducible refine below_drewN ?_ _ | with_reducible refine Below.drew ?_ | with_reducible refine Below.trans ?_ (Below.mono hb1 (by first | omega | (simp; done) | (simp; omega)))))⟩
  · have SZ := Lib.hid (fun (w' : World) (h : Below W.heap.size W w') => szStmt_any s v w' 1048576 (by omega) (by omega) ((hv.keep h (Nat.le_refl _)).more h.size))
    have e1 : szOut 1048576 s.wt = 1048576 - s.wt := szOut_yes (by omega)
    rw [e1] at SZ
    have TO := Lib.hid (fun (w' : World) (h : Below W.heap.size W w') => toStmt_any s v w' h1 ((hv.keep h (Nat.le_refl _)).more h.size))
    have ENV := Lib.hid (fun (w' : World) (h : Below W.heap.size W w') => hE.ext h)
    obtain ⟨A1, A2, c1, c2, rfl, hn, ht, hE1, hE2⟩ := hv.form2
    have hw0 : (0 : Int) ≤ 1048576 - (s.wt : Int) := by omega
    clear hE1 hE2 e1 h1 hE hv
    go_enter Tryd.func3, Tryd.ntmps3
    go_wp2_with fail
    refine (SZ.out _ (by (repeat (first | with_reducible assumption | with_reducible exact Below.refl _ _ | with_reducible refine Below.setCell ?_ (by first | omega | (simp; done) | (simp; omega)) _ | with_reducible refine Below.alloc ?_ (by first | omega | (simp; done) | (simp; omega)) _ | with_reducible refine below_drewN ?_ _ | with_reducible refine Below.drew ?_)))).mono ?_
    rintro r w1 ⟨rfl, hb1⟩
    have hz1 := hb1.size
    (try simp at hz1)
    have hbw1 : Below W.heap.size W w1 := by (repeat (first | with_reducible assumption | with_reducible exact Below.refl _ _ | with_reducible refine Below.setCell ?_ (by first | omega | (simp; done) | (simp; omega)) _ | with_reducible refine Below.alloc ?_ (by first | omega | (simp; done) | (simp; omega)) _ | with_reducible refine below_drewN ?_ _ | with_reducible refine Below.drew ?_ | with_reducible refine Below.trans ?_ (Below.mono hb1 (by first | omega | (simp; done) | (simp; omega)))))
    have BX : Hid (∀ w', Below (W.heap.size + 1) w1 w' → w'.cell? ⟨W.heap.size, 0, none⟩ = some (.int .i64 s.kind) ∧ w'.cell? ⟨W.heap.size, 1, none⟩ = some (.string (bs s.name)) ∧ w'.cell? ⟨W.heap.size, 2, none⟩ = some (.string (bs s.typ)) ∧ w'.cell? ⟨W.heap.size, 3, none⟩ = some (.int .i64 s.ex.kind) ∧ w'.cell? ⟨W.heap.size, 4, none⟩ = some (.int .i64 s.ex.n) ∧ w'.cell? ⟨W.heap.size, 5, none⟩ = some (.string (bs s.ex.s)) ∧ w'.cell? ⟨W.heap.size, 6, none⟩ = some (.slice A1 s.ex.kids.length c1) ∧ w'.cell? ⟨W.heap.size, 7, none⟩ = some (.int .i64 s.th.kind) ∧ w'.cell? ⟨W.heap.size, 8, none⟩ = some (.int .i64 s.th.n) ∧ w'.cell? ⟨W.heap.size, 9, none⟩ = some (.string (bs s.th.s)) ∧ w'.cell? ⟨W.heap.size, 10, none⟩ = some (.slice A2 s.th.kids.length c2)) := Lib.hid (fun w' h => by
      have hh : Below (W.heap.size + 1) _ w' := (hb1.mono (by simp)).trans h
      refine ⟨?_, ?_, ?_, ?_, ?_, ?_, ?_, ?_, ?_, ?_, ?_⟩ <;> exact (hh.cell (p := ⟨W.heap.size, _, none⟩) (Nat.lt_succ_self _)).trans (by simp [go_sem]))
    obtain ⟨x0, x1, x2, x3, x4, x5, x6, x7, x8, x9, x10⟩ := BX.out w1 (Below.refl _ _)
    clear hb1 SZ
    go_wp2_with fail
    refine (TO.out _ hbw1).mono ?_
    rintro r w2 ⟨u2, bl2, rfl, hO2, hOw2, hb2⟩
    have hz2 := hb2.size
    have hS2 := hO2.smv
    clear hO2 hOw2
    have HS2 := Lib.hid hS2
    obtain ⟨B1, B2, d1, d2, rfl, _, _, _, _⟩ := hS2.form2
    clear hS2 x0 x1 x2 x3 x4 x5 x6 x7 x8 x9 x10
    have hbw2 : Below W.heap.size W w2 := by (repeat (first | with_reducible assumption | with_reducible exact Below.refl _ _ | with_reducible refine Below.setCell ?_ (by first | omega | (simp; done) | (simp; omega)) _ | with_reducible refine Below.alloc ?_ (by first | omega | (simp; done) | (simp; omega)) _ | with_reducible refine below_drewN ?_ _ | with_reducible refine Below.drew ?_ | with_reducible refine Below.trans ?_ (Below.mono hb2 (by first | omega | (simp; done) | (simp; omega))) | with_reducible refine Below.trans ?_ (Below.mono hbw1 (by first | omega | (simp; done) | (simp; omega)))))
    go_wp2_with fail
    refine (spStmtOk_any s _ w2 HS2.out).mono ?_
    rintro r w3 ⟨rfl, hb3⟩
    have hz3 := hb3.size
    have hbw3 : Below W.heap.size W w3 := by (repeat (first | with_reducible assumption | with_reducible exact Below.refl _ _ | with_reducible refine Below.setCell ?_ (by first | omega | (simp; done) | (simp; omega)) _ | with_reducible refine Below.alloc ?_ (by first | omega | (simp; done) | (simp; omega)) _ | with_reducible refine below_drewN ?_ _ | with_reducible refine Below.drew ?_ | with_reducible refine Below.trans ?_ (Below.mono hb3 (by first | omega | (simp; done) | (simp; omega))) | with_reducible refine Below.trans ?_ (Below.mono hbw2 (by first | omega | (simp; done) | (simp; omega)))))
    obtain ⟨x0, x1, x2, x3, x4, x5, x6, x7, x8, x9, x10⟩ := BX.out w3 (by (repeat (first | with_reducible assumption | with_reducible exact Below.refl _ _ | with_reducible refine Below.setCell ?_ (by first | omega | (simp; done) | (simp; omega)) _ | with_reducible refine Below.alloc ?_ (by first | omega | (simp; done) | (simp; omega)) _ | with_reducible refine below_drewN ?_ _ | with_reducible refine Below.drew ?_ | with_reducible refine Below.trans ?_ (Below.mono hb3 (by first | omega | (simp; done) | (simp; omega))) | with_reducible refine Below.trans ?_ (Below.mono hb2 (by first | omega | (simp; done) | (simp; omega))))))
    clear HS2
    go_wp2_with fail
    refine (TO.out _ hbw3).mono ?_
    rintro r w4 ⟨u4, bl4, rfl, hO4, hOw4, hb4⟩
    have hz4 := hb4.size
    have hS4 := hO4.smv
    clear hO4 hOw4
    have HS4 := Lib.hid (fun (w' : World) (h : Below w4.heap.size w4 w') => (hS4.keep h (Nat.le_refl _)).more h.size)
    obtain ⟨C1, C2, f1, f2, rfl, _, _, _, _⟩ := hS4.form2
    clear hS4 x0 x1 x2 x3 x4 x5 x6 x7 x8 x9 x10
    have hbw4 : Below W.heap.size W w4 := by (repeat (first | with_reducible assumption | with_reducible exact Below.refl _ _ | with_reducible refine Below.setCell ?_ (by first | omega | (simp; done) | (simp; omega)) _ | with_reducible refine Below.alloc ?_ (by first | omega | (simp; done) | (simp; omega)) _ | with_reducible refine below_drewN ?_ _ | with_reducible refine Below.drew ?_ | with_reducible refine Below.trans ?_ (Below.mono hb4 (by first | omega | (simp; done) | (simp; omega))) | with_reducible refine Below.trans ?_ (Below.mono hbw3 (by first | omega | (simp; done) | (simp; omega)))))
    go_wp2_with fail
    refine (imStmtOk_any s _ _ (HS4.out _ (by (repeat (first | with_reducible assumption | with_reducible exact Below.refl _ _ | with_reducible refine Below.setCell ?_ (by first | omega | (simp; done) | (simp; omega)) _ | with_reducible refine Below.alloc ?_ (by first | omega | (simp; done) | (simp; omega)) _ | with_reducible refine below_drewN ?_ _ | with_reducible refine Below.drew ?_)))) (ENV.out _ (by (repeat (first | with_reducible assumption | with_reducible exact Below.refl _ _ | with_reducible refine Below.setCell ?_ (by first | omega | (simp; done) | (simp; omega)) _ | with_reducible refine Below.alloc ?_ (by first | omega | (simp; done) | (simp; omega)) _ | with_reducible refine below_drewN ?_ _ | with_reducible refine Below.drew ?_ | with_reducible refine Below.trans ?_ (Below.mono hbw4 (by first | omega | (simp; done) | (simp; omega)))))))).mono ?_
    rintro r w5 ⟨rfl, hb5⟩
    have hz5 := hb5.size
    (try simp at hz5)
    have hbw5 : Below W.heap.size W w5 := by (repeat (first | with_reducible assumption | with_reducible exact Below.refl _ _ | with_reducible refine Below.setCell ?_ (by first | omega | (simp; done) | (simp; omega)) _ | with_reducible refine Below.alloc ?_ (by first | omega | (simp; done) | (simp; omega)) _ | with_reducible refine below_drewN ?_ _ | with_reducible refine Below.drew ?_ | with_reducible refine Below.trans ?_ (Below.mono hb5 (by first | omega | (simp; done) | (simp; omega))) | with_reducible refine Below.trans ?_ (Below.mono hbw4 (by first | omega | (simp; done) | (simp; omega)))))
    have hbx5 : Below (W.heap.size + 1) w1 w5 := by (repeat (first | with_reducible assumption | with_reducible exact Below.refl _ _ | with_reducible refine Below.setCell ?_ (by first | omega | (simp; done) | (simp; omega)) _ | with_reducible refine Below.alloc ?_ (by first | omega | (simp; done) | (simp; omega)) _ | with_reducible refine below_drewN ?_ _ | with_reducible refine Below.drew ?_ | with_reducible refine Below.trans ?_ (Below.mono hb5 (by first | omega | (simp; done) | (simp; omega))) | with_reducible refine Below.trans ?_ (Below.mono hb4 (by first | omega | (simp; done) | (simp; omega))) | with_reducible refine Below.trans ?_ (Below.mono hb3 (by first | omega | (simp; done) | (simp; omega))) | with_reducible refine Below.trans ?_ (Below.mono hb2 (by first | omega | (simp; done) | (simp; omega)))))
    have hb45 : Below w4.heap.size w4 w5 := by (repeat (first | with_reducible assumption | with_reducible exact Below.refl _ _ | with_reducible refine Below.setCell ?_ (by first | omega | (simp; done) | (simp; omega)) _ | with_reducible refine Below.alloc ?_ (by first | omega | (simp; done) | (simp; omega)) _ | with_reducible refine below_drewN ?_ _ | with_reducible refine Below.drew ?_ | with_reducible refine Below.trans ?_ (Below.mono hb5 (by first | omega | (simp; done) | (simp; omega)))))
    have KEEP : Hid (∀ w', Below (w4.heap.size + 1) w5 w' → ((w'.cell? ⟨W.heap.size, 0, none⟩ = some (.int .i64 s.kind) ∧ w'.cell? ⟨W.heap.size, 1, none⟩ = some (.string (bs s.name)) ∧ w'.cell? ⟨W.heap.size, 2, none⟩ = some (.string (bs s.typ)) ∧ w'.cell? ⟨W.heap.size, 3, none⟩ = some (.int .i64 s.ex.kind) ∧ w'.cell? ⟨W.heap.size, 4, none⟩ = some (.int .i64 s.ex.n) ∧ w'.cell? ⟨W.heap.size, 5, none⟩ = some (.string (bs s.ex.s)) ∧ w'.cell? ⟨W.heap.size, 6, none⟩ = some (.slice A1 s.ex.kids.length c1) ∧ w'.cell? ⟨W.heap.size, 7, none⟩ = some (.int .i64 s.th.kind) ∧ w'.cell? ⟨W.heap.size, 8, none⟩ = some (.int .i64 s.th.n) ∧ w'.cell? ⟨W.heap.size, 9, none⟩ = some (.string (bs s.th.s)) ∧ w'.cell? ⟨W.heap.size, 10, none⟩ = some (.slice A2 s.th.kids.length c2)) ∧ (w'.cell? ⟨w4.heap.size, 0, none⟩ = some (.int .i64 s.kind) ∧ w'.cell? ⟨w4.heap.size, 1, none⟩ = some (.string (bs s.name)) ∧ w'.cell? ⟨w4.heap.size, 2, none⟩ = some (.string (bs s.typ)) ∧ w'.cell? ⟨w4.heap.size, 3, none⟩ = some (.int .i64 s.ex.kind) ∧ w'.cell? ⟨w4.heap.size, 4, none⟩ = some (.int .i64 s.ex.n) ∧ w'.cell? ⟨w4.heap.size, 5, none⟩ = some (.string (bs s.ex.s)) ∧ w'.cell? ⟨w4.heap.size, 6, none⟩ = some (.slice C1 s.ex.kids.length f1) ∧ w'.cell? ⟨w4.heap.size, 7, none⟩ = some (.int .i64 s.th.kind) ∧ w'.cell? ⟨w4.heap.size, 8, none⟩ = some (.int .i64 s.th.n) ∧ w'.cell? ⟨w4.heap.size, 9, none⟩ = some (.string (bs s.th.s)) ∧ w'.cell? ⟨w4.heap.size, 10, none⟩ = some (.slice C2 s.th.kids.length f2)))) := Lib.hid (fun w' h => by
      refine ⟨BX.out w' (hbx5.trans (h.mono (by omega))), ?_⟩
      have hh : Below (w4.heap.size + 1) _ w' := (hb5.mono (by simp)).trans h
      refine ⟨?_, ?_, ?_, ?_, ?_, ?_, ?_, ?_, ?_, ?_, ?_⟩ <;> exact (hh.cell (p := ⟨w4.heap.size, _, none⟩) (Nat.lt_succ_self _)).trans (by simp [go_sem]))
    have EQ := Lib.hid (fun (w' : World) (u : Value) (h : Below w4.heap.size w4 w') (hu : SmV w' w'.heap.size u s) => eqStmt_any s s _ u w' (HS4.out w' h) hu)
    clear BX hb5 HS4
    generalize smOkB s = so at *
    go_upto_region 10 with fail
    go_region_held3 (fun w' => (w'.cell? ⟨W.heap.size, 0, none⟩ = some (.int .i64 s.kind) ∧ w'.cell? ⟨W.heap.size, 1, none⟩ = some (.string (bs s.name)) ∧ w'.cell? ⟨W.heap.size, 2, none⟩ = some (.string (bs s.typ)) ∧ w'.cell? ⟨W.heap.size, 3, none⟩ = some (.int .i64 s.ex.kind) ∧ w'.cell? ⟨W.heap.size, 4, none⟩ = some (.int .i64 s.ex.n) ∧ w'.cell? ⟨W.heap.size, 5, none⟩ = some (.string (bs s.ex.s)) ∧ w'.cell? ⟨W.heap.size, 6, none⟩ = some (.slice A1 s.ex.kids.length c1) ∧ w'.cell? ⟨W.heap.size, 7, none⟩ = some (.int .i64 s.th.kind) ∧ w'.cell? ⟨W.heap.size, 8, none⟩ = some (.int .i64 s.th.n) ∧ w'.cell? ⟨W.heap.size, 9, none⟩ = some (.string (bs s.th.s)) ∧ w'.cell? ⟨W.heap.size, 10, none⟩ = some (.slice A2 s.th.kids.length c2)) ∧ (w'.cell? ⟨w4.heap.size, 0, none⟩ = some (.int .i64 s.kind) ∧ w'.cell? ⟨w4.heap.size, 1, none⟩ = some (.string (bs s.name)) ∧ w'.cell? ⟨w4.heap.size, 2, none⟩ = some (.string (bs s.typ)) ∧ w'.cell? ⟨w4.heap.size, 3, none⟩ = some (.int .i64 s.ex.kind) ∧ w'.cell? ⟨w4.heap.size, 4, none⟩ = some (.int .i64 s.ex.n) ∧ w'.cell? ⟨w4.heap.size, 5, none⟩ = some (.string (bs s.ex.s)) ∧ w'.cell? ⟨w4.heap.size, 6, none⟩ = some (.slice C1 s.ex.kids.length f1) ∧ w'.cell? ⟨w4.heap.size, 7, none⟩ = some (.int .i64 s.th.kind) ∧ w'.cell? ⟨w4.heap.size, 8, none⟩ = some (.int .i64 s.th.n) ∧ w'.cell? ⟨w4.heap.size, 9, none⟩ = some (.string (bs s.th.s)) ∧ w'.cell? ⟨w4.heap.size, 10, none⟩ = some (.slice C2 s.th.kids.length f2)))
      (first | exact KEEP.out _ (by (repeat (first | with_reducible assumption | with_reducible exact Below.refl _ _ | with_reducible refine Below.setCell ?_ (by first | omega | (simp; done) | (simp; omega)) _ | with_reducible refine Below.alloc ?_ (by first | omega | (simp; done) | (simp; omega)) _ | with_reducible refine below_drewN ?_ _ | with_reducible refine Below.drew ?_ | with_reducible refine Below.trans ?_ (Below.mono hb7 (by first | omega | (simp; done) | (simp; omega))) | with_reducible refine Below.trans ?_ (Below.mono hb6 (by first | omega | (simp; done) | (simp; omega)))))) | go_keep)
      (first
        | (go_at_call 8; refine (TO.out _ (by (repeat (first | with_reducible assumption | with_reducible exact Below.refl _ _ | with_reducible refine Below.setCell ?_ (by first | omega | (simp; done) | (simp; omega)) _ | with_reducible refine Below.alloc ?_ (by first | omega | (simp; done) | (simp; omega)) _ | with_reducible refine below_drewN ?_ _ | with_reducible refine Below.drew ?_ | with_reducible refine Below.trans ?_ (Below.mono hbw5 (by first | omega | (simp; done) | (simp; omega))))))).mono ?_; rintro r w6 ⟨u6, bl6, rfl, hO6, hOw6, hb6⟩; have hz6 := hb6.size; (try simp at hz6); have hS6 := hO6.smv; clear hO6 hOw6; have HS6 := Lib.hid hS6; obtain ⟨D1, D2, g1, g2, rfl, _, _, _, _⟩ := hS6.form2; clear hS6)
        | (go_at_call 10; refine (EQ.out _ _ (by (repeat (first | with_reducible assumption | with_reducible exact Below.refl _ _ | with_reducible refine Below.setCell ?_ (by first | omega | (simp; done) | (simp; omega)) _ | with_reducible refine Below.alloc ?_ (by first | omega | (simp; done) | (simp; omega)) _ | with_reducible refine below_drewN ?_ _ | with_reducible refine Below.drew ?_ | with_reducible refine Below.trans ?_ (Below.mono hb6 (by first | omega | (simp; done) | (simp; omega))) | with_reducible refine Below.trans ?_ (Below.mono hb45 (by first | omega | (simp; done) | (simp; omega)))))) HS6.out).mono ?_; rintro r w7 ⟨rfl, hb7⟩; have hz7 := hb7.size)
        | fail)
    all_goals
      (try rw [decide_eq_true (⟨rfl, rfl, rfl, rfl, rfl⟩ : s.kind = s.kind ∧ s.name = s.name ∧ s.typ = s.typ ∧ s.ex = s.ex ∧ s.th = s.th)])
      go_wp2_with fail
      go_ret
      exact ⟨rfl, by (repeat (first | with_reducible assumption | with_reducible exact Below.refl _ _ | with_reducible refine Below.setCell ?_ (by first | omega | (simp; done) | (simp; omega)) _ | with_reducible refine Below.alloc ?_ (by first | omega | (simp; done) | (simp; omega)) _ | with_reducible refine below_drewN ?_ _ | with_reducible refine Below.drew ?_ | with_reducible refine Below.trans ?_ (Below.mono hb7 (by first | omega | (simp; done) | (simp; omega))) | with_reducible refine Below.trans ?_ (Below.mono hb6 (by first | omega | (simp; done) | (simp; omega))) | with_reducible refine Below.trans ?_ (Below.mono hbw5 (by first | omega | (simp; done) | (simp; omega)))))⟩
noncomputable def smTxt (s : Sm) : Bytes := if smOkB s then smText s else []
theorem spTxt_any (s : Sm) (v : Value) (w : World) (hv : SmV w w.heap.size v s) : Calls Tryd.prog 11 #[v] w fun r w' => r = .returned (.string (bs (smTxt s))) ∧ Below w.heap.size w w' := spStmtText_any s v w hv
theorem imTxt_any (s : Sm) (v : Value) (w : World) (hv : SmV w w.heap.size v s) (hE : Env w) : Calls Tryd.prog 12 #[v] w fun r w' => r = .returned (.string (bs (smTxt s))) ∧ Below w.heap.size w w' := imStmtText_any s v w hv hE
set_option maxHeartbeats 4000000 in
theorem lawStmtText (W : World) (v : Value) (s : Sm) (hv : SmV W W.heap.size v s) (hE : Env W) : Calls Tryd.prog 4 #[v] W fun e w' => e = .returned (.bool true) ∧ Below W.heap.size W w' := by
  by_cases h1 : s.wt ≤ 1048576
  rotate_left
  · have SZ := Lib.hid (fun (w' : World) (h : Below W.heap.size W w') => szStmt_any s v w' 1048576 (by omega) (by omega) ((hv.keep h (Nat.le_refl _)).more h.size))
    have e1 : szOut 1048576 s.wt = -1 := szOut_no (by omega)
    rw [e1] at SZ
    obtain ⟨A1, A2, c1, c2, rfl, hn, ht, hE1, hE2⟩ := hv.form2
    clear hE1 hE2 e1 h1 hE
    go_enter Tryd.func4, Tryd.ntmps4
    go_wp2_with fail
    refine (SZ.out _ (by (repeat (first | with_reducible assumption | with_reducible exact Below.refl _ _ | with_reducible refine Below.setCell ?_ (by first | omega | (simp; done) | (simp; omega)) _ | with_reducible refine Below.alloc ?_ (by first | omega | (simp; done) | (simp; omega)) _ | with_reducible refine below_drewN ?_ _ | with_reducible refine Below.drew ?_)))).mono ?_
    rintro r w1 ⟨rfl, hb1⟩
    go_wp2_with fail
    go_ret
    exact ⟨rfl, by (repeat (first | with_reducible assumption | with_reducible exact Below.refl _ _ | with_reducible refine Below.setCell ?_ (by first | omega | (simp; done) | (simp; omega)) _ | with_reducible refine Below.alloc ?_ (by first | omega | (simp; done) | (simp; omega)) _ | with_reducible refine below_drewN ?_ _ | with_reducible refine Below.drew ?_ | with_reducible refine Below.trans ?_ (Below.mono hb1 (by first | omega | (simp; done) | (simp; omega)))))⟩
  · have SZ := Lib.hid (fun (w' : World) (h : Below W.heap.size W w') => szStmt_any s v w' 1048576 (by omega) (by omega) ((hv.keep h (Nat.le_refl _)).more h.size))
    have e1 : szOut 1048576 s.wt = 1048576 - s.wt := szOut_yes (by omega)
    rw [e1] at SZ
    have TO := Lib.hid (fun (w' : World) (h : Below W.heap.size W w') => toStmt_any s v w' h1 ((hv.keep h (Nat.le_refl _)).more h.size))
    have ENV := Lib.hid (fun (w' : World) (h : Below W.heap.size W w') => hE.ext h)
    obtain ⟨A1, A2, c1, c2, rfl, hn, ht, hE1, hE2⟩ := hv.form2
    have hw0 : (0 : Int) ≤ 1048576 - (s.wt : Int) := by omega
    clear hE1 hE2 e1 h1 hE hv
    go_enter Tryd.func4, Tryd.ntmps4
    go_wp2_with fail
    refine (SZ.out _ (by (repeat (first | with_reducible assumption | with_reducible exact Below.refl _ _ | with_reducible refine Below.setCell ?_ (by first | omega | (simp; done) | (simp; omega)) _ | with_reducible refine Below.alloc ?_ (by first | omega | (simp; done) | (simp; omega)) _ | with_reducible refine below_drewN ?_ _ | with_reducible refine Below.drew ?_)))).mono ?_
    rintro r w1 ⟨rfl, hb1⟩
    have hz1 := hb1.size
    (try simp at hz1)
    have hbw1 : Below W.heap.size W w1 := by (repeat (first | with_reducible assumption | with_reducible exact Below.refl _ _ | with_reducible refine Below.setCell ?_ (by first | omega | (simp; done) | (simp; omega)) _ | with_reducible refine Below.alloc ?_ (by first | omega | (simp; done) | (simp; omega)) _ | with_reducible refine below_drewN ?_ _ | with_reducible refine Below.drew ?_ | with_reducible refine Below.trans ?_ (Below.mono hb1 (by first | omega | (simp; done) | (simp; omega)))))
    have BX : Hid (∀ w', Below (W.heap.size + 1) w1 w' → w'.cell? ⟨W.heap.size, 0, none⟩ = some (.int .i64 s.kind) ∧ w'.cell? ⟨W.heap.size, 1, none⟩ = some (.string (bs s.name)) ∧ w'.cell? ⟨W.heap.size, 2, none⟩ = some (.string (bs s.typ)) ∧ w'.cell? ⟨W.heap.size, 3, none⟩ = some (.int .i64 s.ex.kind) ∧ w'.cell? ⟨W.heap.size, 4, none⟩ = some (.int .i64 s.ex.n) ∧ w'.cell? ⟨W.heap.size, 5, none⟩ = some (.string (bs s.ex.s)) ∧ w'.cell? ⟨W.heap.size, 6, none⟩ = some (.slice A1 s.ex.kids.length c1) ∧ w'.cell? ⟨W.heap.size, 7, none⟩ = some (.int .i64 s.th.kind) ∧ w'.cell? ⟨W.heap.size, 8, none⟩ = some (.int .i64 s.th.n) ∧ w'.cell? ⟨W.heap.size, 9, none⟩ = some (.string (bs s.th.s)) ∧ w'.cell? ⟨W.heap.size, 10, none⟩ = some (.slice A2 s.th.kids.length c2)) := Lib.hid (fun w' h => by
      have hh : Below (W.heap.size + 1) _ w' := (hb1.mono (by simp)).trans h
      refine ⟨?_, ?_, ?_, ?_, ?_, ?_, ?_, ?_, ?_, ?_, ?_⟩ <;> exact (hh.cell (p := ⟨W.heap.size, _, none⟩) (Nat.lt_succ_self _)).trans (by simp [go_sem]))
    obtain ⟨x0, x1, x2, x3, x4, x5, x6, x7, x8, x9, x10⟩ := BX.out w1 (Below.refl _ _)
    clear hb1 SZ
    go_wp2_with fail
    refine (TO.out _ hbw1).mono ?_
    rintro r w2 ⟨u2, bl2, rfl, hO2, hOw2, hb2⟩
    have hz2 := hb2.size
    have hS2 := hO2.smv
    clear hO2 hOw2
    have HS2 := Lib.hid hS2
    obtain ⟨B1, B2, d1, d2, rfl, _, _, _, _⟩ := hS2.form2
    clear hS2 x0 x1 x2 x3 x4 x5 x6 x7 x8 x9 x10
    have hbw2 : Below W.heap.size W w2 := by (repeat (first | with_reducible assumption | with_reducible exact Below.refl _ _ | with_reducible refine Below.setCell ?_ (by first | omega | (simp; done) | (simp; omega)) _ | with_reducible refine Below.alloc ?_ (by first | omega | (simp; done) | (simp; omega)) _ | with_reducible refine below_drewN ?_ _ | with_reducible refine Below.drew ?_ | with_reducible refine Below.trans ?_ (Below.mono hb2 (by first | omega | (simp; done) | (simp; omega))) | with_reducible refine Below.trans ?_ (Below.mono hbw1 (by first | omega | (simp; done) | (simp; omega)))))
    go_wp2_with fail
    refine (spTxt_any s _ w2 HS2.out).mono ?_
    rintro r w3 ⟨rfl, hb3⟩
    have hz3 := hb3.size
    have hbw3 : Below W.heap.size W w3 := by (repeat (first | with_reducible assumption | with_reducible exact Below.refl _ _ | with_reducible refine Below.setCell ?_ (by first | omega | (simp; done) | (simp; omega)) _ | with_reducible refine Below.alloc ?_ (by first | omega | (simp; done) | (simp; omega)) _ | with_reducible refine below_drewN ?_ _ | with_reducible refine Below.drew ?_ | with_reducible refine Below.trans ?_ (Below.mono hb3 (by first | omega | (simp; done) | (simp; omega))) | with_reducible refine Below.trans ?_ (Below.mono hbw2 (by first | omega | (simp; done) | (simp; omega)))))
    obtain ⟨x0, x1, x2, x3, x4, x5, x6, x7, x8, x9, x10⟩ := BX.out w3 (by (repeat (first | with_reducible assumption | with_reducible exact Below.refl _ _ | with_reducible refine Below.setCell ?_ (by first | omega | (simp; done) | (simp; omega)) _ | with_reducible refine Below.alloc ?_ (by first | omega | (simp; done) | (simp; omega)) _ | with_reducible refine below_drewN ?_ _ | with_reducible refine Below.drew ?_ | with_reducible refine Below.trans ?_ (Below.mono hb3 (by first | omega | (simp; done) | (simp; omega))) | with_reducible refine Below.trans ?_ (Below.mono hb2 (by first | omega | (simp; done) | (simp; omega))))))
    clear HS2
    go_wp2_with fail
    refine (TO.out _ hbw3).mono ?_
    rintro r w4 ⟨u4, bl4, rfl, hO4, hOw4, hb4⟩
    have hz4 := hb4.size
    have hS4 := hO4.smv
    clear hO4 hOw4
    have HS4 := Lib.hid (fun (w' : World) (h : Below w4.heap.size w4 w') => (hS4.keep h (Nat.le_refl _)).more h.size)
    obtain ⟨C1, C2, f1, f2, rfl, _, _, _, _⟩ := hS4.form2
    clear hS4 x0 x1 x2 x3 x4 x5 x6 x7 x8 x9 x10
    have hbw4 : Below W.heap.size W w4 := by (repeat (first | with_reducible assumption | with_reducible exact Below.refl _ _ | with_reducible refine Below.setCell ?_ (by first | omega | (simp; done) | (simp; omega)) _ | with_reducible refine Below.alloc ?_ (by first | omega | (simp; done) | (simp; omega)) _ | with_reducible refine below_drewN ?_ _ | with_reducible refine Below.drew ?_ | with_reducible refine Below.trans ?_ (Below.mono hb4 (by first | omega | (simp; done) | (simp; omega))) | with_reducible refine Below.trans ?_ (Below.mono hbw3 (by first | omega | (simp; done) | (simp; omega)))))
    go_wp2_with fail
    refine (imTxt_any s _ _ (HS4.out _ (by (repeat (first | with_reducible assumption | with_reducible exact Below.refl _ _ | with_reducible refine Below.setCell ?_ (by first | omega | (simp; done) | (simp; omega)) _ | with_reducible refine Below.alloc ?_ (by first | omega | (simp; done) | (simp; omega)) _ | with_reducible refine below_drewN ?_ _ | with_reducible refine Below.drew ?_)))) (ENV.out _ (by (repeat (first | with_reducible assumption | with_reducible exact Below.refl _ _ | with_reducible refine Below.setCell ?_ (by first | omega | (simp; done) | (simp; omega)) _ | with_reducible refine Below.alloc ?_ (by first | omega | (simp; done) | (simp; omega)) _ | with_reducible refine below_drewN ?_ _ | with_reducible refine Below.drew ?_ | with_reducible refine Below.trans ?_ (Below.mono hbw4 (by first | omega | (simp; done) | (simp; omega)))))))).mono ?_
    rintro r w5 ⟨rfl, hb5⟩
    have hz5 := hb5.size
    (try simp at hz5)
    have hbw5 : Below W.heap.size W w5 := by (repeat (first | with_reducible assumption | with_reducible exact Below.refl _ _ | with_reducible refine Below.setCell ?_ (by first | omega | (simp; done) | (simp; omega)) _ | with_reducible refine Below.alloc ?_ (by first | omega | (simp; done) | (simp; omega)) _ | with_reducible refine below_drewN ?_ _ | with_reducible refine Below.drew ?_ | with_reducible refine Below.trans ?_ (Below.mono hb5 (by first | omega | (simp; done) | (simp; omega))) | with_reducible refine Below.trans ?_ (Below.mono hbw4 (by first | omega | (simp; done) | (simp; omega)))))
    have hbx5 : Below (W.heap.size + 1) w1 w5 := by (repeat (first | with_reducible assumption | with_reducible exact Below.refl _ _ | with_reducible refine Below.setCell ?_ (by first | omega | (simp; done) | (simp; omega)) _ | with_reducible refine Below.alloc ?_ (by first | omega | (simp; done) | (simp; omega)) _ | with_reducible refine below_drewN ?_ _ | with_reducible refine Below.drew ?_ | with_reducible refine Below.trans ?_ (Below.mono hb5 (by first | omega | (simp; done) | (simp; omega))) | with_reducible refine Below.trans ?_ (Below.mono hb4 (by first | omega | (simp; done) | (simp; omega))) | with_reducible refine Below.trans ?_ (Below.mono hb3 (by first | omega | (simp; done) | (simp; omega))) | with_reducible refine Below.trans ?_ (Below.mono hb2 (by first | omega | (simp; done) | (simp; omega)))))
    have hb45 : Below w4.heap.size w4 w5 := by (repeat (first | with_reducible assumption | with_reducible exact Below.refl _ _ | with_reducible refine Below.setCell ?_ (by first | omega | (simp; done) | (simp; omega)) _ | with_reducible refine Below.alloc ?_ (by first | omega | (simp; done) | (simp; omega)) _ | with_reducible refine below_drewN ?_ _ | with_reducible refine Below.drew ?_ | with_reducible refine Below.trans ?_ (Below.mono hb5 (by first | omega | (simp; done) | (simp; omega)))))
    have KEEP : Hid (∀ w', Below (w4.heap.size + 1) w5 w' → ((w'.cell? ⟨W.heap.size, 0, none⟩ = some (.int .i64 s.kind) ∧ w'.cell? ⟨W.heap.size, 1, none⟩ = some (.string (bs s.name)) ∧ w'.cell? ⟨W.heap.size, 2, none⟩ = some (.string (bs s.typ)) ∧ w'.cell? ⟨W.heap.size, 3, none⟩ = some (.int .i64 s.ex.kind) ∧ w'.cell? ⟨W.heap.size, 4, none⟩ = some (.int .i64 s.ex.n) ∧ w'.cell? ⟨W.heap.size, 5, none⟩ = some (.string (bs s.ex.s)) ∧ w'.cell? ⟨W.heap.size, 6, none⟩ = some (.slice A1 s.ex.kids.length c1) ∧ w'.cell? ⟨W.heap.size, 7, none⟩ = some (.int .i64 s.th.kind) ∧ w'.cell? ⟨W.heap.size, 8, none⟩ = some (.int .i64 s.th.n) ∧ w'.cell? ⟨W.heap.size, 9, none⟩ = some (.string (bs s.th.s)) ∧ w'.cell? ⟨W.heap.size, 10, none⟩ = some (.slice A2 s.th.kids.length c2)) ∧ (w'.cell? ⟨w4.heap.size, 0, none⟩ = some (.int .i64 s.kind) ∧ w'.cell? ⟨w4.heap.size, 1, none⟩ = some (.string (bs s.name)) ∧ w'.cell? ⟨w4.heap.size, 2, none⟩ = some (.string (bs s.typ)) ∧ w'.cell? ⟨w4.heap.size, 3, none⟩ = some (.int .i64 s.ex.kind) ∧ w'.cell? ⟨w4.heap.size, 4, none⟩ = some (.int .i64 s.ex.n) ∧ w'.cell? ⟨w4.heap.size, 5, none⟩ = some (.string (bs s.ex.s)) ∧ w'.cell? ⟨w4.heap.size, 6, none⟩ = some (.slice C1 s.ex.kids.length f1) ∧ w'.cell? ⟨w4.heap.size, 7, none⟩ = some (.int .i64 s.th.kind) ∧ w'.cell? ⟨w4.heap.size, 8, none⟩ = some (.int .i64 s.th.n) ∧ w'.cell? ⟨w4.heap.size, 9, none⟩ = some (.string (bs s.th.s)) ∧ w'.cell? ⟨w4.heap.size, 10, none⟩ = some (.slice C2 s.th.kids.length f2)))) := Lib.hid (fun w' h => by
      refine ⟨BX.out w' (hbx5.trans (h.mono (by omega))), ?_⟩
      have hh : Below (w4.heap.size + 1) _ w' := (hb5.mono (by simp)).trans h
      refine ⟨?_, ?_, ?_, ?_, ?_, ?_, ?_, ?_, ?_, ?_, ?_⟩ <;> exact (hh.cell (p := ⟨w4.heap.size, _, none⟩) (Nat.lt_succ_self _)).trans (by simp [go_sem]))
    have EQ := Lib.hid (fun (w' : World) (u : Value) (h : Below w4.heap.size w4 w') (hu : SmV w' w'.heap.size u s) => eqStmt_any s s _ u w' (HS4.out w' h) hu)
    clear BX hb5 HS4
    generalize smTxt s = so at *
    go_upto_region 10 with fail
    go_region_held3 (fun w' => (w'.cell? ⟨W.heap.size, 0, none⟩ = some (.int .i64 s.kind) ∧ w'.cell? ⟨W.heap.size, 1, none⟩ = some (.string (bs s.name)) ∧ w'.cell? ⟨W.heap.size, 2, none⟩ = some (.string (bs s.typ)) ∧ w'.cell? ⟨W.heap.size, 3, none⟩ = some (.int .i64 s.ex.kind) ∧ w'.cell? ⟨W.heap.size, 4, none⟩ = some (.int .i64 s.ex.n) ∧ w'.cell? ⟨W.heap.size, 5, none⟩ = some (.string (bs s.ex.s)) ∧ w'.cell? ⟨W.heap.size, 6, none⟩ = some (.slice A1 s.ex.kids.length c1) ∧ w'.cell? ⟨W.heap.size, 7, none⟩ = some (.int .i64 s.th.kind) ∧ w'.cell? ⟨W.heap.size, 8, none⟩ = some (.int .i64 s.th.n) ∧ w'.cell? ⟨W.heap.size, 9, none⟩ = some (.string (bs s.th.s)) ∧ w'.cell? ⟨W.heap.size, 10, none⟩ = some (.slice A2 s.th.kids.length c2)) ∧ (w'.cell? ⟨w4.heap.size, 0, none⟩ = some (.int .i64 s.kind) ∧ w'.cell? ⟨w4.heap.size, 1, none⟩ = some (.string (bs s.name)) ∧ w'.cell? ⟨w4.heap.size, 2, none⟩ = some (.string (bs s.typ)) ∧ w'.cell? ⟨w4.heap.size, 3, none⟩ = some (.int .i64 s.ex.kind) ∧ w'.cell? ⟨w4.heap.size, 4, none⟩ = some (.int .i64 s.ex.n) ∧ w'.cell? ⟨w4.heap.size, 5, none⟩ = some (.string (bs s.ex.s)) ∧ w'.cell? ⟨w4.heap.size, 6, none⟩ = some (.slice C1 s.ex.kids.length f1) ∧ w'.cell? ⟨w4.heap.size, 7, none⟩ = some (.int .i64 s.th.kind) ∧ w'.cell? ⟨w4.heap.size, 8, none⟩ = some (.int .i64 s.th.n) ∧ w'.cell? ⟨w4.heap.size, 9, none⟩ = some (.string (bs s.th.s)) ∧ w'.cell? ⟨w4.heap.size, 10, none⟩ = some (.slice C2 s.th.kids.length f2)))
      (first | exact KEEP.out _ (by (repeat (first | with_reducible assumption | with_reducible exact Below.refl _ _ | with_reducible refine Below.setCell ?_ (by first | omega | (simp; done) | (simp; omega)) _ | with_reducible refine Below.alloc ?_ (by first | omega | (simp; done) | (simp; omega)) _ | with_reducible refine below_drewN ?_ _ | with_reducible refine Below.drew ?_ | with_reducible refine Below.trans ?_ (Below.mono hb7 (by first | omega | (simp; done) | (simp; omega))) | with_reducible refine Below.trans ?_ (Below.mono hb6 (by first | omega | (simp; done) | (simp; omega)))))) | go_keep)
      (first
        | (go_at_call 8; refine (TO.out _ (by (repeat (first | with_reducible assumption | with_reducible exact Below.refl _ _ | with_reducible refine Below.setCell ?_ (by first | omega | (simp; done) | (simp; omega)) _ | with_reducible refine Below.alloc ?_ (by first | omega | (simp; done) | (simp; omega)) _ | with_reducible refine below_drewN ?_ _ | with_reducible refine Below.drew ?_ | with_reducible refine Below.trans ?_ (Below.mono hbw5 (by first | omega | (simp; done) | (simp; omega))))))).mono ?_; rintro r w6 ⟨u6, bl6, rfl, hO6, hOw6, hb6⟩; have hz6 := hb6.size; (try simp at hz6); have hS6 := hO6.smv; clear hO6 hOw6; have HS6 := Lib.hid hS6; obtain ⟨D1, D2, g1, g2, rfl, _, _, _, _⟩ := hS6.form2; clear hS6)
        | (go_at_call 10; refine (EQ.out _ _ (by (repeat (first | with_reducible assumption | with_reducible exact Below.refl _ _ | with_reducible refine Below.setCell ?_ (by first | omega | (simp; done) | (simp; omega)) _ | with_reducible refine Below.alloc ?_ (by first | omega | (simp; done) | (simp; omega)) _ | with_reducible refine below_drewN ?_ _ | with_reducible refine Below.drew ?_ | with_reducible refine Below.trans ?_ (Below.mono hb6 (by first | omega | (simp; done) | (simp; omega))) | with_reducible refine Below.trans ?_ (Below.mono hb45 (by first | omega | (simp; done) | (simp; omega)))))) HS6.out).mono ?_; rintro r w7 ⟨rfl, hb7⟩; have hz7 := hb7.size)
        | fail)
    all_goals
      (try rw [decide_eq_true (⟨rfl, rfl, rfl, rfl, rfl⟩ : s.kind = s.kind ∧ s.name = s.name ∧ s.typ = s.typ ∧ s.ex = s.ex ∧ s.th = s.th)])
      go_wp2_with fail
      go_ret
      exact ⟨rfl, by (repeat (first | with_reducible assumption | with_reducible exact Below.refl _ _ | with_reducible refine Below.setCell ?_ (by first | omega | (simp; done) | (simp; omega)) _ | with_reducible refine Below.alloc ?_ (by first | omega | (simp; done) | (simp; omega)) _ | with_reducible refine below_drewN ?_ _ | with_reducible refine Below.drew ?_ | with_reducible refine Below.trans ?_ (Below.mono hb7 (by first | omega | (simp; done) | (simp; omega))) | with_reducible refine Below.trans ?_ (Below.mono hb6 (by first | omega | (simp; done) | (simp; omega))) | with_reducible refine Below.trans ?_ (Below.mono hbw5 (by first | omega | (simp; done) | (simp; omega)))))⟩
end Go.Proofs.YtgfdakgibjplkaaDoor
