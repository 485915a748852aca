
/- The program's reader of words, asked of any words: what is read is what was written. -/
import Derived.Test.YtgakjhaepdigpaaGreatDoorRdH
import Derived.Test.YtgakjhaepdigpaaGreatDoorStrs
import Derived.Test.YtgakjhaepdigpaaGreatDoorZm10
namespace Go.Proofs.YtgakjhaepdigpaaGreatDoor
set_option maxRecDepth 100000
set_option linter.unusedSimpArgs false
set_option linter.unusedVariables false
open Go.RowKit
attribute [local go_sem] bs_toList bs_get bs_size

set_option maxHeartbeats 1000000 in
theorem level_four (rb B N : Nat) (sub : List Bytes → PR) (SUB : ReadsAs rb B N 135 [] sub) : ReadsAs rb B N 86 [.int .i64 4] sub := by
  intro l d w hR hd hN hE
  show Calls Tryz.prog 86 #[.pointer (some ⟨rb, 0, none⟩), .int .i64 4] w (LvP (sub l) rb B l w)
  have hrb := hR.lt
  have hB : B ≤ rb := by obtain ⟨_, _, _, _, h, _⟩ := hR; exact h
  have hq0 : w.heap.size ≠ rb := by omega
  have CL := Lib.hid (show Calls Tryz.prog 135 #[.pointer (some ⟨rb, 0, none⟩)] _ (LvP (sub l) rb B l _) from SUB l d _ (hR.alloc (.cells zX 24)) hd hN (hE.keep (by (repeat (first | with_reducible assumption | with_reducible exact Below.refl _ _ | with_reducible refine Below.setCell ?_ (by first | omega | (simp; done) | (simp; omega)) _ | with_reducible refine Below.alloc ?_ (by first | omega | (simp; done) | (simp; omega)) _ | with_reducible refine below_drewN ?_ _ | with_reducible refine Below.drew ?_)))))
  clear SUB hR hd hN hE
  go_enter Tryz.func86, Tryz.ntmps86
  go_wp2_with fail
  refine CL.out.mono ?_
  rintro e2 w2 ⟨x, v, r, bad, d', rfl, hT, hR2, hg2, hm, hd', hl, hs⟩
  have hz2 := hg2.size
  simp at hz2
  have hB4 : Blk w2 w.heap.size 24 zX := blk_gr (Blk.new w _ _) hg2 hq0
  have hgw2 : w.grownBy w2 (some rb) := grown_tr (grown_al (grown_rfl _ _) _) hg2
  obtain ⟨A, c, rfl, hsx⟩ := hT.form3
  have z0 := hB4.frozen 0; have z1 := hB4.frozen 1; have z2 := hB4.frozen 2; have z3 := hB4.frozen 3
  have y4 := hB4.cell 0; have y5 := hB4.cell 1; have y6 := hB4.cell 2; have y7 := hB4.cell 3
  simp [zX] at y4 y5 y6 y7
  have HX := Lib.hid (And.intro hT (And.intro hR2 (And.intro hgw2 (And.intro hm (And.intro hd' (And.intro hl hs))))))
  clear hT hR2 hgw2 hm hd' hl hs hB4 hg2 CL
  go_wp2_with fail
  refine bodyPost_ret (v := vX x.kind x.n x.s (.slice A x.kids.length c)) (by simp [results, Tryz.results86, go_sem, vX, y4, y5, y6, y7]) rfl ?_
  obtain ⟨hT, hR, hgr, hm, hd, hl, hs⟩ := HX.out
  exact ⟨x, _, _, _, _, rfl, ((((hT.widen (lo' := w.heap.size + 1) (by simp) (Nat.le_refl _)).setN (b := w.heap.size) (by omega) 0 _).setN (b := w.heap.size) (by omega) 1 _).setN (b := w.heap.size) (by omega) 2 _).setN (b := w.heap.size) (by omega) 3 _ |>.widen (by omega) (by simp), (((hR.setN (b := w.heap.size) (by omega) 0 _).setN (b := w.heap.size) (by omega) 1 _).setN (b := w.heap.size) (by omega) 2 _).setN (b := w.heap.size) (by omega) 3 _, grown_sn (grown_sn (grown_sn (grown_sn hgr (b := w.heap.size) (Nat.le_refl _) _ _) (b := w.heap.size) (Nat.le_refl _) _ _) (b := w.heap.size) (Nat.le_refl _) _ _) (b := w.heap.size) (Nat.le_refl _) _ _, hm, hd, hl, hs⟩
theorem levels (rb B N : Nat) (held : List Bytes → PR) (H : ReadsAs rb B N 135 [] held) : ReadsAs rb B N 86 [.int .i64 1] (lv1 false held) := by
  have h4 : ReadsAs rb B N 86 [.int .i64 (((3 : Nat) : Int) + 1)] held := level_four rb B N held H
  have h3 : ReadsAs rb B N 86 [.int .i64 (((2 : Nat) : Int) + 1)] (lv3 held) := level_step rb B N 3 (by omega) (by omega) held h4
  have h2 : ReadsAs rb B N 86 [.int .i64 (((1 : Nat) : Int) + 1)] (lv2 held) := level_step rb B N 2 (by omega) (by omega) (lv3 held) h3
  exact level_step rb B N 1 (by omega) (by omega) (lv2 held) h2
theorem reads_any (rb B : Nat) : ∀ f, ReadsAs rb B f 135 [] (atomW false f)
  | 0 => held_step rb B 0 (fun f' e => by omega)
  | f + 1 => held_step rb B (f + 1) (fun f' e => by
      obtain rfl : f = f' := by omega
      exact levels rb B f _ (reads_any rb B f))
theorem imExprWords_any (e : E) (v : Value) (w : World) (hok : e.Ok) (hv : ExV w w.heap.size v e.ex) (hE : Env w) : Calls Tryz.prog 32 #[v] w fun r w' => ∃ u, r = .returned u ∧ SlB w' w'.heap.size u (e.words 1) ∧ Below w.heap.size w w' := by
  obtain ⟨kv, rfl, hs, hx⟩ := id hv
  obtain ⟨A, c, rfl, hc, hm⟩ := hx.val
  have OK := Lib.hid (fun (w' : World) (h : Below w.heap.size w w') => imOk_any e.ex _ w' ((hv.keep h (Nat.le_refl _)).more h.size) (hE.ext h))
  rw [E.ok_iff.2 ⟨e, rfl, hok⟩] at OK
  have W0 := Lib.hid (fun (w' : World) (p : Nat) (h : Below w.heap.size w w') (hp : w.heap.size ≤ p) (hb : Blk w' p 3 #[.int .i64 ((0 : Nat) : Int)]) => imW_any e 0 _ w' p 0 w.heap.size hok.1 (by have := hok.2.2; omega) (by have := hok.2.2; omega) (by omega) (hv.keep h (Nat.le_refl _)) hp hb (hE.envB.keep h))
  have hlw := E.words_len e 0
  have hcn := hok.2.2
  have hw0 := E.words_zero e
  have hlw : (e.words 0).length ≤ 58 := by omega
  have HW := Lib.hid (And.intro hlw hw0)
  have hB1 := Blk.new w 24 #[.int .i64 e.ex.kind, .int .i64 e.ex.n, .string (bs e.ex.s), .slice A e.ex.kids.length c]
  clear hv hx hE hlw hw0 hcn
  go_enter Tryz.func32, Tryz.ntmps32
  go_wp2_with fail
  refine (OK.out _ (by (repeat (first | with_reducible assumption | with_reducible exact Below.refl _ _ | with_reducible refine Below.setCell ?_ (by first | omega | (simp; done) | (simp; omega)) _ | with_reducible refine Below.alloc ?_ (by first | omega | (simp; done) | (simp; omega)) _ | with_reducible refine below_drewN ?_ _ | with_reducible refine Below.drew ?_)))).mono ?_
  rintro r w1 ⟨rfl, hb1⟩
  skip; replace hB1 := hB1.below hb1 hB1.lt
  have hbw1 : Below w.heap.size w w1 := by (repeat (first | with_reducible assumption | with_reducible exact Below.refl _ _ | with_reducible refine Below.setCell ?_ (by first | omega | (simp; done) | (simp; omega)) _ | with_reducible refine Below.alloc ?_ (by first | omega | (simp; done) | (simp; omega)) _ | with_reducible refine below_drewN ?_ _ | with_reducible refine Below.drew ?_ | with_reducible refine Below.trans ?_ (Below.mono hb1 (by first | omega | (simp; done) | (simp; omega)))))
  have hz1 := hB1.lt
  have hbw1a : Below w.heap.size w (w1.alloc (.cells #[.int .i64 0] 3)) := by (repeat (first | with_reducible assumption | with_reducible exact Below.refl _ _ | with_reducible refine Below.setCell ?_ (by first | omega | (simp; done) | (simp; omega)) _ | with_reducible refine Below.alloc ?_ (by first | omega | (simp; done) | (simp; omega)) _ | with_reducible refine below_drewN ?_ _ | with_reducible refine Below.drew ?_ | with_reducible refine Below.trans ?_ (Below.mono hbw1 (by first | omega | (simp; done) | (simp; omega)))))
  have C := Lib.hid (W0.out _ w1.heap.size hbw1a (by omega) (Blk.new w1 _ _))
  skip; have pa0 := hB1.cell 0; have pa1 := hB1.cell 1; have pa2 := hB1.cell 2; have pa3 := hB1.cell 3; simp at pa0 pa1 pa2 pa3
  clear hb1 OK W0
  go_wp2_with fail
  refine C.out.mono ?_
  rintro r w2 ⟨u, m, n', rfl, hG, hM, hg2, hB2, hn1, hn2⟩
  have hml : m.length ≤ 100 := by
    have h1 := congrArg List.length hM
    rw [List.length_map] at h1
    have := HW.out.1
    omega
  have hS2 := hG.sl (fun _ => rfl)
  have hbw2 : Below w.heap.size w w2 := hbw1a.trans (below_of_grown hg2 (by omega) (by simp))
  have BW := Lib.hid (bareWords_any m u w2 hS2 (by omega))
  rw [hM, HW.out.2] at BW
  obtain ⟨A2, c2, rfl, _, _⟩ := hS2.val
  clear hG hM hg2 hB2 hS2 C
  go_wp2_with fail
  refine BW.out.mono ?_
  rintro r w3 ⟨u3, rfl, hS3, hb3⟩
  go_wp2_with fail
  go_ret
  exact ⟨u3, rfl, hS3, hbw2.ext hb3⟩
/-- what a reader tells: the tree, whether it is one -/
def RdP (ws : List Bytes) (w : World) (e : Ending) (w' : World) : Prop := ∃ v, e = .returned (.tuple #[v, .bool (rdOk ws)]) ∧ TrM w.heap.size w'.heap.size w' v (rdX ws) ∧ Below w.heap.size w w'
theorem rdX_none {ws : List Bytes} (h : rdE ws = none) : rdX ws = Ex.none := by unfold rdX; rw [h]
theorem rdOk_none {ws : List Bytes} (h : rdE ws = none) : rdOk ws = false := by unfold rdOk; rw [h]; rfl
theorem rdX_some {ws : List Bytes} {e : E} (h : rdE ws = some e) : rdX ws = e.ex := by unfold rdX; rw [h]
theorem rdOk_some {ws : List Bytes} {e : E} (h : rdE ws = some e) : rdOk ws = true := by unfold rdOk; rw [h]; rfl
theorem RdP.no {ws : List Bytes} {w w' : World} (h : rdE ws = none) (hb : Below w.heap.size w w') : RdP ws w (.returned (.tuple #[.agg #[.int .i64 0, .int .i64 0, .string ⟨#[]⟩, .slice none 0 0], .bool false])) w' :=
  ⟨_, by rw [rdOk_none h], by rw [rdX_none h]; exact TrM.leaf _ _ _ 0 0 [] (by simp), hb⟩
set_option maxHeartbeats 2000000 in
theorem imExprRead_any (ws : List Bytes) (v : Value) (w : World) (hv : SlB w w.heap.size v ws) (hs : ∀ s ∈ ws, s.length ≤ 100000000) (hE : EnvA w) : Calls Tryz.prog 33 #[v] w (RdP ws w) := by
  by_cases h40 : ws.length ≤ 40
  rotate_left
  · have HN := Lib.hid (rd_long h40)
    obtain ⟨A, c, rfl, hc, hm⟩ := hv.val
    have hgt : (40 : Int) < (ws.length : Int) := by omega
    clear hv hE hs h40
    go_enter Tryz.func33, Tryz.ntmps33
    go_wp2_with fail
    refine bodyPost_ret (v := .tuple #[.agg #[.int .i64 0, .int .i64 0, .string ⟨#[]⟩, .slice none 0 0], .bool false]) (by simp [results, Tryz.results33, go_sem]) rfl ?_
    exact RdP.no HN.out (by (repeat (first | with_reducible assumption | with_reducible exact Below.refl _ _ | with_reducible refine Below.setCell ?_ (by first | omega | (simp; done) | (simp; omega)) _ | with_reducible refine Below.alloc ?_ (by first | omega | (simp; done) | (simp; omega)) _ | with_reducible refine below_drewN ?_ _ | with_reducible refine Below.drew ?_)))
  · have RA := Lib.hid (levels (w.heap.size + 1) w.heap.size (ws.length + 4) _ (reads_any (w.heap.size + 1) w.heap.size (ws.length + 4)))
    obtain ⟨A, c, rfl, hc, hm⟩ := hv.val
    have hR : Rdr ((w.alloc (.cells zX 24)).alloc (.cells #[.slice A ws.length c, .bool false, .int .i64 0] 104)) (w.heap.size + 1) w.heap.size ws false 0 := by
      refine ⟨A, c, Blk.newAt (by simp), hv.below (B' := w.heap.size) (by (repeat (first | with_reducible assumption | with_reducible exact Below.refl _ _ | with_reducible refine Below.setCell ?_ (by first | omega | (simp; done) | (simp; omega)) _ | with_reducible refine Below.alloc ?_ (by first | omega | (simp; done) | (simp; omega)) _ | with_reducible refine below_drewN ?_ _ | with_reducible refine Below.drew ?_))) (Nat.le_refl _), by omega, hs⟩
    have LV := Lib.hid (show Calls Tryz.prog 86 #[.pointer (some ⟨w.heap.size + 1, 0, none⟩), .int .i64 1] _ (LvP _ (w.heap.size + 1) w.heap.size ws _) from RA.out ws 0 _ hR (by omega) (by omega) (hE.envB.keep (by (repeat (first | with_reducible assumption | with_reducible exact Below.refl _ _ | with_reducible refine Below.setCell ?_ (by first | omega | (simp; done) | (simp; omega)) _ | with_reducible refine Below.alloc ?_ (by first | omega | (simp; done) | (simp; omega)) _ | with_reducible refine below_drewN ?_ _ | with_reducible refine Below.drew ?_)))))
    have hE2 := Lib.hid (fun (w' : World) (h : Below w.heap.size w w') => hE.env.ext h)
    have HV := Lib.hid (fun (w' : World) (h : Below w.heap.size w w') => (hv.below h (Nat.le_refl _)).more h.size)
    have RY := Lib.hid (fun (e : E) (h : rdE ws = some e) => rd_yes (st := false) (f := ws.length + 4) (by omega) h)
    have hgt : ¬ (40 : Int) < (ws.length : Int) := by omega
    have H40 := Lib.hid h40
    clear hv hE hs hR RA h40
    go_enter Tryz.func33, Tryz.ntmps33
    go_wp2_with fail
    refine LV.out.mono ?_
    rintro e2 w2 ⟨x, v, r, bad, d', rfl, hT, hR2, hg2, hm2, hd', hl, hs⟩
    obtain ⟨A2, c2, rfl, hsx⟩ := hT.form3
    have hbw2 : Below w.heap.size w w2 := (show Below w.heap.size w _ from by (repeat (first | with_reducible assumption | with_reducible exact Below.refl _ _ | with_reducible refine Below.setCell ?_ (by first | omega | (simp; done) | (simp; omega)) _ | with_reducible refine Below.alloc ?_ (by first | omega | (simp; done) | (simp; omega)) _ | with_reducible refine below_drewN ?_ _ | with_reducible refine Below.drew ?_))).trans (below_of_grown hg2 (by omega) (by simp))
    have hB2 : Blk w2 w.heap.size 24 zX := blk_gr ((Blk.new w _ _).alloc _) hg2 (by omega)
    have hz2 := hg2.size
    simp at hz2
    have hz2' : w.heap.size + 1 < w2.heap.size := by omega
    have hz2'' : w.heap.size < w2.heap.size := by omega
    obtain ⟨A5, c5, hb5⟩ := hR2.blk
    have q0 := hb5.cell 0; have q1 := hb5.cell 1
    have z0 := hB2.frozen 0; have z1 := hB2.frozen 1; have z2 := hB2.frozen 2; have z3 := hB2.frozen 3
    have y4 := hB2.cell 0; have y5 := hB2.cell 1; have y6 := hB2.cell 2; have y7 := hB2.cell 3
    simp [zX] at q0 q1 y4 y5 y6 y7
    have hbV : Below w2.heap.size w2 (w2.alloc (.cells #[.int .i64 x.kind, .int .i64 x.n, .string (bs x.s), .slice A2 x.kids.length c2] 24)) := by (repeat (first | with_reducible assumption | with_reducible exact Below.refl _ _ | with_reducible refine Below.setCell ?_ (by first | omega | (simp; done) | (simp; omega)) _ | with_reducible refine Below.alloc ?_ (by first | omega | (simp; done) | (simp; omega)) _ | with_reducible refine below_drewN ?_ _ | with_reducible refine Below.drew ?_))
    have hbwV : Below w.heap.size w (w2.alloc (.cells #[.int .i64 x.kind, .int .i64 x.n, .string (bs x.s), .slice A2 x.kids.length c2] 24)) := hbw2.ext hbV
    have hxV := (hT.ext hbV).exv
    have OK := Lib.hid (imOk_any x _ _ hxV (hE2.out _ hbwV))
    have WD := Lib.hid (fun (e : E) (h : x = e.ex) (he : e.Ok) (w' : World) (hb : Below (w2.heap.size + 1) (w2.alloc (.cells #[.int .i64 x.kind, .int .i64 x.n, .string (bs x.s), .slice A2 x.kids.length c2] 24)) w') => imExprWords_any e (.agg #[.int .i64 x.kind, .int .i64 x.n, .string (bs x.s), .slice A2 x.kids.length c2]) w' he (by rw [← h]; exact (hxV.keep hb (by simp)).more hb.size) (hE2.out _ (hbwV.trans (hb.mono (by omega)))))
    have HB := Lib.hid (show Below w.heap.size w w2 ∧ (∀ w' : World, Below (w2.heap.size + 1) (w2.alloc (.cells #[.int .i64 x.kind, .int .i64 x.n, .string (bs x.s), .slice A2 x.kids.length c2] 24)) w' → Below w.heap.size w w' ∧ Blk w' w.heap.size 24 zX ∧ Blk w' w2.heap.size 24 #[.int .i64 x.kind, .int .i64 x.n, .string (bs x.s), .slice A2 x.kids.length c2] ∧ TrM (w.heap.size + 1) w2.heap.size w' (.agg #[.int .i64 x.kind, .int .i64 x.n, .string (bs x.s), .slice A2 x.kids.length c2]) x) from
      ⟨hbw2, fun w' h => ⟨hbwV.trans (h.mono (by omega)), (hB2.alloc _).below h (by omega), (Blk.new _ _ _).below h (by omega), ((hT.ext hbV).ext (h.mono (by simp))).widen (by simp) (Nat.le_refl _)⟩⟩)
    have HM := Lib.hid hm2
    clear hT hR2 hg2 hm2 hd' hl hs hbw2 hB2 hb5 hbV hbwV hxV LV
    cases hre : rdE ws with
    | some e =>
      have h1 := (RY.out e hre).1
      rw [HM.out] at h1
      cases bad with
      | true => cases h1
      | false =>
        simp at h1
        obtain ⟨hx, rfl⟩ := h1
        obtain ⟨_, heo, hew⟩ := RY.out e hre
        have hok : exOkB x = true := E.ok_iff.2 ⟨e, hx, heo⟩
        rw [hok] at OK
        have HR := Lib.hid (And.intro (rdX_some hre) (And.intro (rdOk_some hre) hx))
        have WE := Lib.hid (fun (w' : World) (hb : Below (w2.heap.size + 1) (w2.alloc (.cells #[.int .i64 x.kind, .int .i64 x.n, .string (bs x.s), .slice A2 x.kids.length c2] 24)) w') => WD.out e hx heo w' hb)
        rw [hew] at WE
        simp only [List.length_nil] at q0
        clear hre hx heo hew hok RY WD
        go_wp2_with fail
        refine OK.out.mono ?_
        rintro e3 w3 ⟨rfl, hb3⟩
        simp only [World.size_alloc] at hb3
        obtain ⟨hbw3, hB23, hB53, hT3⟩ := HB.out.2 w3 hb3
        have hz3 := hB53.lt
        have C3 := Lib.hid (WE.out w3 hb3)
        skip; have pa0 := hB53.cell 0; have pa1 := hB53.cell 1; have pa2 := hB53.cell 2; have pa3 := hB53.cell 3; simp at pa0 pa1 pa2 pa3
        clear OK
        have HX3 := Lib.hid (And.intro hbw3 hb3)
        clear hbw3 hB23 hB53 hT3
        go_wp2_with fail
        refine C3.out.mono ?_
        rintro e4 w4 ⟨u4, rfl, hS4, hb4⟩
        have hb4' : Below (w2.heap.size + 1) (w2.alloc (.cells #[.int .i64 x.kind, .int .i64 x.n, .string (bs x.s), .slice A2 x.kids.length c2] 24)) w4 := hb3.trans (hb4.mono (by omega))
        have EQ := Lib.hid (imEqual_any w4 u4 _ ws ws hS4 (HV.out w4 (HX3.out.1.ext hb4)))
        rw [decide_eq_true (rfl : ws = ws)] at EQ
        obtain ⟨A4, c4, rfl, _, _⟩ := hS4.val
        clear hS4 C3 hb3
        clear pa0 pa1 pa2 pa3
        go_wp2_with fail
        refine EQ.out.mono ?_
        rintro e5 w5 ⟨rfl, hb5⟩
        have hb5' : Below (w2.heap.size + 1) (w2.alloc (.cells #[.int .i64 x.kind, .int .i64 x.n, .string (bs x.s), .slice A2 x.kids.length c2] 24)) w5 := hb4'.trans (hb5.mono (by have := hb4.size; omega))
        obtain ⟨hbw5, hB25, hB55, hT5⟩ := HB.out.2 w5 hb5'
        have hz5 := hB55.lt
        have z0 := hB25.frozen 0; have z1 := hB25.frozen 1; have z2 := hB25.frozen 2; have z3 := hB25.frozen 3
        have y4 := hB25.cell 0; have y5 := hB25.cell 1; have y6 := hB25.cell 2; have y7 := hB25.cell 3
        simp [zX] at y4 y5 y6 y7
        skip; have pa0 := hB55.cell 0; have pa1 := hB55.cell 1; have pa2 := hB55.cell 2; have pa3 := hB55.cell 3; simp at pa0 pa1 pa2 pa3
        have HX5 := Lib.hid (And.intro hbw5 hT5)
        clear hbw5 hB25 hB55 hT5 hb5' hb5 hb4' hb4 EQ
        go_wp2_with fail
        refine bodyPost_ret (v := .tuple #[.agg #[.int .i64 x.kind, .int .i64 x.n, .string (bs x.s), .slice A2 x.kids.length c2], .bool true]) (by simp [results, Tryz.results33, go_sem, y4, y5, y6, y7]) rfl ?_
        obtain ⟨hbw5, hT5⟩ := HX5.out
        obtain ⟨h1, h2, h3⟩ := HR.out
        refine ⟨_, by rw [h2], ?_, by (repeat (first | with_reducible assumption | with_reducible exact Below.refl _ _ | with_reducible refine Below.setCell ?_ (by first | omega | (simp; done) | (simp; omega)) _ | with_reducible refine Below.alloc ?_ (by first | omega | (simp; done) | (simp; omega)) _ | with_reducible refine below_drewN ?_ _ | with_reducible refine Below.drew ?_ | with_reducible refine Below.trans ?_ (Below.mono hbw5 (by first | omega | (simp; done) | (simp; omega)))))⟩
        rw [h1, ← h3]
        exact ((((hT5.setN (b := w.heap.size) (by omega) 0 _).setN (b := w.heap.size) (by omega) 1 _).setN (b := w.heap.size) (by omega) 2 _).setN (b := w.heap.size) (by omega) 3 _).widen (by omega) (by simp; omega)
    | none =>
      have HN := Lib.hid hre
      by_cases hbr : bad = true ∨ r ≠ []
      · clear OK WD RY HM hre
        have HBW := Lib.hid HB.out.1
        clear HB
        cases bad with
        | true =>
          clear hbr
          go_wp2_with fail
          refine bodyPost_ret (v := .tuple #[.agg #[.int .i64 0, .int .i64 0, .string ⟨#[]⟩, .slice none 0 0], .bool false]) (by simp [results, Tryz.results33, go_sem, y4, y5, y6, y7, hz2'']) rfl ?_
          exact RdP.no HN.out (by have hbw := HBW.out; (repeat (first | with_reducible assumption | with_reducible exact Below.refl _ _ | with_reducible refine Below.setCell ?_ (by first | omega | (simp; done) | (simp; omega)) _ | with_reducible refine Below.alloc ?_ (by first | omega | (simp; done) | (simp; omega)) _ | with_reducible refine below_drewN ?_ _ | with_reducible refine Below.drew ?_ | with_reducible refine Below.trans ?_ (Below.mono hbw (by first | omega | (simp; done) | (simp; omega))))))
        | false =>
          obtain ⟨s, r', rfl⟩ : ∃ s r', r = s :: r' := by
            rcases hbr with h | h
            · cases h
            · cases r with
              | nil => exact absurd rfl h
              | cons s r' => exact ⟨s, r', rfl⟩
          simp only [List.length_cons] at q0
          clear hbr
          go_wp2_with fail
          refine bodyPost_ret (v := .tuple #[.agg #[.int .i64 0, .int .i64 0, .string ⟨#[]⟩, .slice none 0 0], .bool false]) (by simp [results, Tryz.results33, go_sem, y4, y5, y6, y7, hz2'']) rfl ?_
          exact RdP.no HN.out (by have hbw := HBW.out; (repeat (first | with_reducible assumption | with_reducible exact Below.refl _ _ | with_reducible refine Below.setCell ?_ (by first | omega | (simp; done) | (simp; omega)) _ | with_reducible refine Below.alloc ?_ (by first | omega | (simp; done) | (simp; omega)) _ | with_reducible refine below_drewN ?_ _ | with_reducible refine Below.drew ?_ | with_reducible refine Below.trans ?_ (Below.mono hbw (by first | omega | (simp; done) | (simp; omega))))))
      · rw [not_or, Decidable.not_not] at hbr
        obtain ⟨hb0, rfl⟩ := hbr
        obtain rfl : bad = false := by simpa using hb0
        simp only [List.length_nil] at q0
        cases hok : exOkB x
        · rw [hok] at OK
          clear WD RY HM hre hok hb0
          go_wp2_with fail
          refine OK.out.mono ?_
          rintro e3 w3 ⟨rfl, hb3⟩
          simp only [World.size_alloc] at hb3
          obtain ⟨hbw3, hB23, hB53, hT3⟩ := HB.out.2 w3 hb3
          have z0 := hB23.frozen 0; have z1 := hB23.frozen 1; have z2 := hB23.frozen 2; have z3 := hB23.frozen 3
          have y4 := hB23.cell 0; have y5 := hB23.cell 1; have y6 := hB23.cell 2; have y7 := hB23.cell 3
          simp [zX] at y4 y5 y6 y7
          have HX3 := Lib.hid hbw3
          clear hbw3 hB23 hB53 hT3 hb3 OK
          go_wp2_with fail
          refine bodyPost_ret (v := .tuple #[.agg #[.int .i64 0, .int .i64 0, .string ⟨#[]⟩, .slice none 0 0], .bool false]) (by simp [results, Tryz.results33, go_sem, y4, y5, y6, y7]) rfl ?_
          exact RdP.no HN.out (by have hbw := HX3.out; (repeat (first | with_reducible assumption | with_reducible exact Below.refl _ _ | with_reducible refine Below.setCell ?_ (by first | omega | (simp; done) | (simp; omega)) _ | with_reducible refine Below.alloc ?_ (by first | omega | (simp; done) | (simp; omega)) _ | with_reducible refine below_drewN ?_ _ | with_reducible refine Below.drew ?_ | with_reducible refine Below.trans ?_ (Below.mono hbw (by first | omega | (simp; done) | (simp; omega))))))
        · obtain ⟨e, hx, heo⟩ := E.ok_iff.1 hok
          have hne : decide (e.words 1 = ws) = false := by
            rw [decide_eq_false_iff_not]
            intro h
            rw [rdE_some H40.out heo h] at hre
            cases hre
          rw [hok] at OK
          have WE := Lib.hid (fun (w' : World) (hb : Below (w2.heap.size + 1) (w2.alloc (.cells #[.int .i64 x.kind, .int .i64 x.n, .string (bs x.s), .slice A2 x.kids.length c2] 24)) w') => WD.out e hx heo w' hb)
          have HNE := Lib.hid hne
          generalize e.words 1 = wse at *
          clear hre hx heo hok RY WD HM hb0 hne
          go_wp2_with fail
          refine OK.out.mono ?_
          rintro e3 w3 ⟨rfl, hb3⟩
          simp only [World.size_alloc] at hb3
          obtain ⟨hbw3, hB23, hB53, hT3⟩ := HB.out.2 w3 hb3
          have hz3 := hB53.lt
          have C3 := Lib.hid (WE.out w3 hb3)
          skip; have pa0 := hB53.cell 0; have pa1 := hB53.cell 1; have pa2 := hB53.cell 2; have pa3 := hB53.cell 3; simp at pa0 pa1 pa2 pa3
          clear OK
          have HX3 := Lib.hid (And.intro hbw3 hb3)
          clear hbw3 hB23 hB53 hT3
          go_wp2_with fail
          refine C3.out.mono ?_
          rintro e4 w4 ⟨u4, rfl, hS4, hb4⟩
          have hb4' : Below (w2.heap.size + 1) (w2.alloc (.cells #[.int .i64 x.kind, .int .i64 x.n, .string (bs x.s), .slice A2 x.kids.length c2] 24)) w4 := hb3.trans (hb4.mono (by omega))
          have EQ := Lib.hid (imEqual_any w4 u4 _ wse ws hS4 (HV.out w4 (HX3.out.1.ext hb4)))
          rw [HNE.out] at EQ
          obtain ⟨A4, c4, rfl, _, _⟩ := hS4.val
          clear hS4 C3 hb3
          clear pa0 pa1 pa2 pa3
          go_wp2_with fail
          refine EQ.out.mono ?_
          rintro e5 w5 ⟨rfl, hb5⟩
          have hb5' : Below (w2.heap.size + 1) (w2.alloc (.cells #[.int .i64 x.kind, .int .i64 x.n, .string (bs x.s), .slice A2 x.kids.length c2] 24)) w5 := hb4'.trans (hb5.mono (by have := hb4.size; omega))
          obtain ⟨hbw5, hB25, hB55, hT5⟩ := HB.out.2 w5 hb5'
          have z0 := hB25.frozen 0; have z1 := hB25.frozen 1; have z2 := hB25.frozen 2; have z3 := hB25.frozen 3
          have y4 := hB25.cell 0; have y5 := hB25.cell 1; have y6 := hB25.cell 2; have y7 := hB25.cell 3
          simp [zX] at y4 y5 y6 y7
          have HX5 := Lib.hid hbw5
          clear hbw5 hB25 hB55 hT5 hb5' hb5 hb4' hb4 EQ
          go_wp2_with fail
          refine bodyPost_ret (v := .tuple #[.agg #[.int .i64 0, .int .i64 0, .string ⟨#[]⟩, .slice none 0 0], .bool false]) (by simp [results, Tryz.results33, go_sem, y4, y5, y6, y7]) rfl ?_
          exact RdP.no HN.out (by have hbw := HX5.out; (repeat (first | with_reducible assumption | with_reducible exact Below.refl _ _ | with_reducible refine Below.setCell ?_ (by first | omega | (simp; done) | (simp; omega)) _ | with_reducible refine Below.alloc ?_ (by first | omega | (simp; done) | (simp; omega)) _ | with_reducible refine below_drewN ?_ _ | with_reducible refine Below.drew ?_ | with_reducible refine Below.trans ?_ (Below.mono hbw (by first | omega | (simp; done) | (simp; omega))))))
end Go.Proofs.YtgakjhaepdigpaaGreatDoor
