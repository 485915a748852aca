
/- The reference's reader of words, asked of any words: what is read is what was written. -/
import Derived.Test.YtgakjhaepdigpaaGreatDoorRdA
import Derived.Test.YtgakjhaepdigpaaGreatDoorRdE
import Derived.Test.YtgakjhaepdigpaaGreatDoorStSp
namespace Go.Proofs.YtgakjhaepdigpaaGreatDoor
set_option maxRecDepth 100000
set_option linter.unusedSimpArgs false
set_option linter.unusedVariables false
open Go.RowKit
attribute [local go_sem] bs_toList bs_get bs_size

set_option maxHeartbeats 1000000 in
theorem loopS_four (ws : List Bytes) (D : Nat) (sub : List Bytes → PR) (H : AtomS ws D sub) : LoopS ws D 4 sub := by
  intro i w v hi hv
  have C := Lib.hid (H i (w.alloc (.cells zX 24)) v hi ((hv.below (B' := w.heap.size) (by (repeat (first | with_reducible assumption | with_reducible exact Below.refl _ _ | with_reducible refine Below.setCell ?_ (by first | omega | (simp; done) | (simp; omega)) _ | with_reducible refine Below.alloc ?_ (by first | omega | (simp; done) | (simp; omega)) _ | with_reducible refine below_drewN ?_ _ | with_reducible refine Below.drew ?_))) (Nat.le_refl _)).more (by simp)))
  obtain ⟨Aw, cw, rfl, hcw, hmw⟩ := hv.val
  clear H hv
  go_enter Tryz.func174, Tryz.ntmps174
  go_wp2_with fail
  refine C.out.mono ?_
  rintro e w2 ⟨x, v, k, rfl, hT, hb, hm⟩
  have hB4 : Blk w2 w.heap.size 24 zX := (Blk.new w _ _).below hb (by simp)
  have hza : w.heap.size < w2.heap.size := hB4.lt
  obtain ⟨A, c, rfl, hsx⟩ := hT.form3
  have z0 := hB4.frozen 0; have z1 := hB4.frozen 1; have z2 := hB4.frozen 2; have z3 := hB4.frozen 3
  have y4 := hB4.cell 0; have y5 := hB4.cell 1; have y6 := hB4.cell 2; have y7 := hB4.cell 3
  simp [zX] at y4 y5 y6 y7
  have hbw : Below w.heap.size w w2 := by (repeat (first | with_reducible assumption | with_reducible exact Below.refl _ _ | with_reducible refine Below.setCell ?_ (by first | omega | (simp; done) | (simp; omega)) _ | with_reducible refine Below.alloc ?_ (by first | omega | (simp; done) | (simp; omega)) _ | with_reducible refine below_drewN ?_ _ | with_reducible refine Below.drew ?_ | with_reducible refine Below.trans ?_ (Below.mono hb (by first | omega | (simp; done) | (simp; omega)))))
  have HX := Lib.hid (And.intro (hT.widen (lo' := w.heap.size + 1) (by simp) (Nat.le_refl _)) (And.intro hbw hm))
  clear hT hbw hm hB4 hb C
  go_wp2_with fail
  refine bodyPost_ret (v := .tuple #[vX x.kind x.n x.s (.slice A x.kids.length c), .int .i64 k]) (by simp [results, Tryz.results174, go_sem, vX, y4, y5, y6, y7, hza]) rfl ?_
  obtain ⟨hT, hbw, hm⟩ := HX.out
  exact ⟨x, _, _, rfl, ((((hT.setN (b := w.heap.size) (by omega) 0 _).setN (b := w.heap.size) (by omega) 1 _).setN (b := w.heap.size) (by omega) 2 _).setN (b := w.heap.size) (by omega) 3 _).widen (by omega) (by simp), by (repeat (first | with_reducible assumption | with_reducible exact Below.refl _ _ | with_reducible refine Below.setCell ?_ (by first | omega | (simp; done) | (simp; omega)) _ | with_reducible refine Below.alloc ?_ (by first | omega | (simp; done) | (simp; omega)) _ | with_reducible refine below_drewN ?_ _ | with_reducible refine Below.drew ?_ | with_reducible refine Below.trans ?_ (Below.mono hbw (by first | omega | (simp; done) | (simp; omega))))), hm⟩
theorem loopsS (ws : List Bytes) (D : Nat) (hD : D ≤ 100) (h40 : ws.length ≤ 40) (hsl : ∀ s ∈ ws, s.length ≤ 100000000) (held : List Bytes → PR) (H : AtomS ws D held) : Lv1S ws D (lv1 true held) := by
  have h4 : LoopS ws D (((3 : Nat) : Int) + 1) held := loopS_four ws D held H
  have h3 : LoopS ws D (((2 : Nat) : Int) + 1) (lv3 held) := loopS_step ws D 3 (by omega) hD h40 hsl held h4
  have h2 : LoopS ws D (2 : Nat) (lv2 held) := loopS_step ws D 2 (by omega) hD h40 hsl (lv3 held) h3
  exact lv1S_of ws D h40 held h2
theorem atomsS (ws : List Bytes) (h40 : ws.length ≤ 40) (hsl : ∀ s ∈ ws, s.length ≤ 100000000) : ∀ D, D ≤ 100 → AtomS ws D (atomW true D)
  | 0, hD => atomS_step ws 0 hD h40 hsl (fun D' e => by omega)
  | D + 1, hD => atomS_step ws (D + 1) hD h40 hsl (fun D' e => by
      obtain rfl : D = D' := by omega
      exact loopsS ws D (by omega) h40 hsl _ (atomsS ws h40 hsl D (by omega)))
set_option maxHeartbeats 2000000 in
theorem spExprRead_any (ws : List Bytes) (v : Value) (w : World) (hv : SlB w w.heap.size v ws) (hs : ∀ s ∈ ws, s.length ≤ 100000000) : Calls Tryz.prog 114 #[v] w (RdP ws w) := by
  by_cases h40 : ws.length ≤ 40
  rotate_left
  · have HN := Lib.hid (rd_long h40)
    obtain ⟨A, c, rfl, hc, hm⟩ := hv.val
    have hgt : (40 : Int) < (ws.length : Int) := by omega
    clear hv hs h40
    go_enter Tryz.func114, Tryz.ntmps114
    go_wp2_with fail
    refine bodyPost_ret (v := .tuple #[.agg #[.int .i64 0, .int .i64 0, .string ⟨#[]⟩, .slice none 0 0], .bool false]) (by simp [results, Tryz.results114, go_sem]) rfl ?_
    exact RdP.no HN.out (by (repeat (first | with_reducible assumption | with_reducible exact Below.refl _ _ | with_reducible refine Below.setCell ?_ (by first | omega | (simp; done) | (simp; omega)) _ | with_reducible refine Below.alloc ?_ (by first | omega | (simp; done) | (simp; omega)) _ | with_reducible refine below_drewN ?_ _ | with_reducible refine Below.drew ?_)))
  · have L1 := Lib.hid (loopsS ws 5 (by omega) h40 hs _ (atomsS ws h40 hs 5 (by omega)) 0 (w.alloc (.cells zX 24)) v (by omega) ((hv.below (B' := w.heap.size) (by (repeat (first | with_reducible assumption | with_reducible exact Below.refl _ _ | with_reducible refine Below.setCell ?_ (by first | omega | (simp; done) | (simp; omega)) _ | with_reducible refine Below.alloc ?_ (by first | omega | (simp; done) | (simp; omega)) _ | with_reducible refine below_drewN ?_ _ | with_reducible refine Below.drew ?_))) (Nat.le_refl _)).more (by simp)))
    rw [List.drop_zero] at L1
    obtain ⟨A, c, rfl, hc, hm⟩ := hv.val
    have HV := Lib.hid (fun (w' : World) (h : Below w.heap.size w w') => (hv.below h (Nat.le_refl _)).more h.size)
    have RY := Lib.hid (fun (e : E) (h : rdE ws = some e) => rd_yes (st := true) (f := 5) (by omega) h)
    have hgt : ¬ (40 : Int) < (ws.length : Int) := by omega
    have H40 := Lib.hid h40
    clear hv hs h40
    go_enter Tryz.func114, Tryz.ntmps114
    go_wp2_with fail
    refine L1.out.mono ?_
    rintro e2 w2 ⟨x, v, k, rfl, hT, hb2, hm2⟩
    obtain ⟨A2, c2, rfl, hsx⟩ := hT.form3
    have hB2 : Blk w2 w.heap.size 24 zX := (Blk.new w _ _).below hb2 (by simp)
    have hbw2 : Below w.heap.size w w2 := by (repeat (first | with_reducible assumption | with_reducible exact Below.refl _ _ | with_reducible refine Below.setCell ?_ (by first | omega | (simp; done) | (simp; omega)) _ | with_reducible refine Below.alloc ?_ (by first | omega | (simp; done) | (simp; omega)) _ | with_reducible refine below_drewN ?_ _ | with_reducible refine Below.drew ?_ | with_reducible refine Below.trans ?_ (Below.mono hb2 (by first | omega | (simp; done) | (simp; omega)))))
    have hz2'' : w.heap.size < w2.heap.size := hB2.lt
    have z0 := hB2.frozen 0; have z1 := hB2.frozen 1; have z2 := hB2.frozen 2; have z3 := hB2.frozen 3
    have y4 := hB2.cell 0; have y5 := hB2.cell 1; have y6 := hB2.cell 2; have y7 := hB2.cell 3
    simp [zX] at y4 y5 y6 y7
    have hbV : Below w2.heap.size w2 (w2.alloc (.cells #[.int .i64 x.kind, .int .i64 x.n, .string (bs x.s), .slice A2 x.kids.length c2] 24)) := by (repeat (first | with_reducible assumption | with_reducible exact Below.refl _ _ | with_reducible refine Below.setCell ?_ (by first | omega | (simp; done) | (simp; omega)) _ | with_reducible refine Below.alloc ?_ (by first | omega | (simp; done) | (simp; omega)) _ | with_reducible refine below_drewN ?_ _ | with_reducible refine Below.drew ?_))
    have hbwV : Below w.heap.size w (w2.alloc (.cells #[.int .i64 x.kind, .int .i64 x.n, .string (bs x.s), .slice A2 x.kids.length c2] 24)) := hbw2.ext hbV
    have hxV := (hT.ext hbV).exv
    have OK := Lib.hid (spOk_any x _ _ hxV)
    have WD := Lib.hid (fun (e : E) (h : x = e.ex) (he : e.Ok) (w' : World) (hb : Below (w2.heap.size + 1) (w2.alloc (.cells #[.int .i64 x.kind, .int .i64 x.n, .string (bs x.s), .slice A2 x.kids.length c2] 24)) w') => spWords1 e (.agg #[.int .i64 x.kind, .int .i64 x.n, .string (bs x.s), .slice A2 x.kids.length c2]) w' he (by rw [← h]; exact (hxV.keep hb (by simp)).more hb.size))
    have HB := Lib.hid (show Below w.heap.size w w2 ∧ (∀ w' : World, Below (w2.heap.size + 1) (w2.alloc (.cells #[.int .i64 x.kind, .int .i64 x.n, .string (bs x.s), .slice A2 x.kids.length c2] 24)) w' → Below w.heap.size w w' ∧ Blk w' w.heap.size 24 zX ∧ Blk w' w2.heap.size 24 #[.int .i64 x.kind, .int .i64 x.n, .string (bs x.s), .slice A2 x.kids.length c2] ∧ TrM (w.heap.size + 1) w2.heap.size w' (.agg #[.int .i64 x.kind, .int .i64 x.n, .string (bs x.s), .slice A2 x.kids.length c2]) x) from
      ⟨hbw2, fun w' h => ⟨hbwV.trans (h.mono (by omega)), (hB2.alloc _).below h (by omega), (Blk.new _ _ _).below h (by omega), ((hT.ext hbV).ext (h.mono (by simp))).widen (by simp) (Nat.le_refl _)⟩⟩)
    have HM := Lib.hid hm2
    clear hT hb2 hm2 hbw2 hB2 hbV hbwV hxV L1
    cases hre : rdE ws with
    | some e =>
      have h1 := (RY.out e hre).1
      obtain ⟨_, heo, hew⟩ := RY.out e hre
      rcases HM.out with ⟨h2, _⟩ | ⟨j3, rfl, h3, h4, h2⟩
      · rw [h2] at h1; cases h1
      · rw [h2] at h1
        obtain ⟨hx, hdr⟩ := Prod.mk.inj (Option.some.inj h1)
        obtain rfl : j3 = ws.length := by
          have := congrArg List.length hdr
          rw [List.length_drop, List.length_nil] at this
          omega
        have hok : exOkB x = true := E.ok_iff.2 ⟨e, hx, heo⟩
        rw [hok] at OK
        have HR := Lib.hid (And.intro (rdX_some hre) (And.intro (rdOk_some hre) hx))
        have WE := Lib.hid (fun (w' : World) (hb : Below (w2.heap.size + 1) (w2.alloc (.cells #[.int .i64 x.kind, .int .i64 x.n, .string (bs x.s), .slice A2 x.kids.length c2] 24)) w') => WD.out e hx heo w' hb)
        rw [hew] at WE
        clear h1 hre hx heo hew hok RY WD h2 h3 h4 hdr HM
        skip
        go_wp2_with fail
        refine OK.out.mono ?_
        rintro e3 w3 ⟨rfl, hb3⟩
        simp only [World.size_alloc] at hb3
        obtain ⟨hbw3, hB23, hB53, hT3⟩ := HB.out.2 w3 hb3
        have hz3 := hB53.lt
        have C3 := Lib.hid (WE.out w3 hb3)
        skip; have pa0 := hB53.cell 0; have pa1 := hB53.cell 1; have pa2 := hB53.cell 2; have pa3 := hB53.cell 3; simp at pa0 pa1 pa2 pa3
        clear OK
        have HX3 := Lib.hid (And.intro hbw3 hb3)
        clear hbw3 hB23 hB53 hT3
        go_wp2_with fail
        refine C3.out.mono ?_
        rintro e4 w4 ⟨u4, rfl, hG4, hb4⟩
        have hS4 := hG4.sl (fun _ => rfl)
        have hb4' : Below (w2.heap.size + 1) (w2.alloc (.cells #[.int .i64 x.kind, .int .i64 x.n, .string (bs x.s), .slice A2 x.kids.length c2] 24)) w4 := hb3.trans (hb4.mono (by omega))
        have EQ := Lib.hid (spTexts_any w4 u4 _ ws ws hS4 (HV.out w4 (HX3.out.1.ext hb4)))
        rw [decide_eq_true (rfl : ws = ws)] at EQ
        obtain ⟨A4, c4, rfl, _, _⟩ := hS4.val
        clear hS4 hG4 C3 hb3
        clear pa0 pa1 pa2 pa3
        go_wp2_with fail
        refine EQ.out.mono ?_
        rintro e5 w5 ⟨rfl, hb5⟩
        have hb5' : Below (w2.heap.size + 1) (w2.alloc (.cells #[.int .i64 x.kind, .int .i64 x.n, .string (bs x.s), .slice A2 x.kids.length c2] 24)) w5 := hb4'.trans (hb5.mono (by have := hb4.size; omega))
        obtain ⟨hbw5, hB25, hB55, hT5⟩ := HB.out.2 w5 hb5'
        have hz5 := hB55.lt
        have z0 := hB25.frozen 0; have z1 := hB25.frozen 1; have z2 := hB25.frozen 2; have z3 := hB25.frozen 3
        have y4 := hB25.cell 0; have y5 := hB25.cell 1; have y6 := hB25.cell 2; have y7 := hB25.cell 3
        simp [zX] at y4 y5 y6 y7
        skip; have pa0 := hB55.cell 0; have pa1 := hB55.cell 1; have pa2 := hB55.cell 2; have pa3 := hB55.cell 3; simp at pa0 pa1 pa2 pa3
        have HX5 := Lib.hid (And.intro hbw5 hT5)
        clear hbw5 hB25 hB55 hT5 hb5' hb5 hb4' hb4 EQ
        go_wp2_with fail
        refine bodyPost_ret (v := .tuple #[.agg #[.int .i64 x.kind, .int .i64 x.n, .string (bs x.s), .slice A2 x.kids.length c2], .bool true]) (by simp [results, Tryz.results114, go_sem, y4, y5, y6, y7]) rfl ?_
        obtain ⟨hbw5, hT5⟩ := HX5.out
        obtain ⟨h1, h2, h3⟩ := HR.out
        refine ⟨_, by rw [h2], ?_, by (repeat (first | with_reducible assumption | with_reducible exact Below.refl _ _ | with_reducible refine Below.setCell ?_ (by first | omega | (simp; done) | (simp; omega)) _ | with_reducible refine Below.alloc ?_ (by first | omega | (simp; done) | (simp; omega)) _ | with_reducible refine below_drewN ?_ _ | with_reducible refine Below.drew ?_ | with_reducible refine Below.trans ?_ (Below.mono hbw5 (by first | omega | (simp; done) | (simp; omega)))))⟩
        rw [h1, ← h3]
        exact ((((hT5.setN (b := w.heap.size) (by omega) 0 _).setN (b := w.heap.size) (by omega) 1 _).setN (b := w.heap.size) (by omega) 2 _).setN (b := w.heap.size) (by omega) 3 _).widen (by omega) (by simp; omega)
    | none =>
      have HN := Lib.hid hre
      by_cases hkl : k = (ws.length : Int)
      rotate_left
      · have hkb : (k == (ws.length : Int)) = false := by simpa using hkl
        have HBW := Lib.hid HB.out.1
        clear OK WD RY HM hre HB
        go_wp2_with fail
        refine bodyPost_ret (v := .tuple #[.agg #[.int .i64 0, .int .i64 0, .string ⟨#[]⟩, .slice none 0 0], .bool false]) (by simp [results, Tryz.results114, go_sem, y4, y5, y6, y7, hz2'']) rfl ?_
        exact RdP.no HN.out (by have hbw := HBW.out; (repeat (first | with_reducible assumption | with_reducible exact Below.refl _ _ | with_reducible refine Below.setCell ?_ (by first | omega | (simp; done) | (simp; omega)) _ | with_reducible refine Below.alloc ?_ (by first | omega | (simp; done) | (simp; omega)) _ | with_reducible refine below_drewN ?_ _ | with_reducible refine Below.drew ?_ | with_reducible refine Below.trans ?_ (Below.mono hbw (by first | omega | (simp; done) | (simp; omega))))))
      · subst hkl
        cases hok : exOkB x
        · rw [hok] at OK
          clear WD RY HM hre hok
          go_wp2_with fail
          refine OK.out.mono ?_
          rintro e3 w3 ⟨rfl, hb3⟩
          simp only [World.size_alloc] at hb3
          obtain ⟨hbw3, hB23, hB53, hT3⟩ := HB.out.2 w3 hb3
          have z0 := hB23.frozen 0; have z1 := hB23.frozen 1; have z2 := hB23.frozen 2; have z3 := hB23.frozen 3
          have y4 := hB23.cell 0; have y5 := hB23.cell 1; have y6 := hB23.cell 2; have y7 := hB23.cell 3
          simp [zX] at y4 y5 y6 y7
          have HX3 := Lib.hid hbw3
          clear hbw3 hB23 hB53 hT3 hb3 OK
          go_wp2_with fail
          refine bodyPost_ret (v := .tuple #[.agg #[.int .i64 0, .int .i64 0, .string ⟨#[]⟩, .slice none 0 0], .bool false]) (by simp [results, Tryz.results114, go_sem, y4, y5, y6, y7]) rfl ?_
          exact RdP.no HN.out (by have hbw := HX3.out; (repeat (first | with_reducible assumption | with_reducible exact Below.refl _ _ | with_reducible refine Below.setCell ?_ (by first | omega | (simp; done) | (simp; omega)) _ | with_reducible refine Below.alloc ?_ (by first | omega | (simp; done) | (simp; omega)) _ | with_reducible refine below_drewN ?_ _ | with_reducible refine Below.drew ?_ | with_reducible refine Below.trans ?_ (Below.mono hbw (by first | omega | (simp; done) | (simp; omega))))))
        · obtain ⟨e, hx, heo⟩ := E.ok_iff.1 hok
          have hne : decide (e.words 1 = ws) = false := by
            rw [decide_eq_false_iff_not]
            intro h
            rw [rdE_some H40.out heo h] at hre
            cases hre
          rw [hok] at OK
          have WE := Lib.hid (fun (w' : World) (hb : Below (w2.heap.size + 1) (w2.alloc (.cells #[.int .i64 x.kind, .int .i64 x.n, .string (bs x.s), .slice A2 x.kids.length c2] 24)) w') => WD.out e hx heo w' hb)
          have HNE := Lib.hid hne
          generalize e.words 1 = wse at *
          clear hre hx heo hok RY WD HM hne
          go_wp2_with fail
          refine OK.out.mono ?_
          rintro e3 w3 ⟨rfl, hb3⟩
          simp only [World.size_alloc] at hb3
          obtain ⟨hbw3, hB23, hB53, hT3⟩ := HB.out.2 w3 hb3
          have hz3 := hB53.lt
          have C3 := Lib.hid (WE.out w3 hb3)
          skip; have pa0 := hB53.cell 0; have pa1 := hB53.cell 1; have pa2 := hB53.cell 2; have pa3 := hB53.cell 3; simp at pa0 pa1 pa2 pa3
          clear OK
          have HX3 := Lib.hid (And.intro hbw3 hb3)
          clear hbw3 hB23 hB53 hT3
          go_wp2_with fail
          refine C3.out.mono ?_
          rintro e4 w4 ⟨u4, rfl, hG4, hb4⟩
          have hS4 := hG4.sl (fun _ => rfl)
          have hb4' : Below (w2.heap.size + 1) (w2.alloc (.cells #[.int .i64 x.kind, .int .i64 x.n, .string (bs x.s), .slice A2 x.kids.length c2] 24)) w4 := hb3.trans (hb4.mono (by omega))
          have EQ := Lib.hid (spTexts_any w4 u4 _ wse ws hS4 (HV.out w4 (HX3.out.1.ext hb4)))
          rw [HNE.out] at EQ
          obtain ⟨A4, c4, rfl, _, _⟩ := hS4.val
          clear hS4 hG4 C3 hb3
          clear pa0 pa1 pa2 pa3
          go_wp2_with fail
          refine EQ.out.mono ?_
          rintro e5 w5 ⟨rfl, hb5⟩
          have hb5' : Below (w2.heap.size + 1) (w2.alloc (.cells #[.int .i64 x.kind, .int .i64 x.n, .string (bs x.s), .slice A2 x.kids.length c2] 24)) w5 := hb4'.trans (hb5.mono (by have := hb4.size; omega))
          obtain ⟨hbw5, hB25, hB55, hT5⟩ := HB.out.2 w5 hb5'
          have hz5 := hB55.lt
          have z0 := hB25.frozen 0; have z1 := hB25.frozen 1; have z2 := hB25.frozen 2; have z3 := hB25.frozen 3
          have y4 := hB25.cell 0; have y5 := hB25.cell 1; have y6 := hB25.cell 2; have y7 := hB25.cell 3
          simp [zX] at y4 y5 y6 y7
          skip; have pa0 := hB55.cell 0; have pa1 := hB55.cell 1; have pa2 := hB55.cell 2; have pa3 := hB55.cell 3; simp at pa0 pa1 pa2 pa3
          have HX5 := Lib.hid (And.intro hbw5 hT5)
          clear hbw5 hB25 hB55 hT5 hb5' hb5 hb4' hb4 EQ
          go_wp2_with fail
          refine bodyPost_ret (v := .tuple #[.agg #[.int .i64 0, .int .i64 0, .string ⟨#[]⟩, .slice none 0 0], .bool false]) (by simp [results, Tryz.results114, go_sem, y4, y5, y6, y7]) rfl ?_
          exact RdP.no HN.out (by have hbw := HX5.out.1; (repeat (first | with_reducible assumption | with_reducible exact Below.refl _ _ | with_reducible refine Below.setCell ?_ (by first | omega | (simp; done) | (simp; omega)) _ | with_reducible refine Below.alloc ?_ (by first | omega | (simp; done) | (simp; omega)) _ | with_reducible refine below_drewN ?_ _ | with_reducible refine Below.drew ?_ | with_reducible refine Below.trans ?_ (Below.mono hbw (by first | omega | (simp; done) | (simp; omega))))))
end Go.Proofs.YtgakjhaepdigpaaGreatDoor
