
/- The law FnExprCast: the walk. -/
import Derived.Test.YtnejngpdplhbhaaDoorDwT
import Derived.Test.YtnejngpdplhbhaaDoorTyX
import Derived.Test.YtnejngpdplhbhaaDoorBareW
import Derived.Test.YtnejngpdplhbhaaDoorSames
import Derived.Test.YtnejngpdplhbhaaDoorRun
import Derived.Deep.OwnRows
namespace Go.Proofs.YtnejngpdplhbhaaDoor
set_option maxRecDepth 100000
set_option linter.unusedSimpArgs false
set_option linter.unusedVariables false
open Go.RowKit
attribute [local go_sem] bs_toList bs_get bs_size

abbrev bxC (x : Ex) (A : Option Addr) (c : Nat) : Array Value := #[.int .i64 x.kind, .int .i64 x.n, .string (bs x.s), .slice A x.kids.length c]
theorem exv_cast {w : World} {B g : Nat} {t : Bool} {x : Ex} {A : Option Addr} {c : Nat} (h : ExV w B (.agg (bxC x A c)) x) (hb : Blk w g 25 (bxC x A c)) (hg : g < B) : ExV w B (.agg #[.int .i64 4, .int .i64 0, .string (bs (tyB t)), .slice (some ⟨g, 0, none⟩) 1 1]) (castX t x) := by
  obtain ⟨kv, e, hs, hk⟩ := h
  have e4 : kv = .slice A x.kids.length c := by simp [bxC] at e; exact e.symm
  subst e4
  refine ⟨_, rfl, show (tyB t).length ≤ 9223372036854775807 by cases t <;> decide, ?_⟩
  refine .mk _ [⟨x.kind, x.n, x.s, .slice A x.kids.length c⟩] [x] ⟨_, 1, rfl, Nat.le_refl _, by unfold maxLen; omega, fun _ => ⟨g, 0, rfl, hg, fun i s hi j y hj => ?_⟩⟩ rfl (fun i f e h1 h2 => ?_) (fun i f e h1 h2 => ?_)
  · rcases i with _ | i
    · simp at hi
      subst hi
      have hl : (bxC x A c)[j]? = (feRow ⟨x.kind, x.n, x.s, .slice A x.kids.length c⟩)[j]? := by simp [bxC, feRow]
      rw [hj] at hl
      simpa using (hb.cell j).trans hl
    · simp at hi
  · rcases i with _ | i
    · simp at h1 h2; subst h1 h2; exact ⟨rfl, rfl, rfl, hs⟩
    · simp at h1
  · rcases i with _ | i
    · simp at h1 h2; subst h1 h2; exact hk
    · simp at h1
theorem zeros_sln {w : World} {g n : Nat} (hn : n ≤ 1000) (h : w.rowIs g 3 n (fun _ => .int .i64 0)) (hg : g < w.heap.size) : SlN w w.heap.size (.slice (some ⟨g, 0, none⟩) n n) (List.replicate n 0) := by
  refine ⟨some ⟨g, 0, none⟩, n, by simp, by simp, by unfold maxLen; omega, fun _ => ⟨g, 0, rfl, hg, fun i s hi j y hj => ?_⟩⟩
  have hi2 : i < n := by have := (List.getElem?_eq_some_iff.1 hi).1; simpa using this
  have hs : s = 0 := by have := List.mem_of_getElem? hi; simp at this; exact this.2
  subst hs
  rcases j with _ | j
  · simp [intRow] at hj
    subst hj
    simpa using h.cell hi2
  · simp [intRow] at hj
theorem ofVal_two (r : Option Int) : ∃ (n : Int) (b : Bool), ofVal r = .tuple #[.int .i64 n, .bool b] ∧ (r = none → n = 0 ∧ b = false) := by
  cases r with
  | none => exact ⟨0, false, rfl, fun _ => ⟨rfl, rfl⟩⟩
  | some n => exact ⟨n, true, rfl, fun h => by cases h⟩
theorem bareX_cast {t : Bool} {x : Ex} (h : exOkB (castX t x) = true) : bareX (castX t x) = bareX x := by
  obtain ⟨e, rfl, h1, h2⟩ := castX_ok h
  rw [show castX t e.ex = (E.cast t e).ex from rfl, bareX_e h2, bareX_e h1]
  rfl
set_option maxHeartbeats 2000000 in
theorem lawCast (W : World) (v : Value) (cl : List Int) (hv : CodeV W v cl) (hE : Env W) : Calls Tryd.prog 5 #[v] W fun e w' => e = .returned (.bool true) ∧ Below W.heap.size W w' := by
  have DR := Lib.hid (drawTy_any v cl W hv)
  unfold DrewT at DR
  obtain ⟨A, c, rfl, hc, hm⟩ := hv.1.val
  clear hv
  by_cases hlen : (1048576 : Int) < ((cl.length : Nat) : Int)
  · have hd : decide ((1048576 : Int) < ((cl.length : Nat) : Int)) = true := by rw [decide_eq_true_eq]; exact hlen
    go_enter Tryd.func5, Tryd.ntmps5
    go_wp2_with fail
    go_ret
    exact ⟨rfl, Below.refl _ _⟩
  have hd : decide ((1048576 : Int) < ((cl.length : Nat) : Int)) = false := by rw [decide_eq_false_iff_not]; exact hlen
  go_enter Tryd.func5, Tryd.ntmps5
  go_wp2_with fail
  refine DR.out.mono ?_
  rintro e w1 ⟨vx, x, vn, vm, names, types, rfl, hx1, hn1, hm1, hl4, hb1⟩
  obtain ⟨A1, c1, rfl, hc1, hcm1, hs1, hk1⟩ := hx1.form4
  obtain ⟨An, cn, rfl, _, _⟩ := hn1.val
  obtain ⟨Am, cm, rfl, _, _⟩ := hm1.val
  have XV := Lib.hid (fun (w' : World) (h : Below w1.heap.size w1 w') => (hx1.keep h (Nat.le_refl _)).more h.size)
  have NV := Lib.hid (fun (w' : World) (h : Below w1.heap.size w1 w') => (hn1.below h (Nat.le_refl _)).more h.size)
  have MV := Lib.hid (fun (w' : World) (h : Below w1.heap.size w1 w') => (hm1.below h (Nat.le_refl _)).more h.size)
  have EV := Lib.hid (fun (w' : World) (h : Below w1.heap.size w1 w') => hE.ext (hb1.ext h))
  have HN4 := Lib.hid hl4
  have HB1 := Lib.hid hb1
  have hX0 := Blk.new w1 25 (bxC x A1 c1)
  obtain ⟨V1, hV1⟩ : ∃ V, V = w1.alloc (.cells (bxC x A1 c1) 25) := ⟨_, rfl⟩
  have hb1a : Below w1.heap.size w1 V1 := by rw [hV1]; (repeat (first | with_reducible assumption | with_reducible exact Below.refl _ _ | with_reducible refine Below.setCell ?_ (by first | omega | (simp; done) | (simp; omega)) _ | with_reducible refine Below.alloc ?_ (by first | omega | (simp; done) | (simp; omega)) _ | with_reducible refine below_drewN ?_ _ | with_reducible refine Below.drew ?_))
  rw [← hV1] at hX0
  have hzV : w1.heap.size < V1.heap.size := by rw [hV1]; simp
  have HTC := Lib.hid (fun (t : Bool) (h : exOkB (castX t x) = true) => typX_cast (names := names) (types := types) h)
  have HTC2 := Lib.hid (fun (t u : Bool) (h : exOkB (castX u (castX t x)) = true) => typX_cast (names := names) (types := types) h)
  obtain ⟨tx, htx⟩ : ∃ t, typX x names types = t := ⟨_, rfl⟩
  have OF := Lib.hid (imExprType_any x _ _ _ names types V1 (by omega) (XV.out _ hb1a) (NV.out _ hb1a) (MV.out _ hb1a) (EV.out _ hb1a))
  rw [htx] at OF HTC
  have HTX := Lib.hid htx
  have HA := Lib.hid hb1a
  clear hx1 hk1 hn1 hm1 hl4 hb1 DR htx
  skip; have pa0 := hX0.cell 0; have pa1 := hX0.cell 1; have pa2 := hX0.cell 2; have pa3 := hX0.cell 3; simp at pa0 pa1 pa2 pa3
  simp only [bxC] at hV1
  rw [hV1] at OF pa0 pa1 pa2 pa3
  go_wp2_with fail
  refine OF.out.mono ?_
  rw [← hV1]
  rintro e w2 ⟨rfl, hb2⟩
  skip; replace hX0 := hX0.below hb2 hX0.lt
  have hb12 := HA.out.ext hb2
  have SF := Lib.hid (spExprType_any x _ _ _ names types w2 (by have := HN4.out; omega) (XV.out _ hb12) (NV.out _ hb12) (MV.out _ hb12))
  rw [HTX.out] at SF
  have HA2 := Lib.hid hb12
  clear OF HA hb12 hb2 hV1
  clear pa0 pa1 pa2 pa3
  skip; have pa0 := hX0.cell 0; have pa1 := hX0.cell 1; have pa2 := hX0.cell 2; have pa3 := hX0.cell 3; simp at pa0 pa1 pa2 pa3
  go_wp2_with fail
  refine SF.out.mono ?_
  rintro e w3 ⟨rfl, hb3⟩
  skip; replace hX0 := hX0.below hb3 hX0.lt
  have hb13 := HA2.out.ext hb3
  have hz13 := hX0.lt
  clear pa0 pa1 pa2 pa3
  skip; have pa0 := hX0.cell 0; have pa1 := hX0.cell 1; have pa2 := hX0.cell 2; have pa3 := hX0.cell 3; simp at pa0 pa1 pa2 pa3
  obtain ⟨V4, hV4⟩ : ∃ V, V = (((w3.alloc (.cells #[.int .i64 x.kind, .int .i64 x.n, .string (bs x.s), .slice A1 x.kids.length c1] 25)).alloc (.cells #[.int .i64 4, .int .i64 0, .string ⟨#[98, 111, 111, 108]⟩, .slice (some ⟨w3.heap.size, 0, none⟩) 1 1] 25)).alloc (.cells #[.int .i64 4, .int .i64 0, .string ⟨#[98, 111, 111, 108]⟩, .slice (some ⟨w3.heap.size, 0, none⟩) 1 1] 25)).alloc (.cells #[.int .i64 4, .int .i64 0, .string ⟨#[105, 110, 116]⟩, .slice (some ⟨w3.heap.size + 1 + 1, 0, none⟩) 1 1] 25) := ⟨_, rfl⟩
  have hB1 : Blk V4 w3.heap.size 25 (bxC x A1 c1) := by rw [hV4]; exact (((Blk.new w3 _ _).alloc _).alloc _).alloc _
  have hB2 : Blk V4 (w3.heap.size + 1) 25 #[.int .i64 4, .int .i64 0, .string ⟨#[98, 111, 111, 108]⟩, .slice (some ⟨w3.heap.size, 0, none⟩) 1 1] := by rw [hV4]; exact ((Blk.new' (by simp)).alloc _).alloc _
  have hB3 : Blk V4 (w3.heap.size + 1 + 1) 25 (bxC (castX false x) (some ⟨w3.heap.size, 0, none⟩) 1) := by rw [hV4]; exact (Blk.new' (by simp)).alloc _
  have hB4 : Blk V4 (w3.heap.size + 1 + 1 + 1) 25 #[.int .i64 4, .int .i64 0, .string ⟨#[105, 110, 116]⟩, .slice (some ⟨w3.heap.size + 1 + 1, 0, none⟩) 1 1] := by rw [hV4]; exact Blk.new' (by simp)
  have hb3V : Below w3.heap.size w3 V4 := by rw [hV4]; (repeat (first | with_reducible assumption | with_reducible exact Below.refl _ _ | with_reducible refine Below.setCell ?_ (by first | omega | (simp; done) | (simp; omega)) _ | with_reducible refine Below.alloc ?_ (by first | omega | (simp; done) | (simp; omega)) _ | with_reducible refine below_drewN ?_ _ | with_reducible refine Below.drew ?_))
  have hzV4 : V4.heap.size = w3.heap.size + 4 := by rw [hV4]; simp
  skip; replace hX0 := hX0.below hb3V hX0.lt
  have hb1V := hb13.ext hb3V
  have xa : ExV V4 V4.heap.size (.agg #[.int .i64 4, .int .i64 0, .string ⟨#[98, 111, 111, 108]⟩, .slice (some ⟨w3.heap.size, 0, none⟩) 1 1]) (castX false x) := exv_cast (t := false) (XV.out _ hb1V) hB1 (by omega)
  have xb : ExV V4 V4.heap.size (.agg #[.int .i64 4, .int .i64 0, .string ⟨#[105, 110, 116]⟩, .slice (some ⟨w3.heap.size + 1 + 1, 0, none⟩) 1 1]) (castX true (castX false x)) := exv_cast (t := true) xa hB3 (by omega)
  have OKA := Lib.hid (fun (w' : World) (h : Below V4.heap.size V4 w') => imOk_any (castX false x) _ w' ((xa.keep h (Nat.le_refl _)).more h.size) (EV.out _ (hb1V.ext h)))
  have OKB := Lib.hid (fun (w' : World) (h : Below V4.heap.size V4 w') => imOk_any (castX true (castX false x)) _ w' ((xb.keep h (Nat.le_refl _)).more h.size) (EV.out _ (hb1V.ext h)))
  have TA := Lib.hid (fun (w' : World) (h : Below V4.heap.size V4 w') => imExprType_any (castX false x) _ _ _ names types w' (by have := HN4.out; omega) ((xa.keep h (Nat.le_refl _)).more h.size) (NV.out _ (hb1V.ext h)) (MV.out _ (hb1V.ext h)) (EV.out _ (hb1V.ext h)))
  have TB := Lib.hid (fun (w' : World) (h : Below V4.heap.size V4 w') => imExprType_any (castX true (castX false x)) _ _ _ names types w' (by have := HN4.out; omega) ((xb.keep h (Nat.le_refl _)).more h.size) (NV.out _ (hb1V.ext h)) (MV.out _ (hb1V.ext h)) (EV.out _ (hb1V.ext h)))
  have VX := Lib.hid (fun (w' : World) (u : Value) (h : Below V4.heap.size V4 w') (hu : SlN w' w'.heap.size u (List.replicate names.length 0)) => imExprOf_any x _ _ u names (List.replicate names.length 0) w' (by have := HN4.out; omega) (XV.out _ (hb1V.ext h)) (NV.out _ (hb1V.ext h)) hu (EV.out _ (hb1V.ext h)))
  have VB := Lib.hid (fun (w' : World) (u : Value) (h : Below V4.heap.size V4 w') (hu : SlN w' w'.heap.size u (List.replicate names.length 0)) => imExprOf_any (castX true (castX false x)) _ _ u names (List.replicate names.length 0) w' (by have := HN4.out; omega) ((xb.keep h (Nat.le_refl _)).more h.size) (NV.out _ (hb1V.ext h)) hu (EV.out _ (hb1V.ext h)))
  have BX := Lib.hid (fun (w' : World) (h : Below V4.heap.size V4 w') => imExprBare_any x _ w' (XV.out _ (hb1V.ext h)) (EV.out _ (hb1V.ext h)))
  have BB := Lib.hid (fun (w' : World) (h : Below V4.heap.size V4 w') => imExprBare_any (castX true (castX false x)) _ w' ((xb.keep h (Nat.le_refl _)).more h.size) (EV.out _ (hb1V.ext h)))
  have HX := Lib.hid (And.intro hX0 (And.intro hB2 hB4))
  have HA4 := Lib.hid hb1V
  have HV4 := Lib.hid hV4
  obtain ⟨i0, hi, hz0, hz1, hz2⟩ := info_parts infoInt
  have hmk := fun W => run_make_rowN (P := Tryd.prog) 27 3 i0 _ Tryd.underlying27 hi hz0 .i64 .i64 names.length names.length (Nat.le_refl _) (by rw [hz2]; have := HN4.out; omega) (by have := HN4.out; omega) W
  rw [hz1] at hmk
  clear hi hz0 hz1 hz2
  have hAB : exOkB (castX true (castX false x)) = true → exOkB (castX false x) = true := castX_ok2
  have HVB := Lib.hid (fun (h : exOkB (castX true (castX false x)) = true) => (show valX (castX true (castX false x)) names (List.replicate names.length 0) = valX x names (List.replicate names.length 0) by rw [valX_cast h, valX_cast (castX_ok2 h)]))
  have HVN := Lib.hid (fun (h : exOkB (castX true (castX false x)) = false) => valX_no (names := names) (nums := List.replicate names.length 0) h)
  have HBB := Lib.hid (fun (h : exOkB (castX true (castX false x)) = true) => (show bareX (castX true (castX false x)) = bareX x by rw [bareX_cast h, bareX_cast (castX_ok2 h)]))
  have HTA := Lib.hid (fun (h : exOkB (castX false x) = true) => HTC.out false h)
  have HTB := Lib.hid (fun (h : exOkB (castX true (castX false x)) = true) => (show typX (castX true (castX false x)) names types = if tx = [] then [] else cInt by
    rw [HTC2.out false true h, HTC.out false (castX_ok2 h)]
    by_cases q : tx = []
    · rw [if_pos q, if_pos rfl, if_pos q]
    · rw [if_neg q, if_neg (by decide), if_neg q]; rfl))
  generalize exOkB (castX true (castX false x)) = okb at *
  generalize exOkB (castX false x) = oka at *
  generalize typX (castX true (castX false x)) names types = tyb at *
  generalize typX (castX false x) names types = tya at *
  generalize valX (castX true (castX false x)) names (List.replicate names.length 0) = vb at *
  generalize valX x names (List.replicate names.length 0) = vx at *
  generalize bareX (castX true (castX false x)) = bb at *
  generalize bareX x = bx at *
  clear hb1V hb13 hb3 hb3V hB1 hB2 hB3 hB4 xa xb SF HA2 hV4 hX0 HTC HTC2 HTX
  go_wp2_with fail
  have OK0 := Lib.hid (OKA.out V4 (Below.refl _ _))
  rw [HV4.out] at OK0
  refine OK0.out.mono ?_
  rw [← HV4.out]
  rintro r w5 ⟨rfl, hV5⟩
  obtain ⟨hX0, hB2, hB4⟩ := HX.out
  skip; replace hX0 := hX0.below hV5 hX0.lt; replace hB2 := hB2.below hV5 hB2.lt; replace hB4 := hB4.below hV5 hB4.lt
  clear pa0 pa1 pa2 pa3
  skip; have pa0 := hX0.cell 0; have pa1 := hX0.cell 1; have pa2 := hX0.cell 2; have pa3 := hX0.cell 3; simp at pa0 pa1 pa2 pa3; have pb0 := hB2.cell 0; have pb1 := hB2.cell 1; have pb2 := hB2.cell 2; have pb3 := hB2.cell 3; simp at pb0 pb1 pb2 pb3; have pc0 := hB4.cell 0; have pc1 := hB4.cell 1; have pc2 := hB4.cell 2; have pc3 := hB4.cell 3; simp at pc0 pc1 pc2 pc3
  clear hX0 hB2 hB4 OK0 OKA HV4
  cases oka
  · have hb0 : okb = false := by cases okb with | false => rfl | true => exact absurd (hAB rfl) (by simp)
    subst hb0
    go_wp2_with fail
    refine (OKB.out _ hV5).mono ?_
    rintro r w6 ⟨rfl, hb6⟩
    have hV6 := hV5.ext hb6
    obtain ⟨hX0, hB2, hB4⟩ := HX.out
    skip; replace hX0 := hX0.below hV6 hX0.lt; replace hB2 := hB2.below hV6 hB2.lt; replace hB4 := hB4.below hV6 hB4.lt
    clear pa0 pa1 pa2 pa3 pb0 pb1 pb2 pb3 pc0 pc1 pc2 pc3
    skip; have pa0 := hX0.cell 0; have pa1 := hX0.cell 1; have pa2 := hX0.cell 2; have pa3 := hX0.cell 3; simp at pa0 pa1 pa2 pa3; have pb0 := hB2.cell 0; have pb1 := hB2.cell 1; have pb2 := hB2.cell 2; have pb3 := hB2.cell 3; simp at pb0 pb1 pb2 pb3; have pc0 := hB4.cell 0; have pc1 := hB4.cell 1; have pc2 := hB4.cell 2; have pc3 := hB4.cell 3; simp at pc0 pc1 pc2 pc3
    have ya6 := hX0.lt
    have yb6 := hB2.lt
    have yc6 := hB4.lt
    clear hX0 hB2 hB4
    go_wp2_with fail
    generalize hWz : World.alloc _ (.cells (madeCells _ _) _) = w7
    have hbz : Below w6.heap.size w6 w7 := by rw [← hWz]; (repeat (first | with_reducible assumption | with_reducible exact Below.refl _ _ | with_reducible refine Below.setCell ?_ (by first | omega | (simp; done) | (simp; omega)) _ | with_reducible refine Below.alloc ?_ (by first | omega | (simp; done) | (simp; omega)) _ | with_reducible refine below_drewN ?_ _ | with_reducible refine Below.drew ?_))
    have hrz : w7.rowIs w6.heap.size 3 names.length (fun _ => .int .i64 0) := by
      rw [← hWz]
      have h := World.rowIs_made w6 (.int .i64 0) names.length 3
      simpa [Value.cells] using h
    have hsz : w6.heap.size < w7.heap.size := by rw [← hWz]; simp
    have hZ := zeros_sln (by have := HN4.out; omega) hrz hsz
    clear hWz hrz hsz
    have hV7 := hV6.ext hbz
    refine (VX.out w7 _ hV7 hZ).mono ?_
    rintro r w8 ⟨rfl, hb8⟩
    have hV8 := hV7.ext hb8
    have hZ := (hZ.below hb8 (Nat.le_refl _)).more hb8.size
    obtain ⟨hX0, hB2, hB4⟩ := HX.out
    skip; replace hX0 := hX0.below hV8 hX0.lt; replace hB2 := hB2.below hV8 hB2.lt; replace hB4 := hB4.below hV8 hB4.lt
    clear pa0 pa1 pa2 pa3 pb0 pb1 pb2 pb3 pc0 pc1 pc2 pc3
    skip; have pa0 := hX0.cell 0; have pa1 := hX0.cell 1; have pa2 := hX0.cell 2; have pa3 := hX0.cell 3; simp at pa0 pa1 pa2 pa3; have pb0 := hB2.cell 0; have pb1 := hB2.cell 1; have pb2 := hB2.cell 2; have pb3 := hB2.cell 3; simp at pb0 pb1 pb2 pb3; have pc0 := hB4.cell 0; have pc1 := hB4.cell 1; have pc2 := hB4.cell 2; have pc3 := hB4.cell 3; simp at pc0 pc1 pc2 pc3
    have ya8 := hX0.lt
    have yb8 := hB2.lt
    have yc8 := hB4.lt
    clear hX0 hB2 hB4
    obtain ⟨nx, okx, hov, _⟩ := ofVal_two vx
    have VB2 := Lib.hid (VB.out w8 _ hV8 hZ)
    obtain rfl := HVN.out (by simp)
    simp only [hov]
    go_wp2_with fail
    refine VB2.out.mono ?_
    rintro r w9 ⟨rfl, hb9⟩
    have hV9 := hV8.ext hb9
    simp only [ofVal]
    clear pa0 pa1 pa2 pa3 pb0 pb1 pb2 pb3 pc0 pc1 pc2 pc3
    obtain ⟨hX0, hB2, hB4⟩ := HX.out
    have hB4 := hB4.below hV9 hB4.lt
    skip; have pa0 := hB4.cell 0; have pa1 := hB4.cell 1; have pa2 := hB4.cell 2; have pa3 := hB4.cell 3; simp at pa0 pa1 pa2 pa3
    have g0 : ∀ y : Later w9.heap.size w9, y.w'.cell? _ = _ := Later.of pa0
    have g1 : ∀ y : Later w9.heap.size w9, y.w'.cell? _ = _ := Later.of pa1
    have g2 : ∀ y : Later w9.heap.size w9, y.w'.cell? _ = _ := Later.of pa2
    have g3 : ∀ y : Later w9.heap.size w9, y.w'.cell? _ = _ := Later.of pa3
    have HD := Lib.hid (fun (y : Later w9.heap.size w9) => OKB.out y.w' (hV9.ext y.ok))
    clear hX0 hB2 hB4 pa0 pa1 pa2 pa3
    go_wp2_with fail
    refine wp_region_later (Below.refl w9.heap.size w9) (by kernel_rfl) (by kernel_rfl) ?_
    repeat (go_big_quiet_step ((go_at_call 14; exact later_call' HD.out)))
    refine wpQuiet_nil ?_
    rintro _ ⟨y, rfl⟩
    have hbe : Below W.heap.size W y.w' := HB1.out.ext (HA4.out.ext (hV9.ext y.ok))
    go_wp2_with fail
    go_ret
    exact ⟨rfl, hbe⟩
  · have e1 := HTA.out (by simp)
    by_cases q : tx = []
    · obtain rfl : tya = [] := by rw [e1, if_pos q]
      subst q
      clear e1
      go_wp2_with fail
      refine (TA.out _ hV5).mono ?_
      rintro r w6 ⟨rfl, hb6⟩
      have hV6 := hV5.ext hb6
      obtain ⟨hX0, hB2, hB4⟩ := HX.out
      skip; replace hX0 := hX0.below hV6 hX0.lt; replace hB2 := hB2.below hV6 hB2.lt; replace hB4 := hB4.below hV6 hB4.lt
      clear pa0 pa1 pa2 pa3 pb0 pb1 pb2 pb3 pc0 pc1 pc2 pc3
      skip; have pa0 := hX0.cell 0; have pa1 := hX0.cell 1; have pa2 := hX0.cell 2; have pa3 := hX0.cell 3; simp at pa0 pa1 pa2 pa3; have pb0 := hB2.cell 0; have pb1 := hB2.cell 1; have pb2 := hB2.cell 2; have pb3 := hB2.cell 3; simp at pb0 pb1 pb2 pb3; have pc0 := hB4.cell 0; have pc1 := hB4.cell 1; have pc2 := hB4.cell 2; have pc3 := hB4.cell 3; simp at pc0 pc1 pc2 pc3
      have ya6 := hX0.lt
      have yb6 := hB2.lt
      have yc6 := hB4.lt
      clear hX0 hB2 hB4
      go_wp2_with fail
      refine (OKB.out _ hV6).mono ?_
      rintro r w7 ⟨rfl, hb7⟩
      have hV7 := hV6.ext hb7
      obtain ⟨hX0, hB2, hB4⟩ := HX.out
      skip; replace hX0 := hX0.below hV7 hX0.lt; replace hB2 := hB2.below hV7 hB2.lt; replace hB4 := hB4.below hV7 hB4.lt
      clear pa0 pa1 pa2 pa3 pb0 pb1 pb2 pb3 pc0 pc1 pc2 pc3
      skip; have pa0 := hX0.cell 0; have pa1 := hX0.cell 1; have pa2 := hX0.cell 2; have pa3 := hX0.cell 3; simp at pa0 pa1 pa2 pa3; have pb0 := hB2.cell 0; have pb1 := hB2.cell 1; have pb2 := hB2.cell 2; have pb3 := hB2.cell 3; simp at pb0 pb1 pb2 pb3; have pc0 := hB4.cell 0; have pc1 := hB4.cell 1; have pc2 := hB4.cell 2; have pc3 := hB4.cell 3; simp at pc0 pc1 pc2 pc3
      have ya7 := hX0.lt
      have yb7 := hB2.lt
      have yc7 := hB4.lt
      clear hX0 hB2 hB4
      cases okb
      · go_wp2_with fail
        generalize hWz : World.alloc _ (.cells (madeCells _ _) _) = w8
        have hbz : Below w7.heap.size w7 w8 := by rw [← hWz]; (repeat (first | with_reducible assumption | with_reducible exact Below.refl _ _ | with_reducible refine Below.setCell ?_ (by first | omega | (simp; done) | (simp; omega)) _ | with_reducible refine Below.alloc ?_ (by first | omega | (simp; done) | (simp; omega)) _ | with_reducible refine below_drewN ?_ _ | with_reducible refine Below.drew ?_))
        have hrz : w8.rowIs w7.heap.size 3 names.length (fun _ => .int .i64 0) := by
          rw [← hWz]
          have h := World.rowIs_made w7 (.int .i64 0) names.length 3
          simpa [Value.cells] using h
        have hsz : w7.heap.size < w8.heap.size := by rw [← hWz]; simp
        have hZ := zeros_sln (by have := HN4.out; omega) hrz hsz
        clear hWz hrz hsz
        have hV8 := hV7.ext hbz
        refine (VX.out w8 _ hV8 hZ).mono ?_
        rintro r w9 ⟨rfl, hb9⟩
        have hV9 := hV8.ext hb9
        have hZ := (hZ.below hb9 (Nat.le_refl _)).more hb9.size
        obtain ⟨hX0, hB2, hB4⟩ := HX.out
        skip; replace hX0 := hX0.below hV9 hX0.lt; replace hB2 := hB2.below hV9 hB2.lt; replace hB4 := hB4.below hV9 hB4.lt
        clear pa0 pa1 pa2 pa3 pb0 pb1 pb2 pb3 pc0 pc1 pc2 pc3
        skip; have pa0 := hX0.cell 0; have pa1 := hX0.cell 1; have pa2 := hX0.cell 2; have pa3 := hX0.cell 3; simp at pa0 pa1 pa2 pa3; have pb0 := hB2.cell 0; have pb1 := hB2.cell 1; have pb2 := hB2.cell 2; have pb3 := hB2.cell 3; simp at pb0 pb1 pb2 pb3; have pc0 := hB4.cell 0; have pc1 := hB4.cell 1; have pc2 := hB4.cell 2; have pc3 := hB4.cell 3; simp at pc0 pc1 pc2 pc3
        have ya9 := hX0.lt
        have yb9 := hB2.lt
        have yc9 := hB4.lt
        clear hX0 hB2 hB4
        obtain ⟨nx, okx, hov, _⟩ := ofVal_two vx
        have VB2 := Lib.hid (VB.out w9 _ hV9 hZ)
        obtain rfl := HVN.out (by simp)
        simp only [hov]
        go_wp2_with fail
        refine VB2.out.mono ?_
        rintro r w14 ⟨rfl, hb14⟩
        have hV14 := hV9.ext hb14
        simp only [ofVal]
        clear pa0 pa1 pa2 pa3 pb0 pb1 pb2 pb3 pc0 pc1 pc2 pc3
        obtain ⟨hX0, hB2, hB4⟩ := HX.out
        have hB4 := hB4.below hV14 hB4.lt
        skip; have pa0 := hB4.cell 0; have pa1 := hB4.cell 1; have pa2 := hB4.cell 2; have pa3 := hB4.cell 3; simp at pa0 pa1 pa2 pa3
        have g0 : ∀ y : Later w14.heap.size w14, y.w'.cell? _ = _ := Later.of pa0
        have g1 : ∀ y : Later w14.heap.size w14, y.w'.cell? _ = _ := Later.of pa1
        have g2 : ∀ y : Later w14.heap.size w14, y.w'.cell? _ = _ := Later.of pa2
        have g3 : ∀ y : Later w14.heap.size w14, y.w'.cell? _ = _ := Later.of pa3
        have HD := Lib.hid (fun (y : Later w14.heap.size w14) => OKB.out y.w' (hV14.ext y.ok))
        clear hX0 hB2 hB4 pa0 pa1 pa2 pa3
        go_wp2_with fail
        refine wp_region_later (Below.refl w14.heap.size w14) (by kernel_rfl) (by kernel_rfl) ?_
        repeat (go_big_quiet_step ((go_at_call 14; exact later_call' HD.out)))
        refine wpQuiet_nil ?_
        rintro _ ⟨y, rfl⟩
        have hbe : Below W.heap.size W y.w' := HB1.out.ext (HA4.out.ext (hV14.ext y.ok))
        go_wp2_with fail
        go_ret
        exact ⟨rfl, hbe⟩
      · obtain rfl : tyb = [] := by rw [HTB.out (by simp), if_pos (by simp)]
        go_wp2_with fail
        refine (TB.out _ hV7).mono ?_
        rintro r w8 ⟨rfl, hb8⟩
        have hV8 := hV7.ext hb8
        obtain ⟨hX0, hB2, hB4⟩ := HX.out
        skip; replace hX0 := hX0.below hV8 hX0.lt; replace hB2 := hB2.below hV8 hB2.lt; replace hB4 := hB4.below hV8 hB4.lt
        clear pa0 pa1 pa2 pa3 pb0 pb1 pb2 pb3 pc0 pc1 pc2 pc3
        skip; have pa0 := hX0.cell 0; have pa1 := hX0.cell 1; have pa2 := hX0.cell 2; have pa3 := hX0.cell 3; simp at pa0 pa1 pa2 pa3; have pb0 := hB2.cell 0; have pb1 := hB2.cell 1; have pb2 := hB2.cell 2; have pb3 := hB2.cell 3; simp at pb0 pb1 pb2 pb3; have pc0 := hB4.cell 0; have pc1 := hB4.cell 1; have pc2 := hB4.cell 2; have pc3 := hB4.cell 3; simp at pc0 pc1 pc2 pc3
        have ya8 := hX0.lt
        have yb8 := hB2.lt
        have yc8 := hB4.lt
        clear hX0 hB2 hB4
        go_wp2_with fail
        generalize hWz : World.alloc _ (.cells (madeCells _ _) _) = w9
        have hbz : Below w8.heap.size w8 w9 := by rw [← hWz]; (repeat (first | with_reducible assumption | with_reducible exact Below.refl _ _ | with_reducible refine Below.setCell ?_ (by first | omega | (simp; done) | (simp; omega)) _ | with_reducible refine Below.alloc ?_ (by first | omega | (simp; done) | (simp; omega)) _ | with_reducible refine below_drewN ?_ _ | with_reducible refine Below.drew ?_))
        have hrz : w9.rowIs w8.heap.size 3 names.length (fun _ => .int .i64 0) := by
          rw [← hWz]
          have h := World.rowIs_made w8 (.int .i64 0) names.length 3
          simpa [Value.cells] using h
        have hsz : w8.heap.size < w9.heap.size := by rw [← hWz]; simp
        have hZ := zeros_sln (by have := HN4.out; omega) hrz hsz
        clear hWz hrz hsz
        have hV9 := hV8.ext hbz
        refine (VX.out w9 _ hV9 hZ).mono ?_
        rintro r w14 ⟨rfl, hb14⟩
        have hV14 := hV9.ext hb14
        have hZ := (hZ.below hb14 (Nat.le_refl _)).more hb14.size
        obtain ⟨hX0, hB2, hB4⟩ := HX.out
        skip; replace hX0 := hX0.below hV14 hX0.lt; replace hB2 := hB2.below hV14 hB2.lt; replace hB4 := hB4.below hV14 hB4.lt
        clear pa0 pa1 pa2 pa3 pb0 pb1 pb2 pb3 pc0 pc1 pc2 pc3
        skip; have pa0 := hX0.cell 0; have pa1 := hX0.cell 1; have pa2 := hX0.cell 2; have pa3 := hX0.cell 3; simp at pa0 pa1 pa2 pa3; have pb0 := hB2.cell 0; have pb1 := hB2.cell 1; have pb2 := hB2.cell 2; have pb3 := hB2.cell 3; simp at pb0 pb1 pb2 pb3; have pc0 := hB4.cell 0; have pc1 := hB4.cell 1; have pc2 := hB4.cell 2; have pc3 := hB4.cell 3; simp at pc0 pc1 pc2 pc3
        have ya14 := hX0.lt
        have yb14 := hB2.lt
        have yc14 := hB4.lt
        clear hX0 hB2 hB4
        obtain ⟨nx, okx, hov, _⟩ := ofVal_two vx
        have VB2 := Lib.hid (VB.out w14 _ hV14 hZ)
        obtain rfl := HVB.out (by simp)
        obtain rfl := HBB.out (by simp)
        rw [hov] at VB2
        have EQ := Lib.hid (fun (w' : World) (u t : Value) (hu : ExV w' w'.heap.size u bb) (ht : ExV w' w'.heap.size t bb) => imSame_any bb bb u t w' hu ht)
        rw [decide_eq_true (rfl : bb = bb)] at EQ
        simp only [hov]
        go_wp2_with fail
        refine VB2.out.mono ?_
        rintro r w15 ⟨rfl, hb15⟩
        have hV15 := hV14.ext hb15
        obtain ⟨hX0, hB2, hB4⟩ := HX.out
        skip; replace hX0 := hX0.below hV15 hX0.lt; replace hB2 := hB2.below hV15 hB2.lt; replace hB4 := hB4.below hV15 hB4.lt
        clear pa0 pa1 pa2 pa3 pb0 pb1 pb2 pb3 pc0 pc1 pc2 pc3
        skip; have pa0 := hX0.cell 0; have pa1 := hX0.cell 1; have pa2 := hX0.cell 2; have pa3 := hX0.cell 3; simp at pa0 pa1 pa2 pa3; have pb0 := hB2.cell 0; have pb1 := hB2.cell 1; have pb2 := hB2.cell 2; have pb3 := hB2.cell 3; simp at pb0 pb1 pb2 pb3; have pc0 := hB4.cell 0; have pc1 := hB4.cell 1; have pc2 := hB4.cell 2; have pc3 := hB4.cell 3; simp at pc0 pc1 pc2 pc3
        have ya15 := hX0.lt
        have yb15 := hB2.lt
        have yc15 := hB4.lt
        clear hX0 hB2 hB4
        have KEEP := Lib.hid (show ∀ w' : World, Below w15.heap.size w15 w' → ((w'.cell? ⟨w1.heap.size, 0, none⟩ = some (.int .i64 x.kind) ∧ w'.cell? ⟨w1.heap.size, 1, none⟩ = some (.int .i64 x.n) ∧ w'.cell? ⟨w1.heap.size, 2, none⟩ = some (.string (bs x.s)) ∧ w'.cell? ⟨w1.heap.size, 3, none⟩ = some (.slice A1 x.kids.length c1)) ∧
          (w'.cell? ⟨w3.heap.size + 1 + 1 + 1, 0, none⟩ = some (.int .i64 4) ∧ w'.cell? ⟨w3.heap.size + 1 + 1 + 1, 1, none⟩ = some (.int .i64 0) ∧ w'.cell? ⟨w3.heap.size + 1 + 1 + 1, 2, none⟩ = some (.string ⟨#[105, 110, 116]⟩) ∧ w'.cell? ⟨w3.heap.size + 1 + 1 + 1, 3, none⟩ = some (.slice (some ⟨w3.heap.size + 1 + 1, 0, none⟩) 1 1))) from fun w' h => by
          obtain ⟨hX0, hB2, hB4⟩ := HX.out
          have h1 := hX0.below (hV15.ext h) hX0.lt
          have h5 := hB4.below (hV15.ext h) hB4.lt
          exact ⟨⟨h1.cell 0, h1.cell 1, h1.cell 2, h1.cell 3⟩, h5.cell 0, h5.cell 1, h5.cell 2, h5.cell 3⟩)
        have tokB : True := trivial
        go_wp2_with fail
        go_region_held3
          (fun w' => ((w'.cell? ⟨w1.heap.size, 0, none⟩ = some (.int .i64 x.kind) ∧ w'.cell? ⟨w1.heap.size, 1, none⟩ = some (.int .i64 x.n) ∧ w'.cell? ⟨w1.heap.size, 2, none⟩ = some (.string (bs x.s)) ∧ w'.cell? ⟨w1.heap.size, 3, none⟩ = some (.slice A1 x.kids.length c1)) ∧
            (w'.cell? ⟨w3.heap.size + 1 + 1 + 1, 0, none⟩ = some (.int .i64 4) ∧ w'.cell? ⟨w3.heap.size + 1 + 1 + 1, 1, none⟩ = some (.int .i64 0) ∧ w'.cell? ⟨w3.heap.size + 1 + 1 + 1, 2, none⟩ = some (.string ⟨#[105, 110, 116]⟩) ∧ w'.cell? ⟨w3.heap.size + 1 + 1 + 1, 3, none⟩ = some (.slice (some ⟨w3.heap.size + 1 + 1, 0, none⟩) 1 1))))
          (first | exact KEEP.out _ (by (repeat (first | with_reducible assumption | with_reducible exact Below.refl _ _ | with_reducible refine Below.setCell ?_ (by first | omega | (simp; done) | (simp; omega)) _ | with_reducible refine Below.alloc ?_ (by first | omega | (simp; done) | (simp; omega)) _ | with_reducible refine below_drewN ?_ _ | with_reducible refine Below.drew ?_ | with_reducible refine Below.trans ?_ (Below.mono hb13 (by first | omega | (simp; done) | (simp; omega))) | with_reducible refine Below.trans ?_ (Below.mono hb12 (by first | omega | (simp; done) | (simp; omega))) | with_reducible refine Below.trans ?_ (Below.mono hb11 (by first | omega | (simp; done) | (simp; omega))) | with_reducible refine Below.trans ?_ (Below.mono hb10 (by first | omega | (simp; done) | (simp; omega)))))) | go_keep)
          (first
            | (go_at_call 14; refine (OKB.out _ (hV15.ext (by (repeat (first | with_reducible assumption | with_reducible exact Below.refl _ _ | with_reducible refine Below.setCell ?_ (by first | omega | (simp; done) | (simp; omega)) _ | with_reducible refine Below.alloc ?_ (by first | omega | (simp; done) | (simp; omega)) _ | with_reducible refine below_drewN ?_ _ | with_reducible refine Below.drew ?_))))).mono ?_; rintro r w10 ⟨rfl, hb10⟩; have hz10 := hb10.size; (try simp at hz10))
            | (have tk := tokB; go_at_call 9; refine (BB.out _ (hV15.ext (by (repeat (first | with_reducible assumption | with_reducible exact Below.refl _ _ | with_reducible refine Below.setCell ?_ (by first | omega | (simp; done) | (simp; omega)) _ | with_reducible refine Below.alloc ?_ (by first | omega | (simp; done) | (simp; omega)) _ | with_reducible refine below_drewN ?_ _ | with_reducible refine Below.drew ?_ | with_reducible refine Below.trans ?_ (Below.mono hb10 (by first | omega | (simp; done) | (simp; omega)))))))).mono ?_; rintro r w11 ⟨v11, rfl, hM11, hb11⟩; have HV11 := Lib.hid hM11.exv; clear hM11 tk tokB; have hz11 := hb11.size; (try simp at hz11))
            | (have tk := hb11; go_at_call 9; refine (BX.out _ (hV15.ext (by (repeat (first | with_reducible assumption | with_reducible exact Below.refl _ _ | with_reducible refine Below.setCell ?_ (by first | omega | (simp; done) | (simp; omega)) _ | with_reducible refine Below.alloc ?_ (by first | omega | (simp; done) | (simp; omega)) _ | with_reducible refine below_drewN ?_ _ | with_reducible refine Below.drew ?_ | with_reducible refine Below.trans ?_ (Below.mono hb11 (by first | omega | (simp; done) | (simp; omega))) | with_reducible refine Below.trans ?_ (Below.mono hb10 (by first | omega | (simp; done) | (simp; omega)))))))).mono ?_; rintro r w12 ⟨v12, rfl, hM12, hb12⟩; have HV12 := Lib.hid hM12.exv; clear hM12 tk; have hz12 := hb12.size; (try simp at hz12))
            | (have tk := hb12; go_at_call 10; refine (EQ.out _ _ _ ((HV11.out.keep (by (repeat (first | with_reducible assumption | with_reducible exact Below.refl _ _ | with_reducible refine Below.setCell ?_ (by first | omega | (simp; done) | (simp; omega)) _ | with_reducible refine Below.alloc ?_ (by first | omega | (simp; done) | (simp; omega)) _ | with_reducible refine below_drewN ?_ _ | with_reducible refine Below.drew ?_ | with_reducible refine Below.trans ?_ (Below.mono hb12 (by first | omega | (simp; done) | (simp; omega)))))) (Nat.le_refl _)).more (by first | omega | (simp; omega))) ((HV12.out.keep (by (repeat (first | with_reducible assumption | with_reducible exact Below.refl _ _ | with_reducible refine Below.setCell ?_ (by first | omega | (simp; done) | (simp; omega)) _ | with_reducible refine Below.alloc ?_ (by first | omega | (simp; done) | (simp; omega)) _ | with_reducible refine below_drewN ?_ _ | with_reducible refine Below.drew ?_))) (Nat.le_refl _)).more (by simp))).mono ?_; rintro r w13 ⟨rfl, hb13⟩; have hz13 := hb13.size; (try simp at hz13))
            | fail)
        all_goals
          have hbe : Below W.heap.size W w13 := HB1.out.ext (HA4.out.ext (hV15.ext (by (repeat (first | with_reducible assumption | with_reducible exact Below.refl _ _ | with_reducible refine Below.setCell ?_ (by first | omega | (simp; done) | (simp; omega)) _ | with_reducible refine Below.alloc ?_ (by first | omega | (simp; done) | (simp; omega)) _ | with_reducible refine below_drewN ?_ _ | with_reducible refine Below.drew ?_ | with_reducible refine Below.trans ?_ (Below.mono hb13 (by first | omega | (simp; done) | (simp; omega))) | with_reducible refine Below.trans ?_ (Below.mono hb12 (by first | omega | (simp; done) | (simp; omega))) | with_reducible refine Below.trans ?_ (Below.mono hb11 (by first | omega | (simp; done) | (simp; omega))) | with_reducible refine Below.trans ?_ (Below.mono hb10 (by first | omega | (simp; done) | (simp; omega))))))))
          go_wp2_with fail
          go_ret
          exact ⟨rfl, hbe⟩
    · obtain rfl : tya = cBool := by rw [e1, if_neg q]; rfl
      have q1 : (tx == []) = false := by simpa using q
      clear e1
      go_wp2_with fail
      refine (TA.out _ hV5).mono ?_
      rintro r w6 ⟨rfl, hb6⟩
      have hV6 := hV5.ext hb6
      obtain ⟨hX0, hB2, hB4⟩ := HX.out
      skip; replace hX0 := hX0.below hV6 hX0.lt; replace hB2 := hB2.below hV6 hB2.lt; replace hB4 := hB4.below hV6 hB4.lt
      clear pa0 pa1 pa2 pa3 pb0 pb1 pb2 pb3 pc0 pc1 pc2 pc3
      skip; have pa0 := hX0.cell 0; have pa1 := hX0.cell 1; have pa2 := hX0.cell 2; have pa3 := hX0.cell 3; simp at pa0 pa1 pa2 pa3; have pb0 := hB2.cell 0; have pb1 := hB2.cell 1; have pb2 := hB2.cell 2; have pb3 := hB2.cell 3; simp at pb0 pb1 pb2 pb3; have pc0 := hB4.cell 0; have pc1 := hB4.cell 1; have pc2 := hB4.cell 2; have pc3 := hB4.cell 3; simp at pc0 pc1 pc2 pc3
      have ya6 := hX0.lt
      have yb6 := hB2.lt
      have yc6 := hB4.lt
      clear hX0 hB2 hB4
      simp only [cBool]
      go_wp2_with fail
      refine (OKB.out _ hV6).mono ?_
      rintro r w7 ⟨rfl, hb7⟩
      have hV7 := hV6.ext hb7
      obtain ⟨hX0, hB2, hB4⟩ := HX.out
      skip; replace hX0 := hX0.below hV7 hX0.lt; replace hB2 := hB2.below hV7 hB2.lt; replace hB4 := hB4.below hV7 hB4.lt
      clear pa0 pa1 pa2 pa3 pb0 pb1 pb2 pb3 pc0 pc1 pc2 pc3
      skip; have pa0 := hX0.cell 0; have pa1 := hX0.cell 1; have pa2 := hX0.cell 2; have pa3 := hX0.cell 3; simp at pa0 pa1 pa2 pa3; have pb0 := hB2.cell 0; have pb1 := hB2.cell 1; have pb2 := hB2.cell 2; have pb3 := hB2.cell 3; simp at pb0 pb1 pb2 pb3; have pc0 := hB4.cell 0; have pc1 := hB4.cell 1; have pc2 := hB4.cell 2; have pc3 := hB4.cell 3; simp at pc0 pc1 pc2 pc3
      have ya7 := hX0.lt
      have yb7 := hB2.lt
      have yc7 := hB4.lt
      clear hX0 hB2 hB4
      cases okb
      · go_wp2_with fail
        generalize hWz : World.alloc _ (.cells (madeCells _ _) _) = w8
        have hbz : Below w7.heap.size w7 w8 := by rw [← hWz]; (repeat (first | with_reducible assumption | with_reducible exact Below.refl _ _ | with_reducible refine Below.setCell ?_ (by first | omega | (simp; done) | (simp; omega)) _ | with_reducible refine Below.alloc ?_ (by first | omega | (simp; done) | (simp; omega)) _ | with_reducible refine below_drewN ?_ _ | with_reducible refine Below.drew ?_))
        have hrz : w8.rowIs w7.heap.size 3 names.length (fun _ => .int .i64 0) := by
          rw [← hWz]
          have h := World.rowIs_made w7 (.int .i64 0) names.length 3
          simpa [Value.cells] using h
        have hsz : w7.heap.size < w8.heap.size := by rw [← hWz]; simp
        have hZ := zeros_sln (by have := HN4.out; omega) hrz hsz
        clear hWz hrz hsz
        have hV8 := hV7.ext hbz
        refine (VX.out w8 _ hV8 hZ).mono ?_
        rintro r w9 ⟨rfl, hb9⟩
        have hV9 := hV8.ext hb9
        have hZ := (hZ.below hb9 (Nat.le_refl _)).more hb9.size
        obtain ⟨hX0, hB2, hB4⟩ := HX.out
        skip; replace hX0 := hX0.below hV9 hX0.lt; replace hB2 := hB2.below hV9 hB2.lt; replace hB4 := hB4.below hV9 hB4.lt
        clear pa0 pa1 pa2 pa3 pb0 pb1 pb2 pb3 pc0 pc1 pc2 pc3
        skip; have pa0 := hX0.cell 0; have pa1 := hX0.cell 1; have pa2 := hX0.cell 2; have pa3 := hX0.cell 3; simp at pa0 pa1 pa2 pa3; have pb0 := hB2.cell 0; have pb1 := hB2.cell 1; have pb2 := hB2.cell 2; have pb3 := hB2.cell 3; simp at pb0 pb1 pb2 pb3; have pc0 := hB4.cell 0; have pc1 := hB4.cell 1; have pc2 := hB4.cell 2; have pc3 := hB4.cell 3; simp at pc0 pc1 pc2 pc3
        have ya9 := hX0.lt
        have yb9 := hB2.lt
        have yc9 := hB4.lt
        clear hX0 hB2 hB4
        obtain ⟨nx, okx, hov, _⟩ := ofVal_two vx
        have VB2 := Lib.hid (VB.out w9 _ hV9 hZ)
        obtain rfl := HVN.out (by simp)
        simp only [hov]
        go_wp2_with fail
        refine VB2.out.mono ?_
        rintro r w14 ⟨rfl, hb14⟩
        have hV14 := hV9.ext hb14
        simp only [ofVal]
        clear pa0 pa1 pa2 pa3 pb0 pb1 pb2 pb3 pc0 pc1 pc2 pc3
        obtain ⟨hX0, hB2, hB4⟩ := HX.out
        have hB4 := hB4.below hV14 hB4.lt
        skip; have pa0 := hB4.cell 0; have pa1 := hB4.cell 1; have pa2 := hB4.cell 2; have pa3 := hB4.cell 3; simp at pa0 pa1 pa2 pa3
        have g0 : ∀ y : Later w14.heap.size w14, y.w'.cell? _ = _ := Later.of pa0
        have g1 : ∀ y : Later w14.heap.size w14, y.w'.cell? _ = _ := Later.of pa1
        have g2 : ∀ y : Later w14.heap.size w14, y.w'.cell? _ = _ := Later.of pa2
        have g3 : ∀ y : Later w14.heap.size w14, y.w'.cell? _ = _ := Later.of pa3
        have HD := Lib.hid (fun (y : Later w14.heap.size w14) => OKB.out y.w' (hV14.ext y.ok))
        clear hX0 hB2 hB4 pa0 pa1 pa2 pa3
        go_wp2_with fail
        refine wp_region_later (Below.refl w14.heap.size w14) (by kernel_rfl) (by kernel_rfl) ?_
        repeat (go_big_quiet_step ((go_at_call 14; exact later_call' HD.out)))
        refine wpQuiet_nil ?_
        rintro _ ⟨y, rfl⟩
        have hbe : Below W.heap.size W y.w' := HB1.out.ext (HA4.out.ext (hV14.ext y.ok))
        go_wp2_with fail
        go_ret
        exact ⟨rfl, hbe⟩
      · obtain rfl : tyb = cInt := by rw [HTB.out (by simp), if_neg q]
        go_wp2_with fail
        refine (TB.out _ hV7).mono ?_
        rintro r w8 ⟨rfl, hb8⟩
        have hV8 := hV7.ext hb8
        obtain ⟨hX0, hB2, hB4⟩ := HX.out
        skip; replace hX0 := hX0.below hV8 hX0.lt; replace hB2 := hB2.below hV8 hB2.lt; replace hB4 := hB4.below hV8 hB4.lt
        clear pa0 pa1 pa2 pa3 pb0 pb1 pb2 pb3 pc0 pc1 pc2 pc3
        skip; have pa0 := hX0.cell 0; have pa1 := hX0.cell 1; have pa2 := hX0.cell 2; have pa3 := hX0.cell 3; simp at pa0 pa1 pa2 pa3; have pb0 := hB2.cell 0; have pb1 := hB2.cell 1; have pb2 := hB2.cell 2; have pb3 := hB2.cell 3; simp at pb0 pb1 pb2 pb3; have pc0 := hB4.cell 0; have pc1 := hB4.cell 1; have pc2 := hB4.cell 2; have pc3 := hB4.cell 3; simp at pc0 pc1 pc2 pc3
        have ya8 := hX0.lt
        have yb8 := hB2.lt
        have yc8 := hB4.lt
        clear hX0 hB2 hB4
        simp only [cInt]
        go_wp2_with fail
        generalize hWz : World.alloc _ (.cells (madeCells _ _) _) = w9
        have hbz : Below w8.heap.size w8 w9 := by rw [← hWz]; (repeat (first | with_reducible assumption | with_reducible exact Below.refl _ _ | with_reducible refine Below.setCell ?_ (by first | omega | (simp; done) | (simp; omega)) _ | with_reducible refine Below.alloc ?_ (by first | omega | (simp; done) | (simp; omega)) _ | with_reducible refine below_drewN ?_ _ | with_reducible refine Below.drew ?_))
        have hrz : w9.rowIs w8.heap.size 3 names.length (fun _ => .int .i64 0) := by
          rw [← hWz]
          have h := World.rowIs_made w8 (.int .i64 0) names.length 3
          simpa [Value.cells] using h
        have hsz : w8.heap.size < w9.heap.size := by rw [← hWz]; simp
        have hZ := zeros_sln (by have := HN4.out; omega) hrz hsz
        clear hWz hrz hsz
        have hV9 := hV8.ext hbz
        refine (VX.out w9 _ hV9 hZ).mono ?_
        rintro r w14 ⟨rfl, hb14⟩
        have hV14 := hV9.ext hb14
        have hZ := (hZ.below hb14 (Nat.le_refl _)).more hb14.size
        obtain ⟨hX0, hB2, hB4⟩ := HX.out
        skip; replace hX0 := hX0.below hV14 hX0.lt; replace hB2 := hB2.below hV14 hB2.lt; replace hB4 := hB4.below hV14 hB4.lt
        clear pa0 pa1 pa2 pa3 pb0 pb1 pb2 pb3 pc0 pc1 pc2 pc3
        skip; have pa0 := hX0.cell 0; have pa1 := hX0.cell 1; have pa2 := hX0.cell 2; have pa3 := hX0.cell 3; simp at pa0 pa1 pa2 pa3; have pb0 := hB2.cell 0; have pb1 := hB2.cell 1; have pb2 := hB2.cell 2; have pb3 := hB2.cell 3; simp at pb0 pb1 pb2 pb3; have pc0 := hB4.cell 0; have pc1 := hB4.cell 1; have pc2 := hB4.cell 2; have pc3 := hB4.cell 3; simp at pc0 pc1 pc2 pc3
        have ya14 := hX0.lt
        have yb14 := hB2.lt
        have yc14 := hB4.lt
        clear hX0 hB2 hB4
        obtain ⟨nx, okx, hov, _⟩ := ofVal_two vx
        have VB2 := Lib.hid (VB.out w14 _ hV14 hZ)
        obtain rfl := HVB.out (by simp)
        obtain rfl := HBB.out (by simp)
        rw [hov] at VB2
        have EQ := Lib.hid (fun (w' : World) (u t : Value) (hu : ExV w' w'.heap.size u bb) (ht : ExV w' w'.heap.size t bb) => imSame_any bb bb u t w' hu ht)
        rw [decide_eq_true (rfl : bb = bb)] at EQ
        simp only [hov]
        go_wp2_with fail
        refine VB2.out.mono ?_
        rintro r w15 ⟨rfl, hb15⟩
        have hV15 := hV14.ext hb15
        obtain ⟨hX0, hB2, hB4⟩ := HX.out
        skip; replace hX0 := hX0.below hV15 hX0.lt; replace hB2 := hB2.below hV15 hB2.lt; replace hB4 := hB4.below hV15 hB4.lt
        clear pa0 pa1 pa2 pa3 pb0 pb1 pb2 pb3 pc0 pc1 pc2 pc3
        skip; have pa0 := hX0.cell 0; have pa1 := hX0.cell 1; have pa2 := hX0.cell 2; have pa3 := hX0.cell 3; simp at pa0 pa1 pa2 pa3; have pb0 := hB2.cell 0; have pb1 := hB2.cell 1; have pb2 := hB2.cell 2; have pb3 := hB2.cell 3; simp at pb0 pb1 pb2 pb3; have pc0 := hB4.cell 0; have pc1 := hB4.cell 1; have pc2 := hB4.cell 2; have pc3 := hB4.cell 3; simp at pc0 pc1 pc2 pc3
        have ya15 := hX0.lt
        have yb15 := hB2.lt
        have yc15 := hB4.lt
        clear hX0 hB2 hB4
        have KEEP := Lib.hid (show ∀ w' : World, Below w15.heap.size w15 w' → ((w'.cell? ⟨w1.heap.size, 0, none⟩ = some (.int .i64 x.kind) ∧ w'.cell? ⟨w1.heap.size, 1, none⟩ = some (.int .i64 x.n) ∧ w'.cell? ⟨w1.heap.size, 2, none⟩ = some (.string (bs x.s)) ∧ w'.cell? ⟨w1.heap.size, 3, none⟩ = some (.slice A1 x.kids.length c1)) ∧
          (w'.cell? ⟨w3.heap.size + 1 + 1 + 1, 0, none⟩ = some (.int .i64 4) ∧ w'.cell? ⟨w3.heap.size + 1 + 1 + 1, 1, none⟩ = some (.int .i64 0) ∧ w'.cell? ⟨w3.heap.size + 1 + 1 + 1, 2, none⟩ = some (.string ⟨#[105, 110, 116]⟩) ∧ w'.cell? ⟨w3.heap.size + 1 + 1 + 1, 3, none⟩ = some (.slice (some ⟨w3.heap.size + 1 + 1, 0, none⟩) 1 1))) from fun w' h => by
          obtain ⟨hX0, hB2, hB4⟩ := HX.out
          have h1 := hX0.below (hV15.ext h) hX0.lt
          have h5 := hB4.below (hV15.ext h) hB4.lt
          exact ⟨⟨h1.cell 0, h1.cell 1, h1.cell 2, h1.cell 3⟩, h5.cell 0, h5.cell 1, h5.cell 2, h5.cell 3⟩)
        have tokB : True := trivial
        go_wp2_with fail
        go_region_held3
          (fun w' => ((w'.cell? ⟨w1.heap.size, 0, none⟩ = some (.int .i64 x.kind) ∧ w'.cell? ⟨w1.heap.size, 1, none⟩ = some (.int .i64 x.n) ∧ w'.cell? ⟨w1.heap.size, 2, none⟩ = some (.string (bs x.s)) ∧ w'.cell? ⟨w1.heap.size, 3, none⟩ = some (.slice A1 x.kids.length c1)) ∧
            (w'.cell? ⟨w3.heap.size + 1 + 1 + 1, 0, none⟩ = some (.int .i64 4) ∧ w'.cell? ⟨w3.heap.size + 1 + 1 + 1, 1, none⟩ = some (.int .i64 0) ∧ w'.cell? ⟨w3.heap.size + 1 + 1 + 1, 2, none⟩ = some (.string ⟨#[105, 110, 116]⟩) ∧ w'.cell? ⟨w3.heap.size + 1 + 1 + 1, 3, none⟩ = some (.slice (some ⟨w3.heap.size + 1 + 1, 0, none⟩) 1 1))))
          (first | exact KEEP.out _ (by (repeat (first | with_reducible assumption | with_reducible exact Below.refl _ _ | with_reducible refine Below.setCell ?_ (by first | omega | (simp; done) | (simp; omega)) _ | with_reducible refine Below.alloc ?_ (by first | omega | (simp; done) | (simp; omega)) _ | with_reducible refine below_drewN ?_ _ | with_reducible refine Below.drew ?_ | with_reducible refine Below.trans ?_ (Below.mono hb13 (by first | omega | (simp; done) | (simp; omega))) | with_reducible refine Below.trans ?_ (Below.mono hb12 (by first | omega | (simp; done) | (simp; omega))) | with_reducible refine Below.trans ?_ (Below.mono hb11 (by first | omega | (simp; done) | (simp; omega))) | with_reducible refine Below.trans ?_ (Below.mono hb10 (by first | omega | (simp; done) | (simp; omega)))))) | go_keep)
          (first
            | (go_at_call 14; refine (OKB.out _ (hV15.ext (by (repeat (first | with_reducible assumption | with_reducible exact Below.refl _ _ | with_reducible refine Below.setCell ?_ (by first | omega | (simp; done) | (simp; omega)) _ | with_reducible refine Below.alloc ?_ (by first | omega | (simp; done) | (simp; omega)) _ | with_reducible refine below_drewN ?_ _ | with_reducible refine Below.drew ?_))))).mono ?_; rintro r w10 ⟨rfl, hb10⟩; have hz10 := hb10.size; (try simp at hz10))
            | (have tk := tokB; go_at_call 9; refine (BB.out _ (hV15.ext (by (repeat (first | with_reducible assumption | with_reducible exact Below.refl _ _ | with_reducible refine Below.setCell ?_ (by first | omega | (simp; done) | (simp; omega)) _ | with_reducible refine Below.alloc ?_ (by first | omega | (simp; done) | (simp; omega)) _ | with_reducible refine below_drewN ?_ _ | with_reducible refine Below.drew ?_ | with_reducible refine Below.trans ?_ (Below.mono hb10 (by first | omega | (simp; done) | (simp; omega)))))))).mono ?_; rintro r w11 ⟨v11, rfl, hM11, hb11⟩; have HV11 := Lib.hid hM11.exv; clear hM11 tk tokB; have hz11 := hb11.size; (try simp at hz11))
            | (have tk := hb11; go_at_call 9; refine (BX.out _ (hV15.ext (by (repeat (first | with_reducible assumption | with_reducible exact Below.refl _ _ | with_reducible refine Below.setCell ?_ (by first | omega | (simp; done) | (simp; omega)) _ | with_reducible refine Below.alloc ?_ (by first | omega | (simp; done) | (simp; omega)) _ | with_reducible refine below_drewN ?_ _ | with_reducible refine Below.drew ?_ | with_reducible refine Below.trans ?_ (Below.mono hb11 (by first | omega | (simp; done) | (simp; omega))) | with_reducible refine Below.trans ?_ (Below.mono hb10 (by first | omega | (simp; done) | (simp; omega)))))))).mono ?_; rintro r w12 ⟨v12, rfl, hM12, hb12⟩; have HV12 := Lib.hid hM12.exv; clear hM12 tk; have hz12 := hb12.size; (try simp at hz12))
            | (have tk := hb12; go_at_call 10; refine (EQ.out _ _ _ ((HV11.out.keep (by (repeat (first | with_reducible assumption | with_reducible exact Below.refl _ _ | with_reducible refine Below.setCell ?_ (by first | omega | (simp; done) | (simp; omega)) _ | with_reducible refine Below.alloc ?_ (by first | omega | (simp; done) | (simp; omega)) _ | with_reducible refine below_drewN ?_ _ | with_reducible refine Below.drew ?_ | with_reducible refine Below.trans ?_ (Below.mono hb12 (by first | omega | (simp; done) | (simp; omega)))))) (Nat.le_refl _)).more (by first | omega | (simp; omega))) ((HV12.out.keep (by (repeat (first | with_reducible assumption | with_reducible exact Below.refl _ _ | with_reducible refine Below.setCell ?_ (by first | omega | (simp; done) | (simp; omega)) _ | with_reducible refine Below.alloc ?_ (by first | omega | (simp; done) | (simp; omega)) _ | with_reducible refine below_drewN ?_ _ | with_reducible refine Below.drew ?_))) (Nat.le_refl _)).more (by simp))).mono ?_; rintro r w13 ⟨rfl, hb13⟩; have hz13 := hb13.size; (try simp at hz13))
            | fail)
        all_goals
          have hbe : Below W.heap.size W w13 := HB1.out.ext (HA4.out.ext (hV15.ext (by (repeat (first | with_reducible assumption | with_reducible exact Below.refl _ _ | with_reducible refine Below.setCell ?_ (by first | omega | (simp; done) | (simp; omega)) _ | with_reducible refine Below.alloc ?_ (by first | omega | (simp; done) | (simp; omega)) _ | with_reducible refine below_drewN ?_ _ | with_reducible refine Below.drew ?_ | with_reducible refine Below.trans ?_ (Below.mono hb13 (by first | omega | (simp; done) | (simp; omega))) | with_reducible refine Below.trans ?_ (Below.mono hb12 (by first | omega | (simp; done) | (simp; omega))) | with_reducible refine Below.trans ?_ (Below.mono hb11 (by first | omega | (simp; done) | (simp; omega))) | with_reducible refine Below.trans ?_ (Below.mono hb10 (by first | omega | (simp; done) | (simp; omega))))))))
          go_wp2_with fail
          go_ret
          exact ⟨rfl, hbe⟩
end Go.Proofs.YtnejngpdplhbhaaDoor
