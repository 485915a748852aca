/- Places that are drawn. -/
import Derived.Test.YtgfbjpmbaibnoaaGreatDoorL8S
import Derived.Test.YtgfbjpmbaibnoaaGreatDoorAppGs
import Derived.Test.YtgfbjpmbaibnoaaGreatDoorDwPQ
import Derived.Deep.RegionLaw
namespace Go.Proofs.YtgfbjpmbaibnoaaGreatDoor
set_option maxRecDepth 100000
set_option linter.unusedSimpArgs false
set_option linter.unusedVariables false
open Go.RowKit
attribute [local go_sem] bs_toList bs_get bs_size

theorem Gt.cell_at {α : Type} {row : α → List Value} {k B : Nat} {t : TypeId} {w : World} {g n c : Nat} {m : List α} (hk : ∀ s, (row s).length = k) (h : Gt row k t B w (.slice (some ⟨g, 0, none⟩) n c) m) {i : Nat} {s : α} (hi : m[i]? = some s) (j : Nat) {x : Value} (hx : (row s)[j]? = some x) : w.cell? ⟨g, i * k + j, none⟩ = some x := by
  have := h.cells (i * k + j) x (flat_at' hk m i s hi j x hx)
  rwa [Addr.add_lit, Nat.zero_add] at this
theorem sg_own {B : Nat} {w : World} {g n c : Nat} {m : List Sg} (h : GtG B w (.slice (some ⟨g, 0, none⟩) n c) m) {i : Nat} {x y z t : Int} (hi : m[i]? = some ((x, y), (z, t))) : w.cell? ⟨g, i * 4, none⟩ = some (.int .i64 x) ∧ w.cell? ⟨g, i * 4 + 1, none⟩ = some (.int .i64 y) ∧ w.cell? ⟨g, i * 4 + 2, none⟩ = some (.int .i64 z) ∧ w.cell? ⟨g, i * 4 + 3, none⟩ = some (.int .i64 t) :=
  ⟨Gt.cell_at (row := sgRow) (k := 4) (fun _ => rfl) h hi 0 rfl, Gt.cell_at (row := sgRow) (k := 4) (fun _ => rfl) h hi 1 rfl, Gt.cell_at (row := sgRow) (k := 4) (fun _ => rfl) h hi 2 rfl, Gt.cell_at (row := sgRow) (k := 4) (fun _ => rfl) h hi 3 rfl⟩
theorem bl_grown {w w' : World} (h : Below w.heap.size w w') (r : Option Nat) : w.grownBy w' r := ⟨h.os, h.tape, h.output, h.size, fun k hk _ => h.block k hk⟩
def DrewG (rb p q : Nat) (w : World) (e : Ending) (w' : World) : Prop := ∃ (u : Value) (l : List Sg) (p' : Nat), e = .returned u ∧ GtG w.heap.size w' u l ∧ l.length ≤ 1200 ∧ Rd w' rb p' ∧ p' ≤ p + q ∧ w.grownBy w' (some rb)
set_option maxHeartbeats 4000000 in
theorem l8Bent_any (rb p : Nat) (w : World) (h : Rd w rb p) (hp : p + 1700 ≤ 1000000) : Calls Tryz.prog 109 #[.pointer (some ⟨rb, 0, none⟩)] w (DrewG rb p 1620 w) := by
  have hrb := h.lt
  go_enter Tryz.func109, Tryz.ntmps109
  go_wp2_with fail
  refine (l6Prog_any rb _ _ h (by omega)).mono ?_
  rintro r wr ⟨u, l, p1, rfl, hS, hN, hl, hR1, hp1, hg1⟩
  have hz1 := hg1.size
  go_wp2_with fail
  refine (spEmitSegs_any l (by omega) u wr hS.sms).mono ?_
  rintro r w2 ⟨u2, m, rfl, hG2, hm, hb2⟩
  have hR2 : Rd w2 rb p1 := hR1.grown (bl_grown hb2 none) (fun q e => by cases e)
  have hg2 := grown_tr hg1 (bl_grown hb2 (some rb))
  have hz2 := hg2.size
  have hG2 := hG2.less hz1
  have hml : m.length ≤ 1170 := by omega
  clear hS hN hR1 hg1 hb2 hm h
  by_cases h0 : m.length = 0
  · obtain ⟨A, c, rfl, _, _⟩ := hG2.val
    have HG := Lib.hid (And.intro hG2 (And.intro hR2 hg2))
    clear hG2 hR2 hg2
    rw [h0]
    go_wp2_with fail
    go_ret
    exact ⟨_, m, p1, rfl, by rw [← h0]; exact HG.out.1, by omega, HG.out.2.1, by omega, HG.out.2.2⟩
  have hpos : 0 < m.length := by omega
  obtain ⟨g, cap, rfl, hgl, hgh⟩ := hG2.block hpos
  have hne : ((m.length : Nat) : Int) ≠ 0 := by omega
  have HG2 := Lib.hid (And.intro hG2 hg2)
  clear hG2 hg2
  go_wp2_with fail
  refine (pick_any rb _ m.length _ hR2 (by omega) (by omega) (by omega)).mono ?_
  rintro r w3 ⟨k3, rfl, hk3, hk3', hR3, hg3⟩
  obtain ⟨k, rfl⟩ := Int.eq_ofNat_of_zero_le hk3
  have hkm : k < m.length := by omega
  clear hk3 hk3' hR2
  have HG3 := Lib.hid hg3
  clear hg3
  go_wp2_with fail
  refine (pick_any rb _ 30 _ hR3 (by omega) (by omega) (by omega)).mono ?_
  rintro r w4 ⟨k4, rfl, hk4, hk4', hR4, hg4⟩
  have hG4 := (HG2.out.1.gr HG3.out hrb).gr hg4 hrb
  have hgw4 := grown_tr (grown_tr HG2.out.2 HG3.out) hg4
  have hz4 := hgw4.size
  have hg := List.getElem?_eq_getElem hkm
  obtain ⟨⟨⟨a, b⟩, ⟨c, d⟩⟩, hs⟩ : ∃ s, s = m[k] := ⟨_, rfl⟩
  rw [← hs] at hg
  clear hs hk4 hk4' hg4 HG2 HG3 hR3
  have hp4 : p1 + 1 + 1 ≤ 1000000 := by omega
  by_cases e0 : k4 = 0
  · subst e0
    have HX := Lib.hid (And.intro hG4 hgw4)
    clear hG4 hgw4
    go_wp2_with fail
    refine (num_any rb _ w4.heap.size [-1, 120, 3] _ (hR4.alloc _) hp4 (by simp) (by simp) (by omega) (Blk.new _ _ _)).mono ?_
    rintro r w5 ⟨n5, rfl, hR5, hg5⟩
    have hgw5 : w4.grownBy w5 (some rb) := by (repeat (first | with_reducible assumption | with_reducible exact grown_rfl _ _ | with_reducible refine grown_al ?_ _ | with_reducible refine grown_sn ?_ (by first | omega | (simp; done) | (simp; omega)) _ _ | with_reducible refine grown_dr ?_ | with_reducible refine grown_tr ?_ hg5))
    have hG5 := HX.out.1.gr hgw5 hrb
    have c0 := (sg_own hG5 hg).2.1
    have z0 := hG5.frozen (k * 4 + 1)
    have hz5 := hgw5.size
    have hG6 := Gt.set (row := sgRow) (k := 4) (fun _ => rfl) hG5 rfl hg (s' := ((a, n5), (c, d))) (j := 1) (by decide) (x := .int .i64 n5) rfl rfl
    have hR6 := hR5.setN (b := g) (by omega) (k * 4 + 1) (.int .i64 n5)
    have hg6 := grown_sn (grown_tr HX.out.2 hgw5) (b := g) hgl (k * 4 + 1) (.int .i64 n5)
    have HY := Lib.hid (And.intro hG6 (And.intro hR6 hg6))
    clear hG5 hgw5 hG6 hR6 hg6 hg5 hR5
    go_wp2_with fail
    go_ret
    exact ⟨_, _, _, rfl, HY.out.1, by simp; omega, HY.out.2.1, by omega, HY.out.2.2⟩
  have d0 : (k4 == 0) = false := by simpa using e0
  by_cases e1 : k4 = 1
  · subst e1
    have HX := Lib.hid (And.intro hG4 hgw4)
    clear hG4 hgw4
    go_wp2_with fail
    refine (num_any rb _ w4.heap.size [-1, 16, 0] _ (hR4.alloc _) hp4 (by simp) (by simp) (by omega) (Blk.new _ _ _)).mono ?_
    rintro r w5 ⟨n5, rfl, hR5, hg5⟩
    have hgw5 : w4.grownBy w5 (some rb) := by (repeat (first | with_reducible assumption | with_reducible exact grown_rfl _ _ | with_reducible refine grown_al ?_ _ | with_reducible refine grown_sn ?_ (by first | omega | (simp; done) | (simp; omega)) _ _ | with_reducible refine grown_dr ?_ | with_reducible refine grown_tr ?_ hg5))
    have hG5 := HX.out.1.gr hgw5 hrb
    have c0 := (sg_own hG5 hg).2.2.1
    have z0 := hG5.frozen (k * 4 + 2)
    have hz5 := hgw5.size
    have hG6 := Gt.set (row := sgRow) (k := 4) (fun _ => rfl) hG5 rfl hg (s' := ((a, b), (n5, d))) (j := 2) (by decide) (x := .int .i64 n5) rfl rfl
    have hR6 := hR5.setN (b := g) (by omega) (k * 4 + 2) (.int .i64 n5)
    have hg6 := grown_sn (grown_tr HX.out.2 hgw5) (b := g) hgl (k * 4 + 2) (.int .i64 n5)
    have HY := Lib.hid (And.intro hG6 (And.intro hR6 hg6))
    clear hG5 hgw5 hG6 hR6 hg6 hg5 hR5
    go_wp2_with fail
    go_ret
    exact ⟨_, _, _, rfl, HY.out.1, by simp; omega, HY.out.2.1, by omega, HY.out.2.2⟩
  have d1 : (k4 == 1) = false := by simpa using e1
  by_cases e2 : k4 = 2
  · subst e2
    obtain ⟨c0, c1, c2, c3⟩ := sg_own hG4 hg
    have HX := Lib.hid (And.intro hG4 (And.intro hgw4 hR4))
    clear hG4 hgw4 hR4
    go_wp2_with (first
      | (at_builtin; refine app_plain rtSg (by rfl) (.tmp 40) (.tmp 45) (by rfl) w.heap.size (.slice (some ⟨g, 0, none⟩) m.length cap) m (by rfl) (HX.out.1.ext (by (repeat (first | with_reducible assumption | with_reducible exact Below.refl _ _ | with_reducible refine Below.setCell ?_ (by first | omega | (simp; done) | (simp; omega)) _ | with_reducible refine Below.alloc ?_ (by first | omega | (simp; done) | (simp; omega)) _ | with_reducible refine below_drewN ?_ _ | with_reducible refine Below.drew ?_)))) ⟨w4.heap.size, 0, none⟩ 1 [((a, b), (c, d))] (by rfl) (news_sg (by simp)) Nat.zero_lt_one (by simp; omega) (by simp; omega) ?_; intro g6 cap6 w6 hG6 hgr6 hat6)
      | fail)
    have HY := Lib.hid (And.intro hG6 hgr6)
    clear hG6 hgr6 hat6
    go_ret
    exact ⟨_, m ++ [((a, b), (c, d))], _, rfl, HY.out.1, by simp; omega, (HX.out.2.2.alloc _).grown HY.out.2 (fun q e => by simp [Value.ownBlock] at e; omega), by omega, grown_app (grown_al HX.out.2.1 _) HY.out.2 (fun q e => by simp [Value.ownBlock] at e; omega)⟩
  have d2 : (k4 == 2) = false := by simpa using e2
  have HX := Lib.hid (And.intro hG4 (And.intro hgw4 hR4))
  clear hG4 hgw4 hR4
  go_wp2_with fail
  go_ret
  exact ⟨_, m, _, rfl, HX.out.1, by omega, HX.out.2.2, by omega, HX.out.2.1⟩
end Go.Proofs.YtgfbjpmbaibnoaaGreatDoor


/- Places that are drawn: the drawers. -/
namespace Go.Proofs.YtgfbjpmbaibnoaaGreatDoor
set_option maxRecDepth 100000
set_option linter.unusedSimpArgs false
set_option linter.unusedVariables false
open Go.RowKit
attribute [local go_sem] bs_toList bs_get bs_size

def DrewM (w : World) (e : Ending) (w' : World) : Prop := ∃ (u : Value) (m : List Sg), e = .returned u ∧ GtG w.heap.size w' u m ∧ m.length ≤ 1200 ∧ Below w.heap.size w w'
def DrewMP (w : World) (e : Ending) (w' : World) : Prop := ∃ (u : Value) (m : List Sg) (a b : Int), e = .returned (.tuple #[u, .agg #[.int .i64 a, .int .i64 b]]) ∧ GtG w.heap.size w' u m ∧ m.length ≤ 1200 ∧ Below w.heap.size w w'
def DrewM2 (w : World) (e : Ending) (w' : World) : Prop := ∃ (u u2 : Value) (m m2 : List Sg), e = .returned (.tuple #[u, u2]) ∧ GtG w.heap.size w' u m ∧ GtG w.heap.size w' u2 m2 ∧ m.length ≤ 1200 ∧ m2.length ≤ 1200 ∧ Below w.heap.size w w'
set_option maxHeartbeats 1000000 in
theorem l9Pos_any (rb p : Nat) (w : World) (h : Rd w rb p) (hp : p + 4 ≤ 1000000) : Calls Tryz.prog 111 #[.pointer (some ⟨rb, 0, none⟩)] w fun e w' => ∃ (a b : Int) (p' : Nat), e = .returned (.agg #[.int .i64 a, .int .i64 b]) ∧ Rd w' rb p' ∧ p' ≤ p + 4 ∧ w.grownBy w' (some rb) := by
  have hrb := h.lt
  go_enter Tryz.func111, Tryz.ntmps111
  go_upto_region 1 with fail
  generalize hW : World.alloc w _ = W1
  have hB1 : Blk W1 w.heap.size 68 #[.int .i64 0, .int .i64 0] := by rw [← hW]; exact Blk.new _ _ _
  have hR1 : Rd W1 rb p := by rw [← hW]; exact h.alloc _
  have hg1 : w.grownBy W1 (some rb) := by rw [← hW]; exact grown_al (grown_rfl _ _) _
  clear hW h
  go_wp2_with fail
  refine (pick_any rb _ 7 _ hR1 (by omega) (by omega) (by omega)).mono ?_
  rintro r w2 ⟨k2, rfl, hk2, hk2', hR2, hg2⟩
  go_wp2_with fail
  refine (pick_any rb _ 9 _ hR2 (by omega) (by omega) (by omega)).mono ?_
  rintro r w3 ⟨k3, rfl, hk3, hk3', hR3, hg3⟩
  go_wp2_with fail
  refine (pick_any rb _ 20 _ hR3 (by omega) (by omega) (by omega)).mono ?_
  rintro r w4 ⟨k4, rfl, hk4, hk4', hR4, hg4⟩
  go_wp2_with fail
  refine (pick_any rb _ 9 _ hR4 (by omega) (by omega) (by omega)).mono ?_
  rintro r w5 ⟨k5, rfl, hk5, hk5', hR5, hg5⟩
  have hne : w.heap.size ≠ rb := by omega
  have hB5 := blk_gr (blk_gr (blk_gr (blk_gr hB1 hg2 hne) hg3 hne) hg4 hne) hg5 hne
  have hgw := grown_tr (grown_tr (grown_tr (grown_tr hg1 hg2) hg3) hg4) hg5
  have c0 := hB5.cell 0
  have c1 := hB5.cell 1
  have z0 := hB5.frozen 0
  have z1 := hB5.frozen 1
  simp at c0 c1
  have HX := Lib.hid (And.intro hR5 hgw)
  clear hB1 hB5 hgw hg1 hg2 hg3 hg4 hg5 hR1 hR2 hR3 hR4 hR5
  go_wp2_with fail
  refine bodyPost_ret (v := .agg #[.int .i64 (k2 - k3 / 8), .int .i64 (k4 - k5 / 8)]) (by simp [results, Tryz.results111, go_sem, *]) rfl ?_
  exact ⟨_, _, _, rfl, (HX.out.1.setN (b := w.heap.size) (by omega) 0 _).setN (b := w.heap.size) (by omega) 1 _, by omega, grown_sn (grown_sn HX.out.2 (b := w.heap.size) (Nat.le_refl _) 0 _) (b := w.heap.size) (Nat.le_refl _) 1 _⟩
set_option maxHeartbeats 1000000 in
theorem drawLook_any (v : Value) (l : List Int) (w : World) (hv : CodeV w v l) : Calls Tryz.prog 42 #[v] w (DrewMP w) := by
  have OP := Lib.hid (fun (w' : World) (h : Below w.heap.size w w') => l12Open_any v l w' ⟨(hv.1.below h (Nat.le_refl _)).more h.size, hv.2⟩)
  obtain ⟨A, c, rfl, hc, hm⟩ := hv.1.val
  clear hv
  go_enter Tryz.func42, Tryz.ntmps42
  go_upto_region 1 with fail
  generalize hW : World.alloc w _ = W1
  have hbW : Below w.heap.size w W1 := by rw [← hW]; (repeat (first | with_reducible assumption | with_reducible exact Below.refl _ _ | with_reducible refine Below.setCell ?_ (by first | omega | (simp; done) | (simp; omega)) _ | with_reducible refine Below.alloc ?_ (by first | omega | (simp; done) | (simp; omega)) _ | with_reducible refine below_drewN ?_ _ | with_reducible refine Below.drew ?_))
  have hB1 : Blk W1 w.heap.size 68 #[.int .i64 0, .int .i64 0] := by rw [← hW]; exact Blk.new _ _ _
  clear hW
  go_wp2_with fail
  refine (OP.out _ hbW).mono ?_
  rintro r w1 ⟨rfl, hR, hb1⟩
  have hr1 := hR.lt
  have hlt := hB1.lt
  have hB1' := hB1.below hb1 hlt
  have hbw1 := hbW.ext hb1
  go_wp2_with fail
  refine (l8Bent_any _ _ _ hR (by omega)).mono ?_
  rintro r w2 ⟨u, m, p2, rfl, hG, hml, hR2, hp2, hg2⟩
  have hB2 := blk_gr hB1' hg2 (by omega)
  have hz := hb1.size
  have hz2 := hg2.size
  have hbw2 : Below w.heap.size w w2 := hbw1.trans (below_of_grown hg2 (by omega) hr1)
  have hGw := hG.less (B' := W1.heap.size + 1) (by omega)
  clear hG hg2 hb1 hR hB1 hB1' hbW hbw1
  have HX := Lib.hid (And.intro hGw (And.intro hB2 hbw2))
  have hrb2 := hR2.lt
  by_cases h0 : m.length = 0
  · obtain rfl : m = [] := List.length_eq_zero_iff.1 h0
    obtain ⟨Au, cu, rfl, _, _⟩ := hGw.val
    have hRt := hR2
    clear hGw hB2 hbw2 hR2 h0
    go_wp2_with fail
    refine (l9Pos_any _ _ _ hRt (by omega)).mono ?_
    rintro r wt ⟨ta, tb, pt, rfl, hRe, hpe, hge⟩
    have hBt := blk_gr HX.out.2.1 hge (by omega)
    have hGt := (HX.out.1).gr hge (by omega)
    have hbe : Below w.heap.size w wt := (HX.out.2.2).trans (below_of_grown hge (by omega) hRt.lt)
    have t0 := hBt.cell 0
    have t1 := hBt.cell 1
    have y0 := hBt.frozen 0
    have y1 := hBt.frozen 1
    simp at t0 t1
    have HE := Lib.hid (And.intro hGt hbe)
    clear hBt hRe hge hRt hGt hbe
    go_wp2_with fail
    refine bodyPost_ret (v := .tuple #[_, .agg #[.int .i64 ta, .int .i64 tb]]) (by simp [results, Tryz.results42, go_sem, *]; rfl) rfl ?_
    have hbe := HE.out.2
    exact ⟨_, _, ta, tb, rfl, (HE.out.1.gr (by (repeat (first | with_reducible assumption | with_reducible exact grown_rfl _ _ | with_reducible refine grown_st ?_ _ _ | with_reducible refine grown_al ?_ _))) (show w.heap.size < W1.heap.size + 1 by omega)).less (by omega), hml, by (repeat (first | with_reducible assumption | with_reducible exact Below.refl _ _ | with_reducible refine Below.setCell ?_ (by first | omega | (simp; done) | (simp; omega)) _ | with_reducible refine Below.alloc ?_ (by first | omega | (simp; done) | (simp; omega)) _ | with_reducible refine below_drewN ?_ _ | with_reducible refine Below.drew ?_ | with_reducible refine Below.trans ?_ (Below.mono hbe (by first | omega | (simp; done) | (simp; omega)))))⟩
  have hpos : 0 < m.length := by omega
  have hd : decide ((0 : Int) < ((m.length : Nat) : Int)) = true := by rw [decide_eq_true_eq]; omega
  obtain ⟨g, cap, rfl, hgl, hgh⟩ := hGw.block hpos
  clear hGw hB2 hbw2 h0
  go_wp2_with fail
  refine (pick_any _ _ 3 _ hR2 (by omega) (by omega) (by omega)).mono ?_
  rintro r w3 ⟨k3, rfl, hk3, hk3', hR3, hg3⟩
  have hB3 := blk_gr HX.out.2.1 hg3 (by omega)
  have hG3 := HX.out.1.gr hg3 (by omega)
  have hbw3 : Below w.heap.size w w3 := HX.out.2.2.trans (below_of_grown hg3 (by omega) hrb2)
  have hz3 := hg3.size
  have HY := Lib.hid (And.intro hG3 (And.intro hB3 hbw3))
  clear hG3 hB3 hbw3 hg3 hR2 HX hd
  by_cases hk0 : k3 = 0
  rotate_left
  · have hRt := hR3
    clear hR3
    skip
    go_wp2_with fail
    refine (l9Pos_any _ _ _ hRt (by omega)).mono ?_
    rintro r wt ⟨ta, tb, pt, rfl, hRe, hpe, hge⟩
    have hBt := blk_gr HY.out.2.1 hge (by omega)
    have hGt := (HY.out.1).gr hge (by omega)
    have hbe : Below w.heap.size w wt := (HY.out.2.2).trans (below_of_grown hge (by omega) hRt.lt)
    have t0 := hBt.cell 0
    have t1 := hBt.cell 1
    have y0 := hBt.frozen 0
    have y1 := hBt.frozen 1
    simp at t0 t1
    have HE := Lib.hid (And.intro hGt hbe)
    clear hBt hRe hge hRt hGt hbe
    go_wp2_with fail
    refine bodyPost_ret (v := .tuple #[_, .agg #[.int .i64 ta, .int .i64 tb]]) (by simp [results, Tryz.results42, go_sem, *]; rfl) rfl ?_
    have hbe := HE.out.2
    exact ⟨_, _, ta, tb, rfl, (HE.out.1.gr (by (repeat (first | with_reducible assumption | with_reducible exact grown_rfl _ _ | with_reducible refine grown_st ?_ _ _ | with_reducible refine grown_al ?_ _))) (show w.heap.size < W1.heap.size + 1 by omega)).less (by omega), hml, by (repeat (first | with_reducible assumption | with_reducible exact Below.refl _ _ | with_reducible refine Below.setCell ?_ (by first | omega | (simp; done) | (simp; omega)) _ | with_reducible refine Below.alloc ?_ (by first | omega | (simp; done) | (simp; omega)) _ | with_reducible refine below_drewN ?_ _ | with_reducible refine Below.drew ?_ | with_reducible refine Below.trans ?_ (Below.mono hbe (by first | omega | (simp; done) | (simp; omega)))))⟩
  · go_upto_region 4 with fail
    go_region_law
      (first
        | (go_simp; go_at_call 110; refine (pick_any W1.heap.size _ m.length w3.drew hR3.drew (by omega) (by omega) (by omega)).mono ?_; rintro r w5 ⟨k5, rfl, hk5, hk5', hR5, hg5⟩; obtain ⟨k, rfl⟩ := Int.eq_ofNat_of_zero_le hk5; have hkm : k < m.length := (by omega); have hg := List.getElem?_eq_getElem hkm; obtain ⟨⟨⟨a, b⟩, ⟨c, d⟩⟩, hs⟩ : ∃ s, s = m[k] := ⟨_, rfl⟩; rw [← hs] at hg; clear hs; have hgw5 : w3.grownBy w5 (some W1.heap.size) := (by (repeat (first | with_reducible assumption | with_reducible exact grown_rfl _ _ | with_reducible refine grown_al ?_ _ | with_reducible refine grown_sn ?_ (by first | omega | (simp; done) | (simp; omega)) _ _ | with_reducible refine grown_dr ?_ | with_reducible refine grown_tr ?_ hg5))); obtain ⟨c0, c1, c2, c3⟩ := sg_own (HY.out.1.gr hgw5 (by omega)) hg; have hB5 := blk_gr HY.out.2.1 hgw5 (by omega); have t0 := hB5.cell 0; have t1 := hB5.cell 1; have y0 := hB5.frozen 0; have y1 := hB5.frozen 1; simp at t0 t1; have HE := Lib.hid (And.intro (HY.out.1.gr hgw5 (by omega)) (HY.out.2.2.trans (below_of_grown hgw5 (by omega) hR3.lt))); clear hB5 hgw5 hg5 hR5)
        | fail)
    all_goals
      go_wp2_with fail
      refine bodyPost_ret (v := .tuple #[_, .agg #[.int .i64 a, .int .i64 b]]) (by simp [results, Tryz.results42, go_sem, *]; rfl) rfl ?_
      have hbe := HE.out.2
      exact ⟨_, _, a, b, rfl, (HE.out.1.gr (by (repeat (first | with_reducible assumption | with_reducible exact grown_rfl _ _ | with_reducible refine grown_st ?_ _ _ | with_reducible refine grown_al ?_ _))) (show w.heap.size < W1.heap.size + 1 by omega)).less (by omega), hml, by (repeat (first | with_reducible assumption | with_reducible exact Below.refl _ _ | with_reducible refine Below.setCell ?_ (by first | omega | (simp; done) | (simp; omega)) _ | with_reducible refine Below.alloc ?_ (by first | omega | (simp; done) | (simp; omega)) _ | with_reducible refine below_drewN ?_ _ | with_reducible refine Below.drew ?_ | with_reducible refine Below.trans ?_ (Below.mono hbe (by first | omega | (simp; done) | (simp; omega)))))⟩
end Go.Proofs.YtgfbjpmbaibnoaaGreatDoor
