
/- The law FnExactExprBare: the walk. -/
import Derived.Test.YtgoobhmbfjimoaaDoorBareW
namespace Go.Proofs.YtgoobhmbfjimoaaDoor
set_option maxRecDepth 100000
set_option linter.unusedSimpArgs false
set_option linter.unusedVariables false
open Go.RowKit
attribute [local go_sem] bs_toList bs_get bs_size

theorem ExV.form4 {w : World} {B : Nat} {v : Value} {x : Ex} (h : ExV w B v x) : ∃ A c, v = .agg #[.int .i64 x.kind, .int .i64 x.n, .string (bs x.s), .slice A x.kids.length c] ∧ x.kids.length ≤ c ∧ c ≤ 9223372036854775807 ∧ x.s.length ≤ 9223372036854775807 ∧ ExS w B (.slice A x.kids.length c) x.kids := by
  obtain ⟨kv, rfl, h1, h2⟩ := id h
  obtain ⟨A, c, rfl, h3, h4⟩ := h2.val
  exact ⟨A, c, rfl, h3, h4, h1, h2⟩
theorem Blk.foot {w w' : World} {g : Nat} {t : TypeId} {cs : Array Value} {bl : List Nat} (h : Blk w g t cs) (hF : Foot w w' bl) (hn : g ∉ bl) : Blk w' g t cs := (hF.2.2.2.2 g h.lt hn).trans h
def xcs (x : Ex) (A : Option Addr) (c : Nat) : Array Value := #[.int .i64 x.kind, .int .i64 x.n, .string (bs x.s), .slice A x.kids.length c]
set_option maxHeartbeats 2000000 in
theorem lawExprBare (W : World) (v : Value) (x : Ex) (hv : ExV W W.heap.size v x) (hE : Env W) : Calls Tryd.prog 3 #[v] W fun e w' => e = .returned (.bool true) ∧ Below W.heap.size W w' := by
  obtain ⟨A, c, rfl, hcA, hcm, hsx, hvk⟩ := hv.form4
  have SZ := Lib.hid (fun (w' : World) (h : Below W.heap.size W w') => szExpr_any x _ w' 1048576 (by omega) (by omega) ((hv.keep h (Nat.le_refl _)).more h.size))
  by_cases h1 : x.wt ≤ 1048576
  rotate_left
  · have e1 : szOut 1048576 x.wt = -1 := szOut_no (by omega)
    rw [e1] at SZ
    clear e1 h1 hE hv hvk
    go_enter Tryd.func3, Tryd.ntmps3
    go_wp2_with fail
    refine (SZ.out _ (by (repeat (first | with_reducible assumption | with_reducible exact Below.refl _ _ | with_reducible refine Below.setCell ?_ (by first | omega | (simp; done) | (simp; omega)) _ | with_reducible refine Below.alloc ?_ (by first | omega | (simp; done) | (simp; omega)) _ | with_reducible refine below_drewN ?_ _ | with_reducible refine Below.drew ?_)))).mono ?_
    rintro r w1 ⟨rfl, hb1⟩
    go_wp2_with fail
    go_ret
    exact ⟨rfl, by (repeat (first | with_reducible assumption | with_reducible exact Below.refl _ _ | with_reducible refine Below.setCell ?_ (by first | omega | (simp; done) | (simp; omega)) _ | with_reducible refine Below.alloc ?_ (by first | omega | (simp; done) | (simp; omega)) _ | with_reducible refine below_drewN ?_ _ | with_reducible refine Below.drew ?_ | with_reducible refine Below.trans ?_ (Below.mono hb1 (by first | omega | (simp; done) | (simp; omega)))))⟩
  have e1 : szOut 1048576 x.wt = 1048576 - x.wt := szOut_yes (by omega)
  rw [e1] at SZ
  have TO := Lib.hid (fun (w' : World) (h : Below W.heap.size W w') => toExpr_any x _ w' h1 ((hv.keep h (Nat.le_refl _)).more h.size))
  have SP := Lib.hid (fun (w' : World) (u : Value) (hu : ExV w' w'.heap.size u x) => spExprBare_any x u w' hu)
  have IM := Lib.hid (fun (w' : World) (u : Value) (hu : ExV w' w'.heap.size u x) (h : Below W.heap.size W w') => imExprBare_any x u w' hu (hE.ext h))
  have hnx : ndL x.kids ≤ 1048576 := by
    have h2 := ndL_le x.kids
    have e1 : x.wt = x.s.length + wtL x.kids := by cases x; exact Ex.wt_mk ..
    omega
  have hny := bareX_nd x
  generalize bareX x = y at *
  have hw0 : (0 : Int) ≤ 1048576 - (x.wt : Int) := by omega
  clear e1 h1 hE hv hvk
  go_enter Tryd.func3, Tryd.ntmps3
  go_wp2_with fail
  refine (SZ.out _ (by (repeat (first | with_reducible assumption | with_reducible exact Below.refl _ _ | with_reducible refine Below.setCell ?_ (by first | omega | (simp; done) | (simp; omega)) _ | with_reducible refine Below.alloc ?_ (by first | omega | (simp; done) | (simp; omega)) _ | with_reducible refine below_drewN ?_ _ | with_reducible refine Below.drew ?_)))).mono ?_
  rintro r w1 ⟨rfl, hb1⟩
  have hbw1 : Below W.heap.size W w1 := by (repeat (first | with_reducible assumption | with_reducible exact Below.refl _ _ | with_reducible refine Below.setCell ?_ (by first | omega | (simp; done) | (simp; omega)) _ | with_reducible refine Below.alloc ?_ (by first | omega | (simp; done) | (simp; omega)) _ | with_reducible refine below_drewN ?_ _ | with_reducible refine Below.drew ?_ | with_reducible refine Below.trans ?_ (Below.mono hb1 (by first | omega | (simp; done) | (simp; omega)))))
  have hX1 := (Blk.new W _ _).below hb1 (by simp)
  have hz1 := hX1.lt
  skip; have pa0 := hX1.cell 0; have pa1 := hX1.cell 1; have pa2 := hX1.cell 2; have pa3 := hX1.cell 3; simp at pa0 pa1 pa2 pa3
  clear SZ hb1
  go_wp2_with fail
  refine (TO.out _ hbw1).mono ?_
  rintro r w2 ⟨A2, c2, bl2, rfl, hO2, hOw2, hb2⟩
  skip; replace hX1 := hX1.below hb2 hX1.lt
  have hbw2 := hbw1.ext hb2
  have SP2 := Lib.hid (SP.out w2 _ ⟨_, rfl, hsx, hO2.exs⟩)
  clear hO2 hOw2 SP
  clear pa0 pa1 pa2 pa3
  go_wp2_with fail
  refine SP2.out.mono ?_
  rintro r w3 ⟨v3, rfl, hD3, hb3⟩
  skip; replace hX1 := hX1.below hb3 hX1.lt
  have hbw3 := hbw2.ext hb3
  have hz3 := hX1.lt
  have HW3 := Lib.hid (fun (w' : World) (h : Below w3.heap.size w3 w') => (hD3.exv.keep h (Nat.le_refl _)).more h.size)
  obtain ⟨A3, c3, rfl, hc3, hm3, hs3, hk3⟩ := hD3.exv.form4
  obtain ⟨V3, hV3⟩ : ∃ V, V = w3.alloc (.cells #[.int .i64 y.kind, .int .i64 y.n, .string (bs y.s), .slice A3 y.kids.length c3] 28) := ⟨_, rfl⟩
  have hX4 : Blk V3 w3.heap.size 28 #[.int .i64 y.kind, .int .i64 y.n, .string (bs y.s), .slice A3 y.kids.length c3] := by rw [hV3]; exact Blk.new _ _ _
  have hbV3 : Below w3.heap.size w3 V3 := by rw [hV3]; exact (Below.refl _ _).alloc (Nat.le_refl _) _
  have hzV3 : V3.heap.size = w3.heap.size + 1 := by rw [hV3]; simp
  skip; replace hX1 := hX1.below hbV3 hX1.lt
  have T3 := Lib.hid (TO.out V3 (hbw3.ext hbV3))
  rw [hV3] at T3
  clear hD3 hk3 SP2
  skip; have pa0 := hX1.cell 0; have pa1 := hX1.cell 1; have pa2 := hX1.cell 2; have pa3 := hX1.cell 3; simp at pa0 pa1 pa2 pa3
  have HP := Lib.hid (And.intro pa0 (And.intro pa1 (And.intro pa2 pa3)))
  clear pa0 pa1 pa2 pa3
  rw [hV3] at HP
  obtain ⟨pa0, pa1, pa2, pa3⟩ := HP.out
  go_wp2_with fail
  refine T3.out.mono ?_
  rw [← hV3]
  rintro r w5 ⟨A5, c5, bl5, rfl, hO5, hOw5, hb5⟩
  skip; replace hX1 := hX1.below hb5 hX1.lt; replace hX4 := hX4.below hb5 hX4.lt
  have hbw5 := (hbw3.ext hbV3).ext hb5
  have hz5 := hX4.lt
  obtain ⟨V5, hV5⟩ : ∃ V, V = w5.alloc (.cells #[.int .i64 x.kind, .int .i64 x.n, .string (bs x.s), .slice A5 x.kids.length c5] 28) := ⟨_, rfl⟩
  have hX5 : Blk V5 w5.heap.size 28 #[.int .i64 x.kind, .int .i64 x.n, .string (bs x.s), .slice A5 x.kids.length c5] := by rw [hV5]; exact Blk.new _ _ _
  have hbV5 : Below w5.heap.size w5 V5 := by rw [hV5]; exact (Below.refl _ _).alloc (Nat.le_refl _) _
  have hzV5 : V5.heap.size = w5.heap.size + 1 := by rw [hV5]; simp
  skip; replace hX1 := hX1.below hbV5 hX1.lt; replace hX4 := hX4.below hbV5 hX4.lt
  have hbv5 := hbw5.ext hbV5
  have hb35 : Below w3.heap.size w3 V5 := (hbV3.ext hb5).ext hbV5
  have hO5' := hO5.ext hbV5
  have IM6 := Lib.hid (IM.out V5 _ ⟨_, rfl, hsx, hO5'.exs⟩ hbv5)
  have HO5 := Lib.hid (And.intro hO5' hOw5)
  clear hO5 hO5' hOw5 T3 HP
  clear pa0 pa1 pa2 pa3
  skip; have pa0 := hX5.cell 0; have pa1 := hX5.cell 1; have pa2 := hX5.cell 2; have pa3 := hX5.cell 3; simp at pa0 pa1 pa2 pa3
  rw [hV5] at IM6 pa0 pa1 pa2 pa3
  go_wp2_with fail
  refine IM6.out.mono ?_
  rw [← hV5]
  rintro r w7 ⟨v7, rfl, hM7, hb7⟩
  skip; replace hX1 := hX1.below hb7 hX1.lt; replace hX4 := hX4.below hb7 hX4.lt; replace hX5 := hX5.below hb7 hX5.lt
  have hbw7 := hbv5.ext hb7
  have hz7 := hX5.lt
  obtain ⟨kv, bl7, rfl, hs7, hO7, hOw7⟩ := hM7
  obtain ⟨A7, c7, rfl, hc7, hm7⟩ := hO7.exs.val
  obtain ⟨V7, hV7⟩ : ∃ V, V = w7.alloc (.cells #[.int .i64 y.kind, .int .i64 y.n, .string (bs y.s), .slice A7 y.kids.length c7] 28) := ⟨_, rfl⟩
  have hX7 : Blk V7 w7.heap.size 28 #[.int .i64 y.kind, .int .i64 y.n, .string (bs y.s), .slice A7 y.kids.length c7] := by rw [hV7]; exact Blk.new _ _ _
  have hbV7 : Below w7.heap.size w7 V7 := by rw [hV7]; exact (Below.refl _ _).alloc (Nat.le_refl _) _
  have hzV7 : V7.heap.size = w7.heap.size + 1 := by rw [hV7]; simp
  skip; replace hX1 := hX1.below hbV7 hX1.lt; replace hX4 := hX4.below hbV7 hX4.lt; replace hX5 := hX5.below hbV7 hX5.lt
  have hbv7 := hbw7.ext hbV7
  have hb37 : Below w3.heap.size w3 V7 := (hb35.ext hb7).ext hbV7
  have hO7' := hO7.ext hbV7
  have EQ8 := Lib.hid (eqExpr_any y y _ _ V7 ⟨_, rfl, hs7, hO7'.exs⟩ (HW3.out V7 hb37))
  rw [decide_eq_true (rfl : y = y)] at EQ8
  have HO7 := Lib.hid (And.intro hO7' hOw7)
  clear hO7 hO7' hOw7 IM6
  clear pa0 pa1 pa2 pa3
  skip; have pa0 := hX4.cell 0; have pa1 := hX4.cell 1; have pa2 := hX4.cell 2; have pa3 := hX4.cell 3; simp at pa0 pa1 pa2 pa3; have pb0 := hX7.cell 0; have pb1 := hX7.cell 1; have pb2 := hX7.cell 2; have pb3 := hX7.cell 3; simp at pb0 pb1 pb2 pb3
  rw [hV7] at EQ8 pa0 pa1 pa2 pa3 pb0 pb1 pb2 pb3
  go_wp2_with fail
  refine EQ8.out.mono ?_
  rw [← hV7]
  rintro r w8 ⟨rfl, hb8⟩
  skip; replace hX1 := hX1.below hb8 hX1.lt; replace hX4 := hX4.below hb8 hX4.lt; replace hX5 := hX5.below hb8 hX5.lt; replace hX7 := hX7.below hb8 hX7.lt
  have hbw8 := hbv7.ext hb8
  have hb38 := hb37.ext hb8
  have HO5 := Lib.hid (And.intro (HO5.out.1.ext ((hb7.ext hbV7).ext hb8)) HO5.out.2)
  have HO7 := Lib.hid (And.intro (HO7.out.1.ext hb8) HO7.out.2)
  clear EQ8
  clear pa0 pa1 pa2 pa3 pb0 pb1 pb2 pb3
  have EQ10 := Lib.hid (fun (w' : World) (u : Value) (h : Below w8.heap.size w8 w') (hu : ExV w' w'.heap.size u x) => eqExpr_any x x _ u w' ⟨_, rfl, hsx, (HO5.out.1.ext h).exs⟩ hu)
  have BX := Lib.hid (And.intro hX1 hX5)
  have hz8 := hX7.lt
  have KEEP := Lib.hid (show ∀ w' : World, Below w8.heap.size w8 w' → ((w'.cell? ⟨w5.heap.size, 0, none⟩ = some (.int .i64 x.kind) ∧ w'.cell? ⟨w5.heap.size, 1, none⟩ = some (.int .i64 x.n) ∧ w'.cell? ⟨w5.heap.size, 2, none⟩ = some (.string (bs x.s)) ∧ w'.cell? ⟨w5.heap.size, 3, none⟩ = some (.slice A5 x.kids.length c5)) ∧
    (w'.cell? ⟨W.heap.size, 0, none⟩ = some (.int .i64 x.kind) ∧ w'.cell? ⟨W.heap.size, 1, none⟩ = some (.int .i64 x.n) ∧ w'.cell? ⟨W.heap.size, 2, none⟩ = some (.string (bs x.s)) ∧ w'.cell? ⟨W.heap.size, 3, none⟩ = some (.slice A x.kids.length c))) from fun w' h => by
    have h1 := BX.out.1.below h BX.out.1.lt
    have h5 := BX.out.2.below h BX.out.2.lt
    exact ⟨⟨h5.cell 0, h5.cell 1, h5.cell 2, h5.cell 3⟩, h1.cell 0, h1.cell 1, h1.cell 2, h1.cell 3⟩)
  have HX := Lib.hid (And.intro hX1 (And.intro hX4 (And.intro hX5 hX7)))
  clear hX1 hX4 hX5 hX7
  go_wp2_with fail
  go_region_held3 (fun w' => ((w'.cell? ⟨w5.heap.size, 0, none⟩ = some (.int .i64 x.kind) ∧ w'.cell? ⟨w5.heap.size, 1, none⟩ = some (.int .i64 x.n) ∧ w'.cell? ⟨w5.heap.size, 2, none⟩ = some (.string (bs x.s)) ∧ w'.cell? ⟨w5.heap.size, 3, none⟩ = some (.slice A5 x.kids.length c5)) ∧
    (w'.cell? ⟨W.heap.size, 0, none⟩ = some (.int .i64 x.kind) ∧ w'.cell? ⟨W.heap.size, 1, none⟩ = some (.int .i64 x.n) ∧ w'.cell? ⟨W.heap.size, 2, none⟩ = some (.string (bs x.s)) ∧ w'.cell? ⟨W.heap.size, 3, none⟩ = some (.slice A x.kids.length c))))
    (first | exact KEEP.out _ (by (repeat (first | with_reducible assumption | with_reducible exact Below.refl _ _ | with_reducible refine Below.setCell ?_ (by first | omega | (simp; done) | (simp; omega)) _ | with_reducible refine Below.alloc ?_ (by first | omega | (simp; done) | (simp; omega)) _ | with_reducible refine below_drewN ?_ _ | with_reducible refine Below.drew ?_ | with_reducible refine Below.trans ?_ (Below.mono hb10 (by first | omega | (simp; done) | (simp; omega))) | with_reducible refine Below.trans ?_ (Below.mono hb9 (by first | omega | (simp; done) | (simp; omega)))))) | go_keep)
    (first
      | (go_at_call 11; refine (TO.out _ (by (repeat (first | with_reducible assumption | with_reducible exact Below.refl _ _ | with_reducible refine Below.setCell ?_ (by first | omega | (simp; done) | (simp; omega)) _ | with_reducible refine Below.alloc ?_ (by first | omega | (simp; done) | (simp; omega)) _ | with_reducible refine below_drewN ?_ _ | with_reducible refine Below.drew ?_ | with_reducible refine Below.trans ?_ (Below.mono hbw8 (by first | omega | (simp; done) | (simp; omega))))))).mono ?_; rintro r w9 ⟨A9, c9, bl9, rfl, hO9, hOw9, hb9⟩; have hz9 := hb9.size; (try simp at hz9); have HV9 := Lib.hid (show ExV w9 w9.heap.size _ x from ⟨_, rfl, hsx, hO9.exs⟩); clear hO9 hOw9)
      | (go_at_call 13; refine (EQ10.out _ _ (by (repeat (first | with_reducible assumption | with_reducible exact Below.refl _ _ | with_reducible refine Below.setCell ?_ (by first | omega | (simp; done) | (simp; omega)) _ | with_reducible refine Below.alloc ?_ (by first | omega | (simp; done) | (simp; omega)) _ | with_reducible refine below_drewN ?_ _ | with_reducible refine Below.drew ?_ | with_reducible refine Below.trans ?_ (Below.mono hb9 (by first | omega | (simp; done) | (simp; omega)))))) HV9.out).mono ?_; rintro r w10 ⟨rfl, hb10⟩; have hz10 := hb10.size)
      | fail)
  all_goals
    (try rw [decide_eq_true (rfl : x = x)])
    have hb810 : Below w8.heap.size w8 w10 := by (repeat (first | with_reducible assumption | with_reducible exact Below.refl _ _ | with_reducible refine Below.setCell ?_ (by first | omega | (simp; done) | (simp; omega)) _ | with_reducible refine Below.alloc ?_ (by first | omega | (simp; done) | (simp; omega)) _ | with_reducible refine below_drewN ?_ _ | with_reducible refine Below.drew ?_ | with_reducible refine Below.trans ?_ (Below.mono hb10 (by first | omega | (simp; done) | (simp; omega))) | with_reducible refine Below.trans ?_ (Below.mono hb9 (by first | omega | (simp; done) | (simp; omega)))))
    have HM := Lib.hid (markExpr_any x A5 c5 bl5 w10 1 (HO5.out.1.ext hb810) HO5.out.2.2 (by omega) (by omega))
    obtain ⟨hX1, hX4, hX5, hX7⟩ := HX.out
    skip; replace hX1 := hX1.below hb810 hX1.lt; replace hX4 := hX4.below hb810 hX4.lt; replace hX5 := hX5.below hb810 hX5.lt; replace hX7 := hX7.below hb810 hX7.lt
    clear hb9 hb10 EQ10 KEEP BX HV9
    skip; have pa0 := hX5.cell 0; have pa1 := hX5.cell 1; have pa2 := hX5.cell 2; have pa3 := hX5.cell 3; simp at pa0 pa1 pa2 pa3
    go_wp2_with fail
    refine HM.out.mono ?_
    rintro r w11 ⟨rfl, m11, hO11, hmk11, hnm11, hlm11, hF11⟩
    have hbl5 : ∀ q ∈ bl5, V3.heap.size ≤ q ∧ q < w5.heap.size := HO5.out.2.1
    have hz10 := hX7.lt
    skip; replace hX1 := hX1.foot hF11 (fun hh => by have := hbl5 _ hh; omega); replace hX4 := hX4.foot hF11 (fun hh => by have := hbl5 _ hh; omega); replace hX5 := hX5.foot hF11 (fun hh => by have := hbl5 _ hh; omega); replace hX7 := hX7.foot hF11 (fun hh => by have := hbl5 _ hh; omega)
    have hbw11 : Below W.heap.size W w11 := (hbw8.ext hb810).trans (hF11.below (fun q hq => by have := hbl5 q hq; have := hbw3.size; omega) (hbw8.ext hb810).size)
    have hb311 : Below w3.heap.size w3 w11 := (hb38.ext hb810).trans (hF11.below (fun q hq => by have := hbl5 q hq; omega) (hb38.ext hb810).size)
    have hO7b : ExO 28 w11 (.slice A7 y.kids.length c7) y.kids bl7 := (HO7.out.1.ext hb810).same (fun q hq => hF11.2.2.2.2 q ((HO7.out.1.ext hb810).lt q hq) (fun hh => by have := hbl5 q hh; have := HO7.out.2.1 q hq; omega))
    have EQ11 := Lib.hid (eqExpr_any y y _ _ w11 ⟨_, rfl, hs7, hO7b.exs⟩ (HW3.out w11 hb311))
    rw [decide_eq_true (rfl : y = y)] at EQ11
    have HO7b := Lib.hid (And.intro hO7b HO7.out.2)
    have hnn : ¬ ((1 + 3 * ndL x.kids : Nat) : Int) < 0 := by omega
    have hnd : decide (((1 + 3 * ndL x.kids : Nat) : Int) < 0) = false := by simp; omega
    have HF11 := Lib.hid (And.intro hF11 (And.intro hbl5 (And.intro hnn hnd)))
    generalize ((1 + 3 * ndL x.kids : Nat) : Int) = kx at *
    clear hO7b hF11 hbl5 hO11 hmk11 hnm11 hlm11 HM HO5
    clear pa0 pa1 pa2 pa3
    skip; have pa0 := hX7.cell 0; have pa1 := hX7.cell 1; have pa2 := hX7.cell 2; have pa3 := hX7.cell 3; simp at pa0 pa1 pa2 pa3; have pb0 := hX4.cell 0; have pb1 := hX4.cell 1; have pb2 := hX4.cell 2; have pb3 := hX4.cell 3; simp at pb0 pb1 pb2 pb3
    go_wp2_with fail
    refine EQ11.out.mono ?_
    rintro r w12 ⟨rfl, hb12⟩
    skip; replace hX1 := hX1.below hb12 hX1.lt; replace hX4 := hX4.below hb12 hX4.lt; replace hX7 := hX7.below hb12 hX7.lt
    have hbw12 := hbw11.ext hb12
    have hb312 := hb311.ext hb12
    have HM := Lib.hid (markExpr_any y A7 c7 bl7 w12 1 (HO7b.out.1.ext hb12) HO7b.out.2.2 (by omega) (by omega))
    clear EQ11 hnn hnd
    clear pa0 pa1 pa2 pa3 pb0 pb1 pb2 pb3
    skip; have pa0 := hX7.cell 0; have pa1 := hX7.cell 1; have pa2 := hX7.cell 2; have pa3 := hX7.cell 3; simp at pa0 pa1 pa2 pa3
    go_wp2_with fail
    refine HM.out.mono ?_
    rintro r w13 ⟨rfl, m13, hO13, hmk13, hnm13, hlm13, hF13⟩
    have hbl7 : ∀ q ∈ bl7, V5.heap.size ≤ q ∧ q < w7.heap.size := HO7b.out.2.1
    have hz12 := hX7.lt
    skip; replace hX1 := hX1.foot hF13 (fun hh => by have := hbl7 _ hh; omega); replace hX4 := hX4.foot hF13 (fun hh => by have := hbl7 _ hh; omega); replace hX7 := hX7.foot hF13 (fun hh => by have := hbl7 _ hh; omega)
    have hbw13 : Below W.heap.size W w13 := hbw12.trans (hF13.below (fun q hq => by have := hbl7 q hq; have := hbv5.size; omega) hbw12.size)
    have hb313 : Below w3.heap.size w3 w13 := hb312.trans (hF13.below (fun q hq => by have := hbl7 q hq; have := hb35.size; omega) hb312.size)
    have HH := Lib.hid (fun (w' : World) (h : Below w13.heap.size w13 w') => heldExpr_any y.kind y.n y.s A7 c7 m13 w' 1 (by rw [hlm13]; exact (hO13.ext h).exs) hmk13 (by omega) (by omega))
    rw [hnm13, hlm13] at HH
    have hnn : ¬ ((1 + 3 * ndL y.kids : Nat) : Int) < 0 := by omega
    generalize ((1 + 3 * ndL y.kids : Nat) : Int) = ky at *
    have HF13 := Lib.hid hF13
    clear hF13 hbl7 hO13 hmk13 hnm13 hlm13 HM HO7b
    clear pa0 pa1 pa2 pa3
    skip; have pa0 := hX7.cell 0; have pa1 := hX7.cell 1; have pa2 := hX7.cell 2; have pa3 := hX7.cell 3; simp at pa0 pa1 pa2 pa3
    go_wp2_with fail
    refine (HH.out w13 (Below.refl _ _)).mono ?_
    rintro r w14 ⟨rfl, hb14⟩
    skip; replace hX1 := hX1.below hb14 hX1.lt; replace hX4 := hX4.below hb14 hX4.lt; replace hX7 := hX7.below hb14 hX7.lt
    have hbw14 := hbw13.ext hb14
    have hb314 := hb313.ext hb14
    clear pa0 pa1 pa2 pa3
    skip; have pa0 := hX1.cell 0; have pa1 := hX1.cell 1; have pa2 := hX1.cell 2; have pa3 := hX1.cell 3; simp at pa0 pa1 pa2 pa3
    go_wp2_with fail
    refine (TO.out _ hbw14).mono ?_
    rintro r w15 ⟨A15, c15, bl15, rfl, hO15, hOw15, hb15⟩
    skip; replace hX4 := hX4.below hb15 hX4.lt; replace hX7 := hX7.below hb15 hX7.lt
    have hbw15 := hbw14.ext hb15
    have hb315 := hb314.ext hb15
    have IM15 := Lib.hid (IM.out w15 _ ⟨_, rfl, hsx, hO15.exs⟩ hbw15)
    clear hO15 hOw15
    clear pa0 pa1 pa2 pa3
    go_wp2_with fail
    refine IM15.out.mono ?_
    rintro r w16 ⟨v16, rfl, hM16, hb16⟩
    skip; replace hX4 := hX4.below hb16 hX4.lt; replace hX7 := hX7.below hb16 hX7.lt
    have hbw16 := hbw15.ext hb16
    have hz16 := hX7.lt
    obtain ⟨A16, c16, rfl, hc16, hm16, hs16, hk16⟩ := hM16.exv.form4
    obtain ⟨V16, hV16⟩ : ∃ V, V = w16.alloc (.cells #[.int .i64 y.kind, .int .i64 y.n, .string (bs y.s), .slice A16 y.kids.length c16] 28) := ⟨_, rfl⟩
    have hX16 : Blk V16 w16.heap.size 28 #[.int .i64 y.kind, .int .i64 y.n, .string (bs y.s), .slice A16 y.kids.length c16] := by rw [hV16]; exact Blk.new _ _ _
    have hbV16 : Below w16.heap.size w16 V16 := by rw [hV16]; exact (Below.refl _ _).alloc (Nat.le_refl _) _
    skip; replace hX4 := hX4.below hbV16 hX4.lt; replace hX7 := hX7.below hbV16 hX7.lt
    have hbv16 := hbw16.ext hbV16
    have hb13v : Below w13.heap.size w13 V16 := ((hb14.ext hb15).ext hb16).ext hbV16
    have EQ16 := Lib.hid (eqExpr_any y y _ _ V16 ⟨_, rfl, hs16, (hk16.keep hbV16 (Nat.le_refl _)).more hbV16.size⟩ (HW3.out V16 (hb313.ext hb13v)))
    rw [decide_eq_true (rfl : y = y)] at EQ16
    clear hM16 hk16 IM15
    skip; have pa0 := hX4.cell 0; have pa1 := hX4.cell 1; have pa2 := hX4.cell 2; have pa3 := hX4.cell 3; simp at pa0 pa1 pa2 pa3; have pb0 := hX16.cell 0; have pb1 := hX16.cell 1; have pb2 := hX16.cell 2; have pb3 := hX16.cell 3; simp at pb0 pb1 pb2 pb3
    rw [hV16] at EQ16 pa0 pa1 pa2 pa3 pb0 pb1 pb2 pb3
    go_wp2_with fail
    refine EQ16.out.mono ?_
    rw [← hV16]
    rintro r w17 ⟨rfl, hb17⟩
    skip; replace hX7 := hX7.below hb17 hX7.lt
    have hbw17 := hbv16.ext hb17
    clear EQ16
    clear pa0 pa1 pa2 pa3 pb0 pb1 pb2 pb3
    skip; have pa0 := hX7.cell 0; have pa1 := hX7.cell 1; have pa2 := hX7.cell 2; have pa3 := hX7.cell 3; simp at pa0 pa1 pa2 pa3
    go_wp2_with fail
    refine (HH.out w17 (hb13v.ext hb17)).mono ?_
    rintro r w18 ⟨rfl, hb18⟩
    go_wp2_with fail
    go_ret
    exact ⟨rfl, hbw17.ext hb18⟩
end Go.Proofs.YtgoobhmbfjimoaaDoor
