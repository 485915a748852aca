
/- The law FnExprOne: the walk. -/
import Derived.Test.YtgoobhmbfjimoaaDoorTkd
import Derived.Test.YtgoobhmbfjimoaaDoorRdR
import Derived.Test.YtgoobhmbfjimoaaDoorOf
import Derived.Test.YtgoobhmbfjimoaaDoorSames
namespace Go.Proofs.YtgoobhmbfjimoaaDoor
set_option maxRecDepth 100000
set_option linter.unusedSimpArgs false
set_option linter.unusedVariables false
open Go.RowKit
attribute [local go_sem] bs_toList bs_get bs_size

theorem slb_one {w : World} {g : Nat} {s : Bytes} (hg : Blk w g 9 #[.string (bs s)]) : SlB w w.heap.size (.slice (some ⟨g, 0, none⟩) 1 1) [s] := ⟨_, 1, rfl, by simp, by unfold maxLen; omega, fun _ => ⟨g, 0, rfl, hg.lt, fun i t ht j x hj => by
  have hi : i = 0 := by have := (List.getElem?_eq_some_iff.1 ht).1; simp at this; omega
  have hj0 : j = 0 := by have := (List.getElem?_eq_some_iff.1 hj).1; simp [strRow] at this; omega
  subst hi hj0
  simp at ht
  subst ht
  simp [strRow] at hj
  subst hj
  simpa using hg.cell 0⟩⟩
theorem sln_one {w : World} {g : Nat} {n : Int} (hg : Blk w g 3 #[.int .i64 n]) : SlN w w.heap.size (.slice (some ⟨g, 0, none⟩) 1 1) [n] := ⟨_, 1, rfl, by simp, by unfold maxLen; omega, fun _ => ⟨g, 0, rfl, hg.lt, fun i t ht j x hj => by
  have hi : i = 0 := by have := (List.getElem?_eq_some_iff.1 ht).1; simp at this; omega
  have hj0 : j = 0 := by have := (List.getElem?_eq_some_iff.1 hj).1; simp [intRow] at this; omega
  subst hi hj0
  simp at ht
  subst ht
  simp [intRow] at hj
  subst hj
  simpa using hg.cell 0⟩⟩
theorem one_cases (s : Bytes) : (rdE [s] = none) ∨ (∃ n : Nat, n ≤ 1000000 ∧ s = decL n ∧ rdE [s] = some (.num n)) ∨ (nameB s = true ∧ rdE [s] = some (.nam s)) := by
  cases h : rdE [s] with
  | none => exact .inl rfl
  | some e =>
    obtain ⟨_, h2, h3⟩ := rdE_iff.1 h
    cases e with
    | num n =>
      simp only [E.words, List.cons.injEq, and_true] at h3
      exact .inr (.inl ⟨n, h2.1, h3.symm, rfl⟩)
    | nam t =>
      simp only [E.words, List.cons.injEq, and_true] at h3
      subst h3
      exact .inr (.inr ⟨h2.1, rfl⟩)
    | two o a b =>
      have := congrArg List.length h3
      rw [words_low (by have := lv_bd o; omega)] at this
      have h4 := E.words_pos a (max o.lv 2)
      have h5 := E.words_pos b (o.lv + 1)
      simp only [List.length_append, List.length_cons, List.length_nil] at this
      omega
    | cast t a =>
      have := congrArg List.length h3
      have h4 := E.words_pos a 4
      simp only [E.words, List.length_append, List.length_cons, List.length_nil] at this
      omega
set_option maxHeartbeats 2000000 in
theorem lawOne (W : World) (v : Value) (cl : List Int) (hv : CodeV W v cl) (hE : EnvA W) : Calls Tryd.prog 7 #[v] W fun e w' => e = .returned (.bool true) ∧ Below W.heap.size W w' := by
  have DR := Lib.hid (drawWord_any v cl W hv)
  obtain ⟨A, c, rfl, hc, hm⟩ := hv.1.val
  clear hv
  by_cases hlen : (1048576 : Int) < ((cl.length : Nat) : Int)
  · have hd : decide ((1048576 : Int) < ((cl.length : Nat) : Int)) = true := by rw [decide_eq_true_eq]; exact hlen
    go_enter Tryd.func7, Tryd.ntmps7
    go_wp2_with fail
    go_ret
    exact ⟨rfl, Below.refl _ _⟩
  have hd : decide ((1048576 : Int) < ((cl.length : Nat) : Int)) = false := by rw [decide_eq_false_iff_not]; exact hlen
  go_enter Tryd.func7, Tryd.ntmps7
  go_wp2_with fail
  refine DR.out.mono ?_
  rintro e w1 ⟨s, rfl, hsl, hb1⟩
  rcases one_cases s with h | ⟨n, hn, rfl, h⟩ | ⟨hnm, h⟩
  · have hrx : rdX [s] = Ex.none := rdX_none h
    have hro := rdOk_none h
    clear h
    obtain ⟨x, hx⟩ : ∃ x, x = Ex.none := ⟨_, rfl⟩
    rw [← hx] at hrx
    have HX0 := Lib.hid hx
    clear hx
    have IM := Lib.hid (fun (w' : World) (u : Value) (hu : SlB w' w'.heap.size u [s]) (h : Below W.heap.size W w') => imExprRead_any [s] u w' hu (by intro t ht; simp at ht; subst ht; omega) (hE.ext h))
    have SP := Lib.hid (fun (w' : World) (u : Value) (hu : SlB w' w'.heap.size u [s]) => spExprRead_any [s] u w' hu (by intro t ht; simp at ht; subst ht; omega))
    unfold RdP at IM SP
    rw [hrx, hro] at IM SP
    have hz1w := hb1.size
    have EA := Lib.hid (fun (w' : World) (h : Below W.heap.size W w') => hE.ext h)
    have C2 := Lib.hid (IM.out (w1.alloc (.cells #[.string (bs s)] 9)) _ (slb_one (Blk.new w1 _ _)) (by (repeat (first | with_reducible assumption | with_reducible exact Below.refl _ _ | with_reducible refine Below.setCell ?_ (by first | omega | (simp; done) | (simp; omega)) _ | with_reducible refine Below.alloc ?_ (by first | omega | (simp; done) | (simp; omega)) _ | with_reducible refine below_drewN ?_ _ | with_reducible refine Below.drew ?_ | with_reducible refine Below.trans ?_ (Below.mono hb1 (by first | omega | (simp; done) | (simp; omega)))))))
    clear hrx hro hE
    go_wp2_with fail
    refine C2.out.mono ?_
    rintro e w2 ⟨v2, rfl, hM2, hb2⟩
    obtain ⟨A2, c2, rfl, hs2⟩ := hM2.form3
    have hbw2 : Below W.heap.size W w2 := by have hx : Below W.heap.size W (w1.alloc (.cells #[.string (bs s)] 9)) := (by (repeat (first | with_reducible assumption | with_reducible exact Below.refl _ _ | with_reducible refine Below.setCell ?_ (by first | omega | (simp; done) | (simp; omega)) _ | with_reducible refine Below.alloc ?_ (by first | omega | (simp; done) | (simp; omega)) _ | with_reducible refine below_drewN ?_ _ | with_reducible refine Below.drew ?_ | with_reducible refine Below.trans ?_ (Below.mono hb1 (by first | omega | (simp; done) | (simp; omega)))))); exact hx.ext hb2
    have hz2w := hbw2.size
    have hX4 := Blk.new w2 28 (bxE x A2 c2)
    have hX4 := hX4.alloc (.cells #[.string (bs s)] 9)
    have hbv2 : Below W.heap.size W ((w2.alloc (.cells (bxE x A2 c2) 28)).alloc (.cells #[.string (bs s)] 9)) := by (repeat (first | with_reducible assumption | with_reducible exact Below.refl _ _ | with_reducible refine Below.setCell ?_ (by first | omega | (simp; done) | (simp; omega)) _ | with_reducible refine Below.alloc ?_ (by first | omega | (simp; done) | (simp; omega)) _ | with_reducible refine below_drewN ?_ _ | with_reducible refine Below.drew ?_ | with_reducible refine Below.trans ?_ (Below.mono hbw2 (by first | omega | (simp; done) | (simp; omega)))))
    have C3 := Lib.hid (SP.out ((w2.alloc (.cells (bxE x A2 c2) 28)).alloc (.cells #[.string (bs s)] 9)) (.slice (some ⟨w2.heap.size + 1, 0, none⟩) 1 1) (slb_one (Blk.newAt (by simp))))
    have HM2 := Lib.hid hM2
    clear hM2 hb2 C2
    go_wp2_with fail
    refine C3.out.mono ?_
    rintro e w3 ⟨v3, rfl, hM3, hb3⟩
    obtain ⟨A3, c3, rfl, hs3⟩ := hM3.form3
    have hbw3 : Below W.heap.size W w3 := hbv2.ext hb3
    have hz3w := hbw3.size
    skip; replace hX4 := hX4.below hb3 hX4.lt
    have hz3 := hX4.lt
    have hX6 := Blk.new w3 28 (bxE x A3 c3)
    have hX4 := hX4.alloc (.cells (bxE x A3 c3) 28)
    have hbv3 : Below W.heap.size W (w3.alloc (.cells (bxE x A3 c3) 28)) := by (repeat (first | with_reducible assumption | with_reducible exact Below.refl _ _ | with_reducible refine Below.setCell ?_ (by first | omega | (simp; done) | (simp; omega)) _ | with_reducible refine Below.alloc ?_ (by first | omega | (simp; done) | (simp; omega)) _ | with_reducible refine below_drewN ?_ _ | with_reducible refine Below.drew ?_ | with_reducible refine Below.trans ?_ (Below.mono hbw3 (by first | omega | (simp; done) | (simp; omega)))))
    have hx2 : ExV (w3.alloc (.cells (bxE x A3 c3) 28)) (w3.alloc (.cells (bxE x A3 c3) 28)).heap.size (.agg (bxE x A2 c2)) x := ((HM2.out.exv.keep ((show Below w2.heap.size w2 _ from by (repeat (first | with_reducible assumption | with_reducible exact Below.refl _ _ | with_reducible refine Below.setCell ?_ (by first | omega | (simp; done) | (simp; omega)) _ | with_reducible refine Below.alloc ?_ (by first | omega | (simp; done) | (simp; omega)) _ | with_reducible refine below_drewN ?_ _ | with_reducible refine Below.drew ?_))).ext hb3) (Nat.le_refl _)).keep (show Below w2.heap.size w3 _ from by have := hb3.size; simp at this; (repeat (first | with_reducible assumption | with_reducible exact Below.refl _ _ | with_reducible refine Below.setCell ?_ (by first | omega | (simp; done) | (simp; omega)) _ | with_reducible refine Below.alloc ?_ (by first | omega | (simp; done) | (simp; omega)) _ | with_reducible refine below_drewN ?_ _ | with_reducible refine Below.drew ?_))) (Nat.le_refl _)).more (by have := hb3.size; simp at this ⊢; omega)
    have hx3 : ExV (w3.alloc (.cells (bxE x A3 c3) 28)) (w3.alloc (.cells (bxE x A3 c3) 28)).heap.size (.agg (bxE x A3 c3)) x := (hM3.alloc _).exv
    have EQ := Lib.hid (imSame_any x x _ _ _ hx2 hx3)
    rw [decide_eq_true (rfl : x = x)] at EQ
    have HX := Lib.hid (And.intro hX4 (And.intro hbv3 hx2))
    clear hM3 hb3 C3 hbw2 hbv2 hbw3 hx2 hx3 HM2
    skip; have pa0 := hX4.cell 0; have pa1 := hX4.cell 1; have pa2 := hX4.cell 2; have pa3 := hX4.cell 3; simp at pa0 pa1 pa2 pa3; have pb0 := hX6.cell 0; have pb1 := hX6.cell 1; have pb2 := hX6.cell 2; have pb3 := hX6.cell 3; simp at pb0 pb1 pb2 pb3
    simp only [bxE] at EQ
    go_wp2_with fail
    refine EQ.out.mono ?_
    rintro e w4 ⟨rfl, hb4⟩
    obtain ⟨hX4, hbv3, hx2⟩ := HX.out
    skip; replace hX4 := hX4.below hb4 hX4.lt
    have hbw4 := hbv3.ext hb4
    have HX2 := Lib.hid (fun (w' : World) (h : Below w4.heap.size w4 w') => (hx2.keep (hb4.ext h) (Nat.le_refl _)).more (hb4.ext h).size)
    have HX4 := Lib.hid hX4
    clear hbv3 hx2 EQ HX
    clear pa0 pa1 pa2 pa3 pb0 pb1 pb2 pb3
    skip; have pa0 := hX4.cell 0; have pa1 := hX4.cell 1; have pa2 := hX4.cell 2; have pa3 := hX4.cell 3; simp at pa0 pa1 pa2 pa3
    clear hX4
    have hk : x.kind = 0 := by rw [HX0.out]; rfl
    go_wp2_with fail
    go_ret
    exact ⟨rfl, hbw4⟩
  · have hrx : rdX [decL n] = (E.num n).ex := rdX_some h
    have hro := rdOk_some h
    have hok : (E.num n).Ok := (rdE_iff.1 h).2.1
    have hwd : wordB (decL n) = false := by
      rw [Bool.eq_false_iff]
      intro hw
      have h1 := decL_dig n
      simp only [wordB, Bool.and_eq_true, decide_eq_true_eq, List.all_eq_true] at hw
      cases hd : decL n with
      | nil => have := decL_pos n; rw [hd] at this; simp at this
      | cons a l =>
        have h2 := h1 a (by rw [hd]; simp)
        have h3 := hw.1.1 a (by rw [hd]; simp)
        rw [dig_not_let h2] at h3
        cases h3
    have hnb : numB (decL n) = true := numB_iff.2 ⟨n, hn, rfl⟩
    have hv1 : valX (E.num n).ex [decL n] [5] = some (n : Int) := valX_e hok rfl
    have hv2 : valX (E.num n).ex [] [] = some (n : Int) := valX_e hok rfl
    generalize hgs : decL n = s at *
    obtain ⟨x, hx⟩ : ∃ x, x = (E.num n).ex := ⟨_, rfl⟩
    rw [← hx] at hrx hv1 hv2
    have HX0 := Lib.hid (And.intro hx (And.intro hv1 (And.intro hv2 (And.intro hwd hnb))))
    clear hx hv1 hv2 hwd hnb h hok hgs
    have IM := Lib.hid (fun (w' : World) (u : Value) (hu : SlB w' w'.heap.size u [s]) (h : Below W.heap.size W w') => imExprRead_any [s] u w' hu (by intro t ht; simp at ht; subst ht; omega) (hE.ext h))
    have SP := Lib.hid (fun (w' : World) (u : Value) (hu : SlB w' w'.heap.size u [s]) => spExprRead_any [s] u w' hu (by intro t ht; simp at ht; subst ht; omega))
    unfold RdP at IM SP
    rw [hrx, hro] at IM SP
    have hz1w := hb1.size
    have EA := Lib.hid (fun (w' : World) (h : Below W.heap.size W w') => hE.ext h)
    have C2 := Lib.hid (IM.out (w1.alloc (.cells #[.string (bs s)] 9)) _ (slb_one (Blk.new w1 _ _)) (by (repeat (first | with_reducible assumption | with_reducible exact Below.refl _ _ | with_reducible refine Below.setCell ?_ (by first | omega | (simp; done) | (simp; omega)) _ | with_reducible refine Below.alloc ?_ (by first | omega | (simp; done) | (simp; omega)) _ | with_reducible refine below_drewN ?_ _ | with_reducible refine Below.drew ?_ | with_reducible refine Below.trans ?_ (Below.mono hb1 (by first | omega | (simp; done) | (simp; omega)))))))
    clear hrx hro hE
    go_wp2_with fail
    refine C2.out.mono ?_
    rintro e w2 ⟨v2, rfl, hM2, hb2⟩
    obtain ⟨A2, c2, rfl, hs2⟩ := hM2.form3
    have hbw2 : Below W.heap.size W w2 := by have hx : Below W.heap.size W (w1.alloc (.cells #[.string (bs s)] 9)) := (by (repeat (first | with_reducible assumption | with_reducible exact Below.refl _ _ | with_reducible refine Below.setCell ?_ (by first | omega | (simp; done) | (simp; omega)) _ | with_reducible refine Below.alloc ?_ (by first | omega | (simp; done) | (simp; omega)) _ | with_reducible refine below_drewN ?_ _ | with_reducible refine Below.drew ?_ | with_reducible refine Below.trans ?_ (Below.mono hb1 (by first | omega | (simp; done) | (simp; omega)))))); exact hx.ext hb2
    have hz2w := hbw2.size
    have hX4 := Blk.new w2 28 (bxE x A2 c2)
    have hX4 := hX4.alloc (.cells #[.string (bs s)] 9)
    have hbv2 : Below W.heap.size W ((w2.alloc (.cells (bxE x A2 c2) 28)).alloc (.cells #[.string (bs s)] 9)) := by (repeat (first | with_reducible assumption | with_reducible exact Below.refl _ _ | with_reducible refine Below.setCell ?_ (by first | omega | (simp; done) | (simp; omega)) _ | with_reducible refine Below.alloc ?_ (by first | omega | (simp; done) | (simp; omega)) _ | with_reducible refine below_drewN ?_ _ | with_reducible refine Below.drew ?_ | with_reducible refine Below.trans ?_ (Below.mono hbw2 (by first | omega | (simp; done) | (simp; omega)))))
    have C3 := Lib.hid (SP.out ((w2.alloc (.cells (bxE x A2 c2) 28)).alloc (.cells #[.string (bs s)] 9)) (.slice (some ⟨w2.heap.size + 1, 0, none⟩) 1 1) (slb_one (Blk.newAt (by simp))))
    have HM2 := Lib.hid hM2
    clear hM2 hb2 C2
    go_wp2_with fail
    refine C3.out.mono ?_
    rintro e w3 ⟨v3, rfl, hM3, hb3⟩
    obtain ⟨A3, c3, rfl, hs3⟩ := hM3.form3
    have hbw3 : Below W.heap.size W w3 := hbv2.ext hb3
    have hz3w := hbw3.size
    skip; replace hX4 := hX4.below hb3 hX4.lt
    have hz3 := hX4.lt
    have hX6 := Blk.new w3 28 (bxE x A3 c3)
    have hX4 := hX4.alloc (.cells (bxE x A3 c3) 28)
    have hbv3 : Below W.heap.size W (w3.alloc (.cells (bxE x A3 c3) 28)) := by (repeat (first | with_reducible assumption | with_reducible exact Below.refl _ _ | with_reducible refine Below.setCell ?_ (by first | omega | (simp; done) | (simp; omega)) _ | with_reducible refine Below.alloc ?_ (by first | omega | (simp; done) | (simp; omega)) _ | with_reducible refine below_drewN ?_ _ | with_reducible refine Below.drew ?_ | with_reducible refine Below.trans ?_ (Below.mono hbw3 (by first | omega | (simp; done) | (simp; omega)))))
    have hx2 : ExV (w3.alloc (.cells (bxE x A3 c3) 28)) (w3.alloc (.cells (bxE x A3 c3) 28)).heap.size (.agg (bxE x A2 c2)) x := ((HM2.out.exv.keep ((show Below w2.heap.size w2 _ from by (repeat (first | with_reducible assumption | with_reducible exact Below.refl _ _ | with_reducible refine Below.setCell ?_ (by first | omega | (simp; done) | (simp; omega)) _ | with_reducible refine Below.alloc ?_ (by first | omega | (simp; done) | (simp; omega)) _ | with_reducible refine below_drewN ?_ _ | with_reducible refine Below.drew ?_))).ext hb3) (Nat.le_refl _)).keep (show Below w2.heap.size w3 _ from by have := hb3.size; simp at this; (repeat (first | with_reducible assumption | with_reducible exact Below.refl _ _ | with_reducible refine Below.setCell ?_ (by first | omega | (simp; done) | (simp; omega)) _ | with_reducible refine Below.alloc ?_ (by first | omega | (simp; done) | (simp; omega)) _ | with_reducible refine below_drewN ?_ _ | with_reducible refine Below.drew ?_))) (Nat.le_refl _)).more (by have := hb3.size; simp at this ⊢; omega)
    have hx3 : ExV (w3.alloc (.cells (bxE x A3 c3) 28)) (w3.alloc (.cells (bxE x A3 c3) 28)).heap.size (.agg (bxE x A3 c3)) x := (hM3.alloc _).exv
    have EQ := Lib.hid (imSame_any x x _ _ _ hx2 hx3)
    rw [decide_eq_true (rfl : x = x)] at EQ
    have HX := Lib.hid (And.intro hX4 (And.intro hbv3 hx2))
    clear hM3 hb3 C3 hbw2 hbv2 hbw3 hx2 hx3 HM2
    skip; have pa0 := hX4.cell 0; have pa1 := hX4.cell 1; have pa2 := hX4.cell 2; have pa3 := hX4.cell 3; simp at pa0 pa1 pa2 pa3; have pb0 := hX6.cell 0; have pb1 := hX6.cell 1; have pb2 := hX6.cell 2; have pb3 := hX6.cell 3; simp at pb0 pb1 pb2 pb3
    simp only [bxE] at EQ
    go_wp2_with fail
    refine EQ.out.mono ?_
    rintro e w4 ⟨rfl, hb4⟩
    obtain ⟨hX4, hbv3, hx2⟩ := HX.out
    skip; replace hX4 := hX4.below hb4 hX4.lt
    have hbw4 := hbv3.ext hb4
    have HX2 := Lib.hid (fun (w' : World) (h : Below w4.heap.size w4 w') => (hx2.keep (hb4.ext h) (Nat.le_refl _)).more (hb4.ext h).size)
    have HX4 := Lib.hid hX4
    clear hbv3 hx2 EQ HX
    clear pa0 pa1 pa2 pa3 pb0 pb1 pb2 pb3
    skip; have pa0 := hX4.cell 0; have pa1 := hX4.cell 1; have pa2 := hX4.cell 2; have pa3 := hX4.cell 3; simp at pa0 pa1 pa2 pa3
    clear hX4
    have hk : x.kind = 1 := by rw [HX0.out.1]; rfl
    have HK := Lib.hid hk
    clear hk
    have hb4a : Below w4.heap.size w4 ((w4.alloc (.cells #[.string (bs s)] 9)).alloc (.cells #[.int .i64 5] 3)) := by (repeat (first | with_reducible assumption | with_reducible exact Below.refl _ _ | with_reducible refine Below.setCell ?_ (by first | omega | (simp; done) | (simp; omega)) _ | with_reducible refine Below.alloc ?_ (by first | omega | (simp; done) | (simp; omega)) _ | with_reducible refine below_drewN ?_ _ | with_reducible refine Below.drew ?_))
    have OF := Lib.hid (imExprOf_any x (.agg (bxE x A2 c2)) (.slice (some ⟨w4.heap.size, 0, none⟩) 1 1) (.slice (some ⟨w4.heap.size + 1, 0, none⟩) 1 1) [s] [5] _ (by simp) (HX2.out _ hb4a) (slb_one ((Blk.new w4 _ _).alloc _)) (sln_one (Blk.newAt (by simp))) (EA.out _ (hbw4.ext hb4a)).env)
    rw [HX0.out.2.1] at OF
    simp only [bxE] at OF
    have H4A := Lib.hid hb4a
    clear hb4a
    go_wp2_with fail
    refine OF.out.mono ?_
    rintro e w5 ⟨rfl, hb5⟩
    have hb45 : Below w4.heap.size w4 w5 := H4A.out.ext hb5
    have hX4 := HX4.out.below hb45 HX4.out.lt
    have hbw5 := hbw4.ext hb45
    have hz5 := hX4.lt
    clear pa0 pa1 pa2 pa3
    skip; have pa0 := hX4.cell 0; have pa1 := hX4.cell 1; have pa2 := hX4.cell 2; have pa3 := hX4.cell 3; simp at pa0 pa1 pa2 pa3
    have HB5 := Lib.hid hb45
    simp only [ofVal]
    clear hX4 hb5 hb45 OF
    have hk : x.kind = 1 := HK.out
    rw [hk] at pa0
    have OF2 := Lib.hid (imExprOf_any x (.agg (bxE x A2 c2)) (.slice none 0 0) (.slice none 0 0) [] [] w5 (by simp) (HX2.out _ HB5.out) ⟨none, 0, rfl, Nat.le_refl _, by unfold maxLen; omega, fun h => by simp at h⟩ ⟨none, 0, rfl, Nat.le_refl _, by unfold maxLen; omega, fun h => by simp at h⟩ (EA.out _ hbw5).env)
    rw [HX0.out.2.2.1] at OF2
    simp only [bxE, hk] at OF2
    clear hk
    go_wp2_with fail
    refine OF2.out.mono ?_
    rintro e w6 ⟨rfl, hb6⟩
    have hX4 := HX4.out.below (HB5.out.ext hb6) HX4.out.lt
    have hbw6 := hbw5.ext hb6
    have TK := Lib.hid (imKind_num s w6 (by omega) HX0.out.2.2.2.1 HX0.out.2.2.2.2 (EA.out _ hbw6))
    have HB6 := Lib.hid (HB5.out.ext hb6)
    simp only [ofVal]
    clear hX4 hb6 OF2
    go_wp2_with fail
    refine TK.out.mono ?_
    rintro e w7 ⟨rfl, hb7⟩
    have hX4 := HX4.out.below (HB6.out.ext hb7) HX4.out.lt
    have hk2 : x.kind = 1 := HK.out
    have hn2 : x.n = (n : Int) := by rw [HX0.out.1]; rfl
    clear pa0 pa1 pa2 pa3
    skip; have pa0 := hX4.cell 0; have pa1 := hX4.cell 1; have pa2 := hX4.cell 2; have pa3 := hX4.cell 3; simp at pa0 pa1 pa2 pa3
    rw [hk2] at pa0
    rw [hn2] at pa1
    have hbw7 := hbw6.ext hb7
    clear hX4 hb7 hk2 hn2
    go_wp2_with fail
    go_ret
    exact ⟨rfl, hbw7⟩
  · have hrx : rdX [s] = (E.nam s).ex := rdX_some h
    have hro := rdOk_some h
    have hok : (E.nam s).Ok := (rdE_iff.1 h).2.1
    have hwd : wordB s = true := by
      simp only [nameB, Bool.and_eq_true] at hnm
      exact hnm.1
    have hv1 : valX (E.nam s).ex [s] [5] = some 5 := by
      rw [valX_e hok rfl]
      simp [E.va, lastF, clampI]
      decide
    obtain ⟨x, hx⟩ : ∃ x, x = (E.nam s).ex := ⟨_, rfl⟩
    rw [← hx] at hrx hv1
    have HX0 := Lib.hid (And.intro hx (And.intro hv1 hwd))
    clear hx hv1 hwd h hok hnm
    have IM := Lib.hid (fun (w' : World) (u : Value) (hu : SlB w' w'.heap.size u [s]) (h : Below W.heap.size W w') => imExprRead_any [s] u w' hu (by intro t ht; simp at ht; subst ht; omega) (hE.ext h))
    have SP := Lib.hid (fun (w' : World) (u : Value) (hu : SlB w' w'.heap.size u [s]) => spExprRead_any [s] u w' hu (by intro t ht; simp at ht; subst ht; omega))
    unfold RdP at IM SP
    rw [hrx, hro] at IM SP
    have hz1w := hb1.size
    have EA := Lib.hid (fun (w' : World) (h : Below W.heap.size W w') => hE.ext h)
    have C2 := Lib.hid (IM.out (w1.alloc (.cells #[.string (bs s)] 9)) _ (slb_one (Blk.new w1 _ _)) (by (repeat (first | with_reducible assumption | with_reducible exact Below.refl _ _ | with_reducible refine Below.setCell ?_ (by first | omega | (simp; done) | (simp; omega)) _ | with_reducible refine Below.alloc ?_ (by first | omega | (simp; done) | (simp; omega)) _ | with_reducible refine below_drewN ?_ _ | with_reducible refine Below.drew ?_ | with_reducible refine Below.trans ?_ (Below.mono hb1 (by first | omega | (simp; done) | (simp; omega)))))))
    clear hrx hro hE
    go_wp2_with fail
    refine C2.out.mono ?_
    rintro e w2 ⟨v2, rfl, hM2, hb2⟩
    obtain ⟨A2, c2, rfl, hs2⟩ := hM2.form3
    have hbw2 : Below W.heap.size W w2 := by have hx : Below W.heap.size W (w1.alloc (.cells #[.string (bs s)] 9)) := (by (repeat (first | with_reducible assumption | with_reducible exact Below.refl _ _ | with_reducible refine Below.setCell ?_ (by first | omega | (simp; done) | (simp; omega)) _ | with_reducible refine Below.alloc ?_ (by first | omega | (simp; done) | (simp; omega)) _ | with_reducible refine below_drewN ?_ _ | with_reducible refine Below.drew ?_ | with_reducible refine Below.trans ?_ (Below.mono hb1 (by first | omega | (simp; done) | (simp; omega)))))); exact hx.ext hb2
    have hz2w := hbw2.size
    have hX4 := Blk.new w2 28 (bxE x A2 c2)
    have hX4 := hX4.alloc (.cells #[.string (bs s)] 9)
    have hbv2 : Below W.heap.size W ((w2.alloc (.cells (bxE x A2 c2) 28)).alloc (.cells #[.string (bs s)] 9)) := by (repeat (first | with_reducible assumption | with_reducible exact Below.refl _ _ | with_reducible refine Below.setCell ?_ (by first | omega | (simp; done) | (simp; omega)) _ | with_reducible refine Below.alloc ?_ (by first | omega | (simp; done) | (simp; omega)) _ | with_reducible refine below_drewN ?_ _ | with_reducible refine Below.drew ?_ | with_reducible refine Below.trans ?_ (Below.mono hbw2 (by first | omega | (simp; done) | (simp; omega)))))
    have C3 := Lib.hid (SP.out ((w2.alloc (.cells (bxE x A2 c2) 28)).alloc (.cells #[.string (bs s)] 9)) (.slice (some ⟨w2.heap.size + 1, 0, none⟩) 1 1) (slb_one (Blk.newAt (by simp))))
    have HM2 := Lib.hid hM2
    clear hM2 hb2 C2
    go_wp2_with fail
    refine C3.out.mono ?_
    rintro e w3 ⟨v3, rfl, hM3, hb3⟩
    obtain ⟨A3, c3, rfl, hs3⟩ := hM3.form3
    have hbw3 : Below W.heap.size W w3 := hbv2.ext hb3
    have hz3w := hbw3.size
    skip; replace hX4 := hX4.below hb3 hX4.lt
    have hz3 := hX4.lt
    have hX6 := Blk.new w3 28 (bxE x A3 c3)
    have hX4 := hX4.alloc (.cells (bxE x A3 c3) 28)
    have hbv3 : Below W.heap.size W (w3.alloc (.cells (bxE x A3 c3) 28)) := by (repeat (first | with_reducible assumption | with_reducible exact Below.refl _ _ | with_reducible refine Below.setCell ?_ (by first | omega | (simp; done) | (simp; omega)) _ | with_reducible refine Below.alloc ?_ (by first | omega | (simp; done) | (simp; omega)) _ | with_reducible refine below_drewN ?_ _ | with_reducible refine Below.drew ?_ | with_reducible refine Below.trans ?_ (Below.mono hbw3 (by first | omega | (simp; done) | (simp; omega)))))
    have hx2 : ExV (w3.alloc (.cells (bxE x A3 c3) 28)) (w3.alloc (.cells (bxE x A3 c3) 28)).heap.size (.agg (bxE x A2 c2)) x := ((HM2.out.exv.keep ((show Below w2.heap.size w2 _ from by (repeat (first | with_reducible assumption | with_reducible exact Below.refl _ _ | with_reducible refine Below.setCell ?_ (by first | omega | (simp; done) | (simp; omega)) _ | with_reducible refine Below.alloc ?_ (by first | omega | (simp; done) | (simp; omega)) _ | with_reducible refine below_drewN ?_ _ | with_reducible refine Below.drew ?_))).ext hb3) (Nat.le_refl _)).keep (show Below w2.heap.size w3 _ from by have := hb3.size; simp at this; (repeat (first | with_reducible assumption | with_reducible exact Below.refl _ _ | with_reducible refine Below.setCell ?_ (by first | omega | (simp; done) | (simp; omega)) _ | with_reducible refine Below.alloc ?_ (by first | omega | (simp; done) | (simp; omega)) _ | with_reducible refine below_drewN ?_ _ | with_reducible refine Below.drew ?_))) (Nat.le_refl _)).more (by have := hb3.size; simp at this ⊢; omega)
    have hx3 : ExV (w3.alloc (.cells (bxE x A3 c3) 28)) (w3.alloc (.cells (bxE x A3 c3) 28)).heap.size (.agg (bxE x A3 c3)) x := (hM3.alloc _).exv
    have EQ := Lib.hid (imSame_any x x _ _ _ hx2 hx3)
    rw [decide_eq_true (rfl : x = x)] at EQ
    have HX := Lib.hid (And.intro hX4 (And.intro hbv3 hx2))
    clear hM3 hb3 C3 hbw2 hbv2 hbw3 hx2 hx3 HM2
    skip; have pa0 := hX4.cell 0; have pa1 := hX4.cell 1; have pa2 := hX4.cell 2; have pa3 := hX4.cell 3; simp at pa0 pa1 pa2 pa3; have pb0 := hX6.cell 0; have pb1 := hX6.cell 1; have pb2 := hX6.cell 2; have pb3 := hX6.cell 3; simp at pb0 pb1 pb2 pb3
    simp only [bxE] at EQ
    go_wp2_with fail
    refine EQ.out.mono ?_
    rintro e w4 ⟨rfl, hb4⟩
    obtain ⟨hX4, hbv3, hx2⟩ := HX.out
    skip; replace hX4 := hX4.below hb4 hX4.lt
    have hbw4 := hbv3.ext hb4
    have HX2 := Lib.hid (fun (w' : World) (h : Below w4.heap.size w4 w') => (hx2.keep (hb4.ext h) (Nat.le_refl _)).more (hb4.ext h).size)
    have HX4 := Lib.hid hX4
    clear hbv3 hx2 EQ HX
    clear pa0 pa1 pa2 pa3 pb0 pb1 pb2 pb3
    skip; have pa0 := hX4.cell 0; have pa1 := hX4.cell 1; have pa2 := hX4.cell 2; have pa3 := hX4.cell 3; simp at pa0 pa1 pa2 pa3
    clear hX4
    have hk : x.kind = 2 := by rw [HX0.out.1]; rfl
    have HK := Lib.hid hk
    clear hk
    have hb4a : Below w4.heap.size w4 ((w4.alloc (.cells #[.string (bs s)] 9)).alloc (.cells #[.int .i64 5] 3)) := by (repeat (first | with_reducible assumption | with_reducible exact Below.refl _ _ | with_reducible refine Below.setCell ?_ (by first | omega | (simp; done) | (simp; omega)) _ | with_reducible refine Below.alloc ?_ (by first | omega | (simp; done) | (simp; omega)) _ | with_reducible refine below_drewN ?_ _ | with_reducible refine Below.drew ?_))
    have OF := Lib.hid (imExprOf_any x (.agg (bxE x A2 c2)) (.slice (some ⟨w4.heap.size, 0, none⟩) 1 1) (.slice (some ⟨w4.heap.size + 1, 0, none⟩) 1 1) [s] [5] _ (by simp) (HX2.out _ hb4a) (slb_one ((Blk.new w4 _ _).alloc _)) (sln_one (Blk.newAt (by simp))) (EA.out _ (hbw4.ext hb4a)).env)
    rw [HX0.out.2.1] at OF
    simp only [bxE] at OF
    have H4A := Lib.hid hb4a
    clear hb4a
    go_wp2_with fail
    refine OF.out.mono ?_
    rintro e w5 ⟨rfl, hb5⟩
    have hb45 : Below w4.heap.size w4 w5 := H4A.out.ext hb5
    have hX4 := HX4.out.below hb45 HX4.out.lt
    have hbw5 := hbw4.ext hb45
    have hz5 := hX4.lt
    clear pa0 pa1 pa2 pa3
    skip; have pa0 := hX4.cell 0; have pa1 := hX4.cell 1; have pa2 := hX4.cell 2; have pa3 := hX4.cell 3; simp at pa0 pa1 pa2 pa3
    have HB5 := Lib.hid hb45
    simp only [ofVal]
    clear hX4 hb5 hb45 OF
    have hk : x.kind = 2 := HK.out
    have hs0 : x.s = s := by rw [HX0.out.1]; rfl
    rw [hk] at pa0
    rw [hs0] at pa2
    have TK := Lib.hid (imKind_word s w5 (by omega) HX0.out.2.2)
    clear hk hs0
    go_wp2_with fail
    refine TK.out.mono ?_
    rintro e _ ⟨rfl, rfl⟩
    go_wp2_with fail
    go_ret
    exact ⟨rfl, hbw5⟩
end Go.Proofs.YtgoobhmbfjimoaaDoor
