
/- The law FnExprLeft: the walk. -/
import Derived.Test.YtnejngpdplhbhaaGreatDoorDwO
import Derived.Test.YtnejngpdplhbhaaGreatDoorRdE
import Derived.Test.YtnejngpdplhbhaaGreatDoorOf
import Derived.Test.YtnejngpdplhbhaaGreatDoorSames
import Derived.Test.YtnejngpdplhbhaaGreatDoorTokS
import Derived.Test.YtnejngpdplhbhaaGreatDoorWds
namespace Go.Proofs.YtnejngpdplhbhaaGreatDoor
set_option maxRecDepth 100000
set_option linter.unusedSimpArgs false
set_option linter.unusedVariables false
open Go.RowKit
attribute [local go_sem] bs_toList bs_get bs_size

/-- a number as a block's cells -/
abbrev nbC (m : Int) : Array Value := #[.int .i64 1, .int .i64 m, .string ⟨#[]⟩, .slice none 0 0]
theorem exv_num (w : World) (B m : Nat) : ExV w B (.agg (nbC m)) (E.num m).ex := ⟨_, rfl, by simp [E.ex, Ex.s], ExS.nil _ _⟩
theorem spExprWords_any (e : E) (v : Value) (w : World) (hok : e.Ok) (hv : ExV w w.heap.size v e.ex) : Calls Tryz.prog 8 #[v] w fun r w' => ∃ u, r = .returned u ∧ SlB w' w'.heap.size u (e.words 1) ∧ Below w.heap.size w w' := by
  obtain ⟨A, c, rfl, hc, hcm, hs, hk⟩ := hv.form4
  have OK := Lib.hid (fun (w' : World) (h : Below w.heap.size w w') => spOk_any e.ex _ w' ((hv.keep h (Nat.le_refl _)).more h.size))
  rw [show exOkB e.ex = true from E.ok_iff.2 ⟨e, rfl, hok⟩] at OK
  have WD := Lib.hid (fun (w' : World) (h : Below w.heap.size w w') => spWords_any e 1 _ w' hok.1 (by have := hok.2.2; omega) (by omega) ((hv.keep h (Nat.le_refl _)).more h.size))
  generalize e.words 1 = ws at *
  have hX := Blk.new w 25 (bxE e.ex A c)
  simp only [bxE] at hX
  clear hv hk hok
  generalize e.ex = x at *
  go_enter Tryz.func8, Tryz.ntmps8
  go_wp2_with fail
  refine (OK.out _ (by (repeat (first | with_reducible assumption | with_reducible exact Below.refl _ _ | with_reducible refine Below.setCell ?_ (by first | omega | (simp; done) | (simp; omega)) _ | with_reducible refine Below.alloc ?_ (by first | omega | (simp; done) | (simp; omega)) _ | with_reducible refine below_drewN ?_ _ | with_reducible refine Below.drew ?_)))).mono ?_
  rintro r w1 ⟨rfl, hb1⟩
  skip; replace hX := hX.below hb1 hX.lt
  have hbw1 : Below w.heap.size w w1 := by (repeat (first | with_reducible assumption | with_reducible exact Below.refl _ _ | with_reducible refine Below.setCell ?_ (by first | omega | (simp; done) | (simp; omega)) _ | with_reducible refine Below.alloc ?_ (by first | omega | (simp; done) | (simp; omega)) _ | with_reducible refine below_drewN ?_ _ | with_reducible refine Below.drew ?_ | with_reducible refine Below.trans ?_ (Below.mono hb1 (by first | omega | (simp; done) | (simp; omega)))))
  skip; have pa0 := hX.cell 0; have pa1 := hX.cell 1; have pa2 := hX.cell 2; have pa3 := hX.cell 3; simp at pa0 pa1 pa2 pa3
  clear hX hb1 OK
  go_wp2_with fail
  refine (WD.out _ hbw1).mono ?_
  rintro r w2 ⟨u, rfl, hG, hb2⟩
  have hS := hG.sl (fun _ => rfl)
  clear hG
  go_wp2_with fail
  go_ret
  exact ⟨_, rfl, hS, hbw1.ext hb2⟩
def lt1 (x y : Nat) : E := .two .sub (.two .sub (.num x) (.num y)) (.num 3)
def lt2 (x y : Nat) : E := .two .sub (.num x) (.two .mul (.num y) (.num 3))
def lt3 (x y : Nat) : E := .two .sub (.num x) (.two .sub (.num y) (.num 3))
theorem dec3 : decL 3 = [51] := by rw [decL_lt (by omega)]; rfl
theorem lt1_rd {x y : Nat} (hx : x ≤ 9) (hy : y ≤ 9) : rdE [decL x, [45], decL y, [45], [51]] = some (lt1 x y) :=
  rdE_iff.2 ⟨by simp, ⟨⟨⟨show x ≤ 1000000 by omega, show y ≤ 1000000 by omega⟩, show 3 ≤ 1000000 by omega⟩, by simp [lt1, E.ht], by simp [lt1, E.cnt]⟩, by simp [lt1, E.words, Op2.lv, Op2.b, dec3]⟩
theorem lt2_rd {x y : Nat} (hx : x ≤ 9) (hy : y ≤ 9) : rdE [decL x, [45], decL y, [42], [51]] = some (lt2 x y) :=
  rdE_iff.2 ⟨by simp, ⟨⟨show x ≤ 1000000 by omega, show y ≤ 1000000 by omega, show 3 ≤ 1000000 by omega⟩, by simp [lt2, E.ht], by simp [lt2, E.cnt]⟩, by simp [lt2, E.words, Op2.lv, Op2.b, dec3]⟩
theorem lt3_rd {x y : Nat} (hx : x ≤ 9) (hy : y ≤ 9) : rdE [decL x, [45], [40], decL y, [45], [51], [41]] = some (lt3 x y) :=
  rdE_iff.2 ⟨by simp, ⟨⟨show x ≤ 1000000 by omega, show y ≤ 1000000 by omega, show 3 ≤ 1000000 by omega⟩, by simp [lt3, E.ht], by simp [lt3, E.cnt]⟩, by simp [lt3, E.words, Op2.lv, Op2.b, dec3]⟩
theorem clamp_in {n : Int} (h : -1000000 ≤ n ∧ n ≤ 1000000) : clampI n = n := by unfold clampI; omega
theorem lt1_va {x y : Nat} (hx : x ≤ 9) (hy : y ≤ 9) (names : List Bytes) (nums : List Int) : (lt1 x y).va names nums = some ((x : Int) - y - 3) := by
  simp only [lt1, E.va, op2]
  rw [clamp_in (n := (x : Int) - y) (by omega), clamp_in (by omega)]
  rfl
theorem lt2_va {x y : Nat} (hx : x ≤ 9) (hy : y ≤ 9) (names : List Bytes) (nums : List Int) : (lt2 x y).va names nums = some ((x : Int) - y * 3) := by
  simp only [lt2, E.va, op2]
  rw [clamp_in (n := (y : Int) * ((3 : Nat) : Int)) (by omega), clamp_in (by omega)]
  rfl
theorem lt3_va {x y : Nat} (hx : x ≤ 9) (hy : y ≤ 9) (names : List Bytes) (nums : List Int) : (lt3 x y).va names nums = some ((x : Int) - y + 3) := by
  simp only [lt3, E.va, op2]
  rw [clamp_in (n := (y : Int) - ((3 : Nat) : Int)) (by omega), clamp_in (by omega)]
  congr 1
  omega
theorem lt1_ok {x y : Nat} (hx : x ≤ 9) (hy : y ≤ 9) : (lt1 x y).Ok := (rdE_iff.1 (lt1_rd hx hy)).2.1
theorem lt2_ok {x y : Nat} (hx : x ≤ 9) (hy : y ≤ 9) : (lt2 x y).Ok := (rdE_iff.1 (lt2_rd hx hy)).2.1
theorem lt3_ok {x y : Nat} (hx : x ≤ 9) (hy : y ≤ 9) : (lt3 x y).Ok := (rdE_iff.1 (lt3_rd hx hy)).2.1
theorem ofVal_two' (r : Option Int) : ∃ (n : Int) (b : Bool), ofVal r = .tuple #[.int .i64 n, .bool b] ∧ ∀ k, r = some k → n = k := by
  cases r with
  | none => exact ⟨0, false, rfl, fun k h => by cases h⟩
  | some n => exact ⟨n, true, rfl, fun k h => Option.some.inj h⟩
set_option maxHeartbeats 4000000 in
theorem lawLeft (W : World) (v v' : Value) (cl ml : List Int) (hv : CodeV W v cl) (hv' : CodeV W v' ml) (hE : EnvA W) : Calls Tryz.prog 3 #[v, v'] W fun e w' => e = .returned (.bool true) ∧ Below W.heap.size W w' := by
  have DR := Lib.hid (drawOf_any v cl W hv)
  unfold DrewO at DR
  obtain ⟨A, c, rfl, hc, hm⟩ := hv.1.val
  obtain ⟨A', c', rfl, hc', hm'⟩ := hv'.1.val
  clear hv hv'
  by_cases hlen : (1048576 : Int) < ((cl.length : Nat) : Int)
  · have hd : decide ((1048576 : Int) < ((cl.length : Nat) : Int)) = true := by rw [decide_eq_true_eq]; exact hlen
    go_enter Tryz.func3, Tryz.ntmps3
    go_wp2_with fail
    go_ret
    exact ⟨rfl, Below.refl _ _⟩
  have hd : decide ((1048576 : Int) < ((cl.length : Nat) : Int)) = false := by rw [decide_eq_false_iff_not]; exact hlen
  by_cases hlen' : (1048576 : Int) < ((ml.length : Nat) : Int)
  · have hd' : decide ((1048576 : Int) < ((ml.length : Nat) : Int)) = true := by rw [decide_eq_true_eq]; exact hlen'
    go_enter Tryz.func3, Tryz.ntmps3
    go_wp2_with fail
    go_ret
    exact ⟨rfl, Below.refl _ _⟩
  have hd' : decide ((1048576 : Int) < ((ml.length : Nat) : Int)) = false := by rw [decide_eq_false_iff_not]; exact hlen'
  obtain ⟨x, hx⟩ : ∃ x : Nat, x = cl.length % 10 := ⟨_, rfl⟩
  obtain ⟨y, hy⟩ : ∃ y : Nat, y = ml.length % 10 := ⟨_, rfl⟩
  have hx9 : x ≤ 9 := by omega
  have hy9 : y ≤ 9 := by omega
  have hmx : ((cl.length : Nat) : Int).tmod 10 = (x : Int) := by rw [hx, Int.tmod_eq_emod_of_nonneg (by omega)]; omega
  have hmy : ((ml.length : Nat) : Int).tmod 10 = (y : Int) := by rw [hy, Int.tmod_eq_emod_of_nonneg (by omega)]; omega
  have HM := Lib.hid (And.intro hmx hmy)
  have HX9 := Lib.hid (And.intro hx9 hy9)
  clear hx hy hmx hmy
  generalize hcl : cl.length = clen at *
  generalize hml : ml.length = mlen at *
  obtain ⟨hmx, hmy⟩ := HM.out
  go_enter Tryz.func3, Tryz.ntmps3
  go_wp2_with fail
  refine DR.out.mono ?_
  rintro e w1 ⟨vx, xd, vn, vm, names, nums, rfl, hx1, hn1, hm1, hl4, hl5, hb1⟩
  obtain ⟨A1, c1, rfl, hc1, hcm1, hs1, hk1⟩ := hx1.form4
  obtain ⟨An, cn, rfl, _, _⟩ := hn1.val
  obtain ⟨Am, cm, rfl, _, _⟩ := hm1.val
  have NV := Lib.hid (fun (w' : World) (h : Below w1.heap.size w1 w') => (hn1.below h (Nat.le_refl _)).more h.size)
  have MV := Lib.hid (fun (w' : World) (h : Below w1.heap.size w1 w') => (hm1.below h (Nat.le_refl _)).more h.size)
  have EV := Lib.hid (fun (w' : World) (h : Below w1.heap.size w1 w') => hE.ext (hb1.ext h))
  have HN4 := Lib.hid hl4
  have HB1 := Lib.hid hb1
  obtain ⟨V1, hV1⟩ : ∃ V, V = (((w1.alloc (.cells #[.int .i64 xd.kind, .int .i64 xd.n, .string (bs xd.s), .slice A1 xd.kids.length c1] 25)).alloc (.cells #[.int .i64 1, .int .i64 (x : Int), .string ⟨#[]⟩, .slice none 0 0] 25)).alloc (.cells #[.int .i64 1, .int .i64 (y : Int), .string ⟨#[]⟩, .slice none 0 0] 25)).alloc (.cells #[.int .i64 1, .int .i64 3, .string ⟨#[]⟩, .slice none 0 0] 25) := ⟨_, rfl⟩
  have hX1 : Blk V1 (w1.heap.size + 1) 25 #[.int .i64 1, .int .i64 (x : Int), .string ⟨#[]⟩, .slice none 0 0] := by rw [hV1]; exact ((Blk.new' (by simp)).alloc _).alloc _
  have hX2 : Blk V1 (w1.heap.size + 1 + 1) 25 #[.int .i64 1, .int .i64 (y : Int), .string ⟨#[]⟩, .slice none 0 0] := by rw [hV1]; exact (Blk.new' (by simp)).alloc _
  have hX3 : Blk V1 (w1.heap.size + 1 + 1 + 1) 25 #[.int .i64 1, .int .i64 3, .string ⟨#[]⟩, .slice none 0 0] := by rw [hV1]; exact Blk.new' (by simp)
  have hb1V : Below w1.heap.size w1 V1 := by rw [hV1]; (repeat (first | with_reducible assumption | with_reducible exact Below.refl _ _ | with_reducible refine Below.setCell ?_ (by first | omega | (simp; done) | (simp; omega)) _ | with_reducible refine Below.alloc ?_ (by first | omega | (simp; done) | (simp; omega)) _ | with_reducible refine below_drewN ?_ _ | with_reducible refine Below.drew ?_))
  have HX := Lib.hid (And.intro hX1 (And.intro hX2 hX3))
  have hzV : V1.heap.size = w1.heap.size + 4 := by rw [hV1]; simp
  have hokx : (E.num x).Ok := ⟨show x ≤ 1000000 by omega, by simp [E.ht], by simp [E.cnt]⟩
  have hoky : (E.num y).Ok := ⟨show y ≤ 1000000 by omega, by simp [E.ht], by simp [E.cnt]⟩
  have hV := Lib.hid (fun (w' : World) (h : Below V1.heap.size V1 w') => h)
  have EW := Lib.hid (fun (w' : World) (h : Below V1.heap.size V1 w') => EV.out w' (hb1V.ext h))
  have WX := Lib.hid (fun (w' : World) (h : Below V1.heap.size V1 w') => imExprWords_any (E.num x) (.agg (nbC x)) w' hokx (exv_num _ _ _) (EW.out _ h).env)
  have WY := Lib.hid (fun (w' : World) (h : Below V1.heap.size V1 w') => imExprWords_any (E.num y) (.agg (nbC y)) w' hoky (exv_num _ _ _) (EW.out _ h).env)
  have SX := Lib.hid (fun (w' : World) => spExprWords_any (E.num x) (.agg (nbC x)) w' hokx (exv_num _ _ _))
  simp only [nbC, E.words] at WX WY SX
  have hsx := E.words_short (.num x) 1 hokx.1 (decL x) (by simp [E.words])
  have hsy := E.words_short (.num y) 1 hoky.1 (decL y) (by simp [E.words])
  have h1 := lt1_rd hx9 hy9
  have h2 := lt2_rd hx9 hy9
  have h3 := lt3_rd hx9 hy9
  have HR := Lib.hid (And.intro (And.intro (rdX_some h1) (rdOk_some h1)) (And.intro (And.intro (rdX_some h2) (rdOk_some h2)) (And.intro (rdX_some h3) (rdOk_some h3))))
  have HS := Lib.hid (And.intro hsx hsy)
  generalize decL x = dx at *
  generalize decL y = dy at *
  have HV1 := Lib.hid hV1
  have HA1 := Lib.hid hb1V
  have W0 := Lib.hid (WX.out V1 (Below.refl _ _))
  rw [hV1] at W0
  clear hx1 hk1 hn1 hm1 hl4 hl5 hb1 DR hX1 hX2 hX3 hb1V hV1 hsx hsy h1 h2 h3 hokx hoky hE EV
  go_wp2_with fail
  refine W0.out.mono ?_
  rw [← HV1.out]
  rintro r w2 ⟨u2, rfl, hS2, hb2⟩
  obtain ⟨A2, c2, rfl, hc2, hcm2⟩ := hS2.val
  have T2 := Lib.hid (imTokText_any [dx] _ w2 hS2 (by have := HS.out; simp [joinL]; omega) (by simp))
  have hbv2 : Below V1.heap.size V1 w2 := hb2
  clear hS2 W0
  go_wp2_with fail
  refine T2.out.mono ?_
  rintro r w3 ⟨rfl, hb3⟩
  have hbv3 := hbv2.ext hb3
  rw [show joinL [dx] = dx by simp [joinL]]
  have hX1 := HX.out.1.below (hV.out _ hbv3) HX.out.1.lt
  have hX2 := HX.out.2.1.below (hV.out _ hbv3) HX.out.2.1.lt
  have hX3 := HX.out.2.2.below (hV.out _ hbv3) HX.out.2.2.lt
  skip; have pa0 := hX2.cell 0; have pa1 := hX2.cell 1; have pa2 := hX2.cell 2; have pa3 := hX2.cell 3; simp at pa0 pa1 pa2 pa3
  have W3 := Lib.hid (WY.out w3 hbv3)
  clear hX1 hX2 hX3 T2 hb3
  go_wp2_with fail
  refine W3.out.mono ?_
  rintro r w4 ⟨u4, rfl, hS4, hb4⟩
  obtain ⟨A4, c4, rfl, hc4, hcm4⟩ := hS4.val
  have T4 := Lib.hid (imTokText_any [dy] _ w4 hS4 (by have := HS.out; simp [joinL]; omega) (by simp))
  have hbv4 := hbv3.ext hb4
  clear hS4 W3
  go_wp2_with fail
  refine T4.out.mono ?_
  rintro r w5 ⟨rfl, hb5⟩
  have hbv5 := hbv4.ext hb5
  rw [show joinL [dy] = dy by simp [joinL]]
  have hX1 := HX.out.1.below (hV.out _ hbv5) HX.out.1.lt
  have hX2 := HX.out.2.1.below (hV.out _ hbv5) HX.out.2.1.lt
  have hX3 := HX.out.2.2.below (hV.out _ hbv5) HX.out.2.2.lt
  clear pa0 pa1 pa2 pa3
  skip; have pa0 := hX1.cell 0; have pa1 := hX1.cell 1; have pa2 := hX1.cell 2; have pa3 := hX1.cell 3; simp at pa0 pa1 pa2 pa3
  have W5 := Lib.hid (SX.out w5)
  clear hX1 hX2 hX3 T4 hb5
  go_wp2_with fail
  refine W5.out.mono ?_
  rintro r w6 ⟨u6, rfl, hS6, hb6⟩
  obtain ⟨A6, c6, rfl, hc6, hcm6⟩ := hS6.val
  have T6 := Lib.hid (spTokText_any [dx] _ w6 hS6 (by have := HS.out; simp [joinL]; omega))
  have hbv6 := hbv5.ext hb6
  clear hS6 W5
  go_wp2_with fail
  refine T6.out.mono ?_
  rintro r _ ⟨rfl, rfl⟩
  rw [show joinL [dx] = dx by simp [joinL]]
  clear T6 hb6
  obtain ⟨V6, hV6⟩ : ∃ V, V = w6.alloc (.cells #[.string (bs dx), .string ⟨#[45]⟩, .string (bs dy), .string ⟨#[45]⟩, .string ⟨#[51]⟩] 9) := ⟨_, rfl⟩
  have hBs : Blk V6 (w6.heap.size) 9 (([dx, [45], dy, [45], [51]] : List Bytes).map (fun s => Value.string (bs s))).toArray := by rw [hV6]; exact Blk.new' rfl
  have hbV6 : Below w6.heap.size w6 V6 := by rw [hV6]; (repeat (first | with_reducible assumption | with_reducible exact Below.refl _ _ | with_reducible refine Below.setCell ?_ (by first | omega | (simp; done) | (simp; omega)) _ | with_reducible refine Below.alloc ?_ (by first | omega | (simp; done) | (simp; omega)) _ | with_reducible refine below_drewN ?_ _ | with_reducible refine Below.drew ?_))
  have R6 := Lib.hid (imExprRead_any [dx, [45], dy, [45], [51]] (.slice (some ⟨w6.heap.size, 0, none⟩) 5 5) V6 (slb_blk (l := [dx, [45], dy, [45], [51]]) (by simp) hBs) (by have := HS.out; intro t ht; simp at ht; rcases ht with rfl | rfl | rfl | rfl | rfl <;> first | omega | (simp; done)) (EW.out _ (hbv6.ext hbV6)))
  unfold RdP at R6
  rw [HR.out.1.1, HR.out.1.2] at R6
  have HW6 := Lib.hid hbV6
  clear hBs hbV6
  rw [hV6] at R6
  go_wp2_with fail
  refine R6.out.mono ?_
  rw [← hV6]
  rintro r w7 ⟨v7, rfl, hM7, hb7⟩
  obtain ⟨A7, c7, hv7, _⟩ := hM7.form3
  have hv7' : v7 = .agg #[.int .i64 3, .int .i64 0, .string ⟨#[45]⟩, .slice A7 2 c7] := hv7
  clear hv7
  subst hv7'
  have hbv7 := (hbv6.ext HW6.out).ext hb7
  have HM7 := Lib.hid hM7
  clear hM7 R6 hV6
  obtain ⟨V7, hV7⟩ : ∃ V, V = (w7.alloc (.cells #[.int .i64 3, .int .i64 0, .string ⟨#[45]⟩, .slice A7 2 c7] 25)).alloc (.cells #[.string (bs dx), .string ⟨#[45]⟩, .string (bs dy), .string ⟨#[42]⟩, .string ⟨#[51]⟩] 9) := ⟨_, rfl⟩
  have hBs : Blk V7 (w7.heap.size + 1) 9 (([dx, [45], dy, [42], [51]] : List Bytes).map (fun s => Value.string (bs s))).toArray := by rw [hV7]; exact Blk.new' (by simp)
  have hbV7 : Below w7.heap.size w7 V7 := by rw [hV7]; (repeat (first | with_reducible assumption | with_reducible exact Below.refl _ _ | with_reducible refine Below.setCell ?_ (by first | omega | (simp; done) | (simp; omega)) _ | with_reducible refine Below.alloc ?_ (by first | omega | (simp; done) | (simp; omega)) _ | with_reducible refine below_drewN ?_ _ | with_reducible refine Below.drew ?_))
  have R7 := Lib.hid (imExprRead_any [dx, [45], dy, [42], [51]] (.slice (some ⟨w7.heap.size + 1, 0, none⟩) 5 5) V7 (slb_blk (l := [dx, [45], dy, [42], [51]]) (by simp) hBs) (by have := HS.out; intro t ht; simp at ht; rcases ht with rfl | rfl | rfl | rfl | rfl <;> first | omega | (simp; done)) (EW.out _ (hbv7.ext hbV7)))
  unfold RdP at R7
  rw [HR.out.2.1.1, HR.out.2.1.2] at R7
  have hT7 : Blk V7 w7.heap.size 25 #[.int .i64 3, .int .i64 0, .string ⟨#[45]⟩, .slice A7 2 c7] := by rw [hV7]; exact (Blk.new _ _ _).alloc _
  have HW7 := Lib.hid hbV7
  clear hBs hbV7
  rw [hV7] at R7
  go_wp2_with fail
  refine R7.out.mono ?_
  rw [← hV7]
  rintro r w8 ⟨v8, rfl, hM8, hb8⟩
  obtain ⟨A8, c8, hv8, _⟩ := hM8.form3
  have hv8' : v8 = .agg #[.int .i64 3, .int .i64 0, .string ⟨#[45]⟩, .slice A8 2 c8] := hv8
  clear hv8
  subst hv8'
  have hbv8 := (hbv7.ext HW7.out).ext hb8
  have hT7 := hT7.below hb8 hT7.lt
  have HM8 := Lib.hid hM8
  clear hM8 R7 hV7
  obtain ⟨V8, hV8⟩ : ∃ V, V = (w8.alloc (.cells #[.int .i64 3, .int .i64 0, .string ⟨#[45]⟩, .slice A8 2 c8] 25)).alloc (.cells #[.string (bs dx), .string ⟨#[45]⟩, .string ⟨#[40]⟩, .string (bs dy), .string ⟨#[45]⟩, .string ⟨#[51]⟩, .string ⟨#[41]⟩] 9) := ⟨_, rfl⟩
  have hBs : Blk V8 (w8.heap.size + 1) 9 (([dx, [45], [40], dy, [45], [51], [41]] : List Bytes).map (fun s => Value.string (bs s))).toArray := by rw [hV8]; exact Blk.new' (by simp)
  have hbV8 : Below w8.heap.size w8 V8 := by rw [hV8]; (repeat (first | with_reducible assumption | with_reducible exact Below.refl _ _ | with_reducible refine Below.setCell ?_ (by first | omega | (simp; done) | (simp; omega)) _ | with_reducible refine Below.alloc ?_ (by first | omega | (simp; done) | (simp; omega)) _ | with_reducible refine below_drewN ?_ _ | with_reducible refine Below.drew ?_))
  have R8 := Lib.hid (imExprRead_any [dx, [45], [40], dy, [45], [51], [41]] (.slice (some ⟨w8.heap.size + 1, 0, none⟩) 7 7) V8 (slb_blk (l := [dx, [45], [40], dy, [45], [51], [41]]) (by simp) hBs) (by have := HS.out; intro t ht; simp at ht; rcases ht with rfl | rfl | rfl | rfl | rfl | rfl | rfl <;> first | omega | (simp; done)) (EW.out _ (hbv8.ext hbV8)))
  unfold RdP at R8
  rw [HR.out.2.2.1, HR.out.2.2.2] at R8
  have hT8 : Blk V8 w8.heap.size 25 #[.int .i64 3, .int .i64 0, .string ⟨#[45]⟩, .slice A8 2 c8] := by rw [hV8]; exact (Blk.new _ _ _).alloc _
  have HW8 := Lib.hid hbV8
  clear hBs hbV8
  rw [hV8] at R8
  go_wp2_with fail
  refine R8.out.mono ?_
  rw [← hV8]
  rintro r w9 ⟨v9, rfl, hM9, hb9⟩
  obtain ⟨A9, c9, hv9, _⟩ := hM9.form3
  have hv9' : v9 = .agg #[.int .i64 3, .int .i64 0, .string ⟨#[45]⟩, .slice A9 2 c9] := hv9
  clear hv9
  subst hv9'
  have hbv9 := (hbv8.ext HW8.out).ext hb9
  have hT8 := hT8.below hb9 hT8.lt
  have hT7 := hT7.below (HW8.out.ext hb9) hT7.lt
  have hb78 := HW7.out.ext hb8
  have hb79 := hb78.ext (HW8.out.ext hb9)
  have hb89 := HW8.out.ext hb9
  have HM9 := Lib.hid hM9
  clear hM9 R8 hV8
  have hk7 : ExS w7 w7.heap.size (.slice A7 2 c7) (lt1 x y).ex.kids := by
    obtain ⟨kv, hkv, _, hk⟩ := HM7.out.exv
    have e : (Value.slice A7 2 c7) = kv := Option.some.inj (congrArg (fun v => (match v with | Value.agg a => a[3]? | _ => none)) hkv)
    rw [e]
    exact hk
  obtain ⟨b7, o7, p, q, sq, B7, d7, mq, rfl, hbq7, hg7, _, _, _, hkk7, f70, f71, f72, f73⟩ := ex_at (i := 1) hk7 (by show 1 < 2; omega)
  have hg7' : Ex.mk 1 3 [] [] = .mk p q sq mq := Option.some.inj hg7
  injection hg7' with e1 e2 e3 e4
  subst e1 e2 e3 e4
  simp only [Nat.one_mul, Nat.zero_mul, Nat.add_zero] at f70 f71 f72 f73
  have KV7 := Lib.hid (show ExV w7 w7.heap.size (.agg #[.int .i64 1, .int .i64 3, .string ⟨#[]⟩, .slice B7 0 d7]) (E.num 3).ex from ⟨_, rfl, by simp [E.ex, Ex.s], hkk7⟩)
  clear hk7 hg7 hkk7
  have hk8 : ExS w8 w8.heap.size (.slice A8 2 c8) (lt2 x y).ex.kids := by
    obtain ⟨kv, hkv, _, hk⟩ := HM8.out.exv
    have e : (Value.slice A8 2 c8) = kv := Option.some.inj (congrArg (fun v => (match v with | Value.agg a => a[3]? | _ => none)) hkv)
    rw [e]
    exact hk
  obtain ⟨b8, o8, p, q, sq, B8, d8, mq, rfl, hbq8, hg8, _, _, _, hkk8, f80, f81, f82, f83⟩ := ex_at (i := 0) hk8 (by show 0 < 2; omega)
  have hg8' : Ex.mk 1 (x : Int) [] [] = .mk p q sq mq := Option.some.inj hg8
  injection hg8' with e1 e2 e3 e4
  subst e1 e2 e3 e4
  simp only [Nat.one_mul, Nat.zero_mul, Nat.add_zero] at f80 f81 f82 f83
  have KV8 := Lib.hid (show ExV w8 w8.heap.size (.agg #[.int .i64 1, .int .i64 (x : Int), .string ⟨#[]⟩, .slice B8 0 d8]) (E.num x).ex from ⟨_, rfl, by simp [E.ex, Ex.s], hkk8⟩)
  clear hk8 hg8 hkk8
  have hk9 : ExS w9 w9.heap.size (.slice A9 2 c9) (lt3 x y).ex.kids := by
    obtain ⟨kv, hkv, _, hk⟩ := HM9.out.exv
    have e : (Value.slice A9 2 c9) = kv := Option.some.inj (congrArg (fun v => (match v with | Value.agg a => a[3]? | _ => none)) hkv)
    rw [e]
    exact hk
  obtain ⟨b9, o9, p, q, sq, B9, d9, mq, rfl, hbq9, hg9, _, _, _, hkk9, f90, f91, f92, f93⟩ := ex_at (i := 0) hk9 (by show 0 < 2; omega)
  have hg9' : Ex.mk 1 (x : Int) [] [] = .mk p q sq mq := Option.some.inj hg9
  injection hg9' with e1 e2 e3 e4
  subst e1 e2 e3 e4
  simp only [Nat.one_mul, Nat.zero_mul, Nat.add_zero] at f90 f91 f92 f93
  have KV9 := Lib.hid (show ExV w9 w9.heap.size (.agg #[.int .i64 1, .int .i64 (x : Int), .string ⟨#[]⟩, .slice B9 0 d9]) (E.num x).ex from ⟨_, rfl, by simp [E.ex, Ex.s], hkk9⟩)
  clear hk9 hg9 hkk9
  obtain ⟨V9, hV9⟩ : ∃ V, V = w9.alloc (.cells #[.int .i64 3, .int .i64 0, .string ⟨#[45]⟩, .slice (some ⟨b9, o9, none⟩) 2 c9] 25) := ⟨_, rfl⟩
  have hT9 : Blk V9 w9.heap.size 25 #[.int .i64 3, .int .i64 0, .string ⟨#[45]⟩, .slice (some ⟨b9, o9, none⟩) 2 c9] := by rw [hV9]; exact Blk.new _ _ _
  have hz9 : Below w9.heap.size w9 V9 := by rw [hV9]; (repeat (first | with_reducible assumption | with_reducible exact Below.refl _ _ | with_reducible refine Below.setCell ?_ (by first | omega | (simp; done) | (simp; omega)) _ | with_reducible refine Below.alloc ?_ (by first | omega | (simp; done) | (simp; omega)) _ | with_reducible refine below_drewN ?_ _ | with_reducible refine Below.drew ?_))
  have hz8 := hb89.ext hz9
  have hz7 := hb79.ext hz9
  have hT7 := hT7.below hz9 hT7.lt
  have hT8 := hT8.below hz9 hT8.lt
  have hV19 := hbv9.ext hz9
  have hX1 := HX.out.1.below hV19 HX.out.1.lt
  have hX3 := HX.out.2.2.below hV19 HX.out.2.2.lt
  have HT := Lib.hid (And.intro hT7 (And.intro hT8 hT9))
  have KEEP := Lib.hid (show ∀ w' : World, Below V9.heap.size V9 w' → (w'.cell? ⟨w7.heap.size, 3, none⟩ = some (.slice (some ⟨b7, o7, none⟩) 2 c7) ∧ w'.cell? ⟨w8.heap.size, 3, none⟩ = some (.slice (some ⟨b8, o8, none⟩) 2 c8) ∧ w'.cell? ⟨w9.heap.size, 3, none⟩ = some (.slice (some ⟨b9, o9, none⟩) 2 c9) ∧ (w'.cell? ⟨w1.heap.size + 1, 0, none⟩ = some (.int .i64 1) ∧ w'.cell? ⟨w1.heap.size + 1, 1, none⟩ = some (.int .i64 (x : Int)) ∧ w'.cell? ⟨w1.heap.size + 1, 2, none⟩ = some (.string ⟨#[]⟩) ∧ w'.cell? ⟨w1.heap.size + 1, 3, none⟩ = some (.slice none 0 0)) ∧ (w'.cell? ⟨w1.heap.size + 1 + 1 + 1, 0, none⟩ = some (.int .i64 1) ∧ w'.cell? ⟨w1.heap.size + 1 + 1 + 1, 1, none⟩ = some (.int .i64 3) ∧ w'.cell? ⟨w1.heap.size + 1 + 1 + 1, 2, none⟩ = some (.string ⟨#[]⟩) ∧ w'.cell? ⟨w1.heap.size + 1 + 1 + 1, 3, none⟩ = some (.slice none 0 0)) ∧ (w'.cell? ⟨b7, o7 + 4, none⟩ = some (.int .i64 1) ∧ w'.cell? ⟨b7, o7 + 4 + 1, none⟩ = some (.int .i64 3) ∧ w'.cell? ⟨b7, o7 + 4 + 2, none⟩ = some (.string ⟨#[]⟩) ∧ w'.cell? ⟨b7, o7 + 4 + 3, none⟩ = some (.slice B7 0 d7)) ∧ (w'.cell? ⟨b8, o8, none⟩ = some (.int .i64 1) ∧ w'.cell? ⟨b8, o8 + 1, none⟩ = some (.int .i64 (x : Int)) ∧ w'.cell? ⟨b8, o8 + 2, none⟩ = some (.string ⟨#[]⟩) ∧ w'.cell? ⟨b8, o8 + 3, none⟩ = some (.slice B8 0 d8)) ∧ (w'.cell? ⟨b9, o9, none⟩ = some (.int .i64 1) ∧ w'.cell? ⟨b9, o9 + 1, none⟩ = some (.int .i64 (x : Int)) ∧ w'.cell? ⟨b9, o9 + 2, none⟩ = some (.string ⟨#[]⟩) ∧ w'.cell? ⟨b9, o9 + 3, none⟩ = some (.slice B9 0 d9))) from fun w' h => by
    have a1 := hX1.below h hX1.lt
    have a3 := hX3.below h hX3.lt
    exact ⟨(hT7.below h hT7.lt).cell 3, (hT8.below h hT8.lt).cell 3, (hT9.below h hT9.lt).cell 3, ⟨a1.cell 0, a1.cell 1, a1.cell 2, a1.cell 3⟩, ⟨a3.cell 0, a3.cell 1, a3.cell 2, a3.cell 3⟩, ⟨f70 ⟨w', hz7.ext h⟩, f71 ⟨w', hz7.ext h⟩, f72 ⟨w', hz7.ext h⟩, f73 ⟨w', hz7.ext h⟩⟩, ⟨f80 ⟨w', hz8.ext h⟩, f81 ⟨w', hz8.ext h⟩, f82 ⟨w', hz8.ext h⟩, f83 ⟨w', hz8.ext h⟩⟩, ⟨f90 ⟨w', hz9.ext h⟩, f91 ⟨w', hz9.ext h⟩, f92 ⟨w', hz9.ext h⟩, f93 ⟨w', hz9.ext h⟩⟩⟩)
  have EQ7 := Lib.hid (fun (w' : World) (h : Below V9.heap.size V9 w') => imSame_any (E.num 3).ex (E.num 3).ex _ (.agg (nbC 3)) w' ((KV7.out.keep (hz7.ext h) (Nat.le_refl _)).more (hz7.ext h).size) (exv_num _ _ _))
  have EQ8 := Lib.hid (fun (w' : World) (h : Below V9.heap.size V9 w') => imSame_any (E.num x).ex (E.num x).ex _ (.agg (nbC x)) w' ((KV8.out.keep (hz8.ext h) (Nat.le_refl _)).more (hz8.ext h).size) (exv_num _ _ _))
  have EQ9 := Lib.hid (fun (w' : World) (h : Below V9.heap.size V9 w') => imSame_any (E.num x).ex (E.num x).ex _ (.agg (nbC x)) w' ((KV9.out.keep (hz9.ext h) (Nat.le_refl _)).more (hz9.ext h).size) (exv_num _ _ _))
  rw [decide_eq_true (rfl : (E.num 3).ex = (E.num 3).ex)] at EQ7
  rw [decide_eq_true (rfl : (E.num x).ex = (E.num x).ex)] at EQ8 EQ9
  simp only [nbC] at EQ7 EQ8 EQ9
  have E7 := Lib.hid (fun (w' : World) (h : Below V9.heap.size V9 w') => ((HM7.out.exv.keep (hz7.ext h) (Nat.le_refl _)).more (hz7.ext h).size))
  have E8 := Lib.hid (fun (w' : World) (h : Below V9.heap.size V9 w') => ((HM8.out.exv.keep (hz8.ext h) (Nat.le_refl _)).more (hz8.ext h).size))
  have E9 := Lib.hid (fun (w' : World) (h : Below V9.heap.size V9 w') => ((HM9.out.exv.keep (hz9.ext h) (Nat.le_refl _)).more (hz9.ext h).size))
  have HV19 := Lib.hid hV19
  have HV9 := Lib.hid (fun (w' : World) (h : Below V9.heap.size V9 w') => h)
  have tok1 : True := trivial
  have tok2 : True := trivial
  clear hT7 hT8 hT9 hz7 hz8 hz9 hV19 hX1 hX3 hb79 hb78 hb89 hb7 hb8 hb9 f70 f71 f72 f73 f80 f81 f82 f83 f90 f91 f92 f93
  subst hV9
  go_wp2_with fail
  go_region_held3 (fun w' => w'.cell? ⟨w7.heap.size, 3, none⟩ = some (.slice (some ⟨b7, o7, none⟩) 2 c7) ∧ w'.cell? ⟨w8.heap.size, 3, none⟩ = some (.slice (some ⟨b8, o8, none⟩) 2 c8) ∧ w'.cell? ⟨w9.heap.size, 3, none⟩ = some (.slice (some ⟨b9, o9, none⟩) 2 c9) ∧ (w'.cell? ⟨w1.heap.size + 1, 0, none⟩ = some (.int .i64 1) ∧ w'.cell? ⟨w1.heap.size + 1, 1, none⟩ = some (.int .i64 (x : Int)) ∧ w'.cell? ⟨w1.heap.size + 1, 2, none⟩ = some (.string ⟨#[]⟩) ∧ w'.cell? ⟨w1.heap.size + 1, 3, none⟩ = some (.slice none 0 0)) ∧ (w'.cell? ⟨w1.heap.size + 1 + 1 + 1, 0, none⟩ = some (.int .i64 1) ∧ w'.cell? ⟨w1.heap.size + 1 + 1 + 1, 1, none⟩ = some (.int .i64 3) ∧ w'.cell? ⟨w1.heap.size + 1 + 1 + 1, 2, none⟩ = some (.string ⟨#[]⟩) ∧ w'.cell? ⟨w1.heap.size + 1 + 1 + 1, 3, none⟩ = some (.slice none 0 0)) ∧ (w'.cell? ⟨b7, o7 + 4, none⟩ = some (.int .i64 1) ∧ w'.cell? ⟨b7, o7 + 4 + 1, none⟩ = some (.int .i64 3) ∧ w'.cell? ⟨b7, o7 + 4 + 2, none⟩ = some (.string ⟨#[]⟩) ∧ w'.cell? ⟨b7, o7 + 4 + 3, none⟩ = some (.slice B7 0 d7)) ∧ (w'.cell? ⟨b8, o8, none⟩ = some (.int .i64 1) ∧ w'.cell? ⟨b8, o8 + 1, none⟩ = some (.int .i64 (x : Int)) ∧ w'.cell? ⟨b8, o8 + 2, none⟩ = some (.string ⟨#[]⟩) ∧ w'.cell? ⟨b8, o8 + 3, none⟩ = some (.slice B8 0 d8)) ∧ (w'.cell? ⟨b9, o9, none⟩ = some (.int .i64 1) ∧ w'.cell? ⟨b9, o9 + 1, none⟩ = some (.int .i64 (x : Int)) ∧ w'.cell? ⟨b9, o9 + 2, none⟩ = some (.string ⟨#[]⟩) ∧ w'.cell? ⟨b9, o9 + 3, none⟩ = some (.slice B9 0 d9)))
    (first | exact KEEP.out _ (by (repeat (first | with_reducible assumption | with_reducible exact Below.refl _ _ | with_reducible refine Below.setCell ?_ (by first | omega | (simp; done) | (simp; omega)) _ | with_reducible refine Below.alloc ?_ (by first | omega | (simp; done) | (simp; omega)) _ | with_reducible refine below_drewN ?_ _ | with_reducible refine Below.drew ?_ | with_reducible refine Below.trans ?_ (Below.mono hb13 (by first | omega | (simp; done) | (simp; omega))) | with_reducible refine Below.trans ?_ (Below.mono hb12 (by first | omega | (simp; done) | (simp; omega))) | with_reducible refine Below.trans ?_ (Below.mono hb11 (by first | omega | (simp; done) | (simp; omega)))))) | go_keep)
    (first
      | (have tk := tok1; go_at_call 10; refine (EQ7.out _ (by (repeat (first | with_reducible assumption | with_reducible exact Below.refl _ _ | with_reducible refine Below.setCell ?_ (by first | omega | (simp; done) | (simp; omega)) _ | with_reducible refine Below.alloc ?_ (by first | omega | (simp; done) | (simp; omega)) _ | with_reducible refine below_drewN ?_ _ | with_reducible refine Below.drew ?_)))).mono ?_; rintro r w11 ⟨rfl, hb11⟩; clear tk tok1; have hz11 := hb11.size; (try simp at hz11))
      | (have tk := tok2; go_at_call 10; refine (EQ8.out _ (by (repeat (first | with_reducible assumption | with_reducible exact Below.refl _ _ | with_reducible refine Below.setCell ?_ (by first | omega | (simp; done) | (simp; omega)) _ | with_reducible refine Below.alloc ?_ (by first | omega | (simp; done) | (simp; omega)) _ | with_reducible refine below_drewN ?_ _ | with_reducible refine Below.drew ?_ | with_reducible refine Below.trans ?_ (Below.mono hb11 (by first | omega | (simp; done) | (simp; omega))))))).mono ?_; rintro r w12 ⟨rfl, hb12⟩; clear tk tok2; have hz12 := hb12.size; (try simp at hz12))
      | (have tk := hb12; go_at_call 10; refine (EQ9.out _ (by (repeat (first | with_reducible assumption | with_reducible exact Below.refl _ _ | with_reducible refine Below.setCell ?_ (by first | omega | (simp; done) | (simp; omega)) _ | with_reducible refine Below.alloc ?_ (by first | omega | (simp; done) | (simp; omega)) _ | with_reducible refine below_drewN ?_ _ | with_reducible refine Below.drew ?_ | with_reducible refine Below.trans ?_ (Below.mono hb12 (by first | omega | (simp; done) | (simp; omega))) | with_reducible refine Below.trans ?_ (Below.mono hb11 (by first | omega | (simp; done) | (simp; omega))))))).mono ?_; rintro r w13 ⟨rfl, hb13⟩; have hz13 := hb13.size; (try simp at hz13))
      | fail)
  all_goals
    have hb9w := HV9.out w13 (by (repeat (first | with_reducible assumption | with_reducible exact Below.refl _ _ | with_reducible refine Below.setCell ?_ (by first | omega | (simp; done) | (simp; omega)) _ | with_reducible refine Below.alloc ?_ (by first | omega | (simp; done) | (simp; omega)) _ | with_reducible refine below_drewN ?_ _ | with_reducible refine Below.drew ?_ | with_reducible refine Below.trans ?_ (Below.mono hb13 (by first | omega | (simp; done) | (simp; omega))) | with_reducible refine Below.trans ?_ (Below.mono hb12 (by first | omega | (simp; done) | (simp; omega))) | with_reducible refine Below.trans ?_ (Below.mono hb11 (by first | omega | (simp; done) | (simp; omega))))))
    obtain ⟨n7, k7, hov7, hk7⟩ := ofVal_two' (valX (lt1 x y).ex names nums)
    obtain ⟨n8, k8, hov8, hk8⟩ := ofVal_two' (valX (lt2 x y).ex names nums)
    obtain ⟨n9, k9, hov9, hk9⟩ := ofVal_two' (valX (lt3 x y).ex names nums)
    have HKS := Lib.hid (And.intro hk7 (And.intro hk8 hk9))
    clear hk7 hk8 hk9
    obtain ⟨xa0, xa1, xa2, _⟩ := KEEP.out w13 (by (repeat (first | with_reducible assumption | with_reducible exact Below.refl _ _ | with_reducible refine Below.setCell ?_ (by first | omega | (simp; done) | (simp; omega)) _ | with_reducible refine Below.alloc ?_ (by first | omega | (simp; done) | (simp; omega)) _ | with_reducible refine below_drewN ?_ _ | with_reducible refine Below.drew ?_ | with_reducible refine Below.trans ?_ (Below.mono hb13 (by first | omega | (simp; done) | (simp; omega))) | with_reducible refine Below.trans ?_ (Below.mono hb12 (by first | omega | (simp; done) | (simp; omega))) | with_reducible refine Below.trans ?_ (Below.mono hb11 (by first | omega | (simp; done) | (simp; omega))))))
    clear hb11 hb12 hb13 xa0 xa1 xa2 KEEP
    have O7 := Lib.hid (imExprOf_any (lt1 x y).ex _ _ _ names nums w13 (by have := HN4.out; omega) (E7.out _ hb9w) (NV.out _ (HA1.out.ext (HV19.out.ext hb9w))) (MV.out _ (HA1.out.ext (HV19.out.ext hb9w))) (EW.out _ (HV19.out.ext hb9w)).env)
    rw [hov7] at O7
    have hT := HT.out.1.below hb9w HT.out.1.lt
    skip; have pa0 := hT.cell 0; have pa1 := hT.cell 1; have pa2 := hT.cell 2; have pa3 := hT.cell 3; simp at pa0 pa1 pa2 pa3
    clear hT
    go_wp2_with fail
    refine O7.out.mono ?_
    rintro r w14 ⟨rfl, hbq7'⟩
    have hb9w7 := hb9w.ext hbq7'
    clear O7
    clear pa0 pa1 pa2 pa3
    have O8 := Lib.hid (imExprOf_any (lt2 x y).ex _ _ _ names nums w14 (by have := HN4.out; omega) (E8.out _ hb9w7) (NV.out _ (HA1.out.ext (HV19.out.ext hb9w7))) (MV.out _ (HA1.out.ext (HV19.out.ext hb9w7))) (EW.out _ (HV19.out.ext hb9w7)).env)
    rw [hov8] at O8
    have hT := HT.out.2.1.below hb9w7 HT.out.2.1.lt
    skip; have pa0 := hT.cell 0; have pa1 := hT.cell 1; have pa2 := hT.cell 2; have pa3 := hT.cell 3; simp at pa0 pa1 pa2 pa3
    clear hT
    go_wp2_with fail
    refine O8.out.mono ?_
    rintro r w15 ⟨rfl, hbq8'⟩
    have hb9w78 := hb9w7.ext hbq8'
    clear O8
    clear pa0 pa1 pa2 pa3
    have O9 := Lib.hid (imExprOf_any (lt3 x y).ex _ _ _ names nums w15 (by have := HN4.out; omega) (E9.out _ hb9w78) (NV.out _ (HA1.out.ext (HV19.out.ext hb9w78))) (MV.out _ (HA1.out.ext (HV19.out.ext hb9w78))) (EW.out _ (HV19.out.ext hb9w78)).env)
    rw [hov9] at O9
    have hT := HT.out.2.2.below hb9w78 HT.out.2.2.lt
    skip; have pa0 := hT.cell 0; have pa1 := hT.cell 1; have pa2 := hT.cell 2; have pa3 := hT.cell 3; simp at pa0 pa1 pa2 pa3
    clear hT
    go_wp2_with fail
    refine O9.out.mono ?_
    rintro r w16 ⟨rfl, hbq9'⟩
    have hb9w789 := hb9w78.ext hbq9'
    clear O9
    clear pa0 pa1 pa2 pa3
    have hbe : Below W.heap.size W w16 := HB1.out.ext (HA1.out.ext (HV19.out.ext hb9w789))
    obtain ⟨hx9, hy9⟩ := HX9.out
    have q1 : IntKind.i64.wrap ((x : Int) - y) = (x : Int) - y := by rw [IntKind.wrap_i64]; omega
    have q2 : IntKind.i64.wrap ((x : Int) - y - 3) = (x : Int) - y - 3 := by rw [IntKind.wrap_i64]; omega
    have q3 : IntKind.i64.wrap ((y : Int) * 3) = (y : Int) * 3 := by rw [IntKind.wrap_i64]; omega
    have q4 : IntKind.i64.wrap ((x : Int) - y * 3) = (x : Int) - y * 3 := by rw [IntKind.wrap_i64]; omega
    have q5 : IntKind.i64.wrap ((x : Int) - y + 3) = (x : Int) - y + 3 := by rw [IntKind.wrap_i64]; omega
    by_cases hl : names.length = nums.length
    · obtain rfl := HKS.out.1 _ ((valX_e (lt1_ok hx9 hy9) hl).trans (lt1_va hx9 hy9 _ _))
      obtain rfl := HKS.out.2.1 _ ((valX_e (lt2_ok hx9 hy9) hl).trans (lt2_va hx9 hy9 _ _))
      obtain rfl := HKS.out.2.2 _ ((valX_e (lt3_ok hx9 hy9) hl).trans (lt3_va hx9 hy9 _ _))
      have hnb : ((names.length : Int) != (nums.length : Int)) = false := by simp [hl]
      clear hl
      go_wp2_with fail
      go_ret
      exact ⟨rfl, hbe⟩
    · have hnb : ((names.length : Int) != (nums.length : Int)) = true := by simp; omega
      clear hl
      go_wp2_with fail
      go_ret
      exact ⟨rfl, hbe⟩
end Go.Proofs.YtnejngpdplhbhaaGreatDoor
