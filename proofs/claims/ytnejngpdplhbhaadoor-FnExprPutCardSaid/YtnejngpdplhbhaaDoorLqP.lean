
/- The law FnExprPut: the walk. -/
import Derived.Test.YtnejngpdplhbhaaDoorPutI
import Derived.Test.YtnejngpdplhbhaaDoorLqA
import Derived.Test.YtnejngpdplhbhaaDoorMark
import Derived.Test.YtnejngpdplhbhaaDoorApp
namespace Go.Proofs.YtnejngpdplhbhaaDoor
set_option maxRecDepth 100000
set_option linter.unusedSimpArgs false
set_option linter.unusedVariables false
open Go.RowKit
attribute [local go_sem] bs_toList bs_get bs_size

abbrev GtN := Gt intRow 1 3
theorem infoInt : (Tryd.prog.info? 3).map (fun i => (i.zero, i.size, i.bytes)) = some (some (.int .i64 0), 1, 8) := by kernel_rfl
theorem slb_cells {w : World} {B n c : Nat} {ad : Addr} {l : List Bytes} (h : SlB w B (.slice (some ad) n c) l) (h0 : 0 < l.length) : ∀ (j : Nat) (u : Value), (l.flatMap strRow)[j]? = some u → w.cell? (ad.add j) = some u := by
  intro j u hu
  obtain ⟨A, c', e, _, _, hh⟩ := h
  obtain ⟨b, o, hA, _, hc⟩ := hh h0
  simp at e
  obtain ⟨e1, _, _⟩ := e
  subst e1
  obtain rfl := Option.some.inj hA
  rw [flat_str, List.getElem?_map] at hu
  obtain ⟨s, hs, rfl⟩ := Option.map_eq_some_iff.1 hu
  have := hc j s hs 0 _ rfl
  unfold Addr.add
  split
  · next h => subst h; simpa using this
  · simpa using this
theorem flat_int (l : List Int) : l.flatMap intRow = l.map (fun s => Value.int .i64 s) := by
  induction l with
  | nil => rfl
  | cons a l ih => rw [List.flatMap_cons, ih]; rfl
theorem sln_cells {w : World} {B n c : Nat} {ad : Addr} {l : List Int} (h : SlN w B (.slice (some ad) n c) l) (h0 : 0 < l.length) : ∀ (j : Nat) (u : Value), (l.flatMap intRow)[j]? = some u → w.cell? (ad.add j) = some u := by
  intro j u hu
  obtain ⟨A, c', e, _, _, hh⟩ := h
  obtain ⟨b, o, hA, _, hc⟩ := hh h0
  simp at e
  obtain ⟨e1, _, _⟩ := e
  subst e1
  obtain rfl := Option.some.inj hA
  rw [flat_int, List.getElem?_map] at hu
  obtain ⟨s, hs, rfl⟩ := Option.map_eq_some_iff.1 hu
  have := hc j s hs 0 _ rfl
  unfold Addr.add
  split
  · next h => subst h; simpa using this
  · simpa using this
theorem Sl.some {α : Type} {row : α → List Value} {k B n c : Nat} {w : World} {A : Option Addr} {l : List α} (h : Sl row k w B (.slice A n c) l) (h0 : 0 < l.length) : ∃ ad, A = some ad := by
  obtain ⟨A', c', e, _, _, hh⟩ := h
  obtain ⟨b, o, hA, _, _⟩ := hh h0
  simp at e
  exact ⟨_, e.1.trans hA⟩
/-- what each operation of the region has laid into its slot, and whose the rows are -/
structure PutG (b : Nat → Bool) (lo : Nat) (wx : World) (X nv mv : Value) (names : List Bytes) (nums : List Int) (m : Nat) (n2 : Int) (k2 : Bool) (s16 s17 v88 v89 v90 v91 v92 v93 v94 v95 v96 v97 v98 v99 v100 v101 v102 v103 : Value) (oA oP oB oQ : Option Nat) : Prop where
  f0 : b 0 = true → v89 = X
  f1 : b 1 = true → b 3 = false → ∃ g, oA = some g ∧ v90 = .slice (some ⟨g, 0, none⟩) 0 0 ∧ GtS lo wx v90 []
  f2 : b 2 = true → v91 = nv
  f3 : b 3 = true → b 5 = false → ∃ g c, oA = some g ∧ v92 = .slice (some ⟨g, 0, none⟩) names.length c ∧ GtS lo wx v92 names
  f4 : b 4 = true → b 5 = false → ∃ g, oP = some g ∧ v93 = .slice (some ⟨g, 0, none⟩) 1 1 ∧ Blk wx g 9 #[.string (bs [120])]
  f5 : b 5 = true → ∃ g c, oA = some g ∧ v94 = .slice (some ⟨g, 0, none⟩) (names.length + 1) c ∧ GtS lo wx v94 (names ++ [[120]])
  f6 : b 6 = true → b 8 = false → ∃ g, oB = some g ∧ v95 = .slice (some ⟨g, 0, none⟩) 0 0 ∧ GtN lo wx v95 []
  f7 : b 7 = true → v96 = mv
  f8 : b 8 = true → b 11 = false → ∃ g c, oB = some g ∧ v97 = .slice (some ⟨g, 0, none⟩) nums.length c ∧ GtN lo wx v97 nums
  f9 : b 9 = true → v98 = .int .i64 (m : Int)
  f10 : b 10 = true → b 11 = false → ∃ g, oQ = some g ∧ v99 = .slice (some ⟨g, 0, none⟩) 1 1 ∧ Blk wx g 3 #[.int .i64 (m : Int)]
  f11 : b 11 = true → ∃ g c, oB = some g ∧ v100 = .slice (some ⟨g, 0, none⟩) (nums.length + 1) c ∧ GtN lo wx v100 (nums ++ [(m : Int)])
  f12 : b 12 = true → v101 = .tuple #[.int .i64 n2, .bool k2]
  f13 : b 13 = true → v88 = .tuple #[.int .i64 n2, .bool k2]
  f14 : b 14 = true → v102 = .int .i64 n2
  f15 : b 15 = true → v103 = .bool k2
  f16 : b 16 = true → s16 = .int .i64 n2
  f17 : b 17 = true → s17 = .bool k2
  lA : ∀ g, oA = some g → lo ≤ g ∧ g < wx.heap.size
  lP : ∀ g, oP = some g → lo ≤ g ∧ g < wx.heap.size
  lB : ∀ g, oB = some g → lo ≤ g ∧ g < wx.heap.size
  lQ : ∀ g, oQ = some g → lo ≤ g ∧ g < wx.heap.size
  dAP : ∀ g, oA = some g → oP ≠ some g
  dAB : ∀ g, oA = some g → oB ≠ some g
  dAQ : ∀ g, oA = some g → oQ ≠ some g
  dBQ : ∀ g, oB = some g → oQ ≠ some g
  c31 : b 3 = true → b 1 = true
  c53 : b 5 = true → b 3 = true
  c86 : b 8 = true → b 6 = true
  c118 : b 11 = true → b 8 = true
  c5 : b 8 = true → b 5 = true
theorem PutG.ext {b : Nat → Bool} {lo : Nat} {wx : World} {X nv mv : Value} {names : List Bytes} {nums : List Int} {m : Nat} {n2 : Int} {k2 : Bool} {s16 s17 v88 v89 v90 v91 v92 v93 v94 v95 v96 v97 v98 v99 v100 v101 v102 v103 : Value} {oA oP oB oQ : Option Nat} {wy : World} (h : PutG b lo wx X nv mv names nums m n2 k2 s16 s17 v88 v89 v90 v91 v92 v93 v94 v95 v96 v97 v98 v99 v100 v101 v102 v103 oA oP oB oQ) (hb : Below wx.heap.size wx wy) : PutG b lo wy X nv mv names nums m n2 k2 s16 s17 v88 v89 v90 v91 v92 v93 v94 v95 v96 v97 v98 v99 v100 v101 v102 v103 oA oP oB oQ where
  f0 := h.f0
  f1 := fun p q => by obtain ⟨g, e1, e2, e3⟩ := h.f1 p q; exact ⟨g, e1, e2, e3.ext hb⟩
  f2 := h.f2
  f3 := fun p q => by obtain ⟨g, c, e1, e2, e3⟩ := h.f3 p q; exact ⟨g, c, e1, e2, e3.ext hb⟩
  f4 := fun p q => by obtain ⟨g, e1, e2, e3⟩ := h.f4 p q; exact ⟨g, e1, e2, e3.below hb e3.lt⟩
  f5 := fun p => by obtain ⟨g, c, e1, e2, e3⟩ := h.f5 p; exact ⟨g, c, e1, e2, e3.ext hb⟩
  f6 := fun p q => by obtain ⟨g, e1, e2, e3⟩ := h.f6 p q; exact ⟨g, e1, e2, e3.ext hb⟩
  f7 := h.f7
  f8 := fun p q => by obtain ⟨g, c, e1, e2, e3⟩ := h.f8 p q; exact ⟨g, c, e1, e2, e3.ext hb⟩
  f9 := h.f9
  f10 := fun p q => by obtain ⟨g, e1, e2, e3⟩ := h.f10 p q; exact ⟨g, e1, e2, e3.below hb e3.lt⟩
  f11 := fun p => by obtain ⟨g, c, e1, e2, e3⟩ := h.f11 p; exact ⟨g, c, e1, e2, e3.ext hb⟩
  f12 := h.f12
  f13 := h.f13
  f14 := h.f14
  f15 := h.f15
  f16 := h.f16
  f17 := h.f17
  lA := fun g e => ⟨(h.lA g e).1, Nat.lt_of_lt_of_le (h.lA g e).2 hb.size⟩
  lP := fun g e => ⟨(h.lP g e).1, Nat.lt_of_lt_of_le (h.lP g e).2 hb.size⟩
  lB := fun g e => ⟨(h.lB g e).1, Nat.lt_of_lt_of_le (h.lB g e).2 hb.size⟩
  lQ := fun g e => ⟨(h.lQ g e).1, Nat.lt_of_lt_of_le (h.lQ g e).2 hb.size⟩
  dAP := h.dAP
  dAB := h.dAB
  dAQ := h.dAQ
  dBQ := h.dBQ
  c31 := h.c31
  c53 := h.c53
  c86 := h.c86
  c118 := h.c118
  c5 := h.c5
/-- what each operation of the last region has laid into its slot -/
structure QutG (b : Nat → Bool) (wx : World) (X Y : Value) (xb yb : Ex) (m : Nat) (n2 : Int) (k2 : Bool) (s4 u104 u105 u106 u107 u108 u109 u110 u111 u112 u113 u114 u115 u116 u117 u118 u119 u120 u121 u122 u123 u124 u125 u126 u127 : Value) : Prop where
  f0 : b 0 = true → u104 = Y
  f1 : b 1 = true → u105 = .bool true
  f2 : b 2 = true → u106 = .bool true
  f3 : b 3 = true → u107 = .int .i64 n2
  f4 : b 4 = true → u108 = .int .i64 n2
  f5 : b 5 = true → u109 = .bool true
  f6 : b 6 = true → u110 = .bool true
  f7 : b 7 = true → u111 = .bool true
  f8 : b 8 = true → u112 = .bool k2
  f9 : b 9 = true → u113 = .bool (!k2)
  f10 : b 10 = true → u114 = .bool (!k2)
  f11 : b 11 = true → k2 = true → u115 = .bool true
  f12 : b 12 = true → u116 = .bool true
  f13 : b 13 = true → u117 = .bool true
  f14 : b 14 = true → u118 = .bool true
  f15 : b 15 = true → u119 = X
  f16 : b 16 = true → ExV wx wx.heap.size u120 xb
  f17 : b 17 = true → u121 = .int .i64 (m : Int)
  f18 : b 18 = true → u122 = vNum m
  f19 : b 19 = true → ExV wx wx.heap.size u123 yb
  f20 : b 20 = true → u124 = Y
  f21 : b 21 = true → ExV wx wx.heap.size u125 yb
  f22 : b 22 = true → u126 = .bool true
  f23 : b 23 = true → u127 = .bool true
  f24 : b 24 = true → s4 = .bool true
theorem QutG.ext {b : Nat → Bool} {wx : World} {X Y : Value} {xb yb : Ex} {m : Nat} {n2 : Int} {k2 : Bool} {s4 u104 u105 u106 u107 u108 u109 u110 u111 u112 u113 u114 u115 u116 u117 u118 u119 u120 u121 u122 u123 u124 u125 u126 u127 : Value} {wy : World} (h : QutG b wx X Y xb yb m n2 k2 s4 u104 u105 u106 u107 u108 u109 u110 u111 u112 u113 u114 u115 u116 u117 u118 u119 u120 u121 u122 u123 u124 u125 u126 u127) (hb : Below wx.heap.size wx wy) : QutG b wy X Y xb yb m n2 k2 s4 u104 u105 u106 u107 u108 u109 u110 u111 u112 u113 u114 u115 u116 u117 u118 u119 u120 u121 u122 u123 u124 u125 u126 u127 where
  f0 := h.f0
  f1 := h.f1
  f2 := h.f2
  f3 := h.f3
  f4 := h.f4
  f5 := h.f5
  f6 := h.f6
  f7 := h.f7
  f8 := h.f8
  f9 := h.f9
  f10 := h.f10
  f11 := h.f11
  f12 := h.f12
  f13 := h.f13
  f14 := h.f14
  f15 := h.f15
  f16 := fun p => ((h.f16 p).keep hb (Nat.le_refl _)).more hb.size
  f17 := h.f17
  f18 := h.f18
  f19 := fun p => ((h.f19 p).keep hb (Nat.le_refl _)).more hb.size
  f20 := h.f20
  f21 := fun p => ((h.f21 p).keep hb (Nat.le_refl _)).more hb.size
  f22 := h.f22
  f23 := h.f23
  f24 := h.f24
set_option maxHeartbeats 8000000 in
theorem lawPut (W : World) (v v' : Value) (cl ml : List Int) (hv : CodeV W v cl) (hv' : CodeV W v' ml) (hE : Env W) : Calls Tryd.prog 4 #[v, v'] W fun e w' => e = .returned (.bool true) ∧ Below W.heap.size W w' := by
  have DR := Lib.hid (drawOf_any v cl W hv)
  unfold DrewO at DR
  obtain ⟨A, c, rfl, hc, hm⟩ := hv.1.val
  obtain ⟨A', c', rfl, hc', hm'⟩ := hv'.1.val
  clear hv hv'
  by_cases hlen : (1048576 : Int) < ((cl.length : Nat) : Int)
  · have hd : decide ((1048576 : Int) < ((cl.length : Nat) : Int)) = true := by rw [decide_eq_true_eq]; exact hlen
    go_enter Tryd.func4, Tryd.ntmps4
    go_wp2_with fail
    go_ret
    exact ⟨rfl, Below.refl _ _⟩
  have hd : decide ((1048576 : Int) < ((cl.length : Nat) : Int)) = false := by rw [decide_eq_false_iff_not]; exact hlen
  by_cases hlen' : (1048576 : Int) < ((ml.length : Nat) : Int)
  · have hd' : decide ((1048576 : Int) < ((ml.length : Nat) : Int)) = true := by rw [decide_eq_true_eq]; exact hlen'
    go_enter Tryd.func4, Tryd.ntmps4
    go_wp2_with fail
    go_ret
    exact ⟨rfl, Below.refl _ _⟩
  have hd' : decide ((1048576 : Int) < ((ml.length : Nat) : Int)) = false := by rw [decide_eq_false_iff_not]; exact hlen'
  go_enter Tryd.func4, Tryd.ntmps4
  go_wp2_with fail
  refine DR.out.mono ?_
  rintro e w1 ⟨vx, x, vn, vm, names, nums, rfl, hx1, hn1, hm1, hl4, hl5, hb1⟩
  obtain ⟨A1, c1, rfl, hc1, hcm1, hs1, hk1⟩ := hx1.form4
  obtain ⟨An, cn, rfl, _, _⟩ := hn1.val
  obtain ⟨Am, cm, rfl, _, _⟩ := hm1.val
  have XV := Lib.hid (fun (w' : World) (h : Below w1.heap.size w1 w') => (hx1.keep h (Nat.le_refl _)).more h.size)
  have NV := Lib.hid (fun (w' : World) (h : Below w1.heap.size w1 w') => (hn1.below h (Nat.le_refl _)).more h.size)
  have MV := Lib.hid (fun (w' : World) (h : Below w1.heap.size w1 w') => (hm1.below h (Nat.le_refl _)).more h.size)
  have EV := Lib.hid (fun (w' : World) (h : Below w1.heap.size w1 w') => hE.ext (hb1.ext h))
  have HN4 := Lib.hid (And.intro hl4 hl5)
  have HB1 := Lib.hid hb1
  have hX0 := Blk.new w1 25 (bxE x A1 c1)
  obtain ⟨V1, hV1⟩ : ∃ V, V = w1.alloc (.cells (bxE x A1 c1) 25) := ⟨_, rfl⟩
  have hb1a : Below w1.heap.size w1 V1 := by rw [hV1]; (repeat (first | with_reducible assumption | with_reducible exact Below.refl _ _ | with_reducible refine Below.setCell ?_ (by first | omega | (simp; done) | (simp; omega)) _ | with_reducible refine Below.alloc ?_ (by first | omega | (simp; done) | (simp; omega)) _ | with_reducible refine below_drewN ?_ _ | with_reducible refine Below.drew ?_))
  rw [← hV1] at hX0
  obtain ⟨n, ok, hov, _⟩ := ofVal_two (valX x names nums)
  have HOV := Lib.hid hov
  have OF := Lib.hid (imExprOf_any x _ _ _ names nums V1 (by omega) (XV.out _ hb1a) (NV.out _ hb1a) (MV.out _ hb1a) (EV.out _ hb1a))
  rw [hov] at OF
  have HA := Lib.hid hb1a
  clear hx1 hk1 hn1 hm1 hl4 hl5 hb1 hov DR
  skip; have pa0 := hX0.cell 0; have pa1 := hX0.cell 1; have pa2 := hX0.cell 2; have pa3 := hX0.cell 3; simp at pa0 pa1 pa2 pa3
  simp only [bxE] at hV1
  rw [hV1] at OF pa0 pa1 pa2 pa3
  go_wp2_with fail
  refine OF.out.mono ?_
  rw [← hV1]
  rintro e w2 ⟨rfl, hb2⟩
  skip; replace hX0 := hX0.below hb2 hX0.lt
  have hb12 := HA.out.ext hb2
  have SF := Lib.hid (spExprOf_any x _ _ _ names nums w2 (by have := HN4.out; omega) (XV.out _ hb12) (NV.out _ hb12) (MV.out _ hb12))
  rw [HOV.out] at SF
  have HA2 := Lib.hid hb12
  clear OF HA hb12 hb2 hV1
  clear pa0 pa1 pa2 pa3
  skip; have pa0 := hX0.cell 0; have pa1 := hX0.cell 1; have pa2 := hX0.cell 2; have pa3 := hX0.cell 3; simp at pa0 pa1 pa2 pa3
  go_wp2_with fail
  refine SF.out.mono ?_
  rintro e w3 ⟨rfl, hb3⟩
  skip; replace hX0 := hX0.below hb3 hX0.lt
  have hb13 := HA2.out.ext hb3
  have OK := Lib.hid (spOk_any x _ w3 (XV.out _ hb13))
  have HA3 := Lib.hid hb13
  clear SF HA2 hb13 hb3
  clear pa0 pa1 pa2 pa3
  skip; have pa0 := hX0.cell 0; have pa1 := hX0.cell 1; have pa2 := hX0.cell 2; have pa3 := hX0.cell 3; simp at pa0 pa1 pa2 pa3
  cases hok : exOkB x
  · rw [hok] at OK
    clear hX0
    go_wp2_with fail
    refine OK.out.mono ?_
    rintro r w4 ⟨rfl, hb4⟩
    have hbe := HB1.out.ext (HA3.out.ext hb4)
    go_wp2_with fail
    go_ret
    exact ⟨rfl, hbe⟩
  rw [hok] at OK
  by_cases hl : names.length = nums.length
  rotate_left
  · have hnb : ((names.length : Int) != (nums.length : Int)) = true := by simp; omega
    clear hX0
    go_wp2_with fail
    refine OK.out.mono ?_
    rintro r w4 ⟨rfl, hb4⟩
    have hbe := HB1.out.ext (HA3.out.ext hb4)
    go_wp2_with fail
    go_ret
    exact ⟨rfl, hbe⟩
  have hnb : ((names.length : Int) != (nums.length : Int)) = false := by simp [hl]
  have HL := Lib.hid hl
  clear hl
  obtain ⟨e, rfl, heo⟩ := E.ok_iff.1 hok
  obtain ⟨m, hme⟩ : ∃ m : Nat, m = ml.length % 50 := ⟨_, rfl⟩
  have hm50 : m ≤ 1000000 := by omega
  have hmr : ((ml.length : Nat) : Int).tmod 50 = (m : Int) := by rw [hme, Int.tmod_eq_emod_of_nonneg (by omega)]; omega
  have PU := Lib.hid (fun (w' : World) (h : Below w1.heap.size w1 w') => wePut_any m e _ w' (XV.out _ h))
  have hpo : (E.put [120] (.num m) e).Ok := E.put_Ok (show (E.num m).ok from hm50) rfl rfl heo
  have HVP := Lib.hid (show ofVal (valX (E.put [120] (.num m) e).ex names nums) = ofVal (valX e.ex (names ++ [[120]]) (nums ++ [(m : Int)])) by
    rw [valX_e hpo HL.out, valX_e heo (by simp [HL.out]), E.va_put hm50 HL.out])
  have HYB := Lib.hid (show bareX (E.put [120] (.num m) e).ex = (E.put [120] (.num m) e.bare).ex by rw [bareX_e hpo, E.put_bare rfl])
  have HXB := Lib.hid (bareX_e heo)
  have HYO := Lib.hid (E.ok_iff.2 ⟨_, rfl, hpo⟩)
  have PB := Lib.hid (fun (w' : World) (u : Value) (hu : ExV w' w'.heap.size u e.bare.ex) => wePut_any m e.bare u w' hu)
  have HMR := Lib.hid hmr
  clear hme hm50 hpo hmr
  generalize (E.put [120] (.num m) e).ex = y at *
  generalize (E.put [120] (.num m) e.bare).ex = yb at *
  generalize e.bare.ex = xb at *
  generalize e.ex = x at *
  generalize hml : ml.length = mlen at *
  have hmr := HMR.out
  go_wp2_with fail
  refine OK.out.mono ?_
  rintro r w4 ⟨rfl, hb4⟩
  skip; replace hX0 := hX0.below hb4 hX0.lt
  have hb14 := HA3.out.ext hb4
  have PU4 := Lib.hid (PU.out w4 hb14)
  have HA4 := Lib.hid hb14
  clear OK HA3 hb14 hb4 PU
  clear pa0 pa1 pa2 pa3
  skip; have pa0 := hX0.cell 0; have pa1 := hX0.cell 1; have pa2 := hX0.cell 2; have pa3 := hX0.cell 3; simp at pa0 pa1 pa2 pa3
  go_wp2_with fail
  refine PU4.out.mono ?_
  rintro r w5 ⟨v5, rfl, hD5, hb5⟩
  skip; replace hX0 := hX0.below hb5 hX0.lt
  have hz15 := hX0.lt
  have hb15 := HA4.out.ext hb5
  obtain ⟨A5, c5, rfl, hc5, hcm5, hs5, hk5⟩ := hD5.exv.form4
  have YV := Lib.hid (fun (w' : World) (h : Below w5.heap.size w5 w') => (hD5.exv.keep h (Nat.le_refl _)).more h.size)
  obtain ⟨V5, hV5⟩ : ∃ V, V = w5.alloc (.cells (bxE y A5 c5) 25) := ⟨_, rfl⟩
  have hX5 := Blk.new w5 25 (bxE y A5 c5)
  rw [← hV5] at hX5
  have hb5V : Below w5.heap.size w5 V5 := by rw [hV5]; (repeat (first | with_reducible assumption | with_reducible exact Below.refl _ _ | with_reducible refine Below.setCell ?_ (by first | omega | (simp; done) | (simp; omega)) _ | with_reducible refine Below.alloc ?_ (by first | omega | (simp; done) | (simp; omega)) _ | with_reducible refine below_drewN ?_ _ | with_reducible refine Below.drew ?_))
  have hzV5 : w5.heap.size < V5.heap.size := by rw [hV5]; simp
  skip; replace hX0 := hX0.below hb5V hX0.lt
  have hb1V := hb15.ext hb5V
  obtain ⟨n2, k2, hov2, _⟩ := ofVal_two (valX y names nums)
  have OF := Lib.hid (imExprOf_any y _ _ _ names nums V5 (by have := HN4.out; omega) (YV.out _ hb5V) (NV.out _ hb1V) (MV.out _ hb1V) (EV.out _ hb1V))
  rw [hov2] at OF
  rw [hov2] at HVP
  have HA5 := Lib.hid (And.intro hb1V hb5V)
  clear hD5 hk5 hb15 hb1V hb5V hb5 PU4 hov2
  clear pa0 pa1 pa2 pa3
  skip; have pa0 := hX5.cell 0; have pa1 := hX5.cell 1; have pa2 := hX5.cell 2; have pa3 := hX5.cell 3; simp at pa0 pa1 pa2 pa3
  simp only [bxE] at hV5
  rw [hV5] at OF pa0 pa1 pa2 pa3
  go_wp2_with fail
  refine OF.out.mono ?_
  rw [← hV5]
  rintro e w6 ⟨rfl, hb6⟩
  skip; replace hX0 := hX0.below hb6 hX0.lt; replace hX5 := hX5.below hb6 hX5.lt
  have HA6 := Lib.hid (And.intro (HA5.out.1.ext hb6) (HA5.out.2.ext hb6))
  have HX := Lib.hid (And.intro hX0 hX5)
  clear OF hb6 hV5
  clear pa0 pa1 pa2 pa3
  skip; have pa0 := hX0.cell 0; have pa1 := hX0.cell 1; have pa2 := hX0.cell 2; have pa3 := hX0.cell 3; simp at pa0 pa1 pa2 pa3
  obtain ⟨ad, rfl⟩ := Sl.some (NV.out w6 HA6.out.1) HN4.out.2.1
  obtain ⟨adm, rfl⟩ := Sl.some (MV.out w6 HA6.out.1) HN4.out.2.2.1
  have KEEP := Lib.hid (show ∀ w' : World, Below w6.heap.size w6 w' → (w'.cell? ⟨w1.heap.size, 0, none⟩ = some (.int .i64 x.kind) ∧ w'.cell? ⟨w1.heap.size, 1, none⟩ = some (.int .i64 x.n) ∧ w'.cell? ⟨w1.heap.size, 2, none⟩ = some (.string (bs x.s)) ∧ w'.cell? ⟨w1.heap.size, 3, none⟩ = some (.slice A1 x.kids.length c1)) from fun w' h => by
    have h1 := HX.out.1.below h HX.out.1.lt
    exact ⟨h1.cell 0, h1.cell 1, h1.cell 2, h1.cell 3⟩)
  go_upto_region 11 with fail
  refine wp_region_invB (by kernel_rfl) (by kernel_rfl) (fun b a' wx => ∃ (s16 s17 v88 v89 v90 v91 v92 v93 v94 v95 v96 v97 v98 v99 v100 v101 v102 v103 : Value) (oA oP oB oQ : Option Nat), a' = ⟨#[.slice A cl.length c, .slice A' mlen c', undef, undef, .bool false, .pointer (some ⟨w1.heap.size, 0, none⟩), .slice (some ad) names.length cn, .slice (some adm) nums.length cm, .int .i64 n, .bool ok, .int .i64 n, .bool ok, .int .i64 ↑m, .pointer (some ⟨w5.heap.size, 0, none⟩), .int .i64 n2, .bool k2, s16, s17, .slice A cl.length c, .int .i64 ↑cl.length, .bool false, .bool false, .slice A' mlen c', .int .i64 ↑mlen, .bool false, .bool false, .tuple #[.agg #[.int .i64 x.kind, .int .i64 x.n, .string (bs x.s), .slice A1 x.kids.length c1], .slice (some ad) names.length cn, .slice (some adm) nums.length cm], .slice A cl.length c, .tuple #[.agg #[.int .i64 x.kind, .int .i64 x.n, .string (bs x.s), .slice A1 x.kids.length c1], .slice (some ad) names.length cn, .slice (some adm) nums.length cm], .agg #[.int .i64 x.kind, .int .i64 x.n, .string (bs x.s), .slice A1 x.kids.length c1], .slice (some ad) names.length cn, .slice (some adm) nums.length cm, .tuple #[.int .i64 n, .bool ok], .agg #[.int .i64 x.kind, .int .i64 x.n, .string (bs x.s), .slice A1 x.kids.length c1], .slice (some ad) names.length cn, .slice (some adm) nums.length cm, .tuple #[.int .i64 n, .bool ok], .int .i64 n, .bool ok, .tuple #[.int .i64 n, .bool ok], .agg #[.int .i64 x.kind, .int .i64 x.n, .string (bs x.s), .slice A1 x.kids.length c1], .slice (some ad) names.length cn, .slice (some adm) nums.length cm, .tuple #[.int .i64 n, .bool ok], .int .i64 n, .bool ok, .int .i64 n, .int .i64 n, .bool false, .bool false, .bool ok, .bool ok, .bool false, .bool false, .bool false, .agg #[.int .i64 x.kind, .int .i64 x.n, .string (bs x.s), .slice A1 x.kids.length c1], .bool true, .bool false, .bool false, .bool false, .slice (some ad) names.length cn, .int .i64 ↑names.length, .slice (some adm) nums.length cm, .int .i64 ↑nums.length, .bool false, .bool false, undef, undef, undef, undef, undef, undef, undef, undef, .slice A' mlen c', .int .i64 ↑mlen, .int .i64 ↑m, .agg #[.int .i64 x.kind, .int .i64 x.n, .string (bs x.s), .slice A1 x.kids.length c1], .int .i64 ↑m, .agg #[.int .i64 1, .int .i64 ↑m, .string ⟨#[]⟩, .slice none 0 0], .agg #[.int .i64 y.kind, .int .i64 y.n, .string (bs y.s), .slice A5 y.kids.length c5], .tuple #[.int .i64 n2, .bool k2], .agg #[.int .i64 y.kind, .int .i64 y.n, .string (bs y.s), .slice A5 y.kids.length c5], .slice (some ad) names.length cn, .slice (some adm) nums.length cm, .tuple #[.int .i64 n2, .bool k2], .int .i64 n2, .bool k2, v88, v89, v90, v91, v92, v93, v94, v95, v96, v97, v98, v99, v100, v101, v102, v103, undef, undef, undef, undef, undef, undef, undef, undef, undef, undef, undef, undef, undef, undef, undef, undef, undef, undef, undef, undef, undef, undef, undef, undef], []⟩ ∧ Below w6.heap.size w6 wx ∧ PutG b w6.heap.size wx (.agg #[.int .i64 x.kind, .int .i64 x.n, .string (bs x.s), .slice A1 x.kids.length c1]) (.slice (some ad) names.length cn) (.slice (some adm) nums.length cm) names nums m n2 k2 s16 s17 v88 v89 v90 v91 v92 v93 v94 v95 v96 v97 v98 v99 v100 v101 v102 v103 oA oP oB oQ) ?_ ?_ ?_
  · refine ⟨_, _, _, _, _, _, _, _, _, _, _, _, _, _, _, _, _, _,  none, none, none, none, rfl, Below.drew (Below.refl _ _), ?_⟩
    constructor <;> intro q <;> first | (intro e; cases e; done) | cases q
  · intro b a' wx i o ho hbi hdep ⟨s16, s17, v88, v89, v90, v91, v92, v93, v94, v95, v96, v97, v98, v99, v100, v101, v102, v103, oA, oP, oB, oQ, ha, hbx, hG⟩
    subst ha
    have hi : i < 18 := (Array.getElem?_eq_some_iff.1 ho).1
    rcases (by omega : i = 0 ∨ i = 1 ∨ i = 2 ∨ i = 3 ∨ i = 4 ∨ i = 5 ∨ i = 6 ∨ i = 7 ∨ i = 8 ∨ i = 9 ∨ i = 10 ∨ i = 11 ∨ i = 12 ∨ i = 13 ∨ i = 14 ∨ i = 15 ∨ i = 16 ∨ i = 17) with rfl | rfl | rfl | rfl | rfl | rfl | rfl | rfl | rfl | rfl | rfl | rfl | rfl | rfl | rfl | rfl | rfl | rfl
    all_goals (refine wpOp_step rfl (fun K hK => ?_); simp only [List.getElem?_toArray, List.getElem?_cons_zero, List.getElem?_cons_succ, Option.some.injEq] at ho; subst ho)
    · have h0 := KEEP.out wx hbx
      obtain ⟨pa0, pa1, pa2, pa3⟩ := h0
      go_simp
      exact hK _ _ ⟨_, _, _, _, _, _, _, _, _, _, _, _, _, _, _, _, _, _, oA, oP, oB, oQ, rfl, hbx, ⟨fun _ => rfl, hG.f1, hG.f2, hG.f3, hG.f4, hG.f5, hG.f6, hG.f7, hG.f8, hG.f9, hG.f10, hG.f11, hG.f12, hG.f13, hG.f14, hG.f15, hG.f16, hG.f17, hG.lA, hG.lP, hG.lB, hG.lQ, hG.dAP, hG.dAB, hG.dAQ, hG.dBQ, hG.c31, hG.c53, hG.c86, hG.c118, hG.c5⟩⟩
    · go_simp
      have hzx := hbx.size
      have hG' := fun o => hG.ext (wy := wx.alloc o) ((Below.refl _ _).alloc (Nat.le_refl _) o)
      exact hK _ _ ⟨_, _, _, _, _, _, _, _, _, _, _, _, _, _, _, _, _, _, some wx.heap.size, oP, oB, oQ, rfl, by (repeat (first | with_reducible assumption | with_reducible exact Below.refl _ _ | with_reducible refine Below.setCell ?_ (by first | omega | (simp; done) | (simp; omega)) _ | with_reducible refine Below.alloc ?_ (by first | omega | (simp; done) | (simp; omega)) _ | with_reducible refine below_drewN ?_ _ | with_reducible refine Below.drew ?_ | with_reducible refine Below.trans ?_ (Below.mono hbx (by first | omega | (simp; done) | (simp; omega))))), ⟨hG.f0, fun _ _ => ⟨_, rfl, rfl, gt_empty strRow 1 9 wx _ hbx.size (Below.refl _ _)⟩, hG.f2, fun h => Bool.noConfusion (hbi.symm.trans (hG.c31 h)), (hG' _).f4, fun h => Bool.noConfusion (hbi.symm.trans (hG.c31 (hG.c53 h))), (hG' _).f6, hG.f7, (hG' _).f8, hG.f9, (hG' _).f10, (hG' _).f11, hG.f12, hG.f13, hG.f14, hG.f15, hG.f16, hG.f17, fun g e => by have := Option.some.inj e; have := hbx.size; simp; omega, (hG' _).lP, (hG' _).lB, (hG' _).lQ, fun g e q => by have := Option.some.inj e; have := hG.lP _ q; omega, fun g e q => by have := Option.some.inj e; have := hG.lB _ q; omega, fun g e q => by have := Option.some.inj e; have := hG.lQ _ q; omega, hG.dBQ, fun _ => rfl, hG.c53, hG.c86, hG.c118, hG.c5⟩⟩
    · go_simp
      exact hK _ _ ⟨_, _, _, _, _, _, _, _, _, _, _, _, _, _, _, _, _, _, oA, oP, oB, oQ, rfl, hbx, ⟨hG.f0, hG.f1, fun _ => rfl, hG.f3, hG.f4, hG.f5, hG.f6, hG.f7, hG.f8, hG.f9, hG.f10, hG.f11, hG.f12, hG.f13, hG.f14, hG.f15, hG.f16, hG.f17, hG.lA, hG.lP, hG.lB, hG.lQ, hG.dAP, hG.dAB, hG.dAQ, hG.dBQ, hG.c31, hG.c53, hG.c86, hG.c118, hG.c5⟩⟩
    · obtain ⟨g, hoA, rfl, hgt⟩ := hG.f1 (hdep ⟨1, .data⟩ (by simp) rfl) hbi
      obtain rfl := hG.f2 (hdep ⟨2, .data⟩ (by simp) rfl)
      have hlg := hG.lA g hoA
      refine aps0_step (by rfl) (.tmp 90) (.tmp 91) (by rfl) w6.heap.size _ (by rfl) hgt ad cn names (by rfl) (slb_cells (NV.out wx (HA6.out.1.ext hbx)) HN4.out.2.1) HN4.out.2.1 (by have := HN4.out; omega) hbx.size ?_; intro g' cap' wy hG2 hgr hat
      simp only [Act.put, List.setIfInBounds_toArray, List.set_cons_zero, List.set_cons_succ]
      exact hK _ _ ⟨_, _, _, _, _, _, _, _, _, _, _, _, _, _, _, _, _, _, some g', oP, oB, oQ, rfl, below_app hbx hgr (by intro q hq; simp [Value.ownBlock] at hq; omega) hbx.size, ⟨hG.f0, fun _ h => Bool.noConfusion h, hG.f2, fun _ _ => ⟨g', cap', rfl, rfl, hG2⟩, fun p q => by obtain ⟨g1, e1, e2, e3⟩ := hG.f4 p q; exact ⟨g1, e1, e2, blk_gr e3 hgr (fun e => hG.dAP _ hoA (e1.trans (congrArg some e)))⟩, fun h => Bool.noConfusion (hbi.symm.trans (hG.c53 h)), fun p q => by obtain ⟨g1, e1, e2, e3⟩ := hG.f6 p q; exact ⟨g1, e1, e2, e3.grown hgr (.inr (by rw [e2]; exact fun e => hG.dAB _ hoA (e1.trans e)))⟩, hG.f7, fun p q => by obtain ⟨g1, c1', e1, e2, e3⟩ := hG.f8 p q; exact ⟨g1, c1', e1, e2, e3.grown hgr (.inr (by rw [e2]; exact fun e => hG.dAB _ hoA (e1.trans e)))⟩, hG.f9, fun p q => by obtain ⟨g1, e1, e2, e3⟩ := hG.f10 p q; exact ⟨g1, e1, e2, blk_gr e3 hgr (fun e => hG.dAQ _ hoA (e1.trans (congrArg some e)))⟩, fun p => by obtain ⟨g1, c1', e1, e2, e3⟩ := hG.f11 p; exact ⟨g1, c1', e1, e2, e3.grown hgr (.inr (by rw [e2]; exact fun e => hG.dAB _ hoA (e1.trans e)))⟩, hG.f12, hG.f13, hG.f14, hG.f15, hG.f16, hG.f17, fun g e => by have := Option.some.inj e; have := hG2.lt (b := g') rfl; omega, fun g e => ⟨(hG.lP g e).1, Nat.lt_of_lt_of_le (hG.lP g e).2 hgr.size⟩, fun g e => ⟨(hG.lB g e).1, Nat.lt_of_lt_of_le (hG.lB g e).2 hgr.size⟩, fun g e => ⟨(hG.lQ g e).1, Nat.lt_of_lt_of_le (hG.lQ g e).2 hgr.size⟩, fun g e q => by rcases hat with t | t; exact hG.dAP _ (hoA.trans (t.trans e)) q; have := Option.some.inj e; have := hG.lP _ q; omega, fun g e q => by rcases hat with t | t; exact hG.dAB _ (hoA.trans (t.trans e)) q; have := Option.some.inj e; have := hG.lB _ q; omega, fun g e q => by rcases hat with t | t; exact hG.dAQ _ (hoA.trans (t.trans e)) q; have := Option.some.inj e; have := hG.lQ _ q; omega, hG.dBQ, fun _ => hdep ⟨1, .data⟩ (by simp) rfl, fun _ => rfl, hG.c86, hG.c118, hG.c5⟩⟩
    · go_simp
      have hzx := hbx.size
      have hG' := fun o => hG.ext (wy := wx.alloc o) ((Below.refl _ _).alloc (Nat.le_refl _) o)
      exact hK _ _ ⟨_, _, _, _, _, _, _, _, _, _, _, _, _, _, _, _, _, _, oA, some wx.heap.size, oB, oQ, rfl, by (repeat (first | with_reducible assumption | with_reducible exact Below.refl _ _ | with_reducible refine Below.setCell ?_ (by first | omega | (simp; done) | (simp; omega)) _ | with_reducible refine Below.alloc ?_ (by first | omega | (simp; done) | (simp; omega)) _ | with_reducible refine below_drewN ?_ _ | with_reducible refine Below.drew ?_ | with_reducible refine Below.trans ?_ (Below.mono hbx (by first | omega | (simp; done) | (simp; omega))))), ⟨hG.f0, (hG' _).f1, hG.f2, (hG' _).f3, fun _ _ => ⟨_, rfl, rfl, Blk.new _ _ _⟩, (hG' _).f5, (hG' _).f6, hG.f7, (hG' _).f8, hG.f9, (hG' _).f10, (hG' _).f11, hG.f12, hG.f13, hG.f14, hG.f15, hG.f16, hG.f17, (hG' _).lA, fun g e => by have := Option.some.inj e; have := hbx.size; simp; omega, (hG' _).lB, (hG' _).lQ, fun g e q => by have := Option.some.inj q; have := hG.lA _ e; omega, hG.dAB, hG.dAQ, hG.dBQ, hG.c31, hG.c53, hG.c86, hG.c118, hG.c5⟩⟩
    · obtain ⟨g, cA, hoA, rfl, hgt⟩ := hG.f3 (hdep ⟨3, .data⟩ (by simp) rfl) hbi
      obtain ⟨gp, hoP, rfl, hbp⟩ := hG.f4 (hdep ⟨4, .data⟩ (by simp) rfl) hbi
      have hlg := hG.lA g hoA
      refine aps_step (by rfl) (.tmp 92) (.tmp 93) (by rfl) w6.heap.size _ names (by rfl) hgt ⟨gp, 0, none⟩ 1 [[120]] (by rfl) (World.news_of_block hbp) Nat.zero_lt_one (by have := HN4.out; simp; omega) hbx.size ?_; intro g' cap' wy hG2 hgr hat
      simp only [Act.put, List.setIfInBounds_toArray, List.set_cons_zero, List.set_cons_succ]
      exact hK _ _ ⟨_, _, _, _, _, _, _, _, _, _, _, _, _, _, _, _, _, _, some g', oP, oB, oQ, rfl, below_app hbx hgr (by intro q hq; simp [Value.ownBlock] at hq; omega) hbx.size, ⟨hG.f0, fun _ h => Bool.noConfusion ((hdep ⟨3, .data⟩ (by simp) rfl).symm.trans h), hG.f2, fun _ h => Bool.noConfusion h, fun _ h => Bool.noConfusion h, fun _ => ⟨g', cap', rfl, rfl, hG2⟩, fun p q => by obtain ⟨g1, e1, e2, e3⟩ := hG.f6 p q; exact ⟨g1, e1, e2, e3.grown hgr (.inr (by rw [e2]; exact fun e => hG.dAB _ hoA (e1.trans e)))⟩, hG.f7, fun p q => by obtain ⟨g1, c1', e1, e2, e3⟩ := hG.f8 p q; exact ⟨g1, c1', e1, e2, e3.grown hgr (.inr (by rw [e2]; exact fun e => hG.dAB _ hoA (e1.trans e)))⟩, hG.f9, fun p q => by obtain ⟨g1, e1, e2, e3⟩ := hG.f10 p q; exact ⟨g1, e1, e2, blk_gr e3 hgr (fun e => hG.dAQ _ hoA (e1.trans (congrArg some e)))⟩, fun p => by obtain ⟨g1, c1', e1, e2, e3⟩ := hG.f11 p; exact ⟨g1, c1', e1, e2, e3.grown hgr (.inr (by rw [e2]; exact fun e => hG.dAB _ hoA (e1.trans e)))⟩, hG.f12, hG.f13, hG.f14, hG.f15, hG.f16, hG.f17, fun g e => by have := Option.some.inj e; have := hG2.lt (b := g') rfl; omega, fun g e => ⟨(hG.lP g e).1, Nat.lt_of_lt_of_le (hG.lP g e).2 hgr.size⟩, fun g e => ⟨(hG.lB g e).1, Nat.lt_of_lt_of_le (hG.lB g e).2 hgr.size⟩, fun g e => ⟨(hG.lQ g e).1, Nat.lt_of_lt_of_le (hG.lQ g e).2 hgr.size⟩, fun g e q => by rcases hat with t | t; exact hG.dAP _ (hoA.trans (t.trans e)) q; have := Option.some.inj e; have := hG.lP _ q; omega, fun g e q => by rcases hat with t | t; exact hG.dAB _ (hoA.trans (t.trans e)) q; have := Option.some.inj e; have := hG.lB _ q; omega, fun g e q => by rcases hat with t | t; exact hG.dAQ _ (hoA.trans (t.trans e)) q; have := Option.some.inj e; have := hG.lQ _ q; omega, hG.dBQ, hG.c31, fun _ => hdep ⟨3, .data⟩ (by simp) rfl, hG.c86, hG.c118, fun _ => rfl⟩⟩
    · go_simp
      have hzx := hbx.size
      have hG' := fun o => hG.ext (wy := wx.alloc o) ((Below.refl _ _).alloc (Nat.le_refl _) o)
      exact hK _ _ ⟨_, _, _, _, _, _, _, _, _, _, _, _, _, _, _, _, _, _, oA, oP, some wx.heap.size, oQ, rfl, by (repeat (first | with_reducible assumption | with_reducible exact Below.refl _ _ | with_reducible refine Below.setCell ?_ (by first | omega | (simp; done) | (simp; omega)) _ | with_reducible refine Below.alloc ?_ (by first | omega | (simp; done) | (simp; omega)) _ | with_reducible refine below_drewN ?_ _ | with_reducible refine Below.drew ?_ | with_reducible refine Below.trans ?_ (Below.mono hbx (by first | omega | (simp; done) | (simp; omega))))), ⟨hG.f0, (hG' _).f1, hG.f2, (hG' _).f3, (hG' _).f4, (hG' _).f5, fun _ _ => ⟨_, rfl, rfl, gt_empty intRow 1 3 wx _ hbx.size (Below.refl _ _)⟩, hG.f7, fun h => Bool.noConfusion (hbi.symm.trans (hG.c86 h)), hG.f9, (hG' _).f10, fun h => Bool.noConfusion (hbi.symm.trans (hG.c86 (hG.c118 h))), hG.f12, hG.f13, hG.f14, hG.f15, hG.f16, hG.f17, (hG' _).lA, (hG' _).lP, fun g e => by have := Option.some.inj e; have := hbx.size; simp; omega, (hG' _).lQ, hG.dAP, fun g e q => by have := Option.some.inj q; have := hG.lA _ e; omega, hG.dAQ, fun g e q => by have := Option.some.inj e; have := hG.lQ _ q; omega, hG.c31, hG.c53, fun _ => rfl, hG.c118, hG.c5⟩⟩
    · go_simp
      exact hK _ _ ⟨_, _, _, _, _, _, _, _, _, _, _, _, _, _, _, _, _, _, oA, oP, oB, oQ, rfl, hbx, ⟨hG.f0, hG.f1, hG.f2, hG.f3, hG.f4, hG.f5, hG.f6, fun _ => rfl, hG.f8, hG.f9, hG.f10, hG.f11, hG.f12, hG.f13, hG.f14, hG.f15, hG.f16, hG.f17, hG.lA, hG.lP, hG.lB, hG.lQ, hG.dAP, hG.dAB, hG.dAQ, hG.dBQ, hG.c31, hG.c53, hG.c86, hG.c118, hG.c5⟩⟩
    · obtain ⟨g, hoB, rfl, hgt⟩ := hG.f6 (hdep ⟨6, .data⟩ (by simp) rfl) hbi
      obtain rfl := hG.f7 (hdep ⟨7, .data⟩ (by simp) rfl)
      have hlg := hG.lB g hoB
      refine app_step1 (row := intRow) (k := 1) (t := 3) (tS := 27) (fun _ => rfl) (by decide) Tryd.underlying27 infoInt (by decide) rfl (by rfl) (.tmp 95) (.tmp 96) (by rfl) w6.heap.size _ [] (by rfl) hgt adm cm nums (fun s _ u hu => by simp [intRow] at hu; subst hu; rfl) (by rfl) (sln_cells (MV.out wx (HA6.out.1.ext hbx)) HN4.out.2.2.1) HN4.out.2.2.1 (by have := HN4.out; simp; omega) hbx.size ?_; intro g' cap' wy hG2 hgr hat
      simp only [Act.put, List.setIfInBounds_toArray, List.set_cons_zero, List.set_cons_succ]
      exact hK _ _ ⟨_, _, _, _, _, _, _, _, _, _, _, _, _, _, _, _, _, _, oA, oP, some g', oQ, rfl, below_app hbx hgr (by intro q hq; simp [Value.ownBlock] at hq; omega) hbx.size, ⟨hG.f0, fun p q => by obtain ⟨g1, e1, e2, e3⟩ := hG.f1 p q; exact ⟨g1, e1, e2, e3.grown hgr (.inr (by rw [e2]; exact fun e => hG.dAB _ e1 (hoB.trans e.symm)))⟩, hG.f2, fun p q => by obtain ⟨g1, c1', e1, e2, e3⟩ := hG.f3 p q; exact ⟨g1, c1', e1, e2, e3.grown hgr (.inr (by rw [e2]; exact fun e => hG.dAB _ e1 (hoB.trans e.symm)))⟩, fun _ h => Bool.noConfusion ((hdep ⟨5, .chain⟩ (by simp) rfl).symm.trans h), fun p => by obtain ⟨g1, c1', e1, e2, e3⟩ := hG.f5 p; exact ⟨g1, c1', e1, e2, e3.grown hgr (.inr (by rw [e2]; exact fun e => hG.dAB _ e1 (hoB.trans e.symm)))⟩, fun _ h => Bool.noConfusion h, hG.f7, fun _ _ => ⟨g', cap', rfl, by simp, by simpa using hG2⟩, hG.f9, fun p q => by obtain ⟨g1, e1, e2, e3⟩ := hG.f10 p q; exact ⟨g1, e1, e2, blk_gr e3 hgr (fun e => hG.dBQ _ hoB (e1.trans (congrArg some e)))⟩, fun h => Bool.noConfusion (hbi.symm.trans (hG.c118 h)), hG.f12, hG.f13, hG.f14, hG.f15, hG.f16, hG.f17, fun g e => ⟨(hG.lA g e).1, Nat.lt_of_lt_of_le (hG.lA g e).2 hgr.size⟩, fun g e => ⟨(hG.lP g e).1, Nat.lt_of_lt_of_le (hG.lP g e).2 hgr.size⟩, fun g e => by have := Option.some.inj e; have := hG2.lt (b := g') rfl; omega, fun g e => ⟨(hG.lQ g e).1, Nat.lt_of_lt_of_le (hG.lQ g e).2 hgr.size⟩, hG.dAP, fun g e q => by rcases hat with t | t; exact hG.dAB _ e (hoB.trans (t.trans q)); have := Option.some.inj q; have := hG.lA _ e; omega, hG.dAQ, fun g e q => by rcases hat with t | t; exact hG.dBQ _ (hoB.trans (t.trans e)) q; have := Option.some.inj e; have := hG.lQ _ q; omega, hG.c31, hG.c53, fun _ => hdep ⟨6, .data⟩ (by simp) rfl, fun _ => rfl, fun _ => hdep ⟨5, .chain⟩ (by simp) rfl⟩⟩
    · go_simp
      exact hK _ _ ⟨_, _, _, _, _, _, _, _, _, _, _, _, _, _, _, _, _, _, oA, oP, oB, oQ, rfl, hbx, ⟨hG.f0, hG.f1, hG.f2, hG.f3, hG.f4, hG.f5, hG.f6, hG.f7, hG.f8, fun _ => rfl, hG.f10, hG.f11, hG.f12, hG.f13, hG.f14, hG.f15, hG.f16, hG.f17, hG.lA, hG.lP, hG.lB, hG.lQ, hG.dAP, hG.dAB, hG.dAQ, hG.dBQ, hG.c31, hG.c53, hG.c86, hG.c118, hG.c5⟩⟩
    · obtain rfl := hG.f9 (hdep ⟨9, .data⟩ (by simp) rfl)
      go_simp
      have hzx := hbx.size
      have hG' := fun o => hG.ext (wy := wx.alloc o) ((Below.refl _ _).alloc (Nat.le_refl _) o)
      exact hK _ _ ⟨_, _, _, _, _, _, _, _, _, _, _, _, _, _, _, _, _, _, oA, oP, oB, some wx.heap.size, rfl, by (repeat (first | with_reducible assumption | with_reducible exact Below.refl _ _ | with_reducible refine Below.setCell ?_ (by first | omega | (simp; done) | (simp; omega)) _ | with_reducible refine Below.alloc ?_ (by first | omega | (simp; done) | (simp; omega)) _ | with_reducible refine below_drewN ?_ _ | with_reducible refine Below.drew ?_ | with_reducible refine Below.trans ?_ (Below.mono hbx (by first | omega | (simp; done) | (simp; omega))))), ⟨hG.f0, (hG' _).f1, hG.f2, (hG' _).f3, (hG' _).f4, (hG' _).f5, (hG' _).f6, hG.f7, (hG' _).f8, hG.f9, fun _ _ => ⟨_, rfl, rfl, Blk.new _ _ _⟩, (hG' _).f11, hG.f12, hG.f13, hG.f14, hG.f15, hG.f16, hG.f17, (hG' _).lA, (hG' _).lP, (hG' _).lB, fun g e => by have := Option.some.inj e; have := hbx.size; simp; omega, hG.dAP, hG.dAB, fun g e q => by have := Option.some.inj q; have := hG.lA _ e; omega, fun g e q => by have := Option.some.inj q; have := hG.lB _ e; omega, hG.c31, hG.c53, hG.c86, hG.c118, hG.c5⟩⟩
    · obtain ⟨g, cB, hoB, rfl, hgt⟩ := hG.f8 (hdep ⟨8, .data⟩ (by simp) rfl) hbi
      obtain ⟨gp, hoQ, rfl, hbp⟩ := hG.f10 (hdep ⟨10, .data⟩ (by simp) rfl) hbi
      have hlg := hG.lB g hoB
      have h5 := hG.c5 (hdep ⟨8, .data⟩ (by simp) rfl)
      refine app_step1 (row := intRow) (k := 1) (t := 3) (tS := 27) (fun _ => rfl) (by decide) Tryd.underlying27 infoInt (by decide) rfl (by rfl) (.tmp 97) (.tmp 99) (by rfl) w6.heap.size _ nums (by rfl) hgt ⟨gp, 0, none⟩ 1 [(m : Int)] (fun s _ u hu => by simp [intRow] at hu; subst hu; rfl) (by rfl) (World.news_of_block hbp) Nat.zero_lt_one (by have := HN4.out; simp; omega) hbx.size ?_; intro g' cap' wy hG2 hgr hat
      simp only [Act.put, List.setIfInBounds_toArray, List.set_cons_zero, List.set_cons_succ]
      exact hK _ _ ⟨_, _, _, _, _, _, _, _, _, _, _, _, _, _, _, _, _, _, oA, oP, some g', oQ, rfl, below_app hbx hgr (by intro q hq; simp [Value.ownBlock] at hq; omega) hbx.size, ⟨hG.f0, fun p q => by obtain ⟨g1, e1, e2, e3⟩ := hG.f1 p q; exact ⟨g1, e1, e2, e3.grown hgr (.inr (by rw [e2]; exact fun e => hG.dAB _ e1 (hoB.trans e.symm)))⟩, hG.f2, fun p q => by obtain ⟨g1, c1', e1, e2, e3⟩ := hG.f3 p q; exact ⟨g1, c1', e1, e2, e3.grown hgr (.inr (by rw [e2]; exact fun e => hG.dAB _ e1 (hoB.trans e.symm)))⟩, fun _ h => Bool.noConfusion (h5.symm.trans h), fun p => by obtain ⟨g1, c1', e1, e2, e3⟩ := hG.f5 p; exact ⟨g1, c1', e1, e2, e3.grown hgr (.inr (by rw [e2]; exact fun e => hG.dAB _ e1 (hoB.trans e.symm)))⟩, fun _ h => Bool.noConfusion ((hdep ⟨8, .data⟩ (by simp) rfl).symm.trans h), hG.f7, fun _ h => Bool.noConfusion h, hG.f9, fun _ h => Bool.noConfusion h, fun _ => ⟨g', cap', rfl, rfl, hG2⟩, hG.f12, hG.f13, hG.f14, hG.f15, hG.f16, hG.f17, fun g e => ⟨(hG.lA g e).1, Nat.lt_of_lt_of_le (hG.lA g e).2 hgr.size⟩, fun g e => ⟨(hG.lP g e).1, Nat.lt_of_lt_of_le (hG.lP g e).2 hgr.size⟩, fun g e => by have := Option.some.inj e; have := hG2.lt (b := g') rfl; omega, fun g e => ⟨(hG.lQ g e).1, Nat.lt_of_lt_of_le (hG.lQ g e).2 hgr.size⟩, hG.dAP, fun g e q => by rcases hat with t | t; exact hG.dAB _ e (hoB.trans (t.trans q)); have := Option.some.inj q; have := hG.lA _ e; omega, hG.dAQ, fun g e q => by rcases hat with t | t; exact hG.dBQ _ (hoB.trans (t.trans e)) q; have := Option.some.inj e; have := hG.lQ _ q; omega, hG.c31, hG.c53, hG.c86, fun _ => hdep ⟨8, .data⟩ (by simp) rfl, hG.c5⟩⟩
    · obtain rfl := hG.f0 (hdep ⟨0, .data⟩ (by simp) rfl)
      obtain ⟨gA, cA, hoA, rfl, hgA⟩ := hG.f5 (hdep ⟨5, .data⟩ (by simp) rfl)
      obtain ⟨gB, cB, hoB, rfl, hgB⟩ := hG.f11 (hdep ⟨11, .data⟩ (by simp) rfl)
      have hxb := HA6.out.1.ext hbx
      have CO := Lib.hid (imExprOf_any x _ _ _ (names ++ [[120]]) (nums ++ [(m : Int)]) wx (by have := HN4.out; simp; omega) (XV.out _ hxb) (hgA.sl (fun _ => rfl)) (hgB.sl (fun _ => rfl)) (EV.out _ hxb))
      rw [← HVP.out] at CO
      go_simp
      go_at_call 7
      refine CO.out.mono ?_
      rintro r wy ⟨rfl, hby⟩
      have hG' := hG.ext hby
      go_simp
      exact hK _ _ ⟨_, _, _, _, _, _, _, _, _, _, _, _, _, _, _, _, _, _, oA, oP, oB, oQ, rfl, hbx.ext hby, ⟨hG'.f0, hG'.f1, hG'.f2, hG'.f3, hG'.f4, hG'.f5, hG'.f6, hG'.f7, hG'.f8, hG'.f9, hG'.f10, hG'.f11, fun _ => rfl, hG'.f13, hG'.f14, hG'.f15, hG'.f16, hG'.f17, hG'.lA, hG'.lP, hG'.lB, hG'.lQ, hG'.dAP, hG'.dAB, hG'.dAQ, hG'.dBQ, hG'.c31, hG'.c53, hG'.c86, hG'.c118, hG'.c5⟩⟩
    · obtain rfl := hG.f12 (hdep ⟨12, .data⟩ (by simp) rfl)
      go_simp
      exact hK _ _ ⟨_, _, _, _, _, _, _, _, _, _, _, _, _, _, _, _, _, _, oA, oP, oB, oQ, rfl, hbx, ⟨hG.f0, hG.f1, hG.f2, hG.f3, hG.f4, hG.f5, hG.f6, hG.f7, hG.f8, hG.f9, hG.f10, hG.f11, hG.f12, fun _ => rfl, hG.f14, hG.f15, hG.f16, hG.f17, hG.lA, hG.lP, hG.lB, hG.lQ, hG.dAP, hG.dAB, hG.dAQ, hG.dBQ, hG.c31, hG.c53, hG.c86, hG.c118, hG.c5⟩⟩
    · obtain rfl := hG.f13 (hdep ⟨13, .data⟩ (by simp) rfl)
      go_simp
      exact hK _ _ ⟨_, _, _, _, _, _, _, _, _, _, _, _, _, _, _, _, _, _, oA, oP, oB, oQ, rfl, hbx, ⟨hG.f0, hG.f1, hG.f2, hG.f3, hG.f4, hG.f5, hG.f6, hG.f7, hG.f8, hG.f9, hG.f10, hG.f11, hG.f12, hG.f13, fun _ => rfl, hG.f15, hG.f16, hG.f17, hG.lA, hG.lP, hG.lB, hG.lQ, hG.dAP, hG.dAB, hG.dAQ, hG.dBQ, hG.c31, hG.c53, hG.c86, hG.c118, hG.c5⟩⟩
    · obtain rfl := hG.f13 (hdep ⟨13, .data⟩ (by simp) rfl)
      go_simp
      exact hK _ _ ⟨_, _, _, _, _, _, _, _, _, _, _, _, _, _, _, _, _, _, oA, oP, oB, oQ, rfl, hbx, ⟨hG.f0, hG.f1, hG.f2, hG.f3, hG.f4, hG.f5, hG.f6, hG.f7, hG.f8, hG.f9, hG.f10, hG.f11, hG.f12, hG.f13, hG.f14, fun _ => rfl, hG.f16, hG.f17, hG.lA, hG.lP, hG.lB, hG.lQ, hG.dAP, hG.dAB, hG.dAQ, hG.dBQ, hG.c31, hG.c53, hG.c86, hG.c118, hG.c5⟩⟩
    · obtain rfl := hG.f14 (hdep ⟨14, .data⟩ (by simp) rfl)
      go_simp
      exact hK _ _ ⟨_, _, _, _, _, _, _, _, _, _, _, _, _, _, _, _, _, _, oA, oP, oB, oQ, rfl, hbx, ⟨hG.f0, hG.f1, hG.f2, hG.f3, hG.f4, hG.f5, hG.f6, hG.f7, hG.f8, hG.f9, hG.f10, hG.f11, hG.f12, hG.f13, hG.f14, hG.f15, fun _ => rfl, hG.f17, hG.lA, hG.lP, hG.lB, hG.lQ, hG.dAP, hG.dAB, hG.dAQ, hG.dBQ, hG.c31, hG.c53, hG.c86, hG.c118, hG.c5⟩⟩
    · obtain rfl := hG.f15 (hdep ⟨15, .data⟩ (by simp) rfl)
      go_simp
      exact hK _ _ ⟨_, _, _, _, _, _, _, _, _, _, _, _, _, _, _, _, _, _, oA, oP, oB, oQ, rfl, hbx, ⟨hG.f0, hG.f1, hG.f2, hG.f3, hG.f4, hG.f5, hG.f6, hG.f7, hG.f8, hG.f9, hG.f10, hG.f11, hG.f12, hG.f13, hG.f14, hG.f15, hG.f16, fun _ => rfl, hG.lA, hG.lP, hG.lB, hG.lQ, hG.dAP, hG.dAB, hG.dAQ, hG.dBQ, hG.c31, hG.c53, hG.c86, hG.c118, hG.c5⟩⟩
  · intro b a' wx hall ⟨s16, s17, v88, v89, v90, v91, v92, v93, v94, v95, v96, v97, v98, v99, v100, v101, v102, v103, oA, oP, oB, oQ, ha, hbx, hG⟩
    subst ha
    obtain rfl := hG.f16 (hall 16 (by decide))
    obtain rfl := hG.f17 (hall 17 (by decide))
    have hx1w := HA6.out.1.ext hbx
    have hx5w := HA6.out.2.ext hbx
    have OKY := Lib.hid (fun (w' : World) (h : Below wx.heap.size wx w') => imOk_any y _ w' (YV.out _ (hx5w.ext h)) (EV.out _ (hx1w.ext h)))
    rw [HYO.out] at OKY
    have BX := Lib.hid (fun (w' : World) (h : Below wx.heap.size wx w') => imExprBare_any x _ w' (XV.out _ (hx1w.ext h)) (EV.out _ (hx1w.ext h)))
    rw [HXB.out] at BX
    have BY := Lib.hid (fun (w' : World) (h : Below wx.heap.size wx w') => imExprBare_any y _ w' (YV.out _ (hx5w.ext h)) (EV.out _ (hx1w.ext h)))
    rw [HYB.out] at BY
    have EQ := Lib.hid (fun (w' : World) (u t : Value) (hu : ExV w' w'.heap.size u yb) (ht : ExV w' w'.heap.size t yb) => imSame_any yb yb u t w' hu ht)
    rw [decide_eq_true (rfl : yb = yb)] at EQ
    have HBW := Lib.hid (HB1.out.ext hx1w)
    have KEEP2 := Lib.hid (show ∀ w' : World, Below wx.heap.size wx w' → ((w'.cell? ⟨w1.heap.size, 0, none⟩ = some (.int .i64 x.kind) ∧ w'.cell? ⟨w1.heap.size, 1, none⟩ = some (.int .i64 x.n) ∧ w'.cell? ⟨w1.heap.size, 2, none⟩ = some (.string (bs x.s)) ∧ w'.cell? ⟨w1.heap.size, 3, none⟩ = some (.slice A1 x.kids.length c1)) ∧
      (w'.cell? ⟨w5.heap.size, 0, none⟩ = some (.int .i64 y.kind) ∧ w'.cell? ⟨w5.heap.size, 1, none⟩ = some (.int .i64 y.n) ∧ w'.cell? ⟨w5.heap.size, 2, none⟩ = some (.string (bs y.s)) ∧ w'.cell? ⟨w5.heap.size, 3, none⟩ = some (.slice A5 y.kids.length c5))) from fun w' h => by
      have h1 := HX.out.1.below (hbx.ext h) HX.out.1.lt
      have h5 := HX.out.2.below (hbx.ext h) HX.out.2.lt
      exact ⟨⟨h1.cell 0, h1.cell 1, h1.cell 2, h1.cell 3⟩, h5.cell 0, h5.cell 1, h5.cell 2, h5.cell 3⟩)
    have tokB : True := trivial
    clear hG hall hx1w hx5w hbx KEEP HX NV MV pa0 pa1 pa2 pa3
    rename_i K0 a0
    refine a0 _ _ ?_
    clear a0
    go_wp2_with fail
    refine wp_region_invB (by kernel_rfl) (by kernel_rfl) (fun b a' wz => ∃ (s4 u104 u105 u106 u107 u108 u109 u110 u111 u112 u113 u114 u115 u116 u117 u118 u119 u120 u121 u122 u123 u124 u125 u126 u127 : Value), a' = ⟨#[.slice A cl.length c, .slice A' mlen c', undef, undef, s4, .pointer (some ⟨w1.heap.size, 0, none⟩), .slice (some ad) names.length cn, .slice (some adm) nums.length cm, .int .i64 n, .bool ok, .int .i64 n, .bool ok, .int .i64 ↑m, .pointer (some ⟨w5.heap.size, 0, none⟩), .int .i64 n2, .bool k2, .int .i64 n2, .bool k2, .slice A cl.length c, .int .i64 ↑cl.length, .bool false, .bool false, .slice A' mlen c', .int .i64 ↑mlen, .bool false, .bool false, .tuple #[.agg #[.int .i64 x.kind, .int .i64 x.n, .string (bs x.s), .slice A1 x.kids.length c1], .slice (some ad) names.length cn, .slice (some adm) nums.length cm], .slice A cl.length c, .tuple #[.agg #[.int .i64 x.kind, .int .i64 x.n, .string (bs x.s), .slice A1 x.kids.length c1], .slice (some ad) names.length cn, .slice (some adm) nums.length cm], .agg #[.int .i64 x.kind, .int .i64 x.n, .string (bs x.s), .slice A1 x.kids.length c1], .slice (some ad) names.length cn, .slice (some adm) nums.length cm, .tuple #[.int .i64 n, .bool ok], .agg #[.int .i64 x.kind, .int .i64 x.n, .string (bs x.s), .slice A1 x.kids.length c1], .slice (some ad) names.length cn, .slice (some adm) nums.length cm, .tuple #[.int .i64 n, .bool ok], .int .i64 n, .bool ok, .tuple #[.int .i64 n, .bool ok], .agg #[.int .i64 x.kind, .int .i64 x.n, .string (bs x.s), .slice A1 x.kids.length c1], .slice (some ad) names.length cn, .slice (some adm) nums.length cm, .tuple #[.int .i64 n, .bool ok], .int .i64 n, .bool ok, .int .i64 n, .int .i64 n, .bool false, .bool false, .bool ok, .bool ok, .bool false, .bool false, .bool false, .agg #[.int .i64 x.kind, .int .i64 x.n, .string (bs x.s), .slice A1 x.kids.length c1], .bool true, .bool false, .bool false, .bool false, .slice (some ad) names.length cn, .int .i64 ↑names.length, .slice (some adm) nums.length cm, .int .i64 ↑nums.length, .bool false, .bool false, undef, undef, undef, undef, undef, undef, undef, undef, .slice A' mlen c', .int .i64 ↑mlen, .int .i64 ↑m, .agg #[.int .i64 x.kind, .int .i64 x.n, .string (bs x.s), .slice A1 x.kids.length c1], .int .i64 ↑m, .agg #[.int .i64 1, .int .i64 ↑m, .string ⟨#[]⟩, .slice none 0 0], .agg #[.int .i64 y.kind, .int .i64 y.n, .string (bs y.s), .slice A5 y.kids.length c5], .tuple #[.int .i64 n2, .bool k2], .agg #[.int .i64 y.kind, .int .i64 y.n, .string (bs y.s), .slice A5 y.kids.length c5], .slice (some ad) names.length cn, .slice (some adm) nums.length cm, .tuple #[.int .i64 n2, .bool k2], .int .i64 n2, .bool k2, v88, v89, v90, v91, v92, v93, v94, v95, v96, v97, v98, v99, v100, v101, v102, v103, u104, u105, u106, u107, u108, u109, u110, u111, u112, u113, u114, u115, u116, u117, u118, u119, u120, u121, u122, u123, u124, u125, u126, u127], []⟩ ∧ Below wx.heap.size wx wz ∧ QutG b wz (.agg #[.int .i64 x.kind, .int .i64 x.n, .string (bs x.s), .slice A1 x.kids.length c1]) (.agg #[.int .i64 y.kind, .int .i64 y.n, .string (bs y.s), .slice A5 y.kids.length c5]) xb yb m n2 k2 s4 u104 u105 u106 u107 u108 u109 u110 u111 u112 u113 u114 u115 u116 u117 u118 u119 u120 u121 u122 u123 u124 u125 u126 u127) ?_ ?_ ?_
    · refine ⟨_, _, _, _, _, _, _, _, _, _, _, _, _, _, _, _, _, _, _, _, _, _, _, _, _, rfl, Below.drew (Below.refl _ _), ?_⟩
      constructor <;> intro q <;> cases q
    · intro b a' wz i o ho hbi hdep ⟨s4, u104, u105, u106, u107, u108, u109, u110, u111, u112, u113, u114, u115, u116, u117, u118, u119, u120, u121, u122, u123, u124, u125, u126, u127, ha, hbx, hR⟩
      subst ha
      have hi : i < 25 := (Array.getElem?_eq_some_iff.1 ho).1
      rcases (by omega : i = 0 ∨ i = 1 ∨ i = 2 ∨ i = 3 ∨ i = 4 ∨ i = 5 ∨ i = 6 ∨ i = 7 ∨ i = 8 ∨ i = 9 ∨ i = 10 ∨ i = 11 ∨ i = 12 ∨ i = 13 ∨ i = 14 ∨ i = 15 ∨ i = 16 ∨ i = 17 ∨ i = 18 ∨ i = 19 ∨ i = 20 ∨ i = 21 ∨ i = 22 ∨ i = 23 ∨ i = 24) with rfl | rfl | rfl | rfl | rfl | rfl | rfl | rfl | rfl | rfl | rfl | rfl | rfl | rfl | rfl | rfl | rfl | rfl | rfl | rfl | rfl | rfl | rfl | rfl | rfl
      all_goals (refine wpOp_step rfl (fun K hK => ?_); simp only [List.getElem?_toArray, List.getElem?_cons_zero, List.getElem?_cons_succ, Option.some.injEq] at ho; subst ho)
      · obtain ⟨⟨pa0, pa1, pa2, pa3⟩, pb0, pb1, pb2, pb3⟩ := KEEP2.out wz hbx
        go_simp
        exact hK _ _ ⟨_, _, _, _, _, _, _, _, _, _, _, _, _, _, _, _, _, _, _, _, _, _, _, _, _, rfl, hbx, ⟨fun _ => rfl, hR.f1, hR.f2, hR.f3, hR.f4, hR.f5, hR.f6, hR.f7, hR.f8, hR.f9, hR.f10, hR.f11, hR.f12, hR.f13, hR.f14, hR.f15, hR.f16, hR.f17, hR.f18, hR.f19, hR.f20, hR.f21, hR.f22, hR.f23, hR.f24⟩⟩
      · obtain rfl := hR.f0 (hdep ⟨0, .data⟩ (by simp) rfl)
        have CO := Lib.hid (OKY.out wz hbx)
        go_simp
        go_at_call 14
        refine CO.out.mono ?_
        rintro r wy ⟨rfl, hby⟩
        have hR' := hR.ext hby
        go_simp
        exact hK _ _ ⟨_, _, _, _, _, _, _, _, _, _, _, _, _, _, _, _, _, _, _, _, _, _, _, _, _, rfl, hbx.ext hby, ⟨hR'.f0, fun _ => rfl, hR'.f2, hR'.f3, hR'.f4, hR'.f5, hR'.f6, hR'.f7, hR'.f8, hR'.f9, hR'.f10, hR'.f11, hR'.f12, hR'.f13, hR'.f14, hR'.f15, hR'.f16, hR'.f17, hR'.f18, hR'.f19, hR'.f20, hR'.f21, hR'.f22, hR'.f23, hR'.f24⟩⟩
      · obtain rfl := hR.f1 (hdep ⟨1, .data⟩ (by simp) rfl)
        go_simp
        exact hK _ _ ⟨_, _, _, _, _, _, _, _, _, _, _, _, _, _, _, _, _, _, _, _, _, _, _, _, _, rfl, hbx, ⟨hR.f0, hR.f1, fun _ => rfl, hR.f3, hR.f4, hR.f5, hR.f6, hR.f7, hR.f8, hR.f9, hR.f10, hR.f11, hR.f12, hR.f13, hR.f14, hR.f15, hR.f16, hR.f17, hR.f18, hR.f19, hR.f20, hR.f21, hR.f22, hR.f23, hR.f24⟩⟩
      · obtain rfl := hR.f2 (hdep ⟨2, .guard⟩ (by simp) rfl)
        go_simp
        exact hK _ _ ⟨_, _, _, _, _, _, _, _, _, _, _, _, _, _, _, _, _, _, _, _, _, _, _, _, _, rfl, hbx, ⟨hR.f0, hR.f1, hR.f2, fun _ => rfl, hR.f4, hR.f5, hR.f6, hR.f7, hR.f8, hR.f9, hR.f10, hR.f11, hR.f12, hR.f13, hR.f14, hR.f15, hR.f16, hR.f17, hR.f18, hR.f19, hR.f20, hR.f21, hR.f22, hR.f23, hR.f24⟩⟩
      · obtain rfl := hR.f2 (hdep ⟨2, .guard⟩ (by simp) rfl)
        go_simp
        exact hK _ _ ⟨_, _, _, _, _, _, _, _, _, _, _, _, _, _, _, _, _, _, _, _, _, _, _, _, _, rfl, hbx, ⟨hR.f0, hR.f1, hR.f2, hR.f3, fun _ => rfl, hR.f5, hR.f6, hR.f7, hR.f8, hR.f9, hR.f10, hR.f11, hR.f12, hR.f13, hR.f14, hR.f15, hR.f16, hR.f17, hR.f18, hR.f19, hR.f20, hR.f21, hR.f22, hR.f23, hR.f24⟩⟩
      · obtain rfl := hR.f3 (hdep ⟨3, .data⟩ (by simp) rfl)
        obtain rfl := hR.f4 (hdep ⟨4, .data⟩ (by simp) rfl)
        obtain rfl := hR.f2 (hdep ⟨2, .guard⟩ (by simp) rfl)
        go_simp
        exact hK _ _ ⟨_, _, _, _, _, _, _, _, _, _, _, _, _, _, _, _, _, _, _, _, _, _, _, _, _, rfl, hbx, ⟨hR.f0, hR.f1, hR.f2, hR.f3, hR.f4, fun _ => by simp, hR.f6, hR.f7, hR.f8, hR.f9, hR.f10, hR.f11, hR.f12, hR.f13, hR.f14, hR.f15, hR.f16, hR.f17, hR.f18, hR.f19, hR.f20, hR.f21, hR.f22, hR.f23, hR.f24⟩⟩
      · obtain rfl := hR.f2 (hdep ⟨2, .data⟩ (by simp) rfl)
        obtain rfl := hR.f5 (hdep ⟨5, .data⟩ (by simp) rfl)
        go_simp
        exact hK _ _ ⟨_, _, _, _, _, _, _, _, _, _, _, _, _, _, _, _, _, _, _, _, _, _, _, _, _, rfl, hbx, ⟨hR.f0, hR.f1, hR.f2, hR.f3, hR.f4, hR.f5, fun _ => rfl, hR.f7, hR.f8, hR.f9, hR.f10, hR.f11, hR.f12, hR.f13, hR.f14, hR.f15, hR.f16, hR.f17, hR.f18, hR.f19, hR.f20, hR.f21, hR.f22, hR.f23, hR.f24⟩⟩
      · obtain rfl := hR.f6 (hdep ⟨6, .data⟩ (by simp) rfl)
        go_simp
        exact hK _ _ ⟨_, _, _, _, _, _, _, _, _, _, _, _, _, _, _, _, _, _, _, _, _, _, _, _, _, rfl, hbx, ⟨hR.f0, hR.f1, hR.f2, hR.f3, hR.f4, hR.f5, hR.f6, fun _ => rfl, hR.f8, hR.f9, hR.f10, hR.f11, hR.f12, hR.f13, hR.f14, hR.f15, hR.f16, hR.f17, hR.f18, hR.f19, hR.f20, hR.f21, hR.f22, hR.f23, hR.f24⟩⟩
      · obtain rfl := hR.f7 (hdep ⟨7, .guard⟩ (by simp) rfl)
        go_simp
        exact hK _ _ ⟨_, _, _, _, _, _, _, _, _, _, _, _, _, _, _, _, _, _, _, _, _, _, _, _, _, rfl, hbx, ⟨hR.f0, hR.f1, hR.f2, hR.f3, hR.f4, hR.f5, hR.f6, hR.f7, fun _ => rfl, hR.f9, hR.f10, hR.f11, hR.f12, hR.f13, hR.f14, hR.f15, hR.f16, hR.f17, hR.f18, hR.f19, hR.f20, hR.f21, hR.f22, hR.f23, hR.f24⟩⟩
      · obtain rfl := hR.f8 (hdep ⟨8, .data⟩ (by simp) rfl)
        obtain rfl := hR.f7 (hdep ⟨7, .guard⟩ (by simp) rfl)
        go_simp
        exact hK _ _ ⟨_, _, _, _, _, _, _, _, _, _, _, _, _, _, _, _, _, _, _, _, _, _, _, _, _, rfl, hbx, ⟨hR.f0, hR.f1, hR.f2, hR.f3, hR.f4, hR.f5, hR.f6, hR.f7, hR.f8, fun _ => rfl, hR.f10, hR.f11, hR.f12, hR.f13, hR.f14, hR.f15, hR.f16, hR.f17, hR.f18, hR.f19, hR.f20, hR.f21, hR.f22, hR.f23, hR.f24⟩⟩
      · obtain rfl := hR.f9 (hdep ⟨9, .data⟩ (by simp) rfl)
        obtain rfl := hR.f7 (hdep ⟨7, .guard⟩ (by simp) rfl)
        go_simp
        exact hK _ _ ⟨_, _, _, _, _, _, _, _, _, _, _, _, _, _, _, _, _, _, _, _, _, _, _, _, _, rfl, hbx, ⟨hR.f0, hR.f1, hR.f2, hR.f3, hR.f4, hR.f5, hR.f6, hR.f7, hR.f8, hR.f9, fun _ => rfl, hR.f11, hR.f12, hR.f13, hR.f14, hR.f15, hR.f16, hR.f17, hR.f18, hR.f19, hR.f20, hR.f21, hR.f22, hR.f23, hR.f24⟩⟩
      · obtain rfl := hR.f10 (hdep ⟨10, .guard⟩ (by simp) rfl)
        cases k2
        · go_simp
          exact hK _ _ ⟨_, _, _, _, _, _, _, _, _, _, _, _, _, _, _, _, _, _, _, _, _, _, _, _, _, rfl, hbx, ⟨hR.f0, hR.f1, hR.f2, hR.f3, hR.f4, hR.f5, hR.f6, hR.f7, hR.f8, hR.f9, hR.f10, fun _ h => (by cases h), hR.f12, hR.f13, hR.f14, hR.f15, hR.f16, hR.f17, hR.f18, hR.f19, hR.f20, hR.f21, hR.f22, hR.f23, hR.f24⟩⟩
        · go_simp
          exact hK _ _ ⟨_, _, _, _, _, _, _, _, _, _, _, _, _, _, _, _, _, _, _, _, _, _, _, _, _, rfl, hbx, ⟨hR.f0, hR.f1, hR.f2, hR.f3, hR.f4, hR.f5, hR.f6, hR.f7, hR.f8, hR.f9, hR.f10, fun _ _ => rfl, hR.f12, hR.f13, hR.f14, hR.f15, hR.f16, hR.f17, hR.f18, hR.f19, hR.f20, hR.f21, hR.f22, hR.f23, hR.f24⟩⟩
      · obtain rfl := hR.f10 (hdep ⟨10, .data⟩ (by simp) rfl)
        have h11 := hR.f11 (hdep ⟨11, .data⟩ (by simp) rfl)
        obtain rfl := hR.f7 (hdep ⟨7, .guard⟩ (by simp) rfl)
        cases k2
        · go_simp
          exact hK _ _ ⟨_, _, _, _, _, _, _, _, _, _, _, _, _, _, _, _, _, _, _, _, _, _, _, _, _, rfl, hbx, ⟨hR.f0, hR.f1, hR.f2, hR.f3, hR.f4, hR.f5, hR.f6, hR.f7, hR.f8, hR.f9, hR.f10, hR.f11, fun _ => rfl, hR.f13, hR.f14, hR.f15, hR.f16, hR.f17, hR.f18, hR.f19, hR.f20, hR.f21, hR.f22, hR.f23, hR.f24⟩⟩
        · obtain rfl := h11 rfl
          go_simp
          exact hK _ _ ⟨_, _, _, _, _, _, _, _, _, _, _, _, _, _, _, _, _, _, _, _, _, _, _, _, _, rfl, hbx, ⟨hR.f0, hR.f1, hR.f2, hR.f3, hR.f4, hR.f5, hR.f6, hR.f7, hR.f8, hR.f9, hR.f10, hR.f11, fun _ => rfl, hR.f13, hR.f14, hR.f15, hR.f16, hR.f17, hR.f18, hR.f19, hR.f20, hR.f21, hR.f22, hR.f23, hR.f24⟩⟩
      · obtain rfl := hR.f7 (hdep ⟨7, .data⟩ (by simp) rfl)
        obtain rfl := hR.f12 (hdep ⟨12, .data⟩ (by simp) rfl)
        go_simp
        exact hK _ _ ⟨_, _, _, _, _, _, _, _, _, _, _, _, _, _, _, _, _, _, _, _, _, _, _, _, _, rfl, hbx, ⟨hR.f0, hR.f1, hR.f2, hR.f3, hR.f4, hR.f5, hR.f6, hR.f7, hR.f8, hR.f9, hR.f10, hR.f11, hR.f12, fun _ => rfl, hR.f14, hR.f15, hR.f16, hR.f17, hR.f18, hR.f19, hR.f20, hR.f21, hR.f22, hR.f23, hR.f24⟩⟩
      · obtain rfl := hR.f13 (hdep ⟨13, .data⟩ (by simp) rfl)
        go_simp
        exact hK _ _ ⟨_, _, _, _, _, _, _, _, _, _, _, _, _, _, _, _, _, _, _, _, _, _, _, _, _, rfl, hbx, ⟨hR.f0, hR.f1, hR.f2, hR.f3, hR.f4, hR.f5, hR.f6, hR.f7, hR.f8, hR.f9, hR.f10, hR.f11, hR.f12, hR.f13, fun _ => rfl, hR.f15, hR.f16, hR.f17, hR.f18, hR.f19, hR.f20, hR.f21, hR.f22, hR.f23, hR.f24⟩⟩
      · obtain rfl := hR.f14 (hdep ⟨14, .guard⟩ (by simp) rfl)
        obtain ⟨⟨pa0, pa1, pa2, pa3⟩, pb0, pb1, pb2, pb3⟩ := KEEP2.out wz hbx
        go_simp
        exact hK _ _ ⟨_, _, _, _, _, _, _, _, _, _, _, _, _, _, _, _, _, _, _, _, _, _, _, _, _, rfl, hbx, ⟨hR.f0, hR.f1, hR.f2, hR.f3, hR.f4, hR.f5, hR.f6, hR.f7, hR.f8, hR.f9, hR.f10, hR.f11, hR.f12, hR.f13, hR.f14, fun _ => rfl, hR.f16, hR.f17, hR.f18, hR.f19, hR.f20, hR.f21, hR.f22, hR.f23, hR.f24⟩⟩
      · obtain rfl := hR.f15 (hdep ⟨15, .data⟩ (by simp) rfl)
        obtain rfl := hR.f14 (hdep ⟨14, .guard⟩ (by simp) rfl)
        have CO := Lib.hid (BX.out wz hbx)
        go_simp
        go_at_call 9
        refine CO.out.mono ?_
        rintro r wy ⟨vy, rfl, hMy, hby⟩
        have hR' := hR.ext hby
        go_simp
        exact hK _ _ ⟨_, _, _, _, _, _, _, _, _, _, _, _, _, _, _, _, _, _, _, _, _, _, _, _, _, rfl, hbx.ext hby, ⟨hR'.f0, hR'.f1, hR'.f2, hR'.f3, hR'.f4, hR'.f5, hR'.f6, hR'.f7, hR'.f8, hR'.f9, hR'.f10, hR'.f11, hR'.f12, hR'.f13, hR'.f14, hR'.f15, fun _ => hMy.exv, hR'.f17, hR'.f18, hR'.f19, hR'.f20, hR'.f21, hR'.f22, hR'.f23, hR'.f24⟩⟩
      · obtain rfl := hR.f14 (hdep ⟨14, .guard⟩ (by simp) rfl)
        go_simp
        exact hK _ _ ⟨_, _, _, _, _, _, _, _, _, _, _, _, _, _, _, _, _, _, _, _, _, _, _, _, _, rfl, hbx, ⟨hR.f0, hR.f1, hR.f2, hR.f3, hR.f4, hR.f5, hR.f6, hR.f7, hR.f8, hR.f9, hR.f10, hR.f11, hR.f12, hR.f13, hR.f14, hR.f15, hR.f16, fun _ => rfl, hR.f18, hR.f19, hR.f20, hR.f21, hR.f22, hR.f23, hR.f24⟩⟩
      · obtain rfl := hR.f17 (hdep ⟨17, .data⟩ (by simp) rfl)
        obtain rfl := hR.f14 (hdep ⟨14, .guard⟩ (by simp) rfl)
        go_simp
        exact hK _ _ ⟨_, _, _, _, _, _, _, _, _, _, _, _, _, _, _, _, _, _, _, _, _, _, _, _, _, rfl, hbx, ⟨hR.f0, hR.f1, hR.f2, hR.f3, hR.f4, hR.f5, hR.f6, hR.f7, hR.f8, hR.f9, hR.f10, hR.f11, hR.f12, hR.f13, hR.f14, hR.f15, hR.f16, hR.f17, fun _ => rfl, hR.f19, hR.f20, hR.f21, hR.f22, hR.f23, hR.f24⟩⟩
      · obtain rfl := hR.f18 (hdep ⟨18, .data⟩ (by simp) rfl)
        obtain rfl := hR.f14 (hdep ⟨14, .guard⟩ (by simp) rfl)
        have CO := Lib.hid (PB.out wz _ (hR.f16 (hdep ⟨16, .data⟩ (by simp) rfl)))
        go_simp
        go_at_call 15
        refine CO.out.mono ?_
        rintro r wy ⟨vy, rfl, hDy, hby⟩
        have hR' := hR.ext hby
        go_simp
        exact hK _ _ ⟨_, _, _, _, _, _, _, _, _, _, _, _, _, _, _, _, _, _, _, _, _, _, _, _, _, rfl, hbx.ext hby, ⟨hR'.f0, hR'.f1, hR'.f2, hR'.f3, hR'.f4, hR'.f5, hR'.f6, hR'.f7, hR'.f8, hR'.f9, hR'.f10, hR'.f11, hR'.f12, hR'.f13, hR'.f14, hR'.f15, hR'.f16, hR'.f17, hR'.f18, fun _ => hDy.exv, hR'.f20, hR'.f21, hR'.f22, hR'.f23, hR'.f24⟩⟩
      · obtain rfl := hR.f14 (hdep ⟨14, .guard⟩ (by simp) rfl)
        obtain ⟨⟨pa0, pa1, pa2, pa3⟩, pb0, pb1, pb2, pb3⟩ := KEEP2.out wz hbx
        go_simp
        exact hK _ _ ⟨_, _, _, _, _, _, _, _, _, _, _, _, _, _, _, _, _, _, _, _, _, _, _, _, _, rfl, hbx, ⟨hR.f0, hR.f1, hR.f2, hR.f3, hR.f4, hR.f5, hR.f6, hR.f7, hR.f8, hR.f9, hR.f10, hR.f11, hR.f12, hR.f13, hR.f14, hR.f15, hR.f16, hR.f17, hR.f18, hR.f19, fun _ => rfl, hR.f21, hR.f22, hR.f23, hR.f24⟩⟩
      · obtain rfl := hR.f20 (hdep ⟨20, .data⟩ (by simp) rfl)
        obtain rfl := hR.f14 (hdep ⟨14, .guard⟩ (by simp) rfl)
        have CO := Lib.hid (BY.out wz hbx)
        go_simp
        go_at_call 9
        refine CO.out.mono ?_
        rintro r wy ⟨vy, rfl, hMy, hby⟩
        have hR' := hR.ext hby
        go_simp
        exact hK _ _ ⟨_, _, _, _, _, _, _, _, _, _, _, _, _, _, _, _, _, _, _, _, _, _, _, _, _, rfl, hbx.ext hby, ⟨hR'.f0, hR'.f1, hR'.f2, hR'.f3, hR'.f4, hR'.f5, hR'.f6, hR'.f7, hR'.f8, hR'.f9, hR'.f10, hR'.f11, hR'.f12, hR'.f13, hR'.f14, hR'.f15, hR'.f16, hR'.f17, hR'.f18, hR'.f19, hR'.f20, fun _ => hMy.exv, hR'.f22, hR'.f23, hR'.f24⟩⟩
      · obtain rfl := hR.f14 (hdep ⟨14, .guard⟩ (by simp) rfl)
        have CO := Lib.hid (EQ.out wz _ _ (hR.f19 (hdep ⟨19, .data⟩ (by simp) rfl)) (hR.f21 (hdep ⟨21, .data⟩ (by simp) rfl)))
        go_simp
        go_at_call 10
        refine CO.out.mono ?_
        rintro r wy ⟨rfl, hby⟩
        have hR' := hR.ext hby
        go_simp
        exact hK _ _ ⟨_, _, _, _, _, _, _, _, _, _, _, _, _, _, _, _, _, _, _, _, _, _, _, _, _, rfl, hbx.ext hby, ⟨hR'.f0, hR'.f1, hR'.f2, hR'.f3, hR'.f4, hR'.f5, hR'.f6, hR'.f7, hR'.f8, hR'.f9, hR'.f10, hR'.f11, hR'.f12, hR'.f13, hR'.f14, hR'.f15, hR'.f16, hR'.f17, hR'.f18, hR'.f19, hR'.f20, hR'.f21, fun _ => rfl, hR'.f23, hR'.f24⟩⟩
      · obtain rfl := hR.f14 (hdep ⟨14, .data⟩ (by simp) rfl)
        obtain rfl := hR.f22 (hdep ⟨22, .data⟩ (by simp) rfl)
        go_simp
        exact hK _ _ ⟨_, _, _, _, _, _, _, _, _, _, _, _, _, _, _, _, _, _, _, _, _, _, _, _, _, rfl, hbx, ⟨hR.f0, hR.f1, hR.f2, hR.f3, hR.f4, hR.f5, hR.f6, hR.f7, hR.f8, hR.f9, hR.f10, hR.f11, hR.f12, hR.f13, hR.f14, hR.f15, hR.f16, hR.f17, hR.f18, hR.f19, hR.f20, hR.f21, hR.f22, fun _ => rfl, hR.f24⟩⟩
      · obtain rfl := hR.f23 (hdep ⟨23, .data⟩ (by simp) rfl)
        go_simp
        exact hK _ _ ⟨_, _, _, _, _, _, _, _, _, _, _, _, _, _, _, _, _, _, _, _, _, _, _, _, _, rfl, hbx, ⟨hR.f0, hR.f1, hR.f2, hR.f3, hR.f4, hR.f5, hR.f6, hR.f7, hR.f8, hR.f9, hR.f10, hR.f11, hR.f12, hR.f13, hR.f14, hR.f15, hR.f16, hR.f17, hR.f18, hR.f19, hR.f20, hR.f21, hR.f22, hR.f23, fun _ => rfl⟩⟩
    · intro b a' wz hall ⟨s4, u104, u105, u106, u107, u108, u109, u110, u111, u112, u113, u114, u115, u116, u117, u118, u119, u120, u121, u122, u123, u124, u125, u126, u127, ha, hbx, hR⟩
      subst ha
      obtain rfl := hR.f24 (hall 24 (by decide))
      have hbe : Below W.heap.size W wz := HBW.out.ext hbx
      rename_i K1 a1
      refine a1 _ _ ?_
      go_wp2_with fail
      go_ret
      exact ⟨rfl, hbe⟩
end Go.Proofs.YtnejngpdplhbhaaDoor
