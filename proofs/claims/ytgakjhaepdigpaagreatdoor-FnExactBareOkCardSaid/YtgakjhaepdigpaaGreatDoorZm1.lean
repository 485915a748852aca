/- Lines without types in the laws' own hands: how much they hold, their copies, their equality. -/
import Derived.Test.YtgakjhaepdigpaaGreatDoorStLaw
import Derived.Test.YtgakjhaepdigpaaGreatDoorBe
import Derived.Test.YtgakjhaepdigpaaGreatDoorBrOk
import Derived.Test.YtgakjhaepdigpaaGreatDoorZm15
namespace Go.Proofs.YtgakjhaepdigpaaGreatDoor
set_option maxRecDepth 100000
set_option linter.unusedSimpArgs false
set_option linter.unusedVariables false
open Go.RowKit
attribute [local go_sem] bs_toList bs_get bs_size

/-- how much a line holds -/
def Br.wt (s : Br) : Nat := s.name.length + s.ex.wt + s.th.wt
theorem szBare_any (s : Br) (v : Value) (W : World) (n : Int) (h0 : 0 ≤ n) (h1 : n ≤ 10000000) (hv : BrV W W.heap.size v s) :
    Calls Tryz.prog 35 #[v, .int .i64 n] W fun r w' => r = .returned (.int .i64 (szOut n s.wt)) ∧ Below W.heap.size W w' := by
  obtain ⟨A1, A2, c1, c2, rfl, hn, hE1, hE2⟩ := hv
  have hB : Below W.heap.size W (W.alloc (.cells #[.int .i64 s.kind, .string (bs s.name), .int .i64 s.ex.kind, .int .i64 s.ex.n, .string (bs s.ex.s), .slice A1 s.ex.kids.length c1, .int .i64 s.th.kind, .int .i64 s.th.n, .string (bs s.th.s), .slice A2 s.th.kids.length c2] 57)) := by (repeat (first | with_reducible assumption | with_reducible exact Below.refl _ _ | with_reducible refine Below.setCell ?_ (by first | omega | (simp; done) | (simp; omega)) _ | with_reducible refine Below.alloc ?_ (by first | omega | (simp; done) | (simp; omega)) _ | with_reducible refine below_drewN ?_ _ | with_reducible refine Below.drew ?_))
  have hw : s.wt = s.name.length + s.ex.wt + s.th.wt := rfl
  have hE1' := hE1.ext hB
  have HE2 := Lib.hid (And.intro hB hE2)
  clear hE2 hB hE1
  by_cases hneg : n - (s.name.length : Int) < 0
  · have hr : szOut n s.wt = -1 := szOut_no (by omega)
    have HR := Lib.hid hr
    clear hr hw hE1'
    go_enter Tryz.func35, Tryz.ntmps35
    go_wp2_with fail
    go_ret
    exact ⟨ret_int HR.out.symm, by (repeat (first | with_reducible assumption | with_reducible exact Below.refl _ _ | with_reducible refine Below.setCell ?_ (by first | omega | (simp; done) | (simp; omega)) _ | with_reducible refine Below.alloc ?_ (by first | omega | (simp; done) | (simp; omega)) _ | with_reducible refine below_drewN ?_ _ | with_reducible refine Below.drew ?_))⟩
  have C1 := Lib.hid (szExpr_any s.ex _ _ (n - s.name.length) (by omega) (by omega) hE1')
  clear hE1'
  by_cases h3 : n - s.name.length - (s.ex.wt : Int) < 0
  · have hr : szOut n s.wt = -1 := szOut_no (by omega)
    rw [szOut_no (by omega)] at C1
    have HR := Lib.hid hr
    clear hr hw
    go_enter Tryz.func35, Tryz.ntmps35
    go_wp2_with fail
    refine C1.out.mono ?_
    rintro e w1 ⟨rfl, hb1⟩
    go_wp2_with fail
    go_ret
    exact ⟨ret_int HR.out.symm, by (repeat (first | with_reducible assumption | with_reducible exact Below.refl _ _ | with_reducible refine Below.setCell ?_ (by first | omega | (simp; done) | (simp; omega)) _ | with_reducible refine Below.alloc ?_ (by first | omega | (simp; done) | (simp; omega)) _ | with_reducible refine below_drewN ?_ _ | with_reducible refine Below.drew ?_ | with_reducible refine Below.trans ?_ (Below.mono hb1 (by first | omega | (simp; done) | (simp; omega)))))⟩
  rw [szOut_yes (by omega)] at C1
  have C2 : Hid (∀ w, Below W.heap.size W w → Calls Tryz.prog 89 #[_, .int .i64 (n - s.name.length - s.ex.wt)] w fun r w' => r = .returned (.int .i64 (szOut (n - s.name.length - s.ex.wt) s.th.wt)) ∧ Below w.heap.size w w') :=
    fun w hb => szExpr_any s.th _ w _ (by omega) (by omega) ((HE2.out.2.keep hb (Nat.le_refl _)).more hb.size)
  by_cases h4 : n - s.name.length - s.ex.wt - (s.th.wt : Int) < 0
  · have hr : szOut n s.wt = -1 := szOut_no (by omega)
    rw [szOut_no (by omega)] at C2
    have HR := Lib.hid hr
    clear hr hw
    go_enter Tryz.func35, Tryz.ntmps35
    go_wp2_with fail
    refine C1.out.mono ?_
    rintro e w1 ⟨rfl, hb1⟩
    have hz1 := hb1.size
    (try simp at hz1)
    have k1_0 := fun o => hb1.cell (p := ⟨W.heap.size, o, none⟩) (by first | omega | (simp; done) | (simp; omega)); have k1f_0 := fun o => hb1.frozen (p := ⟨W.heap.size, o, none⟩) (by first | omega | (simp; done) | (simp; omega))
    go_wp2_with fail
    refine (C2.out _ (by (repeat (first | with_reducible assumption | with_reducible exact Below.refl _ _ | with_reducible refine Below.setCell ?_ (by first | omega | (simp; done) | (simp; omega)) _ | with_reducible refine Below.alloc ?_ (by first | omega | (simp; done) | (simp; omega)) _ | with_reducible refine below_drewN ?_ _ | with_reducible refine Below.drew ?_ | with_reducible refine Below.trans ?_ (Below.mono hb1 (by first | omega | (simp; done) | (simp; omega))))))).mono ?_
    rintro e w2 ⟨rfl, hb2⟩
    go_wp2_with fail
    go_ret
    exact ⟨ret_int HR.out.symm, by (repeat (first | with_reducible assumption | with_reducible exact Below.refl _ _ | with_reducible refine Below.setCell ?_ (by first | omega | (simp; done) | (simp; omega)) _ | with_reducible refine Below.alloc ?_ (by first | omega | (simp; done) | (simp; omega)) _ | with_reducible refine below_drewN ?_ _ | with_reducible refine Below.drew ?_ | with_reducible refine Below.trans ?_ (Below.mono hb2 (by first | omega | (simp; done) | (simp; omega))) | with_reducible refine Below.trans ?_ (Below.mono hb1 (by first | omega | (simp; done) | (simp; omega)))))⟩
  · have hr : szOut n s.wt = n - s.name.length - s.ex.wt - s.th.wt := by rw [szOut_yes (by omega)]; omega
    rw [szOut_yes (by omega)] at C2
    have HR := Lib.hid hr
    clear hr hw
    go_enter Tryz.func35, Tryz.ntmps35
    go_wp2_with fail
    refine C1.out.mono ?_
    rintro e w1 ⟨rfl, hb1⟩
    have hz1 := hb1.size
    (try simp at hz1)
    have k1_0 := fun o => hb1.cell (p := ⟨W.heap.size, o, none⟩) (by first | omega | (simp; done) | (simp; omega)); have k1f_0 := fun o => hb1.frozen (p := ⟨W.heap.size, o, none⟩) (by first | omega | (simp; done) | (simp; omega))
    go_wp2_with fail
    refine (C2.out _ (by (repeat (first | with_reducible assumption | with_reducible exact Below.refl _ _ | with_reducible refine Below.setCell ?_ (by first | omega | (simp; done) | (simp; omega)) _ | with_reducible refine Below.alloc ?_ (by first | omega | (simp; done) | (simp; omega)) _ | with_reducible refine below_drewN ?_ _ | with_reducible refine Below.drew ?_ | with_reducible refine Below.trans ?_ (Below.mono hb1 (by first | omega | (simp; done) | (simp; omega))))))).mono ?_
    rintro e w2 ⟨rfl, hb2⟩
    go_wp2_with fail
    go_ret
    exact ⟨ret_int HR.out.symm, by (repeat (first | with_reducible assumption | with_reducible exact Below.refl _ _ | with_reducible refine Below.setCell ?_ (by first | omega | (simp; done) | (simp; omega)) _ | with_reducible refine Below.alloc ?_ (by first | omega | (simp; done) | (simp; omega)) _ | with_reducible refine below_drewN ?_ _ | with_reducible refine Below.drew ?_ | with_reducible refine Below.trans ?_ (Below.mono hb2 (by first | omega | (simp; done) | (simp; omega))) | with_reducible refine Below.trans ?_ (Below.mono hb1 (by first | omega | (simp; done) | (simp; omega)))))⟩

/-- what the copying gives -/
theorem toBare_any (s : Br) (v : Value) (W : World) (hwt : s.wt ≤ 1048576) (hv : BrV W W.heap.size v s) :
    Calls Tryz.prog 37 #[v] W fun r w' => ∃ u, r = .returned u ∧ BrV w' w'.heap.size u s ∧ Below W.heap.size W w' := by
  obtain ⟨A1, A2, c1, c2, rfl, hn, hE1, hE2⟩ := hv
  have hw : s.wt = s.name.length + s.ex.wt + s.th.wt := rfl
  obtain ⟨_, _, hs1, _⟩ := id hE1
  obtain ⟨_, _, hs2, _⟩ := id hE2
  have C1 := Lib.hid (fun (w : World) (h : Below W.heap.size W w) => toExpr_any s.ex _ w (by omega) ((hE1.keep h (Nat.le_refl _)).more h.size))
  have C2 := Lib.hid (fun (w : World) (h : Below W.heap.size W w) => toExpr_any s.th _ w (by omega) ((hE2.keep h (Nat.le_refl _)).more h.size))
  clear hw hE1 hE2
  go_enter Tryz.func37, Tryz.ntmps37
  go_wp2_with fail
  refine (C1.out _ (by (repeat (first | with_reducible assumption | with_reducible exact Below.refl _ _ | with_reducible refine Below.setCell ?_ (by first | omega | (simp; done) | (simp; omega)) _ | with_reducible refine Below.alloc ?_ (by first | omega | (simp; done) | (simp; omega)) _ | with_reducible refine below_drewN ?_ _ | with_reducible refine Below.drew ?_)))).mono ?_
  rintro e w1 ⟨B1, d1, b1, rfl, hO1, hOw1, hb1⟩
  have hz1 := hb1.size
  (try simp at hz1)
  (try simp only [World.size_alloc] at hOw1)
  have k1_0 := fun o => hb1.cell (p := ⟨W.heap.size, o, none⟩) (by first | omega | (simp; done) | (simp; omega)); have k1f_0 := fun o => hb1.frozen (p := ⟨W.heap.size, o, none⟩) (by first | omega | (simp; done) | (simp; omega)); have k1_1 := fun o => hb1.cell (p := ⟨W.heap.size + 1, o, none⟩) (by first | omega | (simp; done) | (simp; omega)); have k1f_1 := fun o => hb1.frozen (p := ⟨W.heap.size + 1, o, none⟩) (by first | omega | (simp; done) | (simp; omega)); have k1_2 := fun o => hb1.cell (p := ⟨W.heap.size + 1 + 1, o, none⟩) (by first | omega | (simp; done) | (simp; omega)); have k1f_2 := fun o => hb1.frozen (p := ⟨W.heap.size + 1 + 1, o, none⟩) (by first | omega | (simp; done) | (simp; omega))
  go_wp2_with fail
  refine (C2.out _ (by (repeat (first | with_reducible assumption | with_reducible exact Below.refl _ _ | with_reducible refine Below.setCell ?_ (by first | omega | (simp; done) | (simp; omega)) _ | with_reducible refine Below.alloc ?_ (by first | omega | (simp; done) | (simp; omega)) _ | with_reducible refine below_drewN ?_ _ | with_reducible refine Below.drew ?_ | with_reducible refine Below.trans ?_ (Below.mono hb1 (by first | omega | (simp; done) | (simp; omega))))))).mono ?_
  rintro e w2 ⟨B2, d2, b2, rfl, hO2, hOw2, hb2⟩
  have hz2 := hb2.size
  (try simp at hz2)
  (try simp only [World.size_setCell] at hOw2 hb2)
  have k2_0 := fun o => hb2.cell (p := ⟨W.heap.size, o, none⟩) (by first | omega | (simp; done) | (simp; omega)); have k2f_0 := fun o => hb2.frozen (p := ⟨W.heap.size, o, none⟩) (by first | omega | (simp; done) | (simp; omega)); have k2_1 := fun o => hb2.cell (p := ⟨W.heap.size + 1, o, none⟩) (by first | omega | (simp; done) | (simp; omega)); have k2f_1 := fun o => hb2.frozen (p := ⟨W.heap.size + 1, o, none⟩) (by first | omega | (simp; done) | (simp; omega)); have k2_2 := fun o => hb2.cell (p := ⟨W.heap.size + 1 + 1, o, none⟩) (by first | omega | (simp; done) | (simp; omega)); have k2f_2 := fun o => hb2.frozen (p := ⟨W.heap.size + 1 + 1, o, none⟩) (by first | omega | (simp; done) | (simp; omega))
  go_wp2_with fail
  refine bodyPost_ret (v := .agg #[.int .i64 s.kind, .string (bs s.name), .int .i64 s.ex.kind, .int .i64 s.ex.n, .string (bs s.ex.s), .slice B1 s.ex.kids.length d1, .int .i64 s.th.kind, .int .i64 s.th.n, .string (bs s.th.s), .slice B2 s.th.kids.length d2]) ?_ rfl ⟨_, rfl, ⟨_, _, _, _, rfl, hn, ⟨_, rfl, hs1, ExO.exs (t := 24) (bl := b1) ?_⟩, ⟨_, rfl, hs2, ExO.exs (t := 24) (bl := b2) ?_⟩⟩, ?_⟩
  · simp [results, Tryz.results37, go_sem, *]
  · refine hO1.same (fun x hx => ?_)
    have h1 := (hOw1.1 x hx).1
    have h2 := (hOw1.1 x hx).2
    repeat rw [Below.heap_setCell _ _ _ _ (by simp; omega)]
    rw [hb2.block x (by first | omega | (simp; omega))]
    repeat rw [Below.heap_setCell _ _ _ _ (by simp; omega)]
  · refine hO2.same (fun x hx => ?_)
    have h1 := (hOw2.1 x hx).1
    repeat rw [Below.heap_setCell _ _ _ _ (by simp; omega)]
  · (repeat (first | with_reducible assumption | with_reducible exact Below.refl _ _ | with_reducible refine Below.setCell ?_ (by first | omega | (simp; done) | (simp; omega)) _ | with_reducible refine Below.alloc ?_ (by first | omega | (simp; done) | (simp; omega)) _ | with_reducible refine below_drewN ?_ _ | with_reducible refine Below.drew ?_ | with_reducible refine Below.trans ?_ (Below.mono hb2 (by first | omega | (simp; done) | (simp; omega))) | with_reducible refine Below.trans ?_ (Below.mono hb1 (by first | omega | (simp; done) | (simp; omega)))))
theorem eqBare_any (s : Br) (v u : Value) (W : World) (hv : BrV W W.heap.size v s) (hu : BrV W W.heap.size u s) :
    Calls Tryz.prog 39 #[v, u] W fun e w' => e = .returned (.bool true) ∧ Below W.heap.size W w' := by
  obtain ⟨A1, A2, c1, c2, rfl, hn, hE1, hE2⟩ := hv
  obtain ⟨A1', A2', c1', c2', rfl, hn', hE1', hE2'⟩ := hu
  have C1 := Lib.hid (fun (w : World) (h : Below W.heap.size W w) => eqExpr_any s.ex s.ex _ _ w ((hE1.keep h (Nat.le_refl _)).more h.size) ((hE1'.keep h (Nat.le_refl _)).more h.size))
  have C2 := Lib.hid (fun (w : World) (h : Below W.heap.size W w) => eqExpr_any s.th s.th _ _ w ((hE2.keep h (Nat.le_refl _)).more h.size) ((hE2'.keep h (Nat.le_refl _)).more h.size))
  clear hE1 hE2 hE1' hE2'
  rw [decide_eq_true (rfl : s.ex = s.ex)] at C1
  rw [decide_eq_true (rfl : s.th = s.th)] at C2
  have d1 : (s.kind != s.kind) = false := by simp
  have d2 : (s.name == s.name) = true := by simp
  go_enter Tryz.func39, Tryz.ntmps39
  go_wp2_with fail
  refine (C1.out _ (by (repeat (first | with_reducible assumption | with_reducible exact Below.refl _ _ | with_reducible refine Below.setCell ?_ (by first | omega | (simp; done) | (simp; omega)) _ | with_reducible refine Below.alloc ?_ (by first | omega | (simp; done) | (simp; omega)) _ | with_reducible refine below_drewN ?_ _ | with_reducible refine Below.drew ?_)))).mono ?_
  rintro e w1 ⟨rfl, hb1⟩
  have hz1 := hb1.size
  (try simp at hz1)
  have k1_0 := fun o => hb1.cell (p := ⟨W.heap.size, o, none⟩) (by first | omega | (simp; done) | (simp; omega)); have k1f_0 := fun o => hb1.frozen (p := ⟨W.heap.size, o, none⟩) (by first | omega | (simp; done) | (simp; omega)); have k1_1 := fun o => hb1.cell (p := ⟨W.heap.size + 1, o, none⟩) (by first | omega | (simp; done) | (simp; omega)); have k1f_1 := fun o => hb1.frozen (p := ⟨W.heap.size + 1, o, none⟩) (by first | omega | (simp; done) | (simp; omega))
  go_wp2_with fail
  refine (C2.out _ (by (repeat (first | with_reducible assumption | with_reducible exact Below.refl _ _ | with_reducible refine Below.setCell ?_ (by first | omega | (simp; done) | (simp; omega)) _ | with_reducible refine Below.alloc ?_ (by first | omega | (simp; done) | (simp; omega)) _ | with_reducible refine below_drewN ?_ _ | with_reducible refine Below.drew ?_ | with_reducible refine Below.trans ?_ (Below.mono hb1 (by first | omega | (simp; done) | (simp; omega))))))).mono ?_
  rintro e w2 ⟨rfl, hb2⟩
  go_wp2_with fail
  go_ret
  exact ⟨rfl, by (repeat (first | with_reducible assumption | with_reducible exact Below.refl _ _ | with_reducible refine Below.setCell ?_ (by first | omega | (simp; done) | (simp; omega)) _ | with_reducible refine Below.alloc ?_ (by first | omega | (simp; done) | (simp; omega)) _ | with_reducible refine below_drewN ?_ _ | with_reducible refine Below.drew ?_ | with_reducible refine Below.trans ?_ (Below.mono hb2 (by first | omega | (simp; done) | (simp; omega))) | with_reducible refine Below.trans ?_ (Below.mono hb1 (by first | omega | (simp; done) | (simp; omega)))))⟩
end Go.Proofs.YtgakjhaepdigpaaGreatDoor


/- The law FnExactBareOk: the walk. -/
namespace Go.Proofs.YtgakjhaepdigpaaGreatDoor
set_option maxRecDepth 100000
set_option linter.unusedSimpArgs false
set_option linter.unusedVariables false
open Go.RowKit Go.ChangeShapes Go.WideShapes Go.ChangeAt Go.Deep
attribute [local go_sem] bs_toList bs_get bs_size

set_option maxHeartbeats 4000000 in
theorem lawBareOk (W : World) (v : Value) (s : Br) (hv : BrV W W.heap.size v s) (hE : Env W) : Calls Tryz.prog 7 #[v] W fun e w' => e = .returned (.bool true) ∧ Below W.heap.size W w' := by
  by_cases h1 : s.wt ≤ 1048576
  rotate_left
  · have SZ := Lib.hid (fun (w' : World) (h : Below W.heap.size W w') => szBare_any s v w' 1048576 (by omega) (by omega) ((hv.keep h (Nat.le_refl _)).more h.size))
    have e1 : szOut 1048576 s.wt = -1 := szOut_no (by omega)
    rw [e1] at SZ
    obtain ⟨A1, A2, c1, c2, rfl, hn, hE1, hE2⟩ := id hv
    clear hE1 hE2 e1 h1 hE hv
    go_enter Tryz.func7, Tryz.ntmps7
    go_wp2_with fail
    refine (SZ.out _ (by (repeat (first | with_reducible assumption | with_reducible exact Below.refl _ _ | with_reducible refine Below.setCell ?_ (by first | omega | (simp; done) | (simp; omega)) _ | with_reducible refine Below.alloc ?_ (by first | omega | (simp; done) | (simp; omega)) _ | with_reducible refine below_drewN ?_ _ | with_reducible refine Below.drew ?_)))).mono ?_
    rintro r w1 ⟨rfl, hb1⟩
    go_wp2_with fail
    go_ret
    exact ⟨rfl, by (repeat (first | with_reducible assumption | with_reducible exact Below.refl _ _ | with_reducible refine Below.setCell ?_ (by first | omega | (simp; done) | (simp; omega)) _ | with_reducible refine Below.alloc ?_ (by first | omega | (simp; done) | (simp; omega)) _ | with_reducible refine below_drewN ?_ _ | with_reducible refine Below.drew ?_ | with_reducible refine Below.trans ?_ (Below.mono hb1 (by first | omega | (simp; done) | (simp; omega)))))⟩
  · have SZ := Lib.hid (fun (w' : World) (h : Below W.heap.size W w') => szBare_any s v w' 1048576 (by omega) (by omega) ((hv.keep h (Nat.le_refl _)).more h.size))
    have e1 : szOut 1048576 s.wt = 1048576 - s.wt := szOut_yes (by omega)
    rw [e1] at SZ
    have TO := Lib.hid (fun (w' : World) (h : Below W.heap.size W w') => toBare_any s v w' h1 ((hv.keep h (Nat.le_refl _)).more h.size))
    have ENV := Lib.hid (fun (w' : World) (h : Below W.heap.size W w') => hE.ext h)
    obtain ⟨A1, A2, c1, c2, rfl, hn, hE1, hE2⟩ := id hv
    have hw0 : (0 : Int) ≤ 1048576 - (s.wt : Int) := by omega
    clear hE1 hE2 e1 h1 hE hv
    go_enter Tryz.func7, Tryz.ntmps7
    go_wp2_with fail
    refine (SZ.out _ (by (repeat (first | with_reducible assumption | with_reducible exact Below.refl _ _ | with_reducible refine Below.setCell ?_ (by first | omega | (simp; done) | (simp; omega)) _ | with_reducible refine Below.alloc ?_ (by first | omega | (simp; done) | (simp; omega)) _ | with_reducible refine below_drewN ?_ _ | with_reducible refine Below.drew ?_)))).mono ?_
    rintro r w1 ⟨rfl, hb1⟩
    have hz1 := hb1.size
    (try simp at hz1)
    have hbw1 : Below W.heap.size W w1 := by (repeat (first | with_reducible assumption | with_reducible exact Below.refl _ _ | with_reducible refine Below.setCell ?_ (by first | omega | (simp; done) | (simp; omega)) _ | with_reducible refine Below.alloc ?_ (by first | omega | (simp; done) | (simp; omega)) _ | with_reducible refine below_drewN ?_ _ | with_reducible refine Below.drew ?_ | with_reducible refine Below.trans ?_ (Below.mono hb1 (by first | omega | (simp; done) | (simp; omega)))))
    have BX : Hid (∀ w', Below (W.heap.size + 1) w1 w' → w'.cell? ⟨W.heap.size, 0, none⟩ = some (.int .i64 s.kind) ∧ w'.cell? ⟨W.heap.size, 1, none⟩ = some (.string (bs s.name)) ∧ w'.cell? ⟨W.heap.size, 2, none⟩ = some (.int .i64 s.ex.kind) ∧ w'.cell? ⟨W.heap.size, 3, none⟩ = some (.int .i64 s.ex.n) ∧ w'.cell? ⟨W.heap.size, 4, none⟩ = some (.string (bs s.ex.s)) ∧ w'.cell? ⟨W.heap.size, 5, none⟩ = some (.slice A1 s.ex.kids.length c1) ∧ w'.cell? ⟨W.heap.size, 6, none⟩ = some (.int .i64 s.th.kind) ∧ w'.cell? ⟨W.heap.size, 7, none⟩ = some (.int .i64 s.th.n) ∧ w'.cell? ⟨W.heap.size, 8, none⟩ = some (.string (bs s.th.s)) ∧ w'.cell? ⟨W.heap.size, 9, none⟩ = some (.slice A2 s.th.kids.length c2)) := Lib.hid (fun w' h => by
      have hh : Below (W.heap.size + 1) _ w' := (hb1.mono (by simp)).trans h
      refine ⟨?_, ?_, ?_, ?_, ?_, ?_, ?_, ?_, ?_, ?_⟩ <;> exact (hh.cell (p := ⟨W.heap.size, _, none⟩) (Nat.lt_succ_self _)).trans (by simp [go_sem]))
    obtain ⟨x0, x1, x2, x3, x4, x5, x6, x7, x8, x9⟩ := BX.out w1 (Below.refl _ _)
    clear hb1 SZ
    go_wp2_with fail
    refine (TO.out _ hbw1).mono ?_
    rintro r w2 ⟨u2, rfl, hS2, hb2⟩
    have hz2 := hb2.size
    have HS2 := Lib.hid hS2
    obtain ⟨B1, B2, d1, d2, rfl, _, _, _⟩ := hS2
    clear x0 x1 x2 x3 x4 x5 x6 x7 x8 x9
    have hbw2 : Below W.heap.size W w2 := by (repeat (first | with_reducible assumption | with_reducible exact Below.refl _ _ | with_reducible refine Below.setCell ?_ (by first | omega | (simp; done) | (simp; omega)) _ | with_reducible refine Below.alloc ?_ (by first | omega | (simp; done) | (simp; omega)) _ | with_reducible refine below_drewN ?_ _ | with_reducible refine Below.drew ?_ | with_reducible refine Below.trans ?_ (Below.mono hb2 (by first | omega | (simp; done) | (simp; omega))) | with_reducible refine Below.trans ?_ (Below.mono hbw1 (by first | omega | (simp; done) | (simp; omega)))))
    go_wp2_with fail
    refine (spBareOk_any s _ w2 HS2.out).mono ?_
    rintro r w3 ⟨rfl, hb3⟩
    have hz3 := hb3.size
    have hbw3 : Below W.heap.size W w3 := by (repeat (first | with_reducible assumption | with_reducible exact Below.refl _ _ | with_reducible refine Below.setCell ?_ (by first | omega | (simp; done) | (simp; omega)) _ | with_reducible refine Below.alloc ?_ (by first | omega | (simp; done) | (simp; omega)) _ | with_reducible refine below_drewN ?_ _ | with_reducible refine Below.drew ?_ | with_reducible refine Below.trans ?_ (Below.mono hb3 (by first | omega | (simp; done) | (simp; omega))) | with_reducible refine Below.trans ?_ (Below.mono hbw2 (by first | omega | (simp; done) | (simp; omega)))))
    obtain ⟨x0, x1, x2, x3, x4, x5, x6, x7, x8, x9⟩ := BX.out w3 (by (repeat (first | with_reducible assumption | with_reducible exact Below.refl _ _ | with_reducible refine Below.setCell ?_ (by first | omega | (simp; done) | (simp; omega)) _ | with_reducible refine Below.alloc ?_ (by first | omega | (simp; done) | (simp; omega)) _ | with_reducible refine below_drewN ?_ _ | with_reducible refine Below.drew ?_ | with_reducible refine Below.trans ?_ (Below.mono hb3 (by first | omega | (simp; done) | (simp; omega))) | with_reducible refine Below.trans ?_ (Below.mono hb2 (by first | omega | (simp; done) | (simp; omega))))))
    clear HS2
    go_wp2_with fail
    refine (TO.out _ hbw3).mono ?_
    rintro r w4 ⟨u4, rfl, hS4, hb4⟩
    have hz4 := hb4.size
    have HS4 := Lib.hid (fun (w' : World) (h : Below w4.heap.size w4 w') => (hS4.keep h (Nat.le_refl _)).more h.size)
    obtain ⟨C1, C2, f1, f2, rfl, _, _, _⟩ := hS4
    clear x0 x1 x2 x3 x4 x5 x6 x7 x8 x9
    have hbw4 : Below W.heap.size W w4 := by (repeat (first | with_reducible assumption | with_reducible exact Below.refl _ _ | with_reducible refine Below.setCell ?_ (by first | omega | (simp; done) | (simp; omega)) _ | with_reducible refine Below.alloc ?_ (by first | omega | (simp; done) | (simp; omega)) _ | with_reducible refine below_drewN ?_ _ | with_reducible refine Below.drew ?_ | with_reducible refine Below.trans ?_ (Below.mono hb4 (by first | omega | (simp; done) | (simp; omega))) | with_reducible refine Below.trans ?_ (Below.mono hbw3 (by first | omega | (simp; done) | (simp; omega)))))
    go_wp2_with fail
    refine (imBareOk_any s _ _ (HS4.out _ (by (repeat (first | with_reducible assumption | with_reducible exact Below.refl _ _ | with_reducible refine Below.setCell ?_ (by first | omega | (simp; done) | (simp; omega)) _ | with_reducible refine Below.alloc ?_ (by first | omega | (simp; done) | (simp; omega)) _ | with_reducible refine below_drewN ?_ _ | with_reducible refine Below.drew ?_)))) (ENV.out _ (by (repeat (first | with_reducible assumption | with_reducible exact Below.refl _ _ | with_reducible refine Below.setCell ?_ (by first | omega | (simp; done) | (simp; omega)) _ | with_reducible refine Below.alloc ?_ (by first | omega | (simp; done) | (simp; omega)) _ | with_reducible refine below_drewN ?_ _ | with_reducible refine Below.drew ?_ | with_reducible refine Below.trans ?_ (Below.mono hbw4 (by first | omega | (simp; done) | (simp; omega)))))))).mono ?_
    rintro r w5 ⟨rfl, hb5⟩
    have hz5 := hb5.size
    (try simp at hz5)
    have hbw5 : Below W.heap.size W w5 := by (repeat (first | with_reducible assumption | with_reducible exact Below.refl _ _ | with_reducible refine Below.setCell ?_ (by first | omega | (simp; done) | (simp; omega)) _ | with_reducible refine Below.alloc ?_ (by first | omega | (simp; done) | (simp; omega)) _ | with_reducible refine below_drewN ?_ _ | with_reducible refine Below.drew ?_ | with_reducible refine Below.trans ?_ (Below.mono hb5 (by first | omega | (simp; done) | (simp; omega))) | with_reducible refine Below.trans ?_ (Below.mono hbw4 (by first | omega | (simp; done) | (simp; omega)))))
    have hbx5 : Below (W.heap.size + 1) w1 w5 := by (repeat (first | with_reducible assumption | with_reducible exact Below.refl _ _ | with_reducible refine Below.setCell ?_ (by first | omega | (simp; done) | (simp; omega)) _ | with_reducible refine Below.alloc ?_ (by first | omega | (simp; done) | (simp; omega)) _ | with_reducible refine below_drewN ?_ _ | with_reducible refine Below.drew ?_ | with_reducible refine Below.trans ?_ (Below.mono hb5 (by first | omega | (simp; done) | (simp; omega))) | with_reducible refine Below.trans ?_ (Below.mono hb4 (by first | omega | (simp; done) | (simp; omega))) | with_reducible refine Below.trans ?_ (Below.mono hb3 (by first | omega | (simp; done) | (simp; omega))) | with_reducible refine Below.trans ?_ (Below.mono hb2 (by first | omega | (simp; done) | (simp; omega)))))
    have hb45 : Below w4.heap.size w4 w5 := by (repeat (first | with_reducible assumption | with_reducible exact Below.refl _ _ | with_reducible refine Below.setCell ?_ (by first | omega | (simp; done) | (simp; omega)) _ | with_reducible refine Below.alloc ?_ (by first | omega | (simp; done) | (simp; omega)) _ | with_reducible refine below_drewN ?_ _ | with_reducible refine Below.drew ?_ | with_reducible refine Below.trans ?_ (Below.mono hb5 (by first | omega | (simp; done) | (simp; omega)))))
    have KEEP : Hid (∀ w', Below (w4.heap.size + 1) w5 w' → ((w'.cell? ⟨W.heap.size, 0, none⟩ = some (.int .i64 s.kind) ∧ w'.cell? ⟨W.heap.size, 1, none⟩ = some (.string (bs s.name)) ∧ w'.cell? ⟨W.heap.size, 2, none⟩ = some (.int .i64 s.ex.kind) ∧ w'.cell? ⟨W.heap.size, 3, none⟩ = some (.int .i64 s.ex.n) ∧ w'.cell? ⟨W.heap.size, 4, none⟩ = some (.string (bs s.ex.s)) ∧ w'.cell? ⟨W.heap.size, 5, none⟩ = some (.slice A1 s.ex.kids.length c1) ∧ w'.cell? ⟨W.heap.size, 6, none⟩ = some (.int .i64 s.th.kind) ∧ w'.cell? ⟨W.heap.size, 7, none⟩ = some (.int .i64 s.th.n) ∧ w'.cell? ⟨W.heap.size, 8, none⟩ = some (.string (bs s.th.s)) ∧ w'.cell? ⟨W.heap.size, 9, none⟩ = some (.slice A2 s.th.kids.length c2)) ∧ (w'.cell? ⟨w4.heap.size, 0, none⟩ = some (.int .i64 s.kind) ∧ w'.cell? ⟨w4.heap.size, 1, none⟩ = some (.string (bs s.name)) ∧ w'.cell? ⟨w4.heap.size, 2, none⟩ = some (.int .i64 s.ex.kind) ∧ w'.cell? ⟨w4.heap.size, 3, none⟩ = some (.int .i64 s.ex.n) ∧ w'.cell? ⟨w4.heap.size, 4, none⟩ = some (.string (bs s.ex.s)) ∧ w'.cell? ⟨w4.heap.size, 5, none⟩ = some (.slice C1 s.ex.kids.length f1) ∧ w'.cell? ⟨w4.heap.size, 6, none⟩ = some (.int .i64 s.th.kind) ∧ w'.cell? ⟨w4.heap.size, 7, none⟩ = some (.int .i64 s.th.n) ∧ w'.cell? ⟨w4.heap.size, 8, none⟩ = some (.string (bs s.th.s)) ∧ w'.cell? ⟨w4.heap.size, 9, none⟩ = some (.slice C2 s.th.kids.length f2)))) := Lib.hid (fun w' h => by
      refine ⟨BX.out w' (hbx5.trans (h.mono (by omega))), ?_⟩
      have hh : Below (w4.heap.size + 1) _ w' := (hb5.mono (by simp)).trans h
      refine ⟨?_, ?_, ?_, ?_, ?_, ?_, ?_, ?_, ?_, ?_⟩ <;> exact (hh.cell (p := ⟨w4.heap.size, _, none⟩) (Nat.lt_succ_self _)).trans (by simp [go_sem]))
    have EQ := Lib.hid (fun (w' : World) (u : Value) (h : Below w4.heap.size w4 w') (hu : BrV w' w'.heap.size u s) => eqBare_any s _ u w' (HS4.out w' h) hu)
    clear BX hb5 HS4
    generalize brOkB s = so at *
    go_upto_region 10 with fail
    go_region_held3 (fun w' => (w'.cell? ⟨W.heap.size, 0, none⟩ = some (.int .i64 s.kind) ∧ w'.cell? ⟨W.heap.size, 1, none⟩ = some (.string (bs s.name)) ∧ w'.cell? ⟨W.heap.size, 2, none⟩ = some (.int .i64 s.ex.kind) ∧ w'.cell? ⟨W.heap.size, 3, none⟩ = some (.int .i64 s.ex.n) ∧ w'.cell? ⟨W.heap.size, 4, none⟩ = some (.string (bs s.ex.s)) ∧ w'.cell? ⟨W.heap.size, 5, none⟩ = some (.slice A1 s.ex.kids.length c1) ∧ w'.cell? ⟨W.heap.size, 6, none⟩ = some (.int .i64 s.th.kind) ∧ w'.cell? ⟨W.heap.size, 7, none⟩ = some (.int .i64 s.th.n) ∧ w'.cell? ⟨W.heap.size, 8, none⟩ = some (.string (bs s.th.s)) ∧ w'.cell? ⟨W.heap.size, 9, none⟩ = some (.slice A2 s.th.kids.length c2)) ∧ (w'.cell? ⟨w4.heap.size, 0, none⟩ = some (.int .i64 s.kind) ∧ w'.cell? ⟨w4.heap.size, 1, none⟩ = some (.string (bs s.name)) ∧ w'.cell? ⟨w4.heap.size, 2, none⟩ = some (.int .i64 s.ex.kind) ∧ w'.cell? ⟨w4.heap.size, 3, none⟩ = some (.int .i64 s.ex.n) ∧ w'.cell? ⟨w4.heap.size, 4, none⟩ = some (.string (bs s.ex.s)) ∧ w'.cell? ⟨w4.heap.size, 5, none⟩ = some (.slice C1 s.ex.kids.length f1) ∧ w'.cell? ⟨w4.heap.size, 6, none⟩ = some (.int .i64 s.th.kind) ∧ w'.cell? ⟨w4.heap.size, 7, none⟩ = some (.int .i64 s.th.n) ∧ w'.cell? ⟨w4.heap.size, 8, none⟩ = some (.string (bs s.th.s)) ∧ w'.cell? ⟨w4.heap.size, 9, none⟩ = some (.slice C2 s.th.kids.length f2)))
      (first | exact KEEP.out _ (by (repeat (first | with_reducible assumption | with_reducible exact Below.refl _ _ | with_reducible refine Below.setCell ?_ (by first | omega | (simp; done) | (simp; omega)) _ | with_reducible refine Below.alloc ?_ (by first | omega | (simp; done) | (simp; omega)) _ | with_reducible refine below_drewN ?_ _ | with_reducible refine Below.drew ?_ | with_reducible refine Below.trans ?_ (Below.mono hb7 (by first | omega | (simp; done) | (simp; omega))) | with_reducible refine Below.trans ?_ (Below.mono hb6 (by first | omega | (simp; done) | (simp; omega)))))) | go_keep)
      (first
        | (go_at_call 37; refine (TO.out _ (by (repeat (first | with_reducible assumption | with_reducible exact Below.refl _ _ | with_reducible refine Below.setCell ?_ (by first | omega | (simp; done) | (simp; omega)) _ | with_reducible refine Below.alloc ?_ (by first | omega | (simp; done) | (simp; omega)) _ | with_reducible refine below_drewN ?_ _ | with_reducible refine Below.drew ?_ | with_reducible refine Below.trans ?_ (Below.mono hbw5 (by first | omega | (simp; done) | (simp; omega))))))).mono ?_; rintro r w6 ⟨u6, rfl, hS6, hb6⟩; have hz6 := hb6.size; (try simp at hz6); have HS6 := Lib.hid hS6; obtain ⟨D1, D2, g1, g2, rfl, _, _, _⟩ := hS6)
        | (go_at_call 39; refine (EQ.out _ _ (by (repeat (first | with_reducible assumption | with_reducible exact Below.refl _ _ | with_reducible refine Below.setCell ?_ (by first | omega | (simp; done) | (simp; omega)) _ | with_reducible refine Below.alloc ?_ (by first | omega | (simp; done) | (simp; omega)) _ | with_reducible refine below_drewN ?_ _ | with_reducible refine Below.drew ?_ | with_reducible refine Below.trans ?_ (Below.mono hb6 (by first | omega | (simp; done) | (simp; omega))) | with_reducible refine Below.trans ?_ (Below.mono hb45 (by first | omega | (simp; done) | (simp; omega)))))) HS6.out).mono ?_; rintro r w7 ⟨rfl, hb7⟩; have hz7 := hb7.size)
        | fail)
    all_goals
      go_wp2_with fail
      go_ret
      exact ⟨rfl, by (repeat (first | with_reducible assumption | with_reducible exact Below.refl _ _ | with_reducible refine Below.setCell ?_ (by first | omega | (simp; done) | (simp; omega)) _ | with_reducible refine Below.alloc ?_ (by first | omega | (simp; done) | (simp; omega)) _ | with_reducible refine below_drewN ?_ _ | with_reducible refine Below.drew ?_ | with_reducible refine Below.trans ?_ (Below.mono hb7 (by first | omega | (simp; done) | (simp; omega))) | with_reducible refine Below.trans ?_ (Below.mono hb6 (by first | omega | (simp; done) | (simp; omega))) | with_reducible refine Below.trans ?_ (Below.mono hbw5 (by first | omega | (simp; done) | (simp; omega)))))⟩
section
variable {H : Type} {enc : TypeId × Value → H} {W : World}
theorem br_cells (n : Nat) {sp : Nat → Bool} {cs : List Value} {x : DataW H × List MemPlace} (h : DataW.trod enc Tryz.prog W 0 sp true n 57 cs = some x) :
    ∃ (s : Br) (A1 A2 : Option Addr) (k1 k2 : Nat), cs = [.int .i64 s.kind, .string (bs s.name), .int .i64 s.ex.kind, .int .i64 s.ex.n, .string (bs s.ex.s), .slice A1 s.ex.kids.length k1, .int .i64 s.th.kind, .int .i64 s.th.n, .string (bs s.th.s), .slice A2 s.th.kids.length k2] ∧
      s.name.length ≤ 9223372036854775807 ∧ ExV W W.heap.size (.agg #[.int .i64 s.ex.kind, .int .i64 s.ex.n, .string (bs s.ex.s), .slice A1 s.ex.kids.length k1]) s.ex ∧ ExV W W.heap.size (.agg #[.int .i64 s.th.kind, .int .i64 s.th.n, .string (bs s.th.s), .slice A2 s.th.kids.length k2]) s.th := by
  obtain ⟨ys, n', hn', hy, hlen, hyl, hf⟩ := DataW.trod_struct Tryz.underlying57 h
  have h0 := hf 0 _ rfl
  have h1 := hf 1 _ rfl
  have h3 := hf 2 _ rfl
  have h4 := hf 3 _ rfl
  rw [List.getElem?_eq_getElem (by rw [hyl]; decide)] at h0 h1 h3 h4
  have hc : cs.length = 10 := hlen.trans (by kernel_rfl)
  match cs, hc with
  | [c0, c1, c3, c4, c5, c6, c7, c8, c9, c10], _ =>
    have e0 : Tryz.prog.cellsOf 3 = 1 := by kernel_rfl
    have e2 : Tryz.prog.cellsOf 9 = 1 := by kernel_rfl
    have e3 : Tryz.prog.cellsOf 55 = 4 := by kernel_rfl
    obtain ⟨a, ha, _, _⟩ := DataW.trod_int Tryz.underlying3 h0
    obtain ⟨s, hs, _, hsz⟩ := DataW.trod_string Tryz.underlying9 h1
    simp [e0, e2] at ha hs
    obtain ⟨f, hfr, _, e, ⟨g1, g2, g3, g4⟩, g5⟩ := ex_cells _ h3
    obtain ⟨f', hfr', _, e', ⟨g1', g2', g3', g4'⟩, g5'⟩ := ex_cells _ h4
    simp [e0, e2, e3, feRow] at hfr hfr'
    unfold maxLen at hsz
    obtain ⟨q1, q2, q3, q4⟩ := hfr
    obtain ⟨q1', q2', q3', q4'⟩ := hfr'
    obtain ⟨A1, k1, hk1, _, _⟩ := g5.val
    obtain ⟨A2, k2, hk2, _, _⟩ := g5'.val
    refine ⟨⟨a, s.data.toList, e, e'⟩, A1, A2, k1, k2, ?_, ?_, ⟨_, rfl, by rw [← g3]; exact g4, by rw [← hk1]; exact g5⟩, ⟨_, rfl, by rw [← g3']; exact g4', by rw [← hk2]; exact g5'⟩⟩
    · rw [ha, hs, q1, q2, q3, q4, q1', q2', q3', q4', g1, g2, g3, g1', g2', g3', hk1, hk2, bs_of]
    · rw [← bs_size, bs_of]; exact hsz
theorem br_open {sp : Nat → Bool} {v : Value} {d : DataW H} {p : List MemPlace} {r : Reach} {b0 : Nat} (hv : Value.okWide Tryz.prog W r b0 57 v) (h : DataW.Trod enc Tryz.prog W 0 sp true 57 v d p) : ∃ s : Br, BrV W W.heap.size v s := by
  obtain ⟨cs, rfl, hsz⟩ := okWide_struct Tryz.underlying57 hv
  obtain ⟨fuel, hf⟩ := h
  obtain ⟨s, A1, A2, k1, k2, hfr, h1, h2, h3⟩ := br_cells _ hf
  refine ⟨s, A1, A2, k1, k2, ?_, h1, h2, h3⟩
  have : cs.toList = _ := hfr
  rw [← Array.toArray_toList (xs := cs), this]
end
end Go.Proofs.YtgakjhaepdigpaaGreatDoor
