/- Two statements compared: the program's and the reference's StmtSame. -/
import Derived.Test.YtgakjhaepdigpaaGreatDoorZm19
import Derived.Test.YtgakjhaepdigpaaGreatDoorZm13
import Derived.Test.YtgakjhaepdigpaaGreatDoorZm20
import Derived.Deep.RegionLaw
import Derived.Deep.RegionHeld3
import Derived.Test.YtgakjhaepdigpaaGreatDoorZm6
namespace Go.Proofs.YtgakjhaepdigpaaGreatDoor
set_option maxRecDepth 100000
set_option linter.unusedSimpArgs false
set_option linter.unusedVariables false
open Go.RowKit
attribute [local go_sem] bs_toList bs_get bs_size

theorem spStmtSame_any (s t : Sm) (v u : Value) (W : World) (hv : SmV W W.heap.size v s) (hu : SmV W W.heap.size u t) :
    Calls Tryz.prog 25 #[v, u] W fun e w' => e = .returned (.bool (decide (s = t))) ∧ Below W.heap.size W w' := by
  obtain ⟨A1, A2, c1, c2, rfl, hn, ht, hE1, hE2⟩ := hv.form2
  obtain ⟨A3, A4, c3, c4, rfl, hn', ht', hF1, hF2⟩ := hu.form2
  obtain ⟨k, nm, ty, a, b⟩ := s
  obtain ⟨k', nm', ty', a', b'⟩ := t
  simp only at hn ht hE1 hE2 hn' ht' hF1 hF2 ⊢
  have C1 := Lib.hid (fun (w' : World) (h : Below W.heap.size W w') => spSame_any a a' _ _ w' ((hE1.keep h (Nat.le_refl _)).more h.size) ((hF1.keep h (Nat.le_refl _)).more h.size))
  have C2 := Lib.hid (fun (w' : World) (h : Below W.heap.size W w') => spSame_any b b' _ _ w' ((hE2.keep h (Nat.le_refl _)).more h.size) ((hF2.keep h (Nat.le_refl _)).more h.size))
  clear hE1 hE2 hF1 hF2 hv hu
  by_cases h0 : k = k' ∧ nm = nm' ∧ ty = ty'
  rotate_left
  · have hd : decide ((⟨k, nm, ty, a, b⟩ : Sm) = ⟨k', nm', ty', a', b'⟩) = false := by
      apply decide_eq_false
      intro e
      injection e with e1 e2 e3
      exact h0 ⟨e1, e2, e3⟩
    have HD := Lib.hid (And.intro hd h0)
    clear hd h0 C1 C2
    go_enter Tryz.func25, Tryz.ntmps25
    go_wp2_with fail
    all_goals first
      | (go_ret; exact ⟨ret_bool HD.out.1.symm, by (repeat (first | with_reducible assumption | with_reducible exact Below.refl _ _ | with_reducible refine Below.setCell ?_ (by first | omega | (simp; done) | (simp; omega)) _ | with_reducible refine Below.alloc ?_ (by first | omega | (simp; done) | (simp; omega)) _ | with_reducible refine below_drewN ?_ _ | with_reducible refine Below.drew ?_))⟩)
      | (exfalso; have := HD.out.2; clear HD; go_light; simp_all; done)
      | (exfalso; have := HD.out.2; clear HD; go_light; simp_all; omega)
  · obtain ⟨rfl, rfl, rfl⟩ := h0
    have hr : decide ((⟨k, nm, ty, a, b⟩ : Sm) = ⟨k, nm, ty, a', b'⟩) = (decide (a = a') && decide (b = b')) := by simp
    rw [hr]
    clear hr
    generalize decide (a = a') = x at *
    generalize decide (b = b') = y at *
    go_enter Tryz.func25, Tryz.ntmps25
    go_wp2_with fail
    refine (C1.out _ (by (repeat (first | with_reducible assumption | with_reducible exact Below.refl _ _ | with_reducible refine Below.setCell ?_ (by first | omega | (simp; done) | (simp; omega)) _ | with_reducible refine Below.alloc ?_ (by first | omega | (simp; done) | (simp; omega)) _ | with_reducible refine below_drewN ?_ _ | with_reducible refine Below.drew ?_)))).mono ?_
    rintro r w1 ⟨rfl, hb1⟩
    have hz1 := hb1.size
    (try simp at hz1)
    have k1_0 := fun o => hb1.cell (p := ⟨W.heap.size, o, none⟩) (by first | omega | (simp; done) | (simp; omega)); have k1f_0 := fun o => hb1.frozen (p := ⟨W.heap.size, o, none⟩) (by first | omega | (simp; done) | (simp; omega))
    have k2_0 := fun o => hb1.cell (p := ⟨W.heap.size, o, none⟩) (by first | omega | (simp; done) | (simp; omega)); have k2f_0 := fun o => hb1.frozen (p := ⟨W.heap.size, o, none⟩) (by first | omega | (simp; done) | (simp; omega)); have k2_1 := fun o => hb1.cell (p := ⟨W.heap.size + 1, o, none⟩) (by first | omega | (simp; done) | (simp; omega)); have k2f_1 := fun o => hb1.frozen (p := ⟨W.heap.size + 1, o, none⟩) (by first | omega | (simp; done) | (simp; omega))
    cases x
    · go_wp2_with fail
      go_ret
      exact ⟨rfl, by (repeat (first | with_reducible assumption | with_reducible exact Below.refl _ _ | with_reducible refine Below.setCell ?_ (by first | omega | (simp; done) | (simp; omega)) _ | with_reducible refine Below.alloc ?_ (by first | omega | (simp; done) | (simp; omega)) _ | with_reducible refine below_drewN ?_ _ | with_reducible refine Below.drew ?_ | with_reducible refine Below.trans ?_ (Below.mono hb1 (by first | omega | (simp; done) | (simp; omega)))))⟩
    go_wp2_with fail
    refine (C2.out _ (by (repeat (first | with_reducible assumption | with_reducible exact Below.refl _ _ | with_reducible refine Below.setCell ?_ (by first | omega | (simp; done) | (simp; omega)) _ | with_reducible refine Below.alloc ?_ (by first | omega | (simp; done) | (simp; omega)) _ | with_reducible refine below_drewN ?_ _ | with_reducible refine Below.drew ?_ | with_reducible refine Below.trans ?_ (Below.mono hb1 (by first | omega | (simp; done) | (simp; omega))))))).mono ?_
    rintro r w2 ⟨rfl, hb2⟩
    go_wp2_with fail
    go_ret
    exact ⟨ret_bool (by simp), by (repeat (first | with_reducible assumption | with_reducible exact Below.refl _ _ | with_reducible refine Below.setCell ?_ (by first | omega | (simp; done) | (simp; omega)) _ | with_reducible refine Below.alloc ?_ (by first | omega | (simp; done) | (simp; omega)) _ | with_reducible refine below_drewN ?_ _ | with_reducible refine Below.drew ?_ | with_reducible refine Below.trans ?_ (Below.mono hb2 (by first | omega | (simp; done) | (simp; omega))) | with_reducible refine Below.trans ?_ (Below.mono hb1 (by first | omega | (simp; done) | (simp; omega)))))⟩
theorem imStmtSame_any (s t : Sm) (v u : Value) (W : World) (hv : SmV W W.heap.size v s) (hu : SmV W W.heap.size u t) :
    Calls Tryz.prog 22 #[v, u] W fun e w' => e = .returned (.bool (decide (s = t))) ∧ Below W.heap.size W w' := by
  obtain ⟨A1, A2, c1, c2, rfl, hn, ht, hE1, hE2⟩ := hv.form2
  obtain ⟨A3, A4, c3, c4, rfl, hn', ht', hF1, hF2⟩ := hu.form2
  obtain ⟨k, nm, ty, a, b⟩ := s
  obtain ⟨k', nm', ty', a', b'⟩ := t
  simp only at hn ht hE1 hE2 hn' ht' hF1 hF2 ⊢
  have C1 := Lib.hid (fun (w' : World) (h : Below W.heap.size W w') => imSame_any a a' _ _ w' ((hE1.keep h (Nat.le_refl _)).more h.size) ((hF1.keep h (Nat.le_refl _)).more h.size))
  have C2 := Lib.hid (fun (w' : World) (h : Below W.heap.size W w') => imSame_any b b' _ _ w' ((hE2.keep h (Nat.le_refl _)).more h.size) ((hF2.keep h (Nat.le_refl _)).more h.size))
  clear hE1 hE2 hF1 hF2 hv hu
  by_cases h0 : k = k' ∧ nm = nm' ∧ ty = ty'
  rotate_left
  · have hd : decide ((⟨k, nm, ty, a, b⟩ : Sm) = ⟨k', nm', ty', a', b'⟩) = false := by
      apply decide_eq_false
      intro e
      injection e with e1 e2 e3
      exact h0 ⟨e1, e2, e3⟩
    have HD := Lib.hid (And.intro hd h0)
    clear hd h0 C1 C2
    go_enter Tryz.func22, Tryz.ntmps22
    go_wp2_with fail
    all_goals first
      | (go_ret; exact ⟨ret_bool HD.out.1.symm, by (repeat (first | with_reducible assumption | with_reducible exact Below.refl _ _ | with_reducible refine Below.setCell ?_ (by first | omega | (simp; done) | (simp; omega)) _ | with_reducible refine Below.alloc ?_ (by first | omega | (simp; done) | (simp; omega)) _ | with_reducible refine below_drewN ?_ _ | with_reducible refine Below.drew ?_))⟩)
      | (exfalso; have := HD.out.2; clear HD; go_light; simp_all; done)
      | (exfalso; have := HD.out.2; clear HD; go_light; simp_all; omega)
  · obtain ⟨rfl, rfl, rfl⟩ := h0
    have hr : decide ((⟨k, nm, ty, a, b⟩ : Sm) = ⟨k, nm, ty, a', b'⟩) = (decide (a = a') && decide (b = b')) := by simp
    rw [hr]
    clear hr
    generalize decide (a = a') = x at *
    generalize decide (b = b') = y at *
    go_enter Tryz.func22, Tryz.ntmps22
    go_wp2_with fail
    refine (C1.out _ (by (repeat (first | with_reducible assumption | with_reducible exact Below.refl _ _ | with_reducible refine Below.setCell ?_ (by first | omega | (simp; done) | (simp; omega)) _ | with_reducible refine Below.alloc ?_ (by first | omega | (simp; done) | (simp; omega)) _ | with_reducible refine below_drewN ?_ _ | with_reducible refine Below.drew ?_)))).mono ?_
    rintro r w1 ⟨rfl, hb1⟩
    have hz1 := hb1.size
    (try simp at hz1)
    have k1_0 := fun o => hb1.cell (p := ⟨W.heap.size, o, none⟩) (by first | omega | (simp; done) | (simp; omega)); have k1f_0 := fun o => hb1.frozen (p := ⟨W.heap.size, o, none⟩) (by first | omega | (simp; done) | (simp; omega))
    have k2_0 := fun o => hb1.cell (p := ⟨W.heap.size, o, none⟩) (by first | omega | (simp; done) | (simp; omega)); have k2f_0 := fun o => hb1.frozen (p := ⟨W.heap.size, o, none⟩) (by first | omega | (simp; done) | (simp; omega)); have k2_1 := fun o => hb1.cell (p := ⟨W.heap.size + 1, o, none⟩) (by first | omega | (simp; done) | (simp; omega)); have k2f_1 := fun o => hb1.frozen (p := ⟨W.heap.size + 1, o, none⟩) (by first | omega | (simp; done) | (simp; omega))
    cases x
    · go_wp2_with fail
      go_ret
      exact ⟨rfl, by (repeat (first | with_reducible assumption | with_reducible exact Below.refl _ _ | with_reducible refine Below.setCell ?_ (by first | omega | (simp; done) | (simp; omega)) _ | with_reducible refine Below.alloc ?_ (by first | omega | (simp; done) | (simp; omega)) _ | with_reducible refine below_drewN ?_ _ | with_reducible refine Below.drew ?_ | with_reducible refine Below.trans ?_ (Below.mono hb1 (by first | omega | (simp; done) | (simp; omega)))))⟩
    go_wp2_with fail
    refine (C2.out _ (by (repeat (first | with_reducible assumption | with_reducible exact Below.refl _ _ | with_reducible refine Below.setCell ?_ (by first | omega | (simp; done) | (simp; omega)) _ | with_reducible refine Below.alloc ?_ (by first | omega | (simp; done) | (simp; omega)) _ | with_reducible refine below_drewN ?_ _ | with_reducible refine Below.drew ?_ | with_reducible refine Below.trans ?_ (Below.mono hb1 (by first | omega | (simp; done) | (simp; omega))))))).mono ?_
    rintro r w2 ⟨rfl, hb2⟩
    go_wp2_with fail
    go_ret
    exact ⟨ret_bool (by simp), by (repeat (first | with_reducible assumption | with_reducible exact Below.refl _ _ | with_reducible refine Below.setCell ?_ (by first | omega | (simp; done) | (simp; omega)) _ | with_reducible refine Below.alloc ?_ (by first | omega | (simp; done) | (simp; omega)) _ | with_reducible refine below_drewN ?_ _ | with_reducible refine Below.drew ?_ | with_reducible refine Below.trans ?_ (Below.mono hb2 (by first | omega | (simp; done) | (simp; omega))) | with_reducible refine Below.trans ?_ (Below.mono hb1 (by first | omega | (simp; done) | (simp; omega)))))⟩
end Go.Proofs.YtgakjhaepdigpaaGreatDoor


/- Statements that are drawn: one for the names, two that are one or nearly. -/
namespace Go.Proofs.YtgakjhaepdigpaaGreatDoor
set_option maxRecDepth 100000
set_option linter.unusedSimpArgs false
set_option linter.unusedVariables false
open Go.RowKit
attribute [local go_sem] bs_toList bs_get bs_size

theorem CodeV.later {w w' : World} {v : Value} {l : List Int} (h : CodeV w v l) (hb : Below w.heap.size w w') : CodeV w' v l := ⟨(h.1.below hb (Nat.le_refl _)).more hb.size, h.2⟩
theorem drawN_nw (v : Value) (l : List Int) (w : World) (hv : CodeV w v l) : Calls Tryz.prog 27 #[v] w fun e w' => ∃ (u : Value) (s : Sm), e = .returned u ∧ DrV w.heap.size w' u s ∧ Below w.heap.size w w' ∧ NoW s.ex ∧ NoW s.th := by
  have OP := Lib.hid (fun (w' : World) (h : Below w.heap.size w w') => l12Open_any v l w' ⟨(hv.1.below h (Nat.le_refl _)).more h.size, hv.2⟩)
  obtain ⟨A, c, rfl, hc, hm⟩ := hv.1.val
  clear hv
  go_enter Tryz.func27, Tryz.ntmps27
  go_upto_region 1 with fail
  generalize hW : World.alloc w _ = W1
  have hbW : Below w.heap.size w W1 := by rw [← hW]; (repeat (first | with_reducible assumption | with_reducible exact Below.refl _ _ | with_reducible refine Below.setCell ?_ (by first | omega | (simp; done) | (simp; omega)) _ | with_reducible refine Below.alloc ?_ (by first | omega | (simp; done) | (simp; omega)) _ | with_reducible refine below_drewN ?_ _ | with_reducible refine Below.drew ?_))
  have hB1 : Blk W1 w.heap.size 26 zS := by rw [← hW]; exact Blk.new _ _ _
  clear hW
  go_wp2_with fail
  refine (OP.out _ hbW).mono ?_
  rintro r w1 ⟨rfl, hR, hb1⟩
  go_wp2_with fail
  refine (l5Bent_nw _ _ _ hR (by omega)).mono ?_
  rintro r w2 ⟨u, s, p2, rfl, hV, hNN, hR2, hp2, hg2, hNe, hNt⟩
  have hz := hb1.size
  have hr1 := hR.lt
  have hlt := hB1.lt
  have hB2 := blk_gr (hB1.below hb1 hlt) hg2 (by omega)
  have hb02 : Below w.heap.size w w2 := (hbW.ext hb1).trans ((below_of_grown hg2 (Nat.le_refl _) hr1).mono (by have := hbW.size; omega))
  obtain ⟨k, nm, ty, k1, n1, s1, A1, m1, cp1, k2, n2, s2, A2, m2, cp2, x1, x2, rfl, rfl, hX1, hX2, hl1, hl2⟩ := (hV.less (lo' := w.heap.size + 1) (by omega)).form
  have z0 := (hB2).frozen 0; have z1 := (hB2).frozen 1; have z2 := (hB2).frozen 2; have z3 := (hB2).frozen 3; have z4 := (hB2).frozen 4; have z5 := (hB2).frozen 5; have z6 := (hB2).frozen 6; have z7 := (hB2).frozen 7; have z8 := (hB2).frozen 8; have z9 := (hB2).frozen 9; have z10 := (hB2).frozen 10
  have b0 := (hB2).cell 0; have b1 := (hB2).cell 1; have b2 := (hB2).cell 2; have b3 := (hB2).cell 3; have b4 := (hB2).cell 4; have b5 := (hB2).cell 5; have b6 := (hB2).cell 6; have b7 := (hB2).cell 7; have b8 := (hB2).cell 8; have b9 := (hB2).cell 9; have b10 := (hB2).cell 10
  simp [zS] at b0 b1 b2 b3 b4 b5 b6 b7 b8 b9 b10
  have HX := Lib.hid (And.intro hX1 (And.intro hX2 (And.intro hl1 (And.intro hl2 hb02))))
  clear hX1 hX2 hV hB2 hR2 hg2 hR hB1 hb02 hNN
  go_wp2_with fail
  refine bodyPost_ret (v := .agg (cS k nm ty k1 n1 s1 (.slice A1 m1 cp1) k2 n2 s2 (.slice A2 m2 cp2))) (by simp [results, Tryz.results27, go_sem, cS, bs_nil, *]) rfl ?_
  obtain ⟨hX1, hX2, hl1, hl2, hb02⟩ := HX.out
  exact ⟨_, ⟨k, nm, ty, x1, x2⟩, rfl, DrV.of ((hX1.grown (r := some w.heap.size) (by (repeat (first | with_reducible assumption | with_reducible exact grown_rfl _ _ | with_reducible refine grown_st ?_ _ _ | with_reducible refine grown_al ?_ _))) (fun q e => by have := Option.some.inj e; omega)).less (by omega)) ((hX2.grown (r := some w.heap.size) (by (repeat (first | with_reducible assumption | with_reducible exact grown_rfl _ _ | with_reducible refine grown_st ?_ _ _ | with_reducible refine grown_al ?_ _))) (fun q e => by have := Option.some.inj e; omega)).less (by omega)) hl1 hl2, by (repeat (first | with_reducible assumption | with_reducible exact Below.refl _ _ | with_reducible refine Below.setCell ?_ (by first | omega | (simp; done) | (simp; omega)) _ | with_reducible refine Below.alloc ?_ (by first | omega | (simp; done) | (simp; omega)) _ | with_reducible refine below_drewN ?_ _ | with_reducible refine Below.drew ?_ | with_reducible refine Below.trans ?_ (Below.mono hb02 (by first | omega | (simp; done) | (simp; omega))))), hNe, hNt⟩
theorem drawN_any (v : Value) (l : List Int) (w : World) (hv : CodeV w v l) : Calls Tryz.prog 27 #[v] w fun e w' => ∃ (u : Value) (s : Sm), e = .returned u ∧ DrV w.heap.size w' u s ∧ Below w.heap.size w w' := (drawN_nw v l w hv).mono fun _ _ ⟨u, s, h1, h2, h3, _⟩ => ⟨u, s, h1, h2, h3⟩
theorem DrX.keep {lo bx : Nat} {w w' : World} {v : Value} {e : Ex} (h : DrX lo bx w v e) (hk : ∀ b, lo ≤ b → b ≠ bx → b < w.heap.size → w'.heap[b]? = w.heap[b]?) : DrX lo bx w' v e := by
  obtain ⟨kv, h1, h2, bl, h3, h4⟩ := h
  exact ⟨kv, h1, h2, bl, h3.same (fun b hb => hk b (h4 b hb).1 (h4 b hb).2 (h3.lt b hb)), h4⟩
theorem heap_dr (w : World) (b : Nat) : w.drew.heap[b]? = w.heap[b]? := rfl
theorem blk11 {w : World} {g : Nat} {t : TypeId} (h : Blk w g t zS) (v0 v1 v2 v3 v4 v5 v6 v7 v8 v9 v10 : Value) : Blk (((((((((((w.setCell ⟨g, 0, none⟩ v0).setCell ⟨g, 1, none⟩ v1).setCell ⟨g, 2, none⟩ v2).setCell ⟨g, 3, none⟩ v3).setCell ⟨g, 4, none⟩ v4).setCell ⟨g, 5, none⟩ v5).setCell ⟨g, 6, none⟩ v6).setCell ⟨g, 7, none⟩ v7).setCell ⟨g, 8, none⟩ v8).setCell ⟨g, 9, none⟩ v9).setCell ⟨g, 10, none⟩ v10) g t #[v0, v1, v2, v3, v4, v5, v6, v7, v8, v9, v10] := by
  have q := (((((((((((h.set_ 0 v0).set_ 1 v1).set_ 2 v2).set_ 3 v3).set_ 4 v4).set_ 5 v5).set_ 6 v6).set_ 7 v7).set_ 8 v8).set_ 9 v9).set_ 10 v10)
  simp [zS] at q
  exact q
def DrewSS (w : World) (e : Ending) (w' : World) : Prop := ∃ (u u2 : Value) (s s2 : Sm), e = .returned (.tuple #[u, u2]) ∧ DrV w.heap.size w' u s ∧ DrV w.heap.size w' u2 s2 ∧ Below w.heap.size w w'
set_option maxHeartbeats 2000000 in
theorem drawSS_any (v : Value) (l : List Int) (w : World) (hv : CodeV w v l) : Calls Tryz.prog 24 #[v] w (DrewSS w) := by
  have OP := Lib.hid (fun (w' : World) (h : Below w.heap.size w w') => l12Open_any v l w' (hv.later h))
  have HV := Lib.hid hv
  obtain ⟨A, c, rfl, hc, hm⟩ := hv.1.val
  clear hv
  go_enter Tryz.func24, Tryz.ntmps24
  go_upto_region 1 with fail
  generalize hW : World.alloc (World.alloc w _) _ = W1
  have hbW : Below w.heap.size w W1 := by rw [← hW]; (repeat (first | with_reducible assumption | with_reducible exact Below.refl _ _ | with_reducible refine Below.setCell ?_ (by first | omega | (simp; done) | (simp; omega)) _ | with_reducible refine Below.alloc ?_ (by first | omega | (simp; done) | (simp; omega)) _ | with_reducible refine below_drewN ?_ _ | with_reducible refine Below.drew ?_))
  have hB2 : Blk W1 w.heap.size 26 zS := by rw [← hW]; exact (Blk.new _ _ _).alloc _
  have hB3 : Blk W1 (w.heap.size + 1) 26 zS := by rw [← hW]; exact Blk.new' (by simp)
  have hzW : w.heap.size + 1 < W1.heap.size := hB3.lt
  clear hW
  go_wp2_with fail
  refine (OP.out _ hbW).mono ?_
  rintro r w1 ⟨rfl, hR, hb1⟩
  go_wp2_with fail
  refine (l5Bent_any _ _ _ hR (by omega)).mono ?_
  rintro r w2 ⟨u, s, p2, rfl, hV, hNN, hR2, hp2, hg2⟩
  have hz1 := hb1.size
  have hr1 := hR.lt
  have hz2 := hg2.size
  have hB2' := blk_gr (hB2.below hb1 hB2.lt) hg2 (by omega)
  have hB3' := blk_gr (hB3.below hb1 hB3.lt) hg2 (by omega)
  have hb02 : Below w.heap.size w w2 := (hbW.ext hb1).trans (below_of_grown hg2 (by omega) hr1)
  obtain ⟨k, nm, ty, k1, n1, s1, A1, m1, cp1, k2, n2, s2, A2, m2, cp2, x1, x2, rfl, rfl, hX1, hX2, hl1, hl2⟩ := (hV.less (lo' := w.heap.size + 2) (by omega)).form
  clear hV hB2 hB3 hR2 hg2 hR hb1 hNN hbW
  go_upto_region 2 with fail
  generalize hW3 : World.alloc w2 _ = W3
  have hb23 : Below w2.heap.size w2 W3 := by rw [← hW3]; (repeat (first | with_reducible assumption | with_reducible exact Below.refl _ _ | with_reducible refine Below.setCell ?_ (by first | omega | (simp; done) | (simp; omega)) _ | with_reducible refine Below.alloc ?_ (by first | omega | (simp; done) | (simp; omega)) _ | with_reducible refine below_drewN ?_ _ | with_reducible refine Below.drew ?_))
  have hB4 : Blk W3 w2.heap.size 26 (cS k nm ty k1 n1 s1 (.slice A1 m1 cp1) k2 n2 s2 (.slice A2 m2 cp2)) := by rw [← hW3]; exact Blk.new _ _ _
  have hX1 := hX1.ext hb23
  have hX2 := hX2.ext hb23
  have hB2 := hB2'.below hb23 hB2'.lt
  have hB3 := hB3'.below hb23 hB3'.lt
  have hb03 := hb02.ext hb23
  have hz3 := hB4.lt
  clear hW3 hB2' hB3' hb02 hb23
  go_wp2_with fail
  refine (OP.out _ hb03).mono ?_
  rintro r w4 ⟨rfl, hR, hb4⟩
  go_wp2_with fail
  refine (l5Bent_any _ _ _ hR (by omega)).mono ?_
  rintro r w5 ⟨u, s, p5, rfl, hV, hNN, hR5, hp5, hg5⟩
  have hz4 := hb4.size
  have hr4 := hR.lt
  have hz5 := hg5.size
  have hb35 : Below W3.heap.size W3 w5 := hb4.trans (below_of_grown hg5 (by omega) hr4)
  obtain ⟨k', nm', ty', k1', n1', s1', A1', m1', cp1', k2', n2', s2', A2', m2', cp2', x1', x2', rfl, rfl, hY1, hY2, hl1', hl2'⟩ := (hV.less (lo' := w.heap.size + 2) (by omega)).form
  have hnl : nm'.length ≤ 100 := hNN.2
  have hX1 := hX1.ext hb35
  have hX2 := hX2.ext hb35
  have hB2' := hB2.below hb35 hB2.lt
  have hB3' := hB3.below hb35 hB3.lt
  have hB4' := hB4.below hb35 hB4.lt
  have hb05 := hb03.ext hb35
  clear hV hNN hR hR5 hg5 hb4 hB2 hB3 hB4 hb03
  go_upto_region 3 with fail
  generalize hW6 : World.alloc w5 _ = W6
  have hb56 : Below w5.heap.size w5 W6 := by rw [← hW6]; (repeat (first | with_reducible assumption | with_reducible exact Below.refl _ _ | with_reducible refine Below.setCell ?_ (by first | omega | (simp; done) | (simp; omega)) _ | with_reducible refine Below.alloc ?_ (by first | omega | (simp; done) | (simp; omega)) _ | with_reducible refine below_drewN ?_ _ | with_reducible refine Below.drew ?_))
  have hB5 : Blk W6 w5.heap.size 26 (cS k' nm' ty' k1' n1' s1' (.slice A1' m1' cp1') k2' n2' s2' (.slice A2' m2' cp2')) := by rw [← hW6]; exact Blk.new _ _ _
  have hX1 := hX1.drx.keep (w' := W6) (fun b _ _ h => hb56.block b h)
  have hX2 := hX2.drx.keep (w' := W6) (fun b _ _ h => hb56.block b h)
  have hY1 := hY1.drx.keep (w' := W6) (fun b _ _ h => hb56.block b h)
  have hY2 := hY2.drx.keep (w' := W6) (fun b _ _ h => hb56.block b h)
  have hB2 := hB2'.below hb56 hB2'.lt
  have hB3 := hB3'.below hb56 hB3'.lt
  have hB4 := hB4'.below hb56 hB4'.lt
  have hb06 := hb05.ext hb56
  have hz6 := hB5.lt
  clear hW6 hB2' hB3' hB4' hb05 hb56 hb35 OP
  by_cases hc0 : l.length = 0
  · obtain rfl : l = [] := List.length_eq_zero_iff.1 hc0
    have HB := Lib.hid (And.intro hB2 (And.intro hB3 (And.intro hB4 hB5)))
    clear hB2 hB3 hB4 hB5
    go_upto_region 5 with fail
    have hC2 := HB.out.1
    have hC3 := HB.out.2.1
    have hC4 := HB.out.2.2.1
    have hC5 := HB.out.2.2.2
    have hnn : nm'.length ≤ 101 := by omega
    have HK := Lib.hid (fun (b : Nat) (_ : b ≠ w5.heap.size) => (rfl : W6.heap[b]? = W6.heap[b]?))
    have HBX := Lib.hid hb06
    have HC := Lib.hid (And.intro hC2 hC3)
    have y0 := (hC2).frozen 0; have y1 := (hC2).frozen 1; have y2 := (hC2).frozen 2; have y3 := (hC2).frozen 3; have y4 := (hC2).frozen 4; have y5 := (hC2).frozen 5; have y6 := (hC2).frozen 6; have y7 := (hC2).frozen 7; have y8 := (hC2).frozen 8; have y9 := (hC2).frozen 9; have y10 := (hC2).frozen 10
    have p0 := (hC2).cell 0; have p1 := (hC2).cell 1; have p2 := (hC2).cell 2; have p3 := (hC2).cell 3; have p4 := (hC2).cell 4; have p5 := (hC2).cell 5; have p6 := (hC2).cell 6; have p7 := (hC2).cell 7; have p8 := (hC2).cell 8; have p9 := (hC2).cell 9; have p10 := (hC2).cell 10
    simp [zS] at p0 p1 p2 p3 p4 p5 p6 p7 p8 p9 p10
    have z0 := (hC3).frozen 0; have z1 := (hC3).frozen 1; have z2 := (hC3).frozen 2; have z3 := (hC3).frozen 3; have z4 := (hC3).frozen 4; have z5 := (hC3).frozen 5; have z6 := (hC3).frozen 6; have z7 := (hC3).frozen 7; have z8 := (hC3).frozen 8; have z9 := (hC3).frozen 9; have z10 := (hC3).frozen 10
    have q0 := (hC3).cell 0; have q1 := (hC3).cell 1; have q2 := (hC3).cell 2; have q3 := (hC3).cell 3; have q4 := (hC3).cell 4; have q5 := (hC3).cell 5; have q6 := (hC3).cell 6; have q7 := (hC3).cell 7; have q8 := (hC3).cell 8; have q9 := (hC3).cell 9; have q10 := (hC3).cell 10
    simp [zS] at q0 q1 q2 q3 q4 q5 q6 q7 q8 q9 q10
    have c0 := (hC4).cell 0; have c1 := (hC4).cell 1; have c2 := (hC4).cell 2; have c3 := (hC4).cell 3; have c4 := (hC4).cell 4; have c5 := (hC4).cell 5; have c6 := (hC4).cell 6; have c7 := (hC4).cell 7; have c8 := (hC4).cell 8; have c9 := (hC4).cell 9; have c10 := (hC4).cell 10
    simp [cS] at c0 c1 c2 c3 c4 c5 c6 c7 c8 c9 c10
    have d0 := (hC5).cell 0; have d1 := (hC5).cell 1; have d2 := (hC5).cell 2; have d3 := (hC5).cell 3; have d4 := (hC5).cell 4; have d5 := (hC5).cell 5; have d6 := (hC5).cell 6; have d7 := (hC5).cell 7; have d8 := (hC5).cell 8; have d9 := (hC5).cell 9; have d10 := (hC5).cell 10
    simp [cS] at d0 d1 d2 d3 d4 d5 d6 d7 d8 d9 d10
    clear hC2 hC3 hC4 hC5 HB
    go_region_law (fail)
    all_goals
      clear p0 p1 p2 p3 p4 p5 p6 p7 p8 p9 p10 q0 q1 q2 q3 q4 q5 q6 q7 q8 q9 q10 c0 c1 c2 c3 c4 c5 c6 c7 c8 c9 c10 d0 d1 d2 d3 d4 d5 d6 d7 d8 d9 d10 y0 y1 y2 y3 y4 y5 y6 y7 y8 y9 y10 z0 z1 z2 z3 z4 z5 z6 z7 z8 z9 z10
      generalize hWE : World.setCell _ _ _ = WE
      have hD2 : Blk WE w.heap.size 26 (cS k nm ty k1 n1 s1 (.slice A1 m1 cp1) k2 n2 s2 (.slice A2 m2 cp2)) := by
        rw [← hWE]
        unfold cS
        (repeat (first | with_reducible exact HC.out.1 | with_reducible refine blk11 ?_ _ _ _ _ _ _ _ _ _ _ _ | with_reducible refine Blk.far ?_ (by first | (simp; done) | (simp; omega)) _ | with_reducible refine Blk.drew ?_))
      have hD3 : Blk WE (w.heap.size + 1) 26 (cS k' nm' ty' k1' n1' s1' (.slice A1' m1' cp1') k2' n2' s2' (.slice A2' m2' cp2')) := by
        rw [← hWE]
        unfold cS
        (repeat (first | with_reducible exact HC.out.2 | with_reducible refine blk11 ?_ _ _ _ _ _ _ _ _ _ _ _ | with_reducible refine Blk.far ?_ (by first | (simp; done) | (simp; omega)) _ | with_reducible refine Blk.drew ?_))
      have hKE : ∀ b, w.heap.size + 2 ≤ b → b ≠ w5.heap.size → WE.heap[b]? = W6.heap[b]? := fun b h1 h2 => by
        rw [← hWE]
        refine Eq.trans ?_ (HK.out b h2)
        (repeat (first | with_reducible rfl | with_reducible refine (Below.heap_setCell _ _ _ _ (by simp; omega)).trans ?_ | with_reducible refine (heap_dr _ _).trans ?_))
      have hBE : Below w.heap.size w WE := by
        have hbx := HBX.out
        rw [← hWE]
        (repeat (first | with_reducible assumption | with_reducible exact Below.refl _ _ | with_reducible refine Below.setCell ?_ (by first | omega | (simp; done) | (simp; omega)) _ | with_reducible refine Below.alloc ?_ (by first | omega | (simp; done) | (simp; omega)) _ | with_reducible refine below_drewN ?_ _ | with_reducible refine Below.drew ?_ | with_reducible refine Below.trans ?_ (Below.mono hbx (by first | omega | (simp; done) | (simp; omega)))))
      clear hWE
      have c0 := (hD2).cell 0; have c1 := (hD2).cell 1; have c2 := (hD2).cell 2; have c3 := (hD2).cell 3; have c4 := (hD2).cell 4; have c5 := (hD2).cell 5; have c6 := (hD2).cell 6; have c7 := (hD2).cell 7; have c8 := (hD2).cell 8; have c9 := (hD2).cell 9; have c10 := (hD2).cell 10
      simp [cS] at c0 c1 c2 c3 c4 c5 c6 c7 c8 c9 c10
      have d0 := (hD3).cell 0; have d1 := (hD3).cell 1; have d2 := (hD3).cell 2; have d3 := (hD3).cell 3; have d4 := (hD3).cell 4; have d5 := (hD3).cell 5; have d6 := (hD3).cell 6; have d7 := (hD3).cell 7; have d8 := (hD3).cell 8; have d9 := (hD3).cell 9; have d10 := (hD3).cell 10
      simp [cS] at d0 d1 d2 d3 d4 d5 d6 d7 d8 d9 d10
      clear hD2 hD3
      go_wp2_with fail
      refine bodyPost_ret (v := .tuple #[.agg (cS k nm ty k1 n1 s1 (.slice A1 m1 cp1) k2 n2 s2 (.slice A2 m2 cp2)), .agg (cS k' nm' ty' k1' n1' s1' (.slice A1' m1' cp1') k2' n2' s2' (.slice A2' m2' cp2'))]) (by simp [results, Tryz.results24, go_sem, cS, bs_nil, *]) rfl ?_
      exact ⟨_, _, _, _, rfl, DrV.less (DrV.of (DrX.dre (hX1.keep fun b h1 h2 _ => hKE b h1 h2)) (DrX.dre (hX2.keep fun b h1 h2 _ => hKE b h1 h2)) hl1 hl2) (by omega), DrV.less (DrV.of (DrX.dre (hY1.keep fun b h1 h2 _ => hKE b h1 h2)) (DrX.dre (hY2.keep fun b h1 h2 _ => hKE b h1 h2)) (by omega) hl2') (by omega), by (repeat (first | with_reducible assumption | with_reducible exact Below.refl _ _ | with_reducible refine Below.setCell ?_ (by first | omega | (simp; done) | (simp; omega)) _ | with_reducible refine Below.alloc ?_ (by first | omega | (simp; done) | (simp; omega)) _ | with_reducible refine below_drewN ?_ _ | with_reducible refine Below.drew ?_ | with_reducible refine Below.trans ?_ (Below.mono hBE (by first | omega | (simp; done) | (simp; omega)))))⟩
  have hl0 : 0 < l.length := by omega
  have hd : decide ((0 : Int) < ((l.length : Nat) : Int)) = true := by rw [decide_eq_true_eq]; omega
  have hS0 := (HV.out.later hb06).1
  obtain ⟨b, o, x, rfl, hb, hgx, h0⟩ := byte_at hS0 hl0
  have k0 : W6.cell? ⟨b, o, none⟩ = some (.int .u8 x) := by simpa using h0
  have hx := HV.out.2 x (List.mem_of_getElem? hgx)
  obtain ⟨ob, hob⟩ : ∃ ob, (x % 2 == 1) = ob := ⟨_, rfl⟩
  clear h0 hgx hS0
  have HB := Lib.hid (And.intro hB2 (And.intro hB3 (And.intro hB4 hB5)))
  have y1 := hB5.frozen 1
  have c1 := hB5.cell 1
  simp [cS] at c1
  clear hB2 hB3 hB4 hB5
  have hsz : ¬ 9223372036854775807 < nm'.length + 1 := by omega
  have hcat : bs nm' ++ ⟨#[97]⟩ = bs (nm' ++ [97]) := by rw [← bs_append]; rfl
  cases ob
  · go_upto_region 5 with fail
    have hC2 := HB.out.1
    have hC3 := HB.out.2.1
    have hC4 := HB.out.2.2.1
    have hC5 := HB.out.2.2.2
    have hnn : nm'.length ≤ 101 := by omega
    clear y1 c1 k0 hcat hsz
    have HK := Lib.hid (fun (b : Nat) (_ : b ≠ w5.heap.size) => (rfl : W6.heap[b]? = W6.heap[b]?))
    have HBX := Lib.hid hb06
    have HC := Lib.hid (And.intro hC2 hC3)
    have y0 := (hC2).frozen 0; have y1 := (hC2).frozen 1; have y2 := (hC2).frozen 2; have y3 := (hC2).frozen 3; have y4 := (hC2).frozen 4; have y5 := (hC2).frozen 5; have y6 := (hC2).frozen 6; have y7 := (hC2).frozen 7; have y8 := (hC2).frozen 8; have y9 := (hC2).frozen 9; have y10 := (hC2).frozen 10
    have p0 := (hC2).cell 0; have p1 := (hC2).cell 1; have p2 := (hC2).cell 2; have p3 := (hC2).cell 3; have p4 := (hC2).cell 4; have p5 := (hC2).cell 5; have p6 := (hC2).cell 6; have p7 := (hC2).cell 7; have p8 := (hC2).cell 8; have p9 := (hC2).cell 9; have p10 := (hC2).cell 10
    simp [zS] at p0 p1 p2 p3 p4 p5 p6 p7 p8 p9 p10
    have z0 := (hC3).frozen 0; have z1 := (hC3).frozen 1; have z2 := (hC3).frozen 2; have z3 := (hC3).frozen 3; have z4 := (hC3).frozen 4; have z5 := (hC3).frozen 5; have z6 := (hC3).frozen 6; have z7 := (hC3).frozen 7; have z8 := (hC3).frozen 8; have z9 := (hC3).frozen 9; have z10 := (hC3).frozen 10
    have q0 := (hC3).cell 0; have q1 := (hC3).cell 1; have q2 := (hC3).cell 2; have q3 := (hC3).cell 3; have q4 := (hC3).cell 4; have q5 := (hC3).cell 5; have q6 := (hC3).cell 6; have q7 := (hC3).cell 7; have q8 := (hC3).cell 8; have q9 := (hC3).cell 9; have q10 := (hC3).cell 10
    simp [zS] at q0 q1 q2 q3 q4 q5 q6 q7 q8 q9 q10
    have c0 := (hC4).cell 0; have c1 := (hC4).cell 1; have c2 := (hC4).cell 2; have c3 := (hC4).cell 3; have c4 := (hC4).cell 4; have c5 := (hC4).cell 5; have c6 := (hC4).cell 6; have c7 := (hC4).cell 7; have c8 := (hC4).cell 8; have c9 := (hC4).cell 9; have c10 := (hC4).cell 10
    simp [cS] at c0 c1 c2 c3 c4 c5 c6 c7 c8 c9 c10
    have d0 := (hC5).cell 0; have d1 := (hC5).cell 1; have d2 := (hC5).cell 2; have d3 := (hC5).cell 3; have d4 := (hC5).cell 4; have d5 := (hC5).cell 5; have d6 := (hC5).cell 6; have d7 := (hC5).cell 7; have d8 := (hC5).cell 8; have d9 := (hC5).cell 9; have d10 := (hC5).cell 10
    simp [cS] at d0 d1 d2 d3 d4 d5 d6 d7 d8 d9 d10
    clear hC2 hC3 hC4 hC5 HB
    go_region_law (fail)
    all_goals
      clear p0 p1 p2 p3 p4 p5 p6 p7 p8 p9 p10 q0 q1 q2 q3 q4 q5 q6 q7 q8 q9 q10 c0 c1 c2 c3 c4 c5 c6 c7 c8 c9 c10 d0 d1 d2 d3 d4 d5 d6 d7 d8 d9 d10 y0 y1 y2 y3 y4 y5 y6 y7 y8 y9 y10 z0 z1 z2 z3 z4 z5 z6 z7 z8 z9 z10
      generalize hWE : World.setCell _ _ _ = WE
      have hD2 : Blk WE w.heap.size 26 (cS k nm ty k1 n1 s1 (.slice A1 m1 cp1) k2 n2 s2 (.slice A2 m2 cp2)) := by
        rw [← hWE]
        unfold cS
        (repeat (first | with_reducible exact HC.out.1 | with_reducible refine blk11 ?_ _ _ _ _ _ _ _ _ _ _ _ | with_reducible refine Blk.far ?_ (by first | (simp; done) | (simp; omega)) _ | with_reducible refine Blk.drew ?_))
      have hD3 : Blk WE (w.heap.size + 1) 26 (cS k' nm' ty' k1' n1' s1' (.slice A1' m1' cp1') k2' n2' s2' (.slice A2' m2' cp2')) := by
        rw [← hWE]
        unfold cS
        (repeat (first | with_reducible exact HC.out.2 | with_reducible refine blk11 ?_ _ _ _ _ _ _ _ _ _ _ _ | with_reducible refine Blk.far ?_ (by first | (simp; done) | (simp; omega)) _ | with_reducible refine Blk.drew ?_))
      have hKE : ∀ b, w.heap.size + 2 ≤ b → b ≠ w5.heap.size → WE.heap[b]? = W6.heap[b]? := fun b h1 h2 => by
        rw [← hWE]
        refine Eq.trans ?_ (HK.out b h2)
        (repeat (first | with_reducible rfl | with_reducible refine (Below.heap_setCell _ _ _ _ (by simp; omega)).trans ?_ | with_reducible refine (heap_dr _ _).trans ?_))
      have hBE : Below w.heap.size w WE := by
        have hbx := HBX.out
        rw [← hWE]
        (repeat (first | with_reducible assumption | with_reducible exact Below.refl _ _ | with_reducible refine Below.setCell ?_ (by first | omega | (simp; done) | (simp; omega)) _ | with_reducible refine Below.alloc ?_ (by first | omega | (simp; done) | (simp; omega)) _ | with_reducible refine below_drewN ?_ _ | with_reducible refine Below.drew ?_ | with_reducible refine Below.trans ?_ (Below.mono hbx (by first | omega | (simp; done) | (simp; omega)))))
      clear hWE
      have c0 := (hD2).cell 0; have c1 := (hD2).cell 1; have c2 := (hD2).cell 2; have c3 := (hD2).cell 3; have c4 := (hD2).cell 4; have c5 := (hD2).cell 5; have c6 := (hD2).cell 6; have c7 := (hD2).cell 7; have c8 := (hD2).cell 8; have c9 := (hD2).cell 9; have c10 := (hD2).cell 10
      simp [cS] at c0 c1 c2 c3 c4 c5 c6 c7 c8 c9 c10
      have d0 := (hD3).cell 0; have d1 := (hD3).cell 1; have d2 := (hD3).cell 2; have d3 := (hD3).cell 3; have d4 := (hD3).cell 4; have d5 := (hD3).cell 5; have d6 := (hD3).cell 6; have d7 := (hD3).cell 7; have d8 := (hD3).cell 8; have d9 := (hD3).cell 9; have d10 := (hD3).cell 10
      simp [cS] at d0 d1 d2 d3 d4 d5 d6 d7 d8 d9 d10
      clear hD2 hD3
      go_wp2_with fail
      refine bodyPost_ret (v := .tuple #[.agg (cS k nm ty k1 n1 s1 (.slice A1 m1 cp1) k2 n2 s2 (.slice A2 m2 cp2)), .agg (cS k' nm' ty' k1' n1' s1' (.slice A1' m1' cp1') k2' n2' s2' (.slice A2' m2' cp2'))]) (by simp [results, Tryz.results24, go_sem, cS, bs_nil, *]) rfl ?_
      exact ⟨_, _, _, _, rfl, DrV.less (DrV.of (DrX.dre (hX1.keep fun b h1 h2 _ => hKE b h1 h2)) (DrX.dre (hX2.keep fun b h1 h2 _ => hKE b h1 h2)) hl1 hl2) (by omega), DrV.less (DrV.of (DrX.dre (hY1.keep fun b h1 h2 _ => hKE b h1 h2)) (DrX.dre (hY2.keep fun b h1 h2 _ => hKE b h1 h2)) (by omega) hl2') (by omega), by (repeat (first | with_reducible assumption | with_reducible exact Below.refl _ _ | with_reducible refine Below.setCell ?_ (by first | omega | (simp; done) | (simp; omega)) _ | with_reducible refine Below.alloc ?_ (by first | omega | (simp; done) | (simp; omega)) _ | with_reducible refine below_drewN ?_ _ | with_reducible refine Below.drew ?_ | with_reducible refine Below.trans ?_ (Below.mono hBE (by first | omega | (simp; done) | (simp; omega)))))⟩
  · go_upto_region 5 with fail
    generalize hW7 : World.setCell W6 _ _ = W7
    have hC2 : Blk W7 w.heap.size 26 zS := by rw [← hW7]; exact HB.out.1.far (by simp; omega) _
    have hC3 : Blk W7 (w.heap.size + 1) 26 zS := by rw [← hW7]; exact HB.out.2.1.far (by simp; omega) _
    have hC4 : Blk W7 w2.heap.size 26 (cS k nm ty k1 n1 s1 (.slice A1 m1 cp1) k2 n2 s2 (.slice A2 m2 cp2)) := by rw [← hW7]; exact HB.out.2.2.1.far (by simp; omega) _
    have hC5 : Blk W7 w5.heap.size 26 (cS k' (nm' ++ [97]) ty' k1' n1' s1' (.slice A1' m1' cp1') k2' n2' s2' (.slice A2' m2' cp2')) := by rw [← hW7]; exact HB.out.2.2.2.set_ 1 (.string (bs (nm' ++ [97])))
    have hnn : (nm' ++ [97]).length ≤ 101 := by simp; omega
    have hk7 : ∀ b, b ≠ w5.heap.size → W7.heap[b]? = W6.heap[b]? := fun b hb => by rw [← hW7]; exact Below.heap_setCell _ _ _ _ (by simpa using hb)
    have hb07 : Below w.heap.size w W7 := by rw [← hW7]; (repeat (first | with_reducible assumption | with_reducible exact Below.refl _ _ | with_reducible refine Below.setCell ?_ (by first | omega | (simp; done) | (simp; omega)) _ | with_reducible refine Below.alloc ?_ (by first | omega | (simp; done) | (simp; omega)) _ | with_reducible refine below_drewN ?_ _ | with_reducible refine Below.drew ?_ | with_reducible refine Below.trans ?_ (Below.mono hb06 (by first | omega | (simp; done) | (simp; omega)))))
    clear y1 c1 k0 hcat hsz hW7
    generalize nm' ++ [97] = nn at *
    have HK := Lib.hid hk7
    have HBX := Lib.hid hb07
    have HC := Lib.hid (And.intro hC2 hC3)
    have y0 := (hC2).frozen 0; have y1 := (hC2).frozen 1; have y2 := (hC2).frozen 2; have y3 := (hC2).frozen 3; have y4 := (hC2).frozen 4; have y5 := (hC2).frozen 5; have y6 := (hC2).frozen 6; have y7 := (hC2).frozen 7; have y8 := (hC2).frozen 8; have y9 := (hC2).frozen 9; have y10 := (hC2).frozen 10
    have p0 := (hC2).cell 0; have p1 := (hC2).cell 1; have p2 := (hC2).cell 2; have p3 := (hC2).cell 3; have p4 := (hC2).cell 4; have p5 := (hC2).cell 5; have p6 := (hC2).cell 6; have p7 := (hC2).cell 7; have p8 := (hC2).cell 8; have p9 := (hC2).cell 9; have p10 := (hC2).cell 10
    simp [zS] at p0 p1 p2 p3 p4 p5 p6 p7 p8 p9 p10
    have z0 := (hC3).frozen 0; have z1 := (hC3).frozen 1; have z2 := (hC3).frozen 2; have z3 := (hC3).frozen 3; have z4 := (hC3).frozen 4; have z5 := (hC3).frozen 5; have z6 := (hC3).frozen 6; have z7 := (hC3).frozen 7; have z8 := (hC3).frozen 8; have z9 := (hC3).frozen 9; have z10 := (hC3).frozen 10
    have q0 := (hC3).cell 0; have q1 := (hC3).cell 1; have q2 := (hC3).cell 2; have q3 := (hC3).cell 3; have q4 := (hC3).cell 4; have q5 := (hC3).cell 5; have q6 := (hC3).cell 6; have q7 := (hC3).cell 7; have q8 := (hC3).cell 8; have q9 := (hC3).cell 9; have q10 := (hC3).cell 10
    simp [zS] at q0 q1 q2 q3 q4 q5 q6 q7 q8 q9 q10
    have c0 := (hC4).cell 0; have c1 := (hC4).cell 1; have c2 := (hC4).cell 2; have c3 := (hC4).cell 3; have c4 := (hC4).cell 4; have c5 := (hC4).cell 5; have c6 := (hC4).cell 6; have c7 := (hC4).cell 7; have c8 := (hC4).cell 8; have c9 := (hC4).cell 9; have c10 := (hC4).cell 10
    simp [cS] at c0 c1 c2 c3 c4 c5 c6 c7 c8 c9 c10
    have d0 := (hC5).cell 0; have d1 := (hC5).cell 1; have d2 := (hC5).cell 2; have d3 := (hC5).cell 3; have d4 := (hC5).cell 4; have d5 := (hC5).cell 5; have d6 := (hC5).cell 6; have d7 := (hC5).cell 7; have d8 := (hC5).cell 8; have d9 := (hC5).cell 9; have d10 := (hC5).cell 10
    simp [cS] at d0 d1 d2 d3 d4 d5 d6 d7 d8 d9 d10
    clear hC2 hC3 hC4 hC5 HB
    go_region_law (fail)
    all_goals
      clear p0 p1 p2 p3 p4 p5 p6 p7 p8 p9 p10 q0 q1 q2 q3 q4 q5 q6 q7 q8 q9 q10 c0 c1 c2 c3 c4 c5 c6 c7 c8 c9 c10 d0 d1 d2 d3 d4 d5 d6 d7 d8 d9 d10 y0 y1 y2 y3 y4 y5 y6 y7 y8 y9 y10 z0 z1 z2 z3 z4 z5 z6 z7 z8 z9 z10
      generalize hWE : World.setCell _ _ _ = WE
      have hD2 : Blk WE w.heap.size 26 (cS k nm ty k1 n1 s1 (.slice A1 m1 cp1) k2 n2 s2 (.slice A2 m2 cp2)) := by
        rw [← hWE]
        unfold cS
        (repeat (first | with_reducible exact HC.out.1 | with_reducible refine blk11 ?_ _ _ _ _ _ _ _ _ _ _ _ | with_reducible refine Blk.far ?_ (by first | (simp; done) | (simp; omega)) _ | with_reducible refine Blk.drew ?_))
      have hD3 : Blk WE (w.heap.size + 1) 26 (cS k' nn ty' k1' n1' s1' (.slice A1' m1' cp1') k2' n2' s2' (.slice A2' m2' cp2')) := by
        rw [← hWE]
        unfold cS
        (repeat (first | with_reducible exact HC.out.2 | with_reducible refine blk11 ?_ _ _ _ _ _ _ _ _ _ _ _ | with_reducible refine Blk.far ?_ (by first | (simp; done) | (simp; omega)) _ | with_reducible refine Blk.drew ?_))
      have hKE : ∀ b, w.heap.size + 2 ≤ b → b ≠ w5.heap.size → WE.heap[b]? = W6.heap[b]? := fun b h1 h2 => by
        rw [← hWE]
        refine Eq.trans ?_ (HK.out b h2)
        (repeat (first | with_reducible rfl | with_reducible refine (Below.heap_setCell _ _ _ _ (by simp; omega)).trans ?_ | with_reducible refine (heap_dr _ _).trans ?_))
      have hBE : Below w.heap.size w WE := by
        have hbx := HBX.out
        rw [← hWE]
        (repeat (first | with_reducible assumption | with_reducible exact Below.refl _ _ | with_reducible refine Below.setCell ?_ (by first | omega | (simp; done) | (simp; omega)) _ | with_reducible refine Below.alloc ?_ (by first | omega | (simp; done) | (simp; omega)) _ | with_reducible refine below_drewN ?_ _ | with_reducible refine Below.drew ?_ | with_reducible refine Below.trans ?_ (Below.mono hbx (by first | omega | (simp; done) | (simp; omega)))))
      clear hWE
      have c0 := (hD2).cell 0; have c1 := (hD2).cell 1; have c2 := (hD2).cell 2; have c3 := (hD2).cell 3; have c4 := (hD2).cell 4; have c5 := (hD2).cell 5; have c6 := (hD2).cell 6; have c7 := (hD2).cell 7; have c8 := (hD2).cell 8; have c9 := (hD2).cell 9; have c10 := (hD2).cell 10
      simp [cS] at c0 c1 c2 c3 c4 c5 c6 c7 c8 c9 c10
      have d0 := (hD3).cell 0; have d1 := (hD3).cell 1; have d2 := (hD3).cell 2; have d3 := (hD3).cell 3; have d4 := (hD3).cell 4; have d5 := (hD3).cell 5; have d6 := (hD3).cell 6; have d7 := (hD3).cell 7; have d8 := (hD3).cell 8; have d9 := (hD3).cell 9; have d10 := (hD3).cell 10
      simp [cS] at d0 d1 d2 d3 d4 d5 d6 d7 d8 d9 d10
      clear hD2 hD3
      go_wp2_with fail
      refine bodyPost_ret (v := .tuple #[.agg (cS k nm ty k1 n1 s1 (.slice A1 m1 cp1) k2 n2 s2 (.slice A2 m2 cp2)), .agg (cS k' nn ty' k1' n1' s1' (.slice A1' m1' cp1') k2' n2' s2' (.slice A2' m2' cp2'))]) (by simp [results, Tryz.results24, go_sem, cS, bs_nil, *]) rfl ?_
      exact ⟨_, _, _, _, rfl, DrV.less (DrV.of (DrX.dre (hX1.keep fun b h1 h2 _ => hKE b h1 h2)) (DrX.dre (hX2.keep fun b h1 h2 _ => hKE b h1 h2)) hl1 hl2) (by omega), DrV.less (DrV.of (DrX.dre (hY1.keep fun b h1 h2 _ => hKE b h1 h2)) (DrX.dre (hY2.keep fun b h1 h2 _ => hKE b h1 h2)) (by omega) hl2') (by omega), by (repeat (first | with_reducible assumption | with_reducible exact Below.refl _ _ | with_reducible refine Below.setCell ?_ (by first | omega | (simp; done) | (simp; omega)) _ | with_reducible refine Below.alloc ?_ (by first | omega | (simp; done) | (simp; omega)) _ | with_reducible refine below_drewN ?_ _ | with_reducible refine Below.drew ?_ | with_reducible refine Below.trans ?_ (Below.mono hBE (by first | omega | (simp; done) | (simp; omega)))))⟩
end Go.Proofs.YtgakjhaepdigpaaGreatDoor


/- The law FnStmtSame: the walk. -/
namespace Go.Proofs.YtgakjhaepdigpaaGreatDoor
set_option maxRecDepth 100000
set_option linter.unusedSimpArgs false
set_option linter.unusedVariables false
open Go.RowKit
attribute [local go_sem] bs_toList bs_get bs_size

theorem smText_sm {t : SE} (h : t.form) : smText t.sm = t.text := by
  show joinL (smWords t.sm) = joinL t.words
  rw [smWords_se h]
/-- lines that are ok are one just if their texts are -/
theorem smText_same {a b : Sm} (ha : smOkB a = true) (hb : smOkB b = true) : (smText a == smText b) = decide (a = b) := by
  obtain ⟨s, rfl, hs⟩ := smOkB_iff.1 ha
  obtain ⟨t, rfl, ht⟩ := smOkB_iff.1 hb
  rw [smText_sm hs.1, smText_sm ht.1]
  by_cases h : s.sm = t.sm
  · rw [decide_eq_true h]
    have : s = t := SE.sm_inj h
    subst this
    simp
  · rw [decide_eq_false h, beq_eq_false_iff_ne]
    exact fun e => h (by rw [text_inj hs.1 ht.1 e])
theorem cS_cells {w : World} {b : Nat} {k : Int} {nm ty : Bytes} {k1 n1 : Int} {s1 : Bytes} {v1 : Value} {k2 n2 : Int} {s2 : Bytes} {v2 : Value} (h : Blk w b 26 (cS k nm ty k1 n1 s1 v1 k2 n2 s2 v2)) :
    (∀ y : Later w.heap.size w, y.w'.cell? ⟨b, 0, none⟩ = some (.int .i64 k)) ∧ (∀ y : Later w.heap.size w, y.w'.cell? ⟨b, 1, none⟩ = some (.string (bs nm))) ∧ (∀ y : Later w.heap.size w, y.w'.cell? ⟨b, 2, none⟩ = some (.string (bs ty))) ∧ (∀ y : Later w.heap.size w, y.w'.cell? ⟨b, 3, none⟩ = some (.int .i64 k1)) ∧ (∀ y : Later w.heap.size w, y.w'.cell? ⟨b, 4, none⟩ = some (.int .i64 n1)) ∧ (∀ y : Later w.heap.size w, y.w'.cell? ⟨b, 5, none⟩ = some (.string (bs s1))) ∧ (∀ y : Later w.heap.size w, y.w'.cell? ⟨b, 6, none⟩ = some v1) ∧ (∀ y : Later w.heap.size w, y.w'.cell? ⟨b, 7, none⟩ = some (.int .i64 k2)) ∧ (∀ y : Later w.heap.size w, y.w'.cell? ⟨b, 8, none⟩ = some (.int .i64 n2)) ∧ (∀ y : Later w.heap.size w, y.w'.cell? ⟨b, 9, none⟩ = some (.string (bs s2))) ∧ (∀ y : Later w.heap.size w, y.w'.cell? ⟨b, 10, none⟩ = some v2) := by
  have k : ∀ (i : Nat) (v : Value), (cS k nm ty k1 n1 s1 v1 k2 n2 s2 v2)[i]? = some v → ∀ y : Later w.heap.size w, y.w'.cell? ⟨b, i, none⟩ = some v := fun i v hv y => ((h.below y.ok h.lt).cell i).trans hv
  exact ⟨k 0 _ rfl, k 1 _ rfl, k 2 _ rfl, k 3 _ rfl, k 4 _ rfl, k 5 _ rfl, k 6 _ rfl, k 7 _ rfl, k 8 _ rfl, k 9 _ rfl, k 10 _ rfl⟩
end Go.Proofs.YtgakjhaepdigpaaGreatDoor
