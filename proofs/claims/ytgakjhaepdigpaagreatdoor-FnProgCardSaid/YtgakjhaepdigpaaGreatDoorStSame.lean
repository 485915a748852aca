
/- Two statements compared: the program's and the reference's StmtSame. -/
import Derived.Test.YtgakjhaepdigpaaGreatDoorZm19
import Derived.Test.YtgakjhaepdigpaaGreatDoorZm13
namespace Go.Proofs.YtgakjhaepdigpaaGreatDoor
set_option maxRecDepth 100000
set_option linter.unusedSimpArgs false
set_option linter.unusedVariables false
open Go.RowKit
attribute [local go_sem] bs_toList bs_get bs_size

theorem spStmtSame_any (s t : Sm) (v u : Value) (W : World) (hv : SmV W W.heap.size v s) (hu : SmV W W.heap.size u t) :
    Calls Tryz.prog 25 #[v, u] W fun e w' => e = .returned (.bool (decide (s = t))) ∧ Below W.heap.size W w' := by
  obtain ⟨A1, A2, c1, c2, rfl, hn, ht, hE1, hE2⟩ := hv.form2
  obtain ⟨A3, A4, c3, c4, rfl, hn', ht', hF1, hF2⟩ := hu.form2
  obtain ⟨k, nm, ty, a, b⟩ := s
  obtain ⟨k', nm', ty', a', b'⟩ := t
  simp only at hn ht hE1 hE2 hn' ht' hF1 hF2 ⊢
  have C1 := Lib.hid (fun (w' : World) (h : Below W.heap.size W w') => spSame_any a a' _ _ w' ((hE1.keep h (Nat.le_refl _)).more h.size) ((hF1.keep h (Nat.le_refl _)).more h.size))
  have C2 := Lib.hid (fun (w' : World) (h : Below W.heap.size W w') => spSame_any b b' _ _ w' ((hE2.keep h (Nat.le_refl _)).more h.size) ((hF2.keep h (Nat.le_refl _)).more h.size))
  clear hE1 hE2 hF1 hF2 hv hu
  by_cases h0 : k = k' ∧ nm = nm' ∧ ty = ty'
  rotate_left
  · have hd : decide ((⟨k, nm, ty, a, b⟩ : Sm) = ⟨k', nm', ty', a', b'⟩) = false := by
      apply decide_eq_false
      intro e
      injection e with e1 e2 e3
      exact h0 ⟨e1, e2, e3⟩
    have HD := Lib.hid (And.intro hd h0)
    clear hd h0 C1 C2
    go_enter Tryz.func25, Tryz.ntmps25
    go_wp2_with fail
    all_goals first
      | (go_ret; exact ⟨ret_bool HD.out.1.symm, by (repeat (first | with_reducible assumption | with_reducible exact Below.refl _ _ | with_reducible refine Below.setCell ?_ (by first | omega | (simp; done) | (simp; omega)) _ | with_reducible refine Below.alloc ?_ (by first | omega | (simp; done) | (simp; omega)) _ | with_reducible refine below_drewN ?_ _ | with_reducible refine Below.drew ?_))⟩)
      | (exfalso; have := HD.out.2; clear HD; go_light; simp_all; done)
      | (exfalso; have := HD.out.2; clear HD; go_light; simp_all; omega)
  · obtain ⟨rfl, rfl, rfl⟩ := h0
    have hr : decide ((⟨k, nm, ty, a, b⟩ : Sm) = ⟨k, nm, ty, a', b'⟩) = (decide (a = a') && decide (b = b')) := by simp
    rw [hr]
    clear hr
    generalize decide (a = a') = x at *
    generalize decide (b = b') = y at *
    go_enter Tryz.func25, Tryz.ntmps25
    go_wp2_with fail
    refine (C1.out _ (by (repeat (first | with_reducible assumption | with_reducible exact Below.refl _ _ | with_reducible refine Below.setCell ?_ (by first | omega | (simp; done) | (simp; omega)) _ | with_reducible refine Below.alloc ?_ (by first | omega | (simp; done) | (simp; omega)) _ | with_reducible refine below_drewN ?_ _ | with_reducible refine Below.drew ?_)))).mono ?_
    rintro r w1 ⟨rfl, hb1⟩
    have hz1 := hb1.size
    (try simp at hz1)
    have k1_0 := fun o => hb1.cell (p := ⟨W.heap.size, o, none⟩) (by first | omega | (simp; done) | (simp; omega)); have k1f_0 := fun o => hb1.frozen (p := ⟨W.heap.size, o, none⟩) (by first | omega | (simp; done) | (simp; omega))
    have k2_0 := fun o => hb1.cell (p := ⟨W.heap.size, o, none⟩) (by first | omega | (simp; done) | (simp; omega)); have k2f_0 := fun o => hb1.frozen (p := ⟨W.heap.size, o, none⟩) (by first | omega | (simp; done) | (simp; omega)); have k2_1 := fun o => hb1.cell (p := ⟨W.heap.size + 1, o, none⟩) (by first | omega | (simp; done) | (simp; omega)); have k2f_1 := fun o => hb1.frozen (p := ⟨W.heap.size + 1, o, none⟩) (by first | omega | (simp; done) | (simp; omega))
    cases x
    · go_wp2_with fail
      go_ret
      exact ⟨rfl, by (repeat (first | with_reducible assumption | with_reducible exact Below.refl _ _ | with_reducible refine Below.setCell ?_ (by first | omega | (simp; done) | (simp; omega)) _ | with_reducible refine Below.alloc ?_ (by first | omega | (simp; done) | (simp; omega)) _ | with_reducible refine below_drewN ?_ _ | with_reducible refine Below.drew ?_ | with_reducible refine Below.trans ?_ (Below.mono hb1 (by first | omega | (simp; done) | (simp; omega)))))⟩
    go_wp2_with fail
    refine (C2.out _ (by (repeat (first | with_reducible assumption | with_reducible exact Below.refl _ _ | with_reducible refine Below.setCell ?_ (by first | omega | (simp; done) | (simp; omega)) _ | with_reducible refine Below.alloc ?_ (by first | omega | (simp; done) | (simp; omega)) _ | with_reducible refine below_drewN ?_ _ | with_reducible refine Below.drew ?_ | with_reducible refine Below.trans ?_ (Below.mono hb1 (by first | omega | (simp; done) | (simp; omega))))))).mono ?_
    rintro r w2 ⟨rfl, hb2⟩
    go_wp2_with fail
    go_ret
    exact ⟨ret_bool (by simp), by (repeat (first | with_reducible assumption | with_reducible exact Below.refl _ _ | with_reducible refine Below.setCell ?_ (by first | omega | (simp; done) | (simp; omega)) _ | with_reducible refine Below.alloc ?_ (by first | omega | (simp; done) | (simp; omega)) _ | with_reducible refine below_drewN ?_ _ | with_reducible refine Below.drew ?_ | with_reducible refine Below.trans ?_ (Below.mono hb2 (by first | omega | (simp; done) | (simp; omega))) | with_reducible refine Below.trans ?_ (Below.mono hb1 (by first | omega | (simp; done) | (simp; omega)))))⟩
theorem imStmtSame_any (s t : Sm) (v u : Value) (W : World) (hv : SmV W W.heap.size v s) (hu : SmV W W.heap.size u t) :
    Calls Tryz.prog 22 #[v, u] W fun e w' => e = .returned (.bool (decide (s = t))) ∧ Below W.heap.size W w' := by
  obtain ⟨A1, A2, c1, c2, rfl, hn, ht, hE1, hE2⟩ := hv.form2
  obtain ⟨A3, A4, c3, c4, rfl, hn', ht', hF1, hF2⟩ := hu.form2
  obtain ⟨k, nm, ty, a, b⟩ := s
  obtain ⟨k', nm', ty', a', b'⟩ := t
  simp only at hn ht hE1 hE2 hn' ht' hF1 hF2 ⊢
  have C1 := Lib.hid (fun (w' : World) (h : Below W.heap.size W w') => imSame_any a a' _ _ w' ((hE1.keep h (Nat.le_refl _)).more h.size) ((hF1.keep h (Nat.le_refl _)).more h.size))
  have C2 := Lib.hid (fun (w' : World) (h : Below W.heap.size W w') => imSame_any b b' _ _ w' ((hE2.keep h (Nat.le_refl _)).more h.size) ((hF2.keep h (Nat.le_refl _)).more h.size))
  clear hE1 hE2 hF1 hF2 hv hu
  by_cases h0 : k = k' ∧ nm = nm' ∧ ty = ty'
  rotate_left
  · have hd : decide ((⟨k, nm, ty, a, b⟩ : Sm) = ⟨k', nm', ty', a', b'⟩) = false := by
      apply decide_eq_false
      intro e
      injection e with e1 e2 e3
      exact h0 ⟨e1, e2, e3⟩
    have HD := Lib.hid (And.intro hd h0)
    clear hd h0 C1 C2
    go_enter Tryz.func22, Tryz.ntmps22
    go_wp2_with fail
    all_goals first
      | (go_ret; exact ⟨ret_bool HD.out.1.symm, by (repeat (first | with_reducible assumption | with_reducible exact Below.refl _ _ | with_reducible refine Below.setCell ?_ (by first | omega | (simp; done) | (simp; omega)) _ | with_reducible refine Below.alloc ?_ (by first | omega | (simp; done) | (simp; omega)) _ | with_reducible refine below_drewN ?_ _ | with_reducible refine Below.drew ?_))⟩)
      | (exfalso; have := HD.out.2; clear HD; go_light; simp_all; done)
      | (exfalso; have := HD.out.2; clear HD; go_light; simp_all; omega)
  · obtain ⟨rfl, rfl, rfl⟩ := h0
    have hr : decide ((⟨k, nm, ty, a, b⟩ : Sm) = ⟨k, nm, ty, a', b'⟩) = (decide (a = a') && decide (b = b')) := by simp
    rw [hr]
    clear hr
    generalize decide (a = a') = x at *
    generalize decide (b = b') = y at *
    go_enter Tryz.func22, Tryz.ntmps22
    go_wp2_with fail
    refine (C1.out _ (by (repeat (first | with_reducible assumption | with_reducible exact Below.refl _ _ | with_reducible refine Below.setCell ?_ (by first | omega | (simp; done) | (simp; omega)) _ | with_reducible refine Below.alloc ?_ (by first | omega | (simp; done) | (simp; omega)) _ | with_reducible refine below_drewN ?_ _ | with_reducible refine Below.drew ?_)))).mono ?_
    rintro r w1 ⟨rfl, hb1⟩
    have hz1 := hb1.size
    (try simp at hz1)
    have k1_0 := fun o => hb1.cell (p := ⟨W.heap.size, o, none⟩) (by first | omega | (simp; done) | (simp; omega)); have k1f_0 := fun o => hb1.frozen (p := ⟨W.heap.size, o, none⟩) (by first | omega | (simp; done) | (simp; omega))
    have k2_0 := fun o => hb1.cell (p := ⟨W.heap.size, o, none⟩) (by first | omega | (simp; done) | (simp; omega)); have k2f_0 := fun o => hb1.frozen (p := ⟨W.heap.size, o, none⟩) (by first | omega | (simp; done) | (simp; omega)); have k2_1 := fun o => hb1.cell (p := ⟨W.heap.size + 1, o, none⟩) (by first | omega | (simp; done) | (simp; omega)); have k2f_1 := fun o => hb1.frozen (p := ⟨W.heap.size + 1, o, none⟩) (by first | omega | (simp; done) | (simp; omega))
    cases x
    · go_wp2_with fail
      go_ret
      exact ⟨rfl, by (repeat (first | with_reducible assumption | with_reducible exact Below.refl _ _ | with_reducible refine Below.setCell ?_ (by first | omega | (simp; done) | (simp; omega)) _ | with_reducible refine Below.alloc ?_ (by first | omega | (simp; done) | (simp; omega)) _ | with_reducible refine below_drewN ?_ _ | with_reducible refine Below.drew ?_ | with_reducible refine Below.trans ?_ (Below.mono hb1 (by first | omega | (simp; done) | (simp; omega)))))⟩
    go_wp2_with fail
    refine (C2.out _ (by (repeat (first | with_reducible assumption | with_reducible exact Below.refl _ _ | with_reducible refine Below.setCell ?_ (by first | omega | (simp; done) | (simp; omega)) _ | with_reducible refine Below.alloc ?_ (by first | omega | (simp; done) | (simp; omega)) _ | with_reducible refine below_drewN ?_ _ | with_reducible refine Below.drew ?_ | with_reducible refine Below.trans ?_ (Below.mono hb1 (by first | omega | (simp; done) | (simp; omega))))))).mono ?_
    rintro r w2 ⟨rfl, hb2⟩
    go_wp2_with fail
    go_ret
    exact ⟨ret_bool (by simp), by (repeat (first | with_reducible assumption | with_reducible exact Below.refl _ _ | with_reducible refine Below.setCell ?_ (by first | omega | (simp; done) | (simp; omega)) _ | with_reducible refine Below.alloc ?_ (by first | omega | (simp; done) | (simp; omega)) _ | with_reducible refine below_drewN ?_ _ | with_reducible refine Below.drew ?_ | with_reducible refine Below.trans ?_ (Below.mono hb2 (by first | omega | (simp; done) | (simp; omega))) | with_reducible refine Below.trans ?_ (Below.mono hb1 (by first | omega | (simp; done) | (simp; omega)))))⟩
end Go.Proofs.YtgakjhaepdigpaaGreatDoor
