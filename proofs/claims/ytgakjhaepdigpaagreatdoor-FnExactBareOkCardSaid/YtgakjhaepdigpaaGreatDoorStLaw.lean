
/- Statements in the laws' own hands: how much they hold, their copies, their equality. -/
import Derived.Test.YtgakjhaepdigpaaGreatDoorExLaw2
import Derived.Test.YtgakjhaepdigpaaGreatDoorBas
namespace Go.Proofs.YtgakjhaepdigpaaGreatDoor
set_option maxRecDepth 100000
set_option linter.unusedSimpArgs false
set_option linter.unusedVariables false
open Go.RowKit
attribute [local go_sem] bs_toList bs_get bs_size

theorem szExpr_any (e : Ex) (v : Value) (W : World) (n : Int) (h0 : 0 ≤ n) (h1 : n ≤ 10000000) (hv : ExV W W.heap.size v e) :
    Calls Tryz.prog 89 #[v, .int .i64 n] W fun r w' => r = .returned (.int .i64 (szOut n e.wt)) ∧ Below W.heap.size W w' := by
  obtain ⟨p, q, s, A, c, m, rfl, rfl, hs, hc, hm, hkv⟩ := hv.form
  rw [bs_size] at hs
  have hw := Ex.wt_mk p q s m
  by_cases hneg : n - (s.length : Int) < 0
  · have hr : szOut n (Ex.mk p q s m).wt = -1 := by rw [hw]; exact szOut_no (by omega)
    have HR := Lib.hid hr
    clear hr hw
    go_enter Tryz.func89, Tryz.ntmps89
    go_wp2_with fail
    go_ret
    exact ⟨ret_int HR.out.symm, by (repeat (first | with_reducible assumption | with_reducible exact Below.refl _ _ | with_reducible refine Below.setCell ?_ (by first | omega | (simp; done) | (simp; omega)) _ | with_reducible refine Below.alloc ?_ (by first | omega | (simp; done) | (simp; omega)) _ | with_reducible refine below_drewN ?_ _ | with_reducible refine Below.drew ?_))⟩
  · have hr : szOut (n - s.length) (wtL m) = szOut n (Ex.mk p q s m).wt := by rw [hw]; exact szOut_sub (by omega)
    have hB : Below W.heap.size W (W.alloc (.cells #[.int .i64 p, .int .i64 q, .string (bs s), .slice A m.length c] 55)) := by (repeat (first | with_reducible assumption | with_reducible exact Below.refl _ _ | with_reducible refine Below.setCell ?_ (by first | omega | (simp; done) | (simp; omega)) _ | with_reducible refine Below.alloc ?_ (by first | omega | (simp; done) | (simp; omega)) _ | with_reducible refine below_drewN ?_ _ | with_reducible refine Below.drew ?_))
    have hc := szExprS_n _ m _ _ (n - s.length) (Nat.le_refl _) (by omega) (by omega) (hkv.ext hB)
    rw [hr] at hc
    have HC := Lib.hid hc
    clear hc hr hw
    generalize (Ex.mk p q s m).wt = wq at *
    by_cases h2 : n - (wq : Int) < 0
    · have e2 : szOut n wq = -1 := szOut_no (by omega)
      rw [e2] at HC
      have E2 := Lib.hid e2
      clear e2
      go_enter Tryz.func89, Tryz.ntmps89
      go_wp2_with fail
      refine HC.out.mono ?_
      rintro e w1 ⟨rfl, hb1⟩
      go_wp2_with fail
      go_ret
      exact ⟨ret_int E2.out.symm, by (repeat (first | with_reducible assumption | with_reducible exact Below.refl _ _ | with_reducible refine Below.setCell ?_ (by first | omega | (simp; done) | (simp; omega)) _ | with_reducible refine Below.alloc ?_ (by first | omega | (simp; done) | (simp; omega)) _ | with_reducible refine below_drewN ?_ _ | with_reducible refine Below.drew ?_ | with_reducible refine Below.trans ?_ (Below.mono hb1 (by first | omega | (simp; done) | (simp; omega)))))⟩
    · have e2 : szOut n wq = n - wq := szOut_yes (by omega)
      rw [e2] at HC
      have E2 := Lib.hid e2
      clear e2
      go_enter Tryz.func89, Tryz.ntmps89
      go_wp2_with fail
      refine HC.out.mono ?_
      rintro e w1 ⟨rfl, hb1⟩
      go_wp2_with fail
      go_ret
      exact ⟨ret_int E2.out.symm, by (repeat (first | with_reducible assumption | with_reducible exact Below.refl _ _ | with_reducible refine Below.setCell ?_ (by first | omega | (simp; done) | (simp; omega)) _ | with_reducible refine Below.alloc ?_ (by first | omega | (simp; done) | (simp; omega)) _ | with_reducible refine below_drewN ?_ _ | with_reducible refine Below.drew ?_ | with_reducible refine Below.trans ?_ (Below.mono hb1 (by first | omega | (simp; done) | (simp; omega)))))⟩
theorem toExpr_any (e : Ex) (v : Value) (W : World) (hwt : e.wt ≤ 1048576) (hv : ExV W W.heap.size v e) :
    Calls Tryz.prog 92 #[v] W fun r w' => ∃ A c bl, r = .returned (.agg #[.int .i64 e.kind, .int .i64 e.n, .string (bs e.s), .slice A e.kids.length c]) ∧ ExO 24 w' (.slice A e.kids.length c) e.kids bl ∧ Own W.heap.size w'.heap.size bl ∧ Below W.heap.size W w' := by
  obtain ⟨p, q, s, A, c, m, rfl, rfl, hs, hc, hm, hkv⟩ := hv.form
  rw [Ex.wt_mk] at hwt
  have IH := Lib.hid (fun (w : World) (h : Below W.heap.size W w) => toExprS_any m (.slice A m.length c) w (by omega) ((hkv.keep h (Nat.le_refl _)).more h.size))
  go_enter Tryz.func92, Tryz.ntmps92
  go_wp2_with fail
  refine (IH.out _ (by (repeat (first | with_reducible assumption | with_reducible exact Below.refl _ _ | with_reducible refine Below.setCell ?_ (by first | omega | (simp; done) | (simp; omega)) _ | with_reducible refine Below.alloc ?_ (by first | omega | (simp; done) | (simp; omega)) _ | with_reducible refine below_drewN ?_ _ | with_reducible refine Below.drew ?_)))).mono ?_
  rintro e w1 ⟨u, bl, rfl, hO, hOwn, hb1⟩
  obtain ⟨A2, c2, rfl⟩ := hO.val
  have hz1 := hb1.size
  (try simp at hz1)
  (try simp only [World.size_alloc] at hOwn)
  have k1_0 := fun o => hb1.cell (p := ⟨W.heap.size, o, none⟩) (by first | omega | (simp; done) | (simp; omega)); have k1f_0 := fun o => hb1.frozen (p := ⟨W.heap.size, o, none⟩) (by first | omega | (simp; done) | (simp; omega)); have k1_1 := fun o => hb1.cell (p := ⟨W.heap.size + 1, o, none⟩) (by first | omega | (simp; done) | (simp; omega)); have k1f_1 := fun o => hb1.frozen (p := ⟨W.heap.size + 1, o, none⟩) (by first | omega | (simp; done) | (simp; omega)); have k1_2 := fun o => hb1.cell (p := ⟨W.heap.size + 1 + 1, o, none⟩) (by first | omega | (simp; done) | (simp; omega)); have k1f_2 := fun o => hb1.frozen (p := ⟨W.heap.size + 1 + 1, o, none⟩) (by first | omega | (simp; done) | (simp; omega))
  go_wp2_with fail
  refine bodyPost_ret (v := .agg #[.int .i64 p, .int .i64 q, .string (bs s), .slice A2 m.length c2]) (by simp [results, Tryz.results92, go_sem, *]) rfl ⟨_, _, bl, rfl, ?_, ?_, ?_⟩
  · refine hO.same (fun b hbm => ?_)
    have := (hOwn.1 b hbm).1
    repeat rw [Below.heap_setCell _ _ _ _ (by simp; omega)]
  · exact hOwn.widen (by first | omega | (simp; omega)) (by simp)
  · (repeat (first | with_reducible assumption | with_reducible exact Below.refl _ _ | with_reducible refine Below.setCell ?_ (by first | omega | (simp; done) | (simp; omega)) _ | with_reducible refine Below.alloc ?_ (by first | omega | (simp; done) | (simp; omega)) _ | with_reducible refine below_drewN ?_ _ | with_reducible refine Below.drew ?_ | with_reducible refine Below.trans ?_ (Below.mono hb1 (by first | omega | (simp; done) | (simp; omega)))))

/-- how much a statement holds -/
def Sm.wt (s : Sm) : Nat := s.name.length + s.typ.length + s.ex.wt + s.th.wt
/-- a statement of the call's own: its trees lie in the blocks bl -/
def SmOV (t : TypeId) (w : World) (v : Value) (s : Sm) (bl : List Nat) : Prop := ∃ (A1 A2 : Option Addr) (c1 c2 : Nat) (b1 b2 : List Nat), v = .agg #[.int .i64 s.kind, .string (bs s.name), .string (bs s.typ), .int .i64 s.ex.kind, .int .i64 s.ex.n, .string (bs s.ex.s), .slice A1 s.ex.kids.length c1, .int .i64 s.th.kind, .int .i64 s.th.n, .string (bs s.th.s), .slice A2 s.th.kids.length c2] ∧
  s.name.length ≤ 9223372036854775807 ∧ s.typ.length ≤ 9223372036854775807 ∧ s.ex.s.length ≤ 9223372036854775807 ∧ s.th.s.length ≤ 9223372036854775807 ∧ ExO t w (.slice A1 s.ex.kids.length c1) s.ex.kids b1 ∧ ExO t w (.slice A2 s.th.kids.length c2) s.th.kids b2 ∧ bl = b1 ++ b2
theorem SmOV.smv {t : TypeId} {w : World} {v : Value} {s : Sm} {bl : List Nat} (h : SmOV t w v s bl) : SmV w w.heap.size v s := by
  obtain ⟨A1, A2, c1, c2, b1, b2, rfl, h1, h2, h3, h4, h5, h6, rfl⟩ := h
  exact ⟨⟨s.kind, s.name, s.typ, s.ex.kind, s.ex.n, s.ex.s, _, s.th.kind, s.th.n, s.th.s, _⟩, rfl, rfl, rfl, rfl, rfl, rfl, rfl, rfl, rfl, rfl, by rw [bs_size]; exact h1, by rw [bs_size]; exact h2, by rw [bs_size]; exact h3, by rw [bs_size]; exact h4, h5.exs, h6.exs⟩
theorem eqStmt_any (s t : Sm) (v u : Value) (W : World) (hv : SmV W W.heap.size v s) (hu : SmV W W.heap.size u t) :
    Calls Tryz.prog 14 #[v, u] W fun e w' => e = .returned (.bool (decide (s.kind = t.kind ∧ s.name = t.name ∧ s.typ = t.typ ∧ s.ex = t.ex ∧ s.th = t.th))) ∧ Below W.heap.size W w' := by
  obtain ⟨A1, A2, c1, c2, rfl, hn, ht, hE1, hE2⟩ := hv.form2
  obtain ⟨A1', A2', c1', c2', rfl, hn', ht', hE1', hE2'⟩ := hu.form2
  have C1 := Lib.hid (fun (w : World) (h : Below W.heap.size W w) => eqExpr_any s.ex t.ex _ _ w ((hE1.keep h (Nat.le_refl _)).more h.size) ((hE1'.keep h (Nat.le_refl _)).more h.size))
  have C2 := Lib.hid (fun (w : World) (h : Below W.heap.size W w) => eqExpr_any s.th t.th _ _ w ((hE2.keep h (Nat.le_refl _)).more h.size) ((hE2'.keep h (Nat.le_refl _)).more h.size))
  clear hE1 hE2 hE1' hE2'
  by_cases h0 : s.kind = t.kind ∧ s.name = t.name ∧ s.typ = t.typ
  · obtain ⟨e1, e2, e3⟩ := h0
    have hr : decide (s.kind = t.kind ∧ s.name = t.name ∧ s.typ = t.typ ∧ s.ex = t.ex ∧ s.th = t.th) = decide (s.ex = t.ex ∧ s.th = t.th) := by simp [e1, e2, e3]
    have d1 : (s.kind != t.kind) = false := by simp [e1]
    have d2 : (s.name == t.name) = true := by simp [e2]
    have d3 : (s.typ == t.typ) = true := by simp [e3]
    have HR := Lib.hid hr
    clear hr e1 e2 e3
    by_cases h1 : s.ex = t.ex
    · rw [decide_eq_true h1] at C1
      by_cases h2 : s.th = t.th
      · rw [decide_eq_true h2] at C2
        have H1 := Lib.hid h1
        have H2 := Lib.hid h2
        clear h1 h2
        go_enter Tryz.func14, Tryz.ntmps14
        go_wp2_with fail
        refine (C1.out _ (by (repeat (first | with_reducible assumption | with_reducible exact Below.refl _ _ | with_reducible refine Below.setCell ?_ (by first | omega | (simp; done) | (simp; omega)) _ | with_reducible refine Below.alloc ?_ (by first | omega | (simp; done) | (simp; omega)) _ | with_reducible refine below_drewN ?_ _ | with_reducible refine Below.drew ?_)))).mono ?_
        rintro e w1 ⟨rfl, hb1⟩
        have hz1 := hb1.size
        (try simp at hz1)
        have k1_0 := fun o => hb1.cell (p := ⟨W.heap.size, o, none⟩) (by first | omega | (simp; done) | (simp; omega)); have k1f_0 := fun o => hb1.frozen (p := ⟨W.heap.size, o, none⟩) (by first | omega | (simp; done) | (simp; omega)); have k1_1 := fun o => hb1.cell (p := ⟨W.heap.size + 1, o, none⟩) (by first | omega | (simp; done) | (simp; omega)); have k1f_1 := fun o => hb1.frozen (p := ⟨W.heap.size + 1, o, none⟩) (by first | omega | (simp; done) | (simp; omega))
        go_wp2_with fail
        refine (C2.out _ (by (repeat (first | with_reducible assumption | with_reducible exact Below.refl _ _ | with_reducible refine Below.setCell ?_ (by first | omega | (simp; done) | (simp; omega)) _ | with_reducible refine Below.alloc ?_ (by first | omega | (simp; done) | (simp; omega)) _ | with_reducible refine below_drewN ?_ _ | with_reducible refine Below.drew ?_ | with_reducible refine Below.trans ?_ (Below.mono hb1 (by first | omega | (simp; done) | (simp; omega))))))).mono ?_
        rintro e w2 ⟨rfl, hb2⟩
        go_wp2_with fail
        go_ret
        exact ⟨ret_bool (by rw [HR.out, decide_eq_true ⟨H1.out, H2.out⟩]), by (repeat (first | with_reducible assumption | with_reducible exact Below.refl _ _ | with_reducible refine Below.setCell ?_ (by first | omega | (simp; done) | (simp; omega)) _ | with_reducible refine Below.alloc ?_ (by first | omega | (simp; done) | (simp; omega)) _ | with_reducible refine below_drewN ?_ _ | with_reducible refine Below.drew ?_ | with_reducible refine Below.trans ?_ (Below.mono hb2 (by first | omega | (simp; done) | (simp; omega))) | with_reducible refine Below.trans ?_ (Below.mono hb1 (by first | omega | (simp; done) | (simp; omega)))))⟩
      · rw [decide_eq_false h2] at C2
        have H1 := Lib.hid h1
        have H2 := Lib.hid h2
        clear h1 h2
        go_enter Tryz.func14, Tryz.ntmps14
        go_wp2_with fail
        refine (C1.out _ (by (repeat (first | with_reducible assumption | with_reducible exact Below.refl _ _ | with_reducible refine Below.setCell ?_ (by first | omega | (simp; done) | (simp; omega)) _ | with_reducible refine Below.alloc ?_ (by first | omega | (simp; done) | (simp; omega)) _ | with_reducible refine below_drewN ?_ _ | with_reducible refine Below.drew ?_)))).mono ?_
        rintro e w1 ⟨rfl, hb1⟩
        have hz1 := hb1.size
        (try simp at hz1)
        have k1_0 := fun o => hb1.cell (p := ⟨W.heap.size, o, none⟩) (by first | omega | (simp; done) | (simp; omega)); have k1f_0 := fun o => hb1.frozen (p := ⟨W.heap.size, o, none⟩) (by first | omega | (simp; done) | (simp; omega)); have k1_1 := fun o => hb1.cell (p := ⟨W.heap.size + 1, o, none⟩) (by first | omega | (simp; done) | (simp; omega)); have k1f_1 := fun o => hb1.frozen (p := ⟨W.heap.size + 1, o, none⟩) (by first | omega | (simp; done) | (simp; omega))
        go_wp2_with fail
        refine (C2.out _ (by (repeat (first | with_reducible assumption | with_reducible exact Below.refl _ _ | with_reducible refine Below.setCell ?_ (by first | omega | (simp; done) | (simp; omega)) _ | with_reducible refine Below.alloc ?_ (by first | omega | (simp; done) | (simp; omega)) _ | with_reducible refine below_drewN ?_ _ | with_reducible refine Below.drew ?_ | with_reducible refine Below.trans ?_ (Below.mono hb1 (by first | omega | (simp; done) | (simp; omega))))))).mono ?_
        rintro e w2 ⟨rfl, hb2⟩
        go_wp2_with fail
        go_ret
        exact ⟨ret_bool (by rw [HR.out, decide_eq_false (fun h => H2.out h.2)]), by (repeat (first | with_reducible assumption | with_reducible exact Below.refl _ _ | with_reducible refine Below.setCell ?_ (by first | omega | (simp; done) | (simp; omega)) _ | with_reducible refine Below.alloc ?_ (by first | omega | (simp; done) | (simp; omega)) _ | with_reducible refine below_drewN ?_ _ | with_reducible refine Below.drew ?_ | with_reducible refine Below.trans ?_ (Below.mono hb2 (by first | omega | (simp; done) | (simp; omega))) | with_reducible refine Below.trans ?_ (Below.mono hb1 (by first | omega | (simp; done) | (simp; omega)))))⟩
    · rw [decide_eq_false h1] at C1
      have H1 := Lib.hid h1
      clear h1
      go_enter Tryz.func14, Tryz.ntmps14
      go_wp2_with fail
      refine (C1.out _ (by (repeat (first | with_reducible assumption | with_reducible exact Below.refl _ _ | with_reducible refine Below.setCell ?_ (by first | omega | (simp; done) | (simp; omega)) _ | with_reducible refine Below.alloc ?_ (by first | omega | (simp; done) | (simp; omega)) _ | with_reducible refine below_drewN ?_ _ | with_reducible refine Below.drew ?_)))).mono ?_
      rintro e w1 ⟨rfl, hb1⟩
      go_wp2_with fail
      go_ret
      exact ⟨ret_bool (by rw [HR.out, decide_eq_false (fun h => H1.out h.1)]), by (repeat (first | with_reducible assumption | with_reducible exact Below.refl _ _ | with_reducible refine Below.setCell ?_ (by first | omega | (simp; done) | (simp; omega)) _ | with_reducible refine Below.alloc ?_ (by first | omega | (simp; done) | (simp; omega)) _ | with_reducible refine below_drewN ?_ _ | with_reducible refine Below.drew ?_ | with_reducible refine Below.trans ?_ (Below.mono hb1 (by first | omega | (simp; done) | (simp; omega)))))⟩
  · have hr : decide (s.kind = t.kind ∧ s.name = t.name ∧ s.typ = t.typ ∧ s.ex = t.ex ∧ s.th = t.th) = false := decide_eq_false (fun h => h0 ⟨h.1, h.2.1, h.2.2.1⟩)
    have HR := Lib.hid hr
    have H0 := Lib.hid h0
    clear hr h0
    go_enter Tryz.func14, Tryz.ntmps14
    go_wp2_with fail
    all_goals first
      | (go_ret; exact ⟨ret_bool (by rw [HR.out]), by (repeat (first | with_reducible assumption | with_reducible exact Below.refl _ _ | with_reducible refine Below.setCell ?_ (by first | omega | (simp; done) | (simp; omega)) _ | with_reducible refine Below.alloc ?_ (by first | omega | (simp; done) | (simp; omega)) _ | with_reducible refine below_drewN ?_ _ | with_reducible refine Below.drew ?_))⟩)
      | (exfalso; have := H0.out; go_light; simp_all)
end Go.Proofs.YtgakjhaepdigpaaGreatDoor
