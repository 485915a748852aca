
/- Without types, asked of any tree: the reference's and the program's; marks of one tree. -/
import Derived.Test.YtgakjhaepdigpaaGreatDoorBareI
import Derived.Test.YtgakjhaepdigpaaGreatDoorMks
import Derived.Test.YtgakjhaepdigpaaGreatDoorStLaw
namespace Go.Proofs.YtgakjhaepdigpaaGreatDoor
set_option maxRecDepth 100000
set_option linter.unusedSimpArgs false
set_option linter.unusedVariables false
open Go.RowKit
attribute [local go_sem] bs_toList bs_get bs_size

open Classical in
noncomputable def bareX (x : Ex) : Ex := if h : ∃ e : E, x = e.ex ∧ e.Ok then h.choose.bare.ex else Ex.none
theorem bareX_e {e : E} (h : e.Ok) : bareX e.ex = e.bare.ex := by
  have hx : ∃ e' : E, e.ex = e'.ex ∧ e'.Ok := ⟨e, rfl, h⟩
  unfold bareX
  rw [dif_pos hx]
  exact congrArg (fun q => (E.bare q).ex) (E.ex_inj hx.choose_spec.1).symm
theorem bareX_no {x : Ex} (h : exOkB x = false) : bareX x = Ex.none := by
  unfold bareX
  rw [dif_neg]
  intro hx
  rw [E.ok_iff.2 hx] at h
  cases h
theorem ex_nd : ∀ e : E, e.ex.nd + 1 = e.cnt
  | .num n => by simp [E.ex, Ex.nd_mk, ndL, E.cnt]
  | .nam s => by simp [E.ex, Ex.nd_mk, ndL, E.cnt]
  | .two o a b => by
    have h1 := ex_nd a
    have h2 := ex_nd b
    simp [E.ex, Ex.nd_mk, ndL, E.cnt]
    omega
  | .cast t a => by
    have h1 := ex_nd a
    simp [E.ex, Ex.nd_mk, ndL, E.cnt]
    omega
theorem bareX_nd (x : Ex) : ndL (bareX x).kids ≤ 100 := by
  cases h : exOkB x
  · rw [bareX_no h]
    decide
  · obtain ⟨e, rfl, he⟩ := E.ok_iff.1 h
    rw [bareX_e he, ← Ex.nd_kids]
    have h1 := ex_nd e.bare
    have h2 := (E.bare_Ok he).2.2
    omega
/-- a tree's parts are marked; the tree itself, by value, is as it was -/
theorem markExpr_any (x : Ex) (A : Option Addr) (c : Nat) (bl : List Nat) (w : World) (k : Nat) (hO : ExO 24 w (.slice A x.kids.length c) x.kids bl) (hnd : bl.Nodup) (hk1 : 1 ≤ k) (hk2 : k + 3 * ndL x.kids ≤ 90000000) :
    Calls Tryz.prog 59 #[.agg #[.int .i64 x.kind, .int .i64 x.n, .string (bs x.s), .slice A x.kids.length c], .int .i64 (k : Int)] w fun e w' => e = .returned (.int .i64 ((k + 3 * ndL x.kids : Nat) : Int)) ∧ ∃ m, ExO 24 w' (.slice A x.kids.length c) m bl ∧ Marked k m ∧ ndL m = ndL x.kids ∧ m.length = x.kids.length ∧ Foot w w' bl := by
  have hb : Below w.heap.size w (w.alloc (.cells #[.int .i64 x.kind, .int .i64 x.n, .string (bs x.s), .slice A x.kids.length c] 24)) := by (repeat (first | with_reducible assumption | with_reducible exact Below.refl _ _ | with_reducible refine Below.setCell ?_ (by first | omega | (simp; done) | (simp; omega)) _ | with_reducible refine Below.alloc ?_ (by first | omega | (simp; done) | (simp; omega)) _ | with_reducible refine below_drewN ?_ _ | with_reducible refine Below.drew ?_))
  have H := Lib.hid (markExprS_n _ x.kids (Nat.le_refl _) _ bl _ k (hO.ext hb) hnd hk1 hk2)
  have HB := Lib.hid hb
  clear hO hb
  go_enter Tryz.func59, Tryz.ntmps59
  go_wp2_with fail
  refine H.out.mono ?_
  rintro r w2 ⟨rfl, m, hM, hmk, hnm, hlm, hF⟩
  have HX := Lib.hid (And.intro hM (And.intro hmk (And.intro hnm (And.intro hlm hF))))
  clear hM hmk hnm hlm hF
  go_wp2_with fail
  go_ret
  obtain ⟨hM, hmk, hnm, hlm, hF⟩ := HX.out
  exact ⟨rfl, m, hM, hmk, hnm, hlm, (Foot.ext HB.out).trans hF⟩
theorem heldExpr_any (p q : Int) (s : Bytes) (A : Option Addr) (c : Nat) (m : List Ex) (w : World) (k : Nat) (hS : ExS w w.heap.size (.slice A m.length c) m) (hM : Marked k m) (hk1 : 1 ≤ k) (hk2 : k + 3 * ndL m ≤ 90000000) :
    Calls Tryz.prog 60 #[.agg #[.int .i64 p, .int .i64 q, .string (bs s), .slice A m.length c], .int .i64 (k : Int)] w fun e w' => e = .returned (.int .i64 ((k + 3 * ndL m : Nat) : Int)) ∧ Below w.heap.size w w' := by
  have hb : Below w.heap.size w (w.alloc (.cells #[.int .i64 p, .int .i64 q, .string (bs s), .slice A m.length c] 24)) := by (repeat (first | with_reducible assumption | with_reducible exact Below.refl _ _ | with_reducible refine Below.setCell ?_ (by first | omega | (simp; done) | (simp; omega)) _ | with_reducible refine Below.alloc ?_ (by first | omega | (simp; done) | (simp; omega)) _ | with_reducible refine below_drewN ?_ _ | with_reducible refine Below.drew ?_))
  have H := Lib.hid (heldExprS_n _ m (Nat.le_refl _) _ _ k (hS.ext hb) hM hk1 hk2)
  have HB := Lib.hid hb
  have hnn : ¬ ((k + 3 * ndL m : Nat) : Int) < 0 := by omega
  clear hS hb
  go_enter Tryz.func60, Tryz.ntmps60
  go_wp2_with fail
  refine H.out.mono ?_
  rintro r w2 ⟨rfl, hb2⟩
  go_wp2_with fail
  go_ret
  exact ⟨rfl, by (repeat (first | with_reducible assumption | with_reducible exact Below.refl _ _ | with_reducible refine Below.setCell ?_ (by first | omega | (simp; done) | (simp; omega)) _ | with_reducible refine Below.alloc ?_ (by first | omega | (simp; done) | (simp; omega)) _ | with_reducible refine below_drewN ?_ _ | with_reducible refine Below.drew ?_ | with_reducible refine Below.trans ?_ (Below.mono hb2 (by first | omega | (simp; done) | (simp; omega)))))⟩
end Go.Proofs.YtgakjhaepdigpaaGreatDoor
