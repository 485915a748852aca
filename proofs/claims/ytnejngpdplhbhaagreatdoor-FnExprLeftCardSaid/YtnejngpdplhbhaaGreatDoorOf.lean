
/- What something comes to, asked of any tree: the program's ExprOf and the reference's. -/
import Derived.Test.YtnejngpdplhbhaaGreatDoorOkE
import Derived.Test.YtnejngpdplhbhaaGreatDoorVal
namespace Go.Proofs.YtnejngpdplhbhaaGreatDoor
set_option maxRecDepth 100000
set_option linter.unusedSimpArgs false
set_option linter.unusedVariables false
open Go.RowKit
attribute [local go_sem] bs_toList bs_get bs_size

open Classical in
noncomputable def valX (x : Ex) (names : List Bytes) (nums : List Int) : Option Int := if h : names.length = nums.length ∧ ∃ e : E, x = e.ex ∧ e.Ok then h.2.choose.va names nums else none
theorem valX_e {e : E} {names : List Bytes} {nums : List Int} (h : e.Ok) (hl : names.length = nums.length) : valX e.ex names nums = e.va names nums := by
  have hx : names.length = nums.length ∧ ∃ e' : E, e.ex = e'.ex ∧ e'.Ok := ⟨hl, e, rfl, h⟩
  unfold valX
  rw [dif_pos hx]
  exact congrArg (fun q => E.va names nums q) (E.ex_inj hx.2.choose_spec.1).symm
theorem valX_no {x : Ex} {names : List Bytes} {nums : List Int} (h : exOkB x = false) : valX x names nums = none := by
  unfold valX
  rw [dif_neg]
  rintro ⟨_, hx⟩
  rw [E.ok_iff.2 hx] at h
  cases h
theorem valX_ne {x : Ex} {names : List Bytes} {nums : List Int} (h : names.length ≠ nums.length) : valX x names nums = none := by
  unfold valX
  rw [dif_neg (fun hx => h hx.1)]
set_option maxHeartbeats 1000000 in
theorem imExprOf_any (x : Ex) (v nv tv : Value) (names : List Bytes) (nums : List Int) (w : World) (hn1 : names.length ≤ 1000) (hv : ExV w w.heap.size v x) (hn : SlB w w.heap.size nv names) (ht : SlN w w.heap.size tv nums) (hE : Env w) :
    Calls Tryz.prog 11 #[v, nv, tv] w fun r w' => r = .returned (ofVal (valX x names nums)) ∧ Below w.heap.size w w' := by
  obtain ⟨kv, rfl, hs, hk⟩ := id hv
  obtain ⟨A, c, rfl, hc, hm⟩ := hk.val
  have OK := Lib.hid (fun (w' : World) (h : Below w.heap.size w w') => imOk_any x _ w' ((hv.keep h (Nat.le_refl _)).more h.size) (hE.ext h))
  obtain ⟨An, cn, rfl, hcn, hmn⟩ := hn.val
  obtain ⟨At, ct, rfl, hct, hmt⟩ := ht.val
  cases hok : exOkB x
  · have HR := Lib.hid (valX_no (names := names) (nums := nums) hok)
    rw [hok] at OK
    clear hv hk hn ht hok
    go_enter Tryz.func11, Tryz.ntmps11
    go_wp2_with fail
    refine (OK.out _ (by (repeat (first | with_reducible assumption | with_reducible exact Below.refl _ _ | with_reducible refine Below.setCell ?_ (by first | omega | (simp; done) | (simp; omega)) _ | with_reducible refine Below.alloc ?_ (by first | omega | (simp; done) | (simp; omega)) _ | with_reducible refine below_drewN ?_ _ | with_reducible refine Below.drew ?_)))).mono ?_
    rintro r w1 ⟨rfl, hb1⟩
    go_wp2_with fail
    refine bodyPost_ret (v := .tuple #[.int .i64 0, .bool false]) (by simp [results, Tryz.results11, go_sem]) rfl ?_
    exact ⟨by rw [HR.out]; rfl, by (repeat (first | with_reducible assumption | with_reducible exact Below.refl _ _ | with_reducible refine Below.setCell ?_ (by first | omega | (simp; done) | (simp; omega)) _ | with_reducible refine Below.alloc ?_ (by first | omega | (simp; done) | (simp; omega)) _ | with_reducible refine below_drewN ?_ _ | with_reducible refine Below.drew ?_ | with_reducible refine Below.trans ?_ (Below.mono hb1 (by first | omega | (simp; done) | (simp; omega)))))⟩
  · by_cases hl : names.length = nums.length
    · obtain ⟨e, rfl, heo⟩ := E.ok_iff.1 hok
      have VA := Lib.hid (fun (w' : World) (h : Below w.heap.size w w') => imVa_any e _ _ _ names nums w' hl hn1 heo.1 ((hv.keep h (Nat.le_refl _)).more h.size) ((hn.below h (Nat.le_refl _)).more h.size) ((ht.below h (Nat.le_refl _)).more h.size))
      have HR := Lib.hid (valX_e heo hl)
      have hnb : ((names.length : Int) != (nums.length : Int)) = false := by simp [hl]
      have hB1 := Blk.new w 25 #[.int .i64 e.ex.kind, .int .i64 e.ex.n, .string (bs e.ex.s), .slice A e.ex.kids.length c]
      rw [hok] at OK
      have HL := Lib.hid hl
      generalize E.va names nums e = rv at *
      generalize valX e.ex names nums = rx at *
      clear hv hk hn ht hok hl
      go_enter Tryz.func11, Tryz.ntmps11
      go_wp2_with fail
      refine (OK.out _ (by (repeat (first | with_reducible assumption | with_reducible exact Below.refl _ _ | with_reducible refine Below.setCell ?_ (by first | omega | (simp; done) | (simp; omega)) _ | with_reducible refine Below.alloc ?_ (by first | omega | (simp; done) | (simp; omega)) _ | with_reducible refine below_drewN ?_ _ | with_reducible refine Below.drew ?_)))).mono ?_
      rintro r w1 ⟨rfl, hb1⟩
      skip; replace hB1 := hB1.below hb1 hB1.lt
      have hbw1 : Below w.heap.size w w1 := by (repeat (first | with_reducible assumption | with_reducible exact Below.refl _ _ | with_reducible refine Below.setCell ?_ (by first | omega | (simp; done) | (simp; omega)) _ | with_reducible refine Below.alloc ?_ (by first | omega | (simp; done) | (simp; omega)) _ | with_reducible refine below_drewN ?_ _ | with_reducible refine Below.drew ?_ | with_reducible refine Below.trans ?_ (Below.mono hb1 (by first | omega | (simp; done) | (simp; omega)))))
      skip; have pa0 := hB1.cell 0; have pa1 := hB1.cell 1; have pa2 := hB1.cell 2; have pa3 := hB1.cell 3; simp at pa0 pa1 pa2 pa3
      clear hb1 hB1
      go_wp2_with fail
      refine (VA.out _ hbw1).mono ?_
      rintro r w2 ⟨rfl, hb2⟩
      cases rv with
      | none =>
        simp only [ofVal]
        go_wp2_with fail
        refine bodyPost_ret (v := .tuple #[.int .i64 0, .bool false]) (by simp [results, Tryz.results11, go_sem]) rfl ?_
        exact ⟨by rw [HR.out]; rfl, hbw1.ext hb2⟩
      | some n =>
        simp only [ofVal]
        go_wp2_with fail
        refine bodyPost_ret (v := .tuple #[.int .i64 n, .bool true]) (by simp [results, Tryz.results11, go_sem]) rfl ?_
        exact ⟨by rw [HR.out]; rfl, hbw1.ext hb2⟩
    · have HR := Lib.hid (valX_ne (x := x) hl)
      have hnb : ((names.length : Int) == (nums.length : Int)) = false := by rw [beq_eq_false_iff_ne]; omega
      rw [hok] at OK
      clear hv hk hn ht hok
      go_enter Tryz.func11, Tryz.ntmps11
      go_wp2_with fail
      refine (OK.out _ (by (repeat (first | with_reducible assumption | with_reducible exact Below.refl _ _ | with_reducible refine Below.setCell ?_ (by first | omega | (simp; done) | (simp; omega)) _ | with_reducible refine Below.alloc ?_ (by first | omega | (simp; done) | (simp; omega)) _ | with_reducible refine below_drewN ?_ _ | with_reducible refine Below.drew ?_)))).mono ?_
      rintro r w1 ⟨rfl, hb1⟩
      go_wp2_with fail
      refine bodyPost_ret (v := .tuple #[.int .i64 0, .bool false]) (by simp [results, Tryz.results11, go_sem]) rfl ?_
      exact ⟨by rw [HR.out]; rfl, by (repeat (first | with_reducible assumption | with_reducible exact Below.refl _ _ | with_reducible refine Below.setCell ?_ (by first | omega | (simp; done) | (simp; omega)) _ | with_reducible refine Below.alloc ?_ (by first | omega | (simp; done) | (simp; omega)) _ | with_reducible refine below_drewN ?_ _ | with_reducible refine Below.drew ?_ | with_reducible refine Below.trans ?_ (Below.mono hb1 (by first | omega | (simp; done) | (simp; omega)))))⟩
end Go.Proofs.YtnejngpdplhbhaaGreatDoor
