
/- What has no types in it: the program's and the reference's test. -/
import Derived.Test.YtgakjhaepdigpaaGreatDoorBareW
import Derived.Test.YtgakjhaepdigpaaGreatDoorBe
namespace Go.Proofs.YtgakjhaepdigpaaGreatDoor
set_option maxRecDepth 100000
set_option linter.unusedSimpArgs false
set_option linter.unusedVariables false
open Go.RowKit
attribute [local go_sem] bs_toList bs_get bs_size

theorem blk4_cells {w : World} {b : Nat} {t : TypeId} {v0 v1 v2 v3 : Value} (h : Blk w b t #[v0, v1, v2, v3]) :
    (∀ y : Later w.heap.size w, y.w'.cell? ⟨b, 0, none⟩ = some v0) ∧ (∀ y : Later w.heap.size w, y.w'.cell? ⟨b, 1, none⟩ = some v1) ∧ (∀ y : Later w.heap.size w, y.w'.cell? ⟨b, 2, none⟩ = some v2) ∧ (∀ y : Later w.heap.size w, y.w'.cell? ⟨b, 3, none⟩ = some v3) :=
  ⟨fun y => (h.below y.ok h.lt).cell 0, fun y => (h.below y.ok h.lt).cell 1, fun y => (h.below y.ok h.lt).cell 2, fun y => (h.below y.ok h.lt).cell 3⟩
set_option maxHeartbeats 1000000 in
theorem imPlain_any (x : Ex) (v : Value) (w : World) (hv : ExV w w.heap.size v x) (hE : Env w) : Calls Tryz.prog 93 #[v] w fun r w' => r = .returned (.bool (exPlB x)) ∧ Below w.heap.size w w' := by
  obtain ⟨k, n, s, A, c, l, rfl, rfl, hs, hc, hcm, hkv⟩ := id hv.form
  have OK := Lib.hid (fun (w' : World) (h : Below w.heap.size w w') => imOk_any (.mk k n s l) _ w' ((hv.keep h (Nat.le_refl _)).more h.size) (hE.ext h))
  cases hok : exOkB (.mk k n s l)
  · rw [hok] at OK
    have HB := Lib.hid (exPlB_no hok)
    clear hv hkv hs hok hE
    go_enter Tryz.func93, Tryz.ntmps93
    go_upto_region 1 with fail
    generalize hW : World.alloc w _ = W0
    have hb0 : Below w.heap.size w W0 := by rw [← hW]; (repeat (first | with_reducible assumption | with_reducible exact Below.refl _ _ | with_reducible refine Below.setCell ?_ (by first | omega | (simp; done) | (simp; omega)) _ | with_reducible refine Below.alloc ?_ (by first | omega | (simp; done) | (simp; omega)) _ | with_reducible refine below_drewN ?_ _ | with_reducible refine Below.drew ?_))
    have hB0 : Blk W0 w.heap.size 24 #[.int .i64 k, .int .i64 n, .string (bs s), .slice A l.length c] := by rw [← hW]; exact Blk.new _ _ _
    clear hW
    have OL := Lib.hid (fun (y : Later W0.heap.size W0) => OK.out _ (hb0.ext y.ok))
    obtain ⟨a0, a1, a2, a3⟩ := blk4_cells hB0
    clear hB0 OK
    refine wp_region_later (Below.refl W0.heap.size W0) (by kernel_rfl) (by kernel_rfl) ?_
    repeat (go_big_quiet_step ((go_at_call 67; with_reducible exact later_call2 OL.out)))
    refine wpQuiet_nil ?_
    rintro _ ⟨y, rfl⟩
    have hy := y.ok
    go_wp2_with fail
    go_ret
    exact ⟨ret_bool HB.out.symm, hb0.ext hy⟩
  · obtain ⟨e, he, heok⟩ := E.ok_iff.1 hok
    have BA := Lib.hid (fun (w' : World) (h : Below w.heap.size w w') => imBare_any e (.agg #[.int .i64 k, .int .i64 n, .string (bs s), .slice A l.length c]) w' (by rw [← he]; exact (hv.keep h (Nat.le_refl _)).more h.size))
    have SA := Lib.hid (fun (w' : World) (u : Value) (h : Below w.heap.size w w') (hu : ExV w' w'.heap.size u e.bare.ex) => imSame_any e.bare.ex (.mk k n s l) u _ w' hu ((hv.keep h (Nat.le_refl _)).more h.size))
    have hdd : decide (e.bare.ex = Ex.mk k n s l) = plainE e := by
      rw [he]
      by_cases h : plainE e = true
      · rw [h, decide_eq_true (by rw [bare_plainE e h])]
      · rw [Bool.not_eq_true] at h
        rw [h]
        exact decide_eq_false (fun e2 => by rw [plainE_iff.2 (E.ex_inj e2)] at h; cases h)
    have HB := Lib.hid (show exPlB (.mk k n s l) = plainE e by rw [he]; exact exPlB_ok heok)
    rw [hdd] at SA
    rw [hok] at OK
    clear hv hkv hs hok hdd hE
    generalize plainE e = pe at *
    go_enter Tryz.func93, Tryz.ntmps93
    go_upto_region 1 with fail
    generalize hW : World.alloc w _ = W0
    have hb0 : Below w.heap.size w W0 := by rw [← hW]; (repeat (first | with_reducible assumption | with_reducible exact Below.refl _ _ | with_reducible refine Below.setCell ?_ (by first | omega | (simp; done) | (simp; omega)) _ | with_reducible refine Below.alloc ?_ (by first | omega | (simp; done) | (simp; omega)) _ | with_reducible refine below_drewN ?_ _ | with_reducible refine Below.drew ?_))
    have hB0 : Blk W0 w.heap.size 24 #[.int .i64 k, .int .i64 n, .string (bs s), .slice A l.length c] := by rw [← hW]; exact Blk.new _ _ _
    clear hW
    have hz0 := hB0.lt
    have KEEP := Lib.hid (show ∀ w' : World, Below W0.heap.size W0 w' → (w'.cell? ⟨w.heap.size, 0, none⟩ = some (.int .i64 k) ∧ w'.cell? ⟨w.heap.size, 1, none⟩ = some (.int .i64 n) ∧ w'.cell? ⟨w.heap.size, 2, none⟩ = some (.string (bs s)) ∧ w'.cell? ⟨w.heap.size, 3, none⟩ = some (.slice A l.length c)) from
      fun w' h => ⟨((hB0.below h hz0).cell 0), ((hB0.below h hz0).cell 1), ((hB0.below h hz0).cell 2), ((hB0.below h hz0).cell 3)⟩)
    obtain ⟨a0, a1, a2, a3⟩ := KEEP.out W0 (Below.refl _ _)
    clear hB0
    go_region_held3 (fun w' => w'.cell? ⟨w.heap.size, 0, none⟩ = some (.int .i64 k) ∧ w'.cell? ⟨w.heap.size, 1, none⟩ = some (.int .i64 n) ∧ w'.cell? ⟨w.heap.size, 2, none⟩ = some (.string (bs s)) ∧ w'.cell? ⟨w.heap.size, 3, none⟩ = some (.slice A l.length c))
      (first | exact KEEP.out _ (by (repeat (first | with_reducible assumption | with_reducible exact Below.refl _ _ | with_reducible refine Below.setCell ?_ (by first | omega | (simp; done) | (simp; omega)) _ | with_reducible refine Below.alloc ?_ (by first | omega | (simp; done) | (simp; omega)) _ | with_reducible refine below_drewN ?_ _ | with_reducible refine Below.drew ?_ | with_reducible refine Below.trans ?_ (Below.mono hb2 (by first | omega | (simp; done) | (simp; omega))) | with_reducible refine Below.trans ?_ (Below.mono hb3 (by first | omega | (simp; done) | (simp; omega))) | with_reducible refine Below.trans ?_ (Below.mono hb4 (by first | omega | (simp; done) | (simp; omega)))))) | go_keep)
      (first
        | (go_at_call 67; refine (OK.out _ (by (repeat (first | with_reducible assumption | with_reducible exact Below.refl _ _ | with_reducible refine Below.setCell ?_ (by first | omega | (simp; done) | (simp; omega)) _ | with_reducible refine Below.alloc ?_ (by first | omega | (simp; done) | (simp; omega)) _ | with_reducible refine below_drewN ?_ _ | with_reducible refine Below.drew ?_ | with_reducible refine Below.trans ?_ (Below.mono hb0 (by first | omega | (simp; done) | (simp; omega))))))).mono ?_; rintro r w2 ⟨rfl, hb2⟩; have hz2 := hb2.size; (try simp at hz2))
        | (go_at_call 142; refine (BA.out _ (by (repeat (first | with_reducible assumption | with_reducible exact Below.refl _ _ | with_reducible refine Below.setCell ?_ (by first | omega | (simp; done) | (simp; omega)) _ | with_reducible refine Below.alloc ?_ (by first | omega | (simp; done) | (simp; omega)) _ | with_reducible refine below_drewN ?_ _ | with_reducible refine Below.drew ?_ | with_reducible refine Below.trans ?_ (Below.mono hb2 (by first | omega | (simp; done) | (simp; omega))) | with_reducible refine Below.trans ?_ (Below.mono hb0 (by first | omega | (simp; done) | (simp; omega))))))).mono ?_; rintro r w3 ⟨u3, rfl, hT3, hb3⟩; have hz3 := hb3.size; (try simp at hz3); have hX3 := Lib.hid hT3.exv; obtain ⟨A3, c3, rfl, _, _, _⟩ := hT3.form; clear hT3)
        | (go_at_call 72; refine (SA.out _ _ (by (repeat (first | with_reducible assumption | with_reducible exact Below.refl _ _ | with_reducible refine Below.setCell ?_ (by first | omega | (simp; done) | (simp; omega)) _ | with_reducible refine Below.alloc ?_ (by first | omega | (simp; done) | (simp; omega)) _ | with_reducible refine below_drewN ?_ _ | with_reducible refine Below.drew ?_ | with_reducible refine Below.trans ?_ (Below.mono hb3 (by first | omega | (simp; done) | (simp; omega))) | with_reducible refine Below.trans ?_ (Below.mono hb2 (by first | omega | (simp; done) | (simp; omega))) | with_reducible refine Below.trans ?_ (Below.mono hb0 (by first | omega | (simp; done) | (simp; omega)))))) (hX3.out.ext (by (repeat (first | with_reducible assumption | with_reducible exact Below.refl _ _ | with_reducible refine Below.setCell ?_ (by first | omega | (simp; done) | (simp; omega)) _ | with_reducible refine Below.alloc ?_ (by first | omega | (simp; done) | (simp; omega)) _ | with_reducible refine below_drewN ?_ _ | with_reducible refine Below.drew ?_))))).mono ?_; rintro r w4 ⟨rfl, hb4⟩; have hz4 := hb4.size; (try simp at hz4))
        | fail)
    all_goals
      go_wp2_with fail
      go_ret
      exact ⟨ret_bool (by first | exact HB.out.symm | simp [HB.out]), by (repeat (first | with_reducible assumption | with_reducible exact Below.refl _ _ | with_reducible refine Below.setCell ?_ (by first | omega | (simp; done) | (simp; omega)) _ | with_reducible refine Below.alloc ?_ (by first | omega | (simp; done) | (simp; omega)) _ | with_reducible refine below_drewN ?_ _ | with_reducible refine Below.drew ?_ | with_reducible refine Below.trans ?_ (Below.mono hb4 (by first | omega | (simp; done) | (simp; omega))) | with_reducible refine Below.trans ?_ (Below.mono hb3 (by first | omega | (simp; done) | (simp; omega))) | with_reducible refine Below.trans ?_ (Below.mono hb2 (by first | omega | (simp; done) | (simp; omega))) | with_reducible refine Below.trans ?_ (Below.mono hb0 (by first | omega | (simp; done) | (simp; omega)))))⟩
/-- what has no types, asked of the reference -/
def SpPl (x : Ex) (b : Bool) : Prop := ∀ (v : Value) (w : World), ExV w w.heap.size v x → Calls Tryz.prog 140 #[v] w fun r w' => r = .returned (.bool b) ∧ Below w.heap.size w w'
theorem l7Pl_cast (n : Int) (s : Bytes) (xs : List Ex) : SpPl (.mk 4 n s xs) false := by
  intro v w hv
  obtain ⟨k', n', s', A, c, l, e, rfl, hs, hc, hcm, hkv⟩ := hv.form
  obtain ⟨rfl, rfl, rfl, rfl⟩ := Ex.mk.inj e
  clear hv hkv
  go_enter Tryz.func140, Tryz.ntmps140
  go_wp2_with fail
  go_ret
  exact ⟨rfl, by (repeat (first | with_reducible assumption | with_reducible exact Below.refl _ _ | with_reducible refine Below.setCell ?_ (by first | omega | (simp; done) | (simp; omega)) _ | with_reducible refine Below.alloc ?_ (by first | omega | (simp; done) | (simp; omega)) _ | with_reducible refine below_drewN ?_ _ | with_reducible refine Below.drew ?_))⟩
set_option maxHeartbeats 2000000 in
theorem l7Pl_list (k n : Int) (s : Bytes) (xs : List Ex) (ys : List Bool) (hk : k ≠ 4) (hl : xs.length = ys.length) (hm : xs.length ≤ 1000) (IH : ∀ (i : Nat) (x : Ex) (y : Bool), xs[i]? = some x → ys[i]? = some y → SpPl x y) : SpPl (.mk k n s xs) (ys.all id) := by
  intro v w hv
  obtain ⟨k', n', s', A, c, l, e, rfl, hs, hc, hcm, hkv⟩ := hv.form
  obtain ⟨rfl, rfl, rfl, rfl⟩ := Ex.mk.inj e
  have HI := Lib.hid (And.intro IH hl)
  have hk4 : (k == 4) = false := by simpa using hk
  clear IH hk hl hs hv
  go_enter Tryz.func140, Tryz.ntmps140
  go_wp2_with fail
  go_loopg [3] xs.length (fun m i wr => ∃ (j : Nat), m = xs.length - j ∧ j ≤ xs.length ∧ i = .int .i64 j ∧ (ys.take j).all id = true ∧ Blk wr w.heap.size 24 #[.int .i64 k, .int .i64 n, .string (bs s), .slice A xs.length c] ∧ Below w.heap.size w wr)
  case atStart => exact ⟨0, by omega, by omega, rfl, by simp, Blk.new _ _ _, by (repeat (first | with_reducible assumption | with_reducible exact Below.refl _ _ | with_reducible refine Below.setCell ?_ (by first | omega | (simp; done) | (simp; omega)) _ | with_reducible refine Below.alloc ?_ (by first | omega | (simp; done) | (simp; omega)) _ | with_reducible refine below_drewN ?_ _ | with_reducible refine Below.drew ?_))⟩
  case round =>
    obtain ⟨j, hm2, hj, rfl, hall, hB0, hbl⟩ := hrel
    have HK := Lib.hid hm2
    clear hm2
    have b03 := hB0.cell 3
    simp at b03
    have hz := hB0.lt
    by_cases hlt : j < xs.length
    · obtain ⟨b, o, p1, q1, s1, A1, c1, m1, rfl, hb, hg, hs1, hm1, hc1, hk1, f0, f1, f2, f3⟩ := ex_at hkv hlt
      have g0 := f0 ⟨wr, hbl⟩; have g1 := f1 ⟨wr, hbl⟩; have g2 := f2 ⟨wr, hbl⟩; have g3 := f3 ⟨wr, hbl⟩
      obtain ⟨y, hy⟩ : ∃ y, ys[j]? = some y := ⟨_, List.getElem?_eq_getElem (by have := HI.out.2; omega)⟩
      have IH := Lib.hid (fun (w' : World) (h : Below w.heap.size w w') => HI.out.1 j _ y hg hy (.agg #[.int .i64 p1, .int .i64 q1, .string (bs s1), .slice A1 m1.length c1]) w' ⟨_, rfl, by rw [bs_size] at hs1; exact hs1, (hk1.keep h (Nat.le_refl _)).more h.size⟩)
      have HA := Lib.hid (And.intro hall hy)
      clear f0 f1 f2 f3 hg hy hk1 hkv hall
      cases y
      · go_wp2_with fail
        refine (IH.out _ hbl).mono ?_
        rintro r w2 ⟨rfl, hb2⟩
        go_wp2_with fail
        go_ret
        refine ⟨ret_bool ?_, by (repeat (first | with_reducible assumption | with_reducible exact Below.refl _ _ | with_reducible refine Below.setCell ?_ (by first | omega | (simp; done) | (simp; omega)) _ | with_reducible refine Below.alloc ?_ (by first | omega | (simp; done) | (simp; omega)) _ | with_reducible refine below_drewN ?_ _ | with_reducible refine Below.drew ?_ | with_reducible refine Below.trans ?_ (Below.mono hb2 (by first | omega | (simp; done) | (simp; omega))) | with_reducible refine Below.trans ?_ (Below.mono hbl (by first | omega | (simp; done) | (simp; omega)))))⟩
        rw [eq_comm, Bool.eq_false_iff]
        intro h2
        have := List.all_eq_true.1 h2 false (List.mem_of_getElem? HA.out.2)
        simp at this
      · go_wp2_with fail
        refine (IH.out _ hbl).mono ?_
        rintro r w2 ⟨rfl, hb2⟩
        have hB2 := hB0.below hb2 hz
        go_wp2_with fail
        go_roundg (xs.length - (j + 1))
        case measure => have := HK.out; omega
        case rel =>
          refine ⟨j + 1, rfl, by omega, by go_num, ?_, hB2, by (repeat (first | with_reducible assumption | with_reducible exact Below.refl _ _ | with_reducible refine Below.setCell ?_ (by first | omega | (simp; done) | (simp; omega)) _ | with_reducible refine Below.alloc ?_ (by first | omega | (simp; done) | (simp; omega)) _ | with_reducible refine below_drewN ?_ _ | with_reducible refine Below.drew ?_ | with_reducible refine Below.trans ?_ (Below.mono hb2 (by first | omega | (simp; done) | (simp; omega))) | with_reducible refine Below.trans ?_ (Below.mono hbl (by first | omega | (simp; done) | (simp; omega)))))⟩
          rw [List.take_add_one, HA.out.2, List.all_append, HA.out.1]
          rfl
    · obtain rfl : j = xs.length := by omega
      rw [HI.out.2, List.take_length] at hall
      have HA := Lib.hid hall
      clear hall
      go_wp2_with fail
      go_ret
      exact ⟨ret_bool HA.out.symm, hbl⟩
theorem l7Pl_any : ∀ e : E, SpPl e.ex (plainE e)
  | .num n => l7Pl_list 1 n [] [] [] (by decide) rfl (by simp) (fun i x y h => by simp at h)
  | .nam s => l7Pl_list 2 0 s [] [] (by decide) rfl (by simp) (fun i x y h => by simp at h)
  | .two o a b => by
    have h := l7Pl_list 3 0 o.b [a.ex, b.ex] [plainE a, plainE b] (by decide) rfl (by simp) (fun i x y h1 h2 => by
      rcases i with _ | _ | i
      · simp at h1 h2; subst h1 h2; exact l7Pl_any a
      · simp at h1 h2; subst h1 h2; exact l7Pl_any b
      · simp at h1)
    simpa [plainE, E.ex] using h
  | .cast t a => l7Pl_cast 0 (tyB t) [a.ex]
theorem spPlain_any (x : Ex) (v : Value) (w : World) (hv : ExV w w.heap.size v x) : Calls Tryz.prog 90 #[v] w fun r w' => r = .returned (.bool (exPlB x)) ∧ Below w.heap.size w w' := by
  obtain ⟨k, n, s, A, c, l, rfl, rfl, hs, hc, hcm, hkv⟩ := id hv.form
  have OK := Lib.hid (fun (w' : World) (h : Below w.heap.size w w') => spOk_any (.mk k n s l) _ w' ((hv.keep h (Nat.le_refl _)).more h.size))
  cases hok : exOkB (.mk k n s l)
  · rw [hok] at OK
    have HB := Lib.hid (exPlB_no hok)
    clear hv hkv hs hok
    go_enter Tryz.func90, Tryz.ntmps90
    go_wp2_with fail
    refine (OK.out _ (by (repeat (first | with_reducible assumption | with_reducible exact Below.refl _ _ | with_reducible refine Below.setCell ?_ (by first | omega | (simp; done) | (simp; omega)) _ | with_reducible refine Below.alloc ?_ (by first | omega | (simp; done) | (simp; omega)) _ | with_reducible refine below_drewN ?_ _ | with_reducible refine Below.drew ?_)))).mono ?_
    rintro r w2 ⟨rfl, hb2⟩
    go_wp2_with fail
    go_ret
    exact ⟨ret_bool HB.out.symm, by (repeat (first | with_reducible assumption | with_reducible exact Below.refl _ _ | with_reducible refine Below.setCell ?_ (by first | omega | (simp; done) | (simp; omega)) _ | with_reducible refine Below.alloc ?_ (by first | omega | (simp; done) | (simp; omega)) _ | with_reducible refine below_drewN ?_ _ | with_reducible refine Below.drew ?_ | with_reducible refine Below.trans ?_ (Below.mono hb2 (by first | omega | (simp; done) | (simp; omega)))))⟩
  · obtain ⟨e, he, heok⟩ := E.ok_iff.1 hok
    have PL := Lib.hid (fun (w' : World) (h : Below w.heap.size w w') => l7Pl_any e (.agg #[.int .i64 k, .int .i64 n, .string (bs s), .slice A l.length c]) w' (by rw [← he]; exact (hv.keep h (Nat.le_refl _)).more h.size))
    have HB := Lib.hid (show exPlB (.mk k n s l) = plainE e by rw [he]; exact exPlB_ok heok)
    rw [hok] at OK
    clear hv hkv hs hok
    generalize plainE e = pe at *
    go_enter Tryz.func90, Tryz.ntmps90
    go_wp2_with fail
    refine (OK.out _ (by (repeat (first | with_reducible assumption | with_reducible exact Below.refl _ _ | with_reducible refine Below.setCell ?_ (by first | omega | (simp; done) | (simp; omega)) _ | with_reducible refine Below.alloc ?_ (by first | omega | (simp; done) | (simp; omega)) _ | with_reducible refine below_drewN ?_ _ | with_reducible refine Below.drew ?_)))).mono ?_
    rintro r w2 ⟨rfl, hb2⟩
    have hz2 := hb2.size
    (try simp at hz2)
    have k1_0 := fun o => hb2.cell (p := ⟨w.heap.size, o, none⟩) (by first | omega | (simp; done) | (simp; omega)); have k1f_0 := fun o => hb2.frozen (p := ⟨w.heap.size, o, none⟩) (by first | omega | (simp; done) | (simp; omega))
    go_wp2_with fail
    refine (PL.out _ (by (repeat (first | with_reducible assumption | with_reducible exact Below.refl _ _ | with_reducible refine Below.setCell ?_ (by first | omega | (simp; done) | (simp; omega)) _ | with_reducible refine Below.alloc ?_ (by first | omega | (simp; done) | (simp; omega)) _ | with_reducible refine below_drewN ?_ _ | with_reducible refine Below.drew ?_ | with_reducible refine Below.trans ?_ (Below.mono hb2 (by first | omega | (simp; done) | (simp; omega))))))).mono ?_
    rintro r w3 ⟨rfl, hb3⟩
    go_wp2_with fail
    go_ret
    exact ⟨ret_bool (by first | exact HB.out.symm | simp [HB.out]), by (repeat (first | with_reducible assumption | with_reducible exact Below.refl _ _ | with_reducible refine Below.setCell ?_ (by first | omega | (simp; done) | (simp; omega)) _ | with_reducible refine Below.alloc ?_ (by first | omega | (simp; done) | (simp; omega)) _ | with_reducible refine below_drewN ?_ _ | with_reducible refine Below.drew ?_ | with_reducible refine Below.trans ?_ (Below.mono hb3 (by first | omega | (simp; done) | (simp; omega))) | with_reducible refine Below.trans ?_ (Below.mono hb2 (by first | omega | (simp; done) | (simp; omega)))))⟩
end Go.Proofs.YtgakjhaepdigpaaGreatDoor
