
/- Lines without types: the reference's words. -/
import Derived.Test.YtgakjhaepdigpaaGreatDoorStSp
import Derived.Test.YtgakjhaepdigpaaGreatDoorBe
namespace Go.Proofs.YtgakjhaepdigpaaGreatDoor
set_option maxRecDepth 100000
set_option linter.unusedSimpArgs false
set_option linter.unusedVariables false
open Go.RowKit
attribute [local go_sem] bs_toList bs_get bs_size

theorem spL7_let (nm : Bytes) (e : E) (v : Value) (w : World) (hnm : nm.length ≤ 8) (hok : e.Ok) (hv : BrV w w.heap.size v (BE.slet nm e).br) :
    Calls Tryz.prog 91 #[v] w fun r w' => ∃ u, r = .returned u ∧ GtS w.heap.size w' u (BE.slet nm e).words ∧ Below w.heap.size w w' := by
  obtain ⟨A1, A2, c1, c2, rfl, hn, hE1, hE2⟩ := hv
  simp only [BE.br] at hn hE1 hE2 ⊢
  have hpos := E.words_pos e 1
  have hlen := E.words_len e 1
  have hcn := hok.2.2
  have IH := Lib.hid (fun (w' : World) (h : Below w.heap.size w w') => spWords1 e _ w' hok ((hE1.keep h (Nat.le_refl _)).more h.size))
  have hww : (BE.slet nm e).words = [nm, [61]] ++ e.words 1 := rfl
  have HWW := Lib.hid hww
  clear hE1 hE2 hok hww
  generalize e.words 1 = wa at *
  go_enter Tryz.func91, Tryz.ntmps91
  go_wp2_with fail
  generalize hW : World.alloc w _ = W0
  have hb0 : Below w.heap.size w W0 := by rw [← hW]; (repeat (first | with_reducible assumption | with_reducible exact Below.refl _ _ | with_reducible refine Below.setCell ?_ (by first | omega | (simp; done) | (simp; omega)) _ | with_reducible refine Below.alloc ?_ (by first | omega | (simp; done) | (simp; omega)) _ | with_reducible refine below_drewN ?_ _ | with_reducible refine Below.drew ?_))
  have hz0 : w.heap.size < W0.heap.size := by rw [← hW]; simp
  have q1 : W0.cell? ⟨w.heap.size, 1, none⟩ = some (.string (bs nm)) := by rw [← hW]; simp [go_sem]
  have q2 : W0.cell? ⟨w.heap.size, 2, none⟩ = some (.int .i64 e.ex.kind) := by rw [← hW]; simp [go_sem]
  have q3 : W0.cell? ⟨w.heap.size, 3, none⟩ = some (.int .i64 e.ex.n) := by rw [← hW]; simp [go_sem]
  have q4 : W0.cell? ⟨w.heap.size, 4, none⟩ = some (.string (bs e.ex.s)) := by rw [← hW]; simp [go_sem]
  have q5 : W0.cell? ⟨w.heap.size, 5, none⟩ = some (.slice A1 e.ex.kids.length c1) := by rw [← hW]; simp [go_sem]
  clear hW
  go_region_held3 (fun w' => w'.cell? ⟨w.heap.size, 1, none⟩ = some (.string (bs nm)) ∧ w'.cell? ⟨w.heap.size, 2, none⟩ = some (.int .i64 e.ex.kind) ∧ w'.cell? ⟨w.heap.size, 3, none⟩ = some (.int .i64 e.ex.n) ∧ w'.cell? ⟨w.heap.size, 4, none⟩ = some (.string (bs e.ex.s)) ∧ w'.cell? ⟨w.heap.size, 5, none⟩ = some (.slice A1 e.ex.kids.length c1))
    (first | go_keep | exact ⟨((show Below W0.heap.size W0 _ from by (repeat (first | with_reducible assumption | with_reducible exact Below.refl _ _ | with_reducible refine Below.setCell ?_ (by first | omega | (simp; done) | (simp; omega)) _ | with_reducible refine Below.alloc ?_ (by first | omega | (simp; done) | (simp; omega)) _ | with_reducible refine below_drewN ?_ _ | with_reducible refine Below.drew ?_ | with_reducible refine Below.trans ?_ (Below.mono hb2 (by first | omega | (simp; done) | (simp; omega))) | with_reducible refine below_app ?_ hgr3 (by intro q hq; simp [Value.ownBlock] at hq; omega) (by first | omega | (simp; done) | (simp; omega))))).cell (p := ⟨w.heap.size, 1, none⟩) hz0).trans q1, ((show Below W0.heap.size W0 _ from by (repeat (first | with_reducible assumption | with_reducible exact Below.refl _ _ | with_reducible refine Below.setCell ?_ (by first | omega | (simp; done) | (simp; omega)) _ | with_reducible refine Below.alloc ?_ (by first | omega | (simp; done) | (simp; omega)) _ | with_reducible refine below_drewN ?_ _ | with_reducible refine Below.drew ?_ | with_reducible refine Below.trans ?_ (Below.mono hb2 (by first | omega | (simp; done) | (simp; omega))) | with_reducible refine below_app ?_ hgr3 (by intro q hq; simp [Value.ownBlock] at hq; omega) (by first | omega | (simp; done) | (simp; omega))))).cell (p := ⟨w.heap.size, 2, none⟩) hz0).trans q2, ((show Below W0.heap.size W0 _ from by (repeat (first | with_reducible assumption | with_reducible exact Below.refl _ _ | with_reducible refine Below.setCell ?_ (by first | omega | (simp; done) | (simp; omega)) _ | with_reducible refine Below.alloc ?_ (by first | omega | (simp; done) | (simp; omega)) _ | with_reducible refine below_drewN ?_ _ | with_reducible refine Below.drew ?_ | with_reducible refine Below.trans ?_ (Below.mono hb2 (by first | omega | (simp; done) | (simp; omega))) | with_reducible refine below_app ?_ hgr3 (by intro q hq; simp [Value.ownBlock] at hq; omega) (by first | omega | (simp; done) | (simp; omega))))).cell (p := ⟨w.heap.size, 3, none⟩) hz0).trans q3, ((show Below W0.heap.size W0 _ from by (repeat (first | with_reducible assumption | with_reducible exact Below.refl _ _ | with_reducible refine Below.setCell ?_ (by first | omega | (simp; done) | (simp; omega)) _ | with_reducible refine Below.alloc ?_ (by first | omega | (simp; done) | (simp; omega)) _ | with_reducible refine below_drewN ?_ _ | with_reducible refine Below.drew ?_ | with_reducible refine Below.trans ?_ (Below.mono hb2 (by first | omega | (simp; done) | (simp; omega))) | with_reducible refine below_app ?_ hgr3 (by intro q hq; simp [Value.ownBlock] at hq; omega) (by first | omega | (simp; done) | (simp; omega))))).cell (p := ⟨w.heap.size, 4, none⟩) hz0).trans q4, ((show Below W0.heap.size W0 _ from by (repeat (first | with_reducible assumption | with_reducible exact Below.refl _ _ | with_reducible refine Below.setCell ?_ (by first | omega | (simp; done) | (simp; omega)) _ | with_reducible refine Below.alloc ?_ (by first | omega | (simp; done) | (simp; omega)) _ | with_reducible refine below_drewN ?_ _ | with_reducible refine Below.drew ?_ | with_reducible refine Below.trans ?_ (Below.mono hb2 (by first | omega | (simp; done) | (simp; omega))) | with_reducible refine below_app ?_ hgr3 (by intro q hq; simp [Value.ownBlock] at hq; omega) (by first | omega | (simp; done) | (simp; omega))))).cell (p := ⟨w.heap.size, 5, none⟩) hz0).trans q5⟩)
    (first
      | (go_at_call 116; refine (IH.out _ (by (repeat (first | with_reducible assumption | with_reducible exact Below.refl _ _ | with_reducible refine Below.setCell ?_ (by first | omega | (simp; done) | (simp; omega)) _ | with_reducible refine Below.alloc ?_ (by first | omega | (simp; done) | (simp; omega)) _ | with_reducible refine below_drewN ?_ _ | with_reducible refine Below.drew ?_ | with_reducible refine Below.trans ?_ (Below.mono hb0 (by first | omega | (simp; done) | (simp; omega))))))).mono ?_; rintro r w2 ⟨u2, rfl, hG2, hb2⟩; have hz2 := hb2.size; (try simp at hz2); obtain ⟨gg2, cap2, rfl, hgl2, hgh2⟩ := hG2.block hpos)
      | (refine aps_step (by rfl) (.tmp 10) (.tmp 13) (by rfl) w.heap.size (.slice (some ⟨w2.heap.size, 0, none⟩) 2 2) [nm, [61]] (by rfl) ?_ ⟨gg2, 0, none⟩ cap2 wa (by rfl) ?_ hpos ?_ ?_ ?_; exact Gt.laid (w' := w2) _ _ rfl rfl _ rfl (by first | omega | (simp; done) | (simp only [List.length_cons, List.length_nil, List.length_append]; omega) | (simp; omega)) (fun _ => rfl) (by first | omega | (simp; done) | (simp only [List.length_cons, List.length_nil, List.length_append]; omega) | (simp; omega)) rfl (by omega); exact (hG2.ext (by (repeat (first | with_reducible assumption | with_reducible exact Below.refl _ _ | with_reducible refine Below.setCell ?_ (by first | omega | (simp; done) | (simp; omega)) _ | with_reducible refine Below.alloc ?_ (by first | omega | (simp; done) | (simp; omega)) _ | with_reducible refine below_drewN ?_ _ | with_reducible refine Below.drew ?_)))).cells; (first | omega | (simp; done) | (simp only [List.length_cons, List.length_nil, List.length_append]; omega) | (simp; omega)); (first | omega | (simp; done) | (simp only [List.length_cons, List.length_nil, List.length_append]; omega) | (simp; omega)); intro g3' cap3 w3 hG3 hgr3 hat3)
      | (refine aps_step (by rfl) (.tmp 10) (.tmp 13) (by rfl) w.heap.size (.slice (some ⟨W0.heap.size, 0, none⟩) 2 2) [nm, [61]] (by rfl) ?_ ⟨gg2, 0, none⟩ cap2 wa (by rfl) ?_ hpos ?_ ?_ ?_; exact Gt.laid (w' := W0) _ _ rfl rfl _ rfl (by first | omega | (simp; done) | (simp only [List.length_cons, List.length_nil, List.length_append]; omega) | (simp; omega)) (fun _ => rfl) (by first | omega | (simp; done) | (simp only [List.length_cons, List.length_nil, List.length_append]; omega) | (simp; omega)) (hb2.block W0.heap.size (by simp)) (by omega); exact hG2.cells; (first | omega | (simp; done) | (simp only [List.length_cons, List.length_nil, List.length_append]; omega) | (simp; omega)); (first | omega | (simp; done) | (simp only [List.length_cons, List.length_nil, List.length_append]; omega) | (simp; omega)); intro g3' cap3 w3 hG3 hgr3 hat3)
      | fail)
  all_goals
    go_wp2_with fail
    go_ret
    exact ⟨_, rfl, by rw [HWW.out]; exact hG3, by (repeat (first | with_reducible assumption | with_reducible exact Below.refl _ _ | with_reducible refine Below.setCell ?_ (by first | omega | (simp; done) | (simp; omega)) _ | with_reducible refine Below.alloc ?_ (by first | omega | (simp; done) | (simp; omega)) _ | with_reducible refine below_drewN ?_ _ | with_reducible refine Below.drew ?_ | with_reducible refine Below.trans ?_ (Below.mono hb2 (by first | omega | (simp; done) | (simp; omega))) | with_reducible refine Below.trans ?_ (Below.mono hb0 (by first | omega | (simp; done) | (simp; omega))) | with_reducible refine below_app ?_ hgr3 (by intro q hq; simp [Value.ownBlock] at hq; omega) (by first | omega | (simp; done) | (simp; omega))))⟩
theorem spL7_none (v : Value) (w : World) (hv : BrV w w.heap.size v BE.none.br) :
    Calls Tryz.prog 91 #[v] w fun r w' => ∃ u, r = .returned u ∧ GtS w.heap.size w' u BE.none.words ∧ Below w.heap.size w w' := by
  obtain ⟨A1, A2, c1, c2, rfl, hn, hE1, hE2⟩ := hv
  simp only [BE.br] at hn hE1 hE2 ⊢
  clear hE1 hE2
  go_enter Tryz.func91, Tryz.ntmps91
  go_wp2_with fail
  go_ret
  refine ⟨_, rfl, ?_, by (repeat (first | with_reducible assumption | with_reducible exact Below.refl _ _ | with_reducible refine Below.setCell ?_ (by first | omega | (simp; done) | (simp; omega)) _ | with_reducible refine Below.alloc ?_ (by first | omega | (simp; done) | (simp; omega)) _ | with_reducible refine below_drewN ?_ _ | with_reducible refine Below.drew ?_))⟩
  have h := gt_empty strRow 1 9 (B := w.heap.size) (w.alloc (.cells #[.int .i64 0, .string (bs []), .int .i64 Ex.none.kind, .int .i64 Ex.none.n, .string (bs Ex.none.s), .slice A1 Ex.none.kids.length c1, .int .i64 Ex.none.kind, .int .i64 Ex.none.n, .string (bs Ex.none.s), .slice A2 Ex.none.kids.length c2] 61)) _ (by simp) (Below.refl _ _)
  rw [World.size_alloc] at h
  exact h
theorem spL7_say (e : E) (v : Value) (w : World) (hok : e.Ok) (hv : BrV w w.heap.size v (BE.say e).br) :
    Calls Tryz.prog 91 #[v] w fun r w' => ∃ u, r = .returned u ∧ GtS w.heap.size w' u (BE.say e).words ∧ Below w.heap.size w w' := by
  obtain ⟨A1, A2, c1, c2, rfl, hn, hE1, hE2⟩ := hv
  simp only [BE.br] at hn hE1 hE2 ⊢
  have hpos := E.words_pos e 1
  have hlen := E.words_len e 1
  have hcn := hok.2.2
  have IH := Lib.hid (fun (w' : World) (h : Below w.heap.size w w') => spWords1 e _ w' hok ((hE1.keep h (Nat.le_refl _)).more h.size))
  have hww : (BE.say e).words = [cPrint] ++ e.words 1 := rfl
  have HWW := Lib.hid hww
  clear hE1 hE2 hok hww
  generalize e.words 1 = wa at *
  go_enter Tryz.func91, Tryz.ntmps91
  go_wp2_with fail
  generalize hW : World.alloc w _ = W0
  have hb0 : Below w.heap.size w W0 := by rw [← hW]; (repeat (first | with_reducible assumption | with_reducible exact Below.refl _ _ | with_reducible refine Below.setCell ?_ (by first | omega | (simp; done) | (simp; omega)) _ | with_reducible refine Below.alloc ?_ (by first | omega | (simp; done) | (simp; omega)) _ | with_reducible refine below_drewN ?_ _ | with_reducible refine Below.drew ?_))
  have hz0 : w.heap.size < W0.heap.size := by rw [← hW]; simp
  have HZ0 := Lib.hid (show w.heap.size + 1 = W0.heap.size by rw [← hW]; simp)
  clear hW
  refine (IH.out _ (by (repeat (first | with_reducible assumption | with_reducible exact Below.refl _ _ | with_reducible refine Below.setCell ?_ (by first | omega | (simp; done) | (simp; omega)) _ | with_reducible refine Below.alloc ?_ (by first | omega | (simp; done) | (simp; omega)) _ | with_reducible refine below_drewN ?_ _ | with_reducible refine Below.drew ?_ | with_reducible refine Below.trans ?_ (Below.mono hb0 (by first | omega | (simp; done) | (simp; omega))))))).mono ?_
  rintro r w2 ⟨u2, rfl, hG2, hb2⟩
  have hz2 := hb2.size
  (try simp at hz2)
  obtain ⟨gg2, cap2, rfl, hgl2, hgh2⟩ := hG2.block hpos
  go_wp2_with (first | (at_builtin; refine aps_plain (by rfl) (.tmp 17) (.tmp 20) (by rfl) w.heap.size (.slice (some ⟨w.heap.size + 1, 0, none⟩) 1 1) [cPrint] (by rfl) ?_ ⟨gg2, 0, none⟩ cap2 wa (by rfl) hG2.cells hpos (by first | omega | (simp; done) | (simp only [List.length_cons, List.length_nil, List.length_append]; omega) | (simp; omega)) (by first | omega | (simp; done) | (simp only [List.length_cons, List.length_nil, List.length_append]; omega) | (simp; omega)) ?_; exact Gt.laid (w' := W0) _ _ HZ0.out rfl _ rfl (by first | omega | (simp; done) | (simp only [List.length_cons, List.length_nil, List.length_append]; omega) | (simp; omega)) (fun _ => rfl) (by first | omega | (simp; done) | (simp only [List.length_cons, List.length_nil, List.length_append]; omega) | (simp; omega)) (hb2.block W0.heap.size (by simp)) (by omega); intro g3' cap3 w3 hG3 hgr3 hat3) | fail)
  go_ret
  exact ⟨_, rfl, by rw [HWW.out]; exact hG3.len (by first | omega | (simp; done) | (simp only [List.length_cons, List.length_nil, List.length_append]; omega) | (simp; omega)) rfl, by (repeat (first | with_reducible assumption | with_reducible exact Below.refl _ _ | with_reducible refine Below.setCell ?_ (by first | omega | (simp; done) | (simp; omega)) _ | with_reducible refine Below.alloc ?_ (by first | omega | (simp; done) | (simp; omega)) _ | with_reducible refine below_drewN ?_ _ | with_reducible refine Below.drew ?_ | with_reducible refine Below.trans ?_ (Below.mono hb2 (by first | omega | (simp; done) | (simp; omega))) | with_reducible refine Below.trans ?_ (Below.mono hb0 (by first | omega | (simp; done) | (simp; omega))) | with_reducible refine below_app ?_ hgr3 (by intro q hq; simp [Value.ownBlock] at hq; omega) (by first | omega | (simp; done) | (simp; omega))))⟩
set_option maxHeartbeats 4000000 in
theorem spL7_when (e f : E) (v : Value) (w : World) (hok : e.Ok) (hof : f.Ok) (hv : BrV w w.heap.size v (BE.when e f).br) :
    Calls Tryz.prog 91 #[v] w fun r w' => ∃ u, r = .returned u ∧ GtS w.heap.size w' u (BE.when e f).words ∧ Below w.heap.size w w' := by
  obtain ⟨A1, A2, c1, c2, rfl, hn, hE1, hE2⟩ := hv
  simp only [BE.br] at hn hE1 hE2 ⊢
  have hpos := E.words_pos e 1
  have hlen := E.words_len e 1
  have hpos' := E.words_pos f 1
  have hlen' := E.words_len f 1
  have hcn := hok.2.2
  have hcn' := hof.2.2
  have IH := Lib.hid (fun (w' : World) (h : Below w.heap.size w w') => spWords1 e _ w' hok ((hE1.keep h (Nat.le_refl _)).more h.size))
  have IH2 := Lib.hid (fun (w' : World) (h : Below w.heap.size w w') => spWords1 f _ w' hof ((hE2.keep h (Nat.le_refl _)).more h.size))
  have hww : (BE.when e f).words = [cIf] ++ e.words 1 ++ [[58], cPrint] ++ f.words 1 := by simp [BE.words]
  have HWW := Lib.hid hww
  clear hE1 hE2 hok hof hww
  generalize e.words 1 = wa at *
  generalize f.words 1 = wb at *
  go_enter Tryz.func91, Tryz.ntmps91
  go_wp2_with fail
  generalize hW : World.alloc w _ = W0
  have hb0 : Below w.heap.size w W0 := by rw [← hW]; (repeat (first | with_reducible assumption | with_reducible exact Below.refl _ _ | with_reducible refine Below.setCell ?_ (by first | omega | (simp; done) | (simp; omega)) _ | with_reducible refine Below.alloc ?_ (by first | omega | (simp; done) | (simp; omega)) _ | with_reducible refine below_drewN ?_ _ | with_reducible refine Below.drew ?_))
  have hz0 : w.heap.size < W0.heap.size := by rw [← hW]; simp
  have HZ0 := Lib.hid (show w.heap.size + 1 = W0.heap.size by rw [← hW]; simp)
  have q6 : W0.cell? ⟨w.heap.size, 6, none⟩ = some (.int .i64 f.ex.kind) := by rw [← hW]; simp [go_sem]
  have q7 : W0.cell? ⟨w.heap.size, 7, none⟩ = some (.int .i64 f.ex.n) := by rw [← hW]; simp [go_sem]
  have q8 : W0.cell? ⟨w.heap.size, 8, none⟩ = some (.string (bs f.ex.s)) := by rw [← hW]; simp [go_sem]
  have q9 : W0.cell? ⟨w.heap.size, 9, none⟩ = some (.slice A2 f.ex.kids.length c2) := by rw [← hW]; simp [go_sem]
  have KEEP := Lib.hid (show ∀ w' : World, Below W0.heap.size W0 w' → (w'.cell? ⟨w.heap.size, 6, none⟩ = some (.int .i64 f.ex.kind) ∧ w'.cell? ⟨w.heap.size, 7, none⟩ = some (.int .i64 f.ex.n) ∧ w'.cell? ⟨w.heap.size, 8, none⟩ = some (.string (bs f.ex.s)) ∧ w'.cell? ⟨w.heap.size, 9, none⟩ = some (.slice A2 f.ex.kids.length c2)) from
    fun w' h => ⟨(h.cell (p := ⟨w.heap.size, 6, none⟩) hz0).trans q6, (h.cell (p := ⟨w.heap.size, 7, none⟩) hz0).trans q7, (h.cell (p := ⟨w.heap.size, 8, none⟩) hz0).trans q8, (h.cell (p := ⟨w.heap.size, 9, none⟩) hz0).trans q9⟩)
  clear hW q6 q7 q8 q9
  refine (IH.out _ (by (repeat (first | with_reducible assumption | with_reducible exact Below.refl _ _ | with_reducible refine Below.setCell ?_ (by first | omega | (simp; done) | (simp; omega)) _ | with_reducible refine Below.alloc ?_ (by first | omega | (simp; done) | (simp; omega)) _ | with_reducible refine below_drewN ?_ _ | with_reducible refine Below.drew ?_ | with_reducible refine Below.trans ?_ (Below.mono hb0 (by first | omega | (simp; done) | (simp; omega))))))).mono ?_
  rintro r w2 ⟨u2, rfl, hG2, hb2⟩
  have hz2 := hb2.size
  (try simp at hz2)
  obtain ⟨gg2, cap2, rfl, hgl2, hgh2⟩ := hG2.block hpos
  go_wp2_with (first | (at_builtin; refine aps_plain (by rfl) (.tmp 24) (.tmp 27) (by rfl) W0.heap.size (.slice (some ⟨w.heap.size + 1, 0, none⟩) 1 1) [cIf] (by rfl) ?_ ⟨gg2, 0, none⟩ cap2 wa (by rfl) hG2.cells hpos (by first | omega | (simp; done) | (simp only [List.length_cons, List.length_nil, List.length_append]; omega) | (simp; omega)) (by first | omega | (simp; done) | (simp only [List.length_cons, List.length_nil, List.length_append]; omega) | (simp; omega)) ?_; exact Gt.laid (w' := W0) _ _ HZ0.out rfl _ rfl (by first | omega | (simp; done) | (simp only [List.length_cons, List.length_nil, List.length_append]; omega) | (simp; omega)) (fun _ => rfl) (by first | omega | (simp; done) | (simp only [List.length_cons, List.length_nil, List.length_append]; omega) | (simp; omega)) (hb2.block W0.heap.size (by simp)) (by omega); intro g3' cap3 w3 hG3 hgr3 hat3) | fail)
  have HZ := HZ0.out
  have hlo3 : W0.heap.size ≤ g3' := (by rcases hat3 with h | h <;> (try simp [Value.ownBlock] at h) <;> omega)
  have hz3 := hgr3.size
  have hb3 : Below W0.heap.size W0 w3 := by (repeat (first | with_reducible assumption | with_reducible exact Below.refl _ _ | with_reducible refine Below.setCell ?_ (by first | omega | (simp; done) | (simp; omega)) _ | with_reducible refine Below.alloc ?_ (by first | omega | (simp; done) | (simp; omega)) _ | with_reducible refine below_drewN ?_ _ | with_reducible refine Below.drew ?_ | with_reducible refine Below.trans ?_ (Below.mono hb2 (by first | omega | (simp; done) | (simp; omega))) | with_reducible refine below_app ?_ hgr3 (by intro q hq; simp [Value.ownBlock] at hq; omega) (by first | omega | (simp; done) | (simp; omega))))
  clear HZ
  go_region_held3 (fun w' => w'.cell? ⟨w.heap.size, 6, none⟩ = some (.int .i64 f.ex.kind) ∧ w'.cell? ⟨w.heap.size, 7, none⟩ = some (.int .i64 f.ex.n) ∧ w'.cell? ⟨w.heap.size, 8, none⟩ = some (.string (bs f.ex.s)) ∧ w'.cell? ⟨w.heap.size, 9, none⟩ = some (.slice A2 f.ex.kids.length c2))
    (first | exact KEEP.out _ (by (repeat (first | with_reducible assumption | with_reducible exact Below.refl _ _ | with_reducible refine Below.setCell ?_ (by first | omega | (simp; done) | (simp; omega)) _ | with_reducible refine Below.alloc ?_ (by first | omega | (simp; done) | (simp; omega)) _ | with_reducible refine below_drewN ?_ _ | with_reducible refine Below.drew ?_ | with_reducible refine Below.trans ?_ (Below.mono hb3 (by first | omega | (simp; done) | (simp; omega))) | with_reducible refine Below.trans ?_ (Below.mono hb5 (by first | omega | (simp; done) | (simp; omega))) | with_reducible refine below_app ?_ hgr4 (by intro q hq; simp [Value.ownBlock] at hq; omega) (by first | omega | (simp; done) | (simp; omega)) | with_reducible refine below_app ?_ hgr6 (by intro q hq; simp [Value.ownBlock] at hq; omega) (by first | omega | (simp; done) | (simp; omega))))) | go_keep)
    (first
      | (go_at_call 116; refine (IH2.out _ (by (repeat (first | with_reducible assumption | with_reducible exact Below.refl _ _ | with_reducible refine Below.setCell ?_ (by first | omega | (simp; done) | (simp; omega)) _ | with_reducible refine Below.alloc ?_ (by first | omega | (simp; done) | (simp; omega)) _ | with_reducible refine below_drewN ?_ _ | with_reducible refine Below.drew ?_ | with_reducible refine Below.trans ?_ (Below.mono hb3 (by first | omega | (simp; done) | (simp; omega))) | with_reducible refine Below.trans ?_ (Below.mono hb0 (by first | omega | (simp; done) | (simp; omega))) | with_reducible refine below_app ?_ hgr4 (by intro q hq; simp [Value.ownBlock] at hq; omega) (by first | omega | (simp; done) | (simp; omega)))))).mono ?_; rintro r w5 ⟨u5, rfl, hG5, hb5⟩; have hz5 := hb5.size; (try simp at hz5); obtain ⟨gg5, cap5, rfl, hgl5, hgh5⟩ := hG5.block hpos')
      | (refine aps_step (by rfl) (.tmp 29) (.tmp 30) (by rfl) W0.heap.size (.slice (some ⟨g3', 0, none⟩) _ cap3) ([cIf] ++ wa) (by rfl) ?_ ⟨w3.heap.size, 0, none⟩ 2 [[58], cPrint] (by rfl) ?_ (Nat.succ_pos 1) ?_ ?_ ?_; exact (hG3.ext (by (repeat (first | with_reducible assumption | with_reducible exact Below.refl _ _ | with_reducible refine Below.setCell ?_ (by first | omega | (simp; done) | (simp; omega)) _ | with_reducible refine Below.alloc ?_ (by first | omega | (simp; done) | (simp; omega)) _ | with_reducible refine below_drewN ?_ _ | with_reducible refine Below.drew ?_)))).len (by first | omega | (simp; done) | (simp only [List.length_cons, List.length_nil, List.length_append]; omega) | (simp; omega)) rfl; exact World.news_of_block (heap_alloc_new w3 _); (first | omega | (simp; done) | (simp only [List.length_cons, List.length_nil, List.length_append]; omega) | (simp; omega)); (first | omega | (simp; done) | (simp only [List.length_cons, List.length_nil, List.length_append]; omega) | (simp; omega)); intro g4' cap4 w4 hG4 hgr4 hat4; have hz4 := hgr4.size; (try simp at hz4); have hlo4 : W0.heap.size ≤ g4' := (by rcases hat4 with h | h <;> (try simp [Value.ownBlock] at h) <;> omega))
      | (refine aps_step (by rfl) (.tmp 31) (.tmp 34) (by rfl) W0.heap.size (.slice (some ⟨g4', 0, none⟩) _ cap4) ([cIf] ++ wa ++ [[58], cPrint]) (by rfl) ?_ ⟨gg5, 0, none⟩ cap5 wb (by rfl) ?_ hpos' ?_ ?_ ?_; exact (hG4.ext (by (repeat (first | with_reducible assumption | with_reducible exact Below.refl _ _ | with_reducible refine Below.setCell ?_ (by first | omega | (simp; done) | (simp; omega)) _ | with_reducible refine Below.alloc ?_ (by first | omega | (simp; done) | (simp; omega)) _ | with_reducible refine below_drewN ?_ _ | with_reducible refine Below.drew ?_ | with_reducible refine Below.trans ?_ (Below.mono hb5 (by first | omega | (simp; done) | (simp; omega))))))).len (by first | omega | (simp; done) | (simp only [List.length_cons, List.length_nil, List.length_append]; omega) | (simp; omega)) rfl; exact hG5.cells; (first | omega | (simp; done) | (simp only [List.length_cons, List.length_nil, List.length_append]; omega) | (simp; omega)); (first | omega | (simp; done) | (simp only [List.length_cons, List.length_nil, List.length_append]; omega) | (simp; omega)); intro g6' cap6 w6 hG6 hgr6 hat6)
      | fail)
  all_goals
    go_wp2_with fail
    go_ret
    exact ⟨_, rfl, by rw [HWW.out]; exact (hG6.less (Nat.le_of_lt hz0)).len (by first | omega | (simp; done) | (simp only [List.length_cons, List.length_nil, List.length_append]; omega) | (simp; omega)) rfl, by (repeat (first | with_reducible assumption | with_reducible exact Below.refl _ _ | with_reducible refine Below.setCell ?_ (by first | omega | (simp; done) | (simp; omega)) _ | with_reducible refine Below.alloc ?_ (by first | omega | (simp; done) | (simp; omega)) _ | with_reducible refine below_drewN ?_ _ | with_reducible refine Below.drew ?_ | with_reducible refine Below.trans ?_ (Below.mono hb5 (by first | omega | (simp; done) | (simp; omega))) | with_reducible refine Below.trans ?_ (Below.mono hb3 (by first | omega | (simp; done) | (simp; omega))) | with_reducible refine Below.trans ?_ (Below.mono hb0 (by first | omega | (simp; done) | (simp; omega))) | with_reducible refine below_app ?_ hgr4 (by intro q hq; simp [Value.ownBlock] at hq; omega) (by first | omega | (simp; done) | (simp; omega)) | with_reducible refine below_app ?_ hgr6 (by intro q hq; simp [Value.ownBlock] at hq; omega) (by first | omega | (simp; done) | (simp; omega))))⟩
theorem spL7_any (s : Br) (v : Value) (w : World) (hf : formBB s = true) (hv : BrV w w.heap.size v s) :
    Calls Tryz.prog 91 #[v] w fun r w' => ∃ u, r = .returned u ∧ GtS w.heap.size w' u (brWords s) ∧ Below w.heap.size w w' := by
  obtain ⟨t, rfl, h⟩ := formBB_iff.1 hf
  rw [brWords_be h]
  cases t with
  | none => exact spL7_none v w hv
  | slet nm e => exact spL7_let nm e v w (nameB_short h.1).2 h.2.1 hv
  | say e => exact spL7_say e v w h.1 hv
  | when a b => exact spL7_when a b v w h.1.1 h.2.1 hv
end Go.Proofs.YtgakjhaepdigpaaGreatDoor
