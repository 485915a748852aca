
/- Statements: the reference's words. -/
import Derived.Test.YtgakjhaepdigpaaGreatDoorWds
import Derived.Test.YtgakjhaepdigpaaGreatDoorZm2
import Derived.Test.YtgakjhaepdigpaaGreatDoorStLaw
import Derived.Test.YtgakjhaepdigpaaGreatDoorBas
import Derived.Test.YtgakjhaepdigpaaGreatDoorZm8
namespace Go.Proofs.YtgakjhaepdigpaaGreatDoor
set_option maxRecDepth 100000
set_option linter.unusedSimpArgs false
set_option linter.unusedVariables false
open Go.RowKit
attribute [local go_sem] bs_toList bs_get bs_size

/-- a row just laid, in a later world -/
theorem Gt.laid {α : Type} {row : α → List Value} {k B : Nat} {t : TypeId} {w' w : World} {g : Nat} (l : List α) (n : Nat) (hg : g = w'.heap.size) (hn : n = l.length) (cs : Array Value) (hcs : cs = (l.flatMap row).toArray) (hl : 0 < l.length) (hk : ∀ s, (row s).length = k) (hm : l.length ≤ 1000000)
    (hb : w.heap[w'.heap.size]? = (w'.alloc (.cells cs t)).heap[w'.heap.size]?) (hB : B ≤ w'.heap.size) : Gt row k t B w (.slice (some ⟨g, 0, none⟩) n n) l := by
  subst hn hg
  exact Gt.built l hl hk hm (hb.trans (by rw [heap_alloc_new, hcs])) hB
theorem spWords1 (e : E) (v : Value) (w : World) (hok : e.Ok) (hv : ExV w w.heap.size v e.ex) :
    Calls Tryz.prog 116 #[v, .int .i64 1] w fun r w' => ∃ u, r = .returned u ∧ GtS w.heap.size w' u (e.words 1) ∧ Below w.heap.size w w' :=
  spWords_any e 1 v w hok.1 (by have := hok.2.2; omega) (by omega) hv
theorem spL5_let (nm : Bytes) (t : Bool) (e : E) (v : Value) (w : World) (hnm : nm.length ≤ 8) (hok : e.Ok) (hv : SmV w w.heap.size v (SE.slet nm t e).sm) :
    Calls Tryz.prog 55 #[v] w fun r w' => ∃ u, r = .returned u ∧ GtS w.heap.size w' u (SE.slet nm t e).words ∧ Below w.heap.size w w' := by
  obtain ⟨A1, A2, c1, c2, rfl, hn, ht, hE1, hE2⟩ := hv.form2
  simp only [SE.sm] at hn ht hE1 hE2 ⊢
  have hpos := E.words_pos e 1
  have hlen := E.words_len e 1
  have hcn := hok.2.2
  have IH := Lib.hid (fun (w' : World) (h : Below w.heap.size w w') => spWords1 e _ w' hok ((hE1.keep h (Nat.le_refl _)).more h.size))
  have hww : (SE.slet nm t e).words = [cLet, nm, [58], tyB t, [61]] ++ e.words 1 := rfl
  have HWW := Lib.hid hww
  clear hE1 hE2 hok hww
  generalize e.words 1 = wa at *
  generalize tyB t = ty at *
  go_enter Tryz.func55, Tryz.ntmps55
  go_wp2_with fail
  generalize hW : World.alloc w _ = W0
  have hb0 : Below w.heap.size w W0 := by rw [← hW]; (repeat (first | with_reducible assumption | with_reducible exact Below.refl _ _ | with_reducible refine Below.setCell ?_ (by first | omega | (simp; done) | (simp; omega)) _ | with_reducible refine Below.alloc ?_ (by first | omega | (simp; done) | (simp; omega)) _ | with_reducible refine below_drewN ?_ _ | with_reducible refine Below.drew ?_))
  have hz0 : w.heap.size < W0.heap.size := by rw [← hW]; simp
  have q1 : W0.cell? ⟨w.heap.size, 1, none⟩ = some (.string (bs nm)) := by rw [← hW]; simp [go_sem]
  have q2 : W0.cell? ⟨w.heap.size, 2, none⟩ = some (.string (bs ty)) := by rw [← hW]; simp [go_sem]
  have q3 : W0.cell? ⟨w.heap.size, 3, none⟩ = some (.int .i64 e.ex.kind) := by rw [← hW]; simp [go_sem]
  have q4 : W0.cell? ⟨w.heap.size, 4, none⟩ = some (.int .i64 e.ex.n) := by rw [← hW]; simp [go_sem]
  have q5 : W0.cell? ⟨w.heap.size, 5, none⟩ = some (.string (bs e.ex.s)) := by rw [← hW]; simp [go_sem]
  have q6 : W0.cell? ⟨w.heap.size, 6, none⟩ = some (.slice A1 e.ex.kids.length c1) := by rw [← hW]; simp [go_sem]
  clear hW
  go_region_held3 (fun w' => w'.cell? ⟨w.heap.size, 1, none⟩ = some (.string (bs nm)) ∧ w'.cell? ⟨w.heap.size, 2, none⟩ = some (.string (bs ty)) ∧ w'.cell? ⟨w.heap.size, 3, none⟩ = some (.int .i64 e.ex.kind) ∧ w'.cell? ⟨w.heap.size, 4, none⟩ = some (.int .i64 e.ex.n) ∧ w'.cell? ⟨w.heap.size, 5, none⟩ = some (.string (bs e.ex.s)) ∧ w'.cell? ⟨w.heap.size, 6, none⟩ = some (.slice A1 e.ex.kids.length c1))
    (first | go_keep | exact ⟨((show Below W0.heap.size W0 _ from by (repeat (first | with_reducible assumption | with_reducible exact Below.refl _ _ | with_reducible refine Below.setCell ?_ (by first | omega | (simp; done) | (simp; omega)) _ | with_reducible refine Below.alloc ?_ (by first | omega | (simp; done) | (simp; omega)) _ | with_reducible refine below_drewN ?_ _ | with_reducible refine Below.drew ?_ | with_reducible refine Below.trans ?_ (Below.mono hb2 (by first | omega | (simp; done) | (simp; omega))) | with_reducible refine below_app ?_ hgr3 (by intro q hq; simp [Value.ownBlock] at hq; omega) (by first | omega | (simp; done) | (simp; omega))))).cell (p := ⟨w.heap.size, 1, none⟩) hz0).trans q1, ((show Below W0.heap.size W0 _ from by (repeat (first | with_reducible assumption | with_reducible exact Below.refl _ _ | with_reducible refine Below.setCell ?_ (by first | omega | (simp; done) | (simp; omega)) _ | with_reducible refine Below.alloc ?_ (by first | omega | (simp; done) | (simp; omega)) _ | with_reducible refine below_drewN ?_ _ | with_reducible refine Below.drew ?_ | with_reducible refine Below.trans ?_ (Below.mono hb2 (by first | omega | (simp; done) | (simp; omega))) | with_reducible refine below_app ?_ hgr3 (by intro q hq; simp [Value.ownBlock] at hq; omega) (by first | omega | (simp; done) | (simp; omega))))).cell (p := ⟨w.heap.size, 2, none⟩) hz0).trans q2, ((show Below W0.heap.size W0 _ from by (repeat (first | with_reducible assumption | with_reducible exact Below.refl _ _ | with_reducible refine Below.setCell ?_ (by first | omega | (simp; done) | (simp; omega)) _ | with_reducible refine Below.alloc ?_ (by first | omega | (simp; done) | (simp; omega)) _ | with_reducible refine below_drewN ?_ _ | with_reducible refine Below.drew ?_ | with_reducible refine Below.trans ?_ (Below.mono hb2 (by first | omega | (simp; done) | (simp; omega))) | with_reducible refine below_app ?_ hgr3 (by intro q hq; simp [Value.ownBlock] at hq; omega) (by first | omega | (simp; done) | (simp; omega))))).cell (p := ⟨w.heap.size, 3, none⟩) hz0).trans q3, ((show Below W0.heap.size W0 _ from by (repeat (first | with_reducible assumption | with_reducible exact Below.refl _ _ | with_reducible refine Below.setCell ?_ (by first | omega | (simp; done) | (simp; omega)) _ | with_reducible refine Below.alloc ?_ (by first | omega | (simp; done) | (simp; omega)) _ | with_reducible refine below_drewN ?_ _ | with_reducible refine Below.drew ?_ | with_reducible refine Below.trans ?_ (Below.mono hb2 (by first | omega | (simp; done) | (simp; omega))) | with_reducible refine below_app ?_ hgr3 (by intro q hq; simp [Value.ownBlock] at hq; omega) (by first | omega | (simp; done) | (simp; omega))))).cell (p := ⟨w.heap.size, 4, none⟩) hz0).trans q4, ((show Below W0.heap.size W0 _ from by (repeat (first | with_reducible assumption | with_reducible exact Below.refl _ _ | with_reducible refine Below.setCell ?_ (by first | omega | (simp; done) | (simp; omega)) _ | with_reducible refine Below.alloc ?_ (by first | omega | (simp; done) | (simp; omega)) _ | with_reducible refine below_drewN ?_ _ | with_reducible refine Below.drew ?_ | with_reducible refine Below.trans ?_ (Below.mono hb2 (by first | omega | (simp; done) | (simp; omega))) | with_reducible refine below_app ?_ hgr3 (by intro q hq; simp [Value.ownBlock] at hq; omega) (by first | omega | (simp; done) | (simp; omega))))).cell (p := ⟨w.heap.size, 5, none⟩) hz0).trans q5, ((show Below W0.heap.size W0 _ from by (repeat (first | with_reducible assumption | with_reducible exact Below.refl _ _ | with_reducible refine Below.setCell ?_ (by first | omega | (simp; done) | (simp; omega)) _ | with_reducible refine Below.alloc ?_ (by first | omega | (simp; done) | (simp; omega)) _ | with_reducible refine below_drewN ?_ _ | with_reducible refine Below.drew ?_ | with_reducible refine Below.trans ?_ (Below.mono hb2 (by first | omega | (simp; done) | (simp; omega))) | with_reducible refine below_app ?_ hgr3 (by intro q hq; simp [Value.ownBlock] at hq; omega) (by first | omega | (simp; done) | (simp; omega))))).cell (p := ⟨w.heap.size, 6, none⟩) hz0).trans q6⟩)
    (first
      | (go_at_call 116; refine (IH.out _ (by (repeat (first | with_reducible assumption | with_reducible exact Below.refl _ _ | with_reducible refine Below.setCell ?_ (by first | omega | (simp; done) | (simp; omega)) _ | with_reducible refine Below.alloc ?_ (by first | omega | (simp; done) | (simp; omega)) _ | with_reducible refine below_drewN ?_ _ | with_reducible refine Below.drew ?_ | with_reducible refine Below.trans ?_ (Below.mono hb0 (by first | omega | (simp; done) | (simp; omega))))))).mono ?_; rintro r w2 ⟨u2, rfl, hG2, hb2⟩; have hz2 := hb2.size; (try simp at hz2); obtain ⟨gg2, cap2, rfl, hgl2, hgh2⟩ := hG2.block hpos)
      | (refine aps_step (by rfl) (.tmp 12) (.tmp 15) (by rfl) w.heap.size (.slice (some ⟨w2.heap.size, 0, none⟩) 5 5) [cLet, nm, [58], ty, [61]] (by rfl) ?_ ⟨gg2, 0, none⟩ cap2 wa (by rfl) ?_ hpos ?_ ?_ ?_; exact Gt.laid (w' := w2) _ _ rfl rfl _ rfl (by first | omega | (simp; done) | (simp only [List.length_cons, List.length_nil, List.length_append]; omega) | (simp; omega)) (fun _ => rfl) (by first | omega | (simp; done) | (simp only [List.length_cons, List.length_nil, List.length_append]; omega) | (simp; omega)) rfl (by omega); exact (hG2.ext (by (repeat (first | with_reducible assumption | with_reducible exact Below.refl _ _ | with_reducible refine Below.setCell ?_ (by first | omega | (simp; done) | (simp; omega)) _ | with_reducible refine Below.alloc ?_ (by first | omega | (simp; done) | (simp; omega)) _ | with_reducible refine below_drewN ?_ _ | with_reducible refine Below.drew ?_)))).cells; (first | omega | (simp; done) | (simp only [List.length_cons, List.length_nil, List.length_append]; omega) | (simp; omega)); (first | omega | (simp; done) | (simp only [List.length_cons, List.length_nil, List.length_append]; omega) | (simp; omega)); intro g3' cap3 w3 hG3 hgr3 hat3)
      | (refine aps_step (by rfl) (.tmp 12) (.tmp 15) (by rfl) w.heap.size (.slice (some ⟨W0.heap.size, 0, none⟩) 5 5) [cLet, nm, [58], ty, [61]] (by rfl) ?_ ⟨gg2, 0, none⟩ cap2 wa (by rfl) ?_ hpos ?_ ?_ ?_; exact Gt.laid (w' := W0) _ _ rfl rfl _ rfl (by first | omega | (simp; done) | (simp only [List.length_cons, List.length_nil, List.length_append]; omega) | (simp; omega)) (fun _ => rfl) (by first | omega | (simp; done) | (simp only [List.length_cons, List.length_nil, List.length_append]; omega) | (simp; omega)) (hb2.block W0.heap.size (by simp)) (by omega); exact hG2.cells; (first | omega | (simp; done) | (simp only [List.length_cons, List.length_nil, List.length_append]; omega) | (simp; omega)); (first | omega | (simp; done) | (simp only [List.length_cons, List.length_nil, List.length_append]; omega) | (simp; omega)); intro g3' cap3 w3 hG3 hgr3 hat3)
      | fail)
  all_goals
    go_wp2_with fail
    go_ret
    exact ⟨_, rfl, by rw [HWW.out]; exact hG3, by (repeat (first | with_reducible assumption | with_reducible exact Below.refl _ _ | with_reducible refine Below.setCell ?_ (by first | omega | (simp; done) | (simp; omega)) _ | with_reducible refine Below.alloc ?_ (by first | omega | (simp; done) | (simp; omega)) _ | with_reducible refine below_drewN ?_ _ | with_reducible refine Below.drew ?_ | with_reducible refine Below.trans ?_ (Below.mono hb2 (by first | omega | (simp; done) | (simp; omega))) | with_reducible refine Below.trans ?_ (Below.mono hb0 (by first | omega | (simp; done) | (simp; omega))) | with_reducible refine below_app ?_ hgr3 (by intro q hq; simp [Value.ownBlock] at hq; omega) (by first | omega | (simp; done) | (simp; omega))))⟩
/-- two rows of one length are one -/
theorem Gt.len {α : Type} {row : α → List Value} {k B : Nat} {t : TypeId} {w : World} {g n n' c : Nat} {m m' : List α} (h : Gt row k t B w (.slice (some ⟨g, 0, none⟩) n c) m) (hn : n = n') (hm : m = m') : Gt row k t B w (.slice (some ⟨g, 0, none⟩) n' c) m' := by
  subst hn hm; exact h
theorem spL5_none (v : Value) (w : World) (hv : SmV w w.heap.size v SE.none.sm) :
    Calls Tryz.prog 55 #[v] w fun r w' => ∃ u, r = .returned u ∧ GtS w.heap.size w' u SE.none.words ∧ Below w.heap.size w w' := by
  obtain ⟨A1, A2, c1, c2, rfl, hn, ht, hE1, hE2⟩ := hv.form2
  simp only [SE.sm] at hn ht hE1 hE2 ⊢
  clear hE1 hE2
  go_enter Tryz.func55, Tryz.ntmps55
  go_wp2_with fail
  go_ret
  refine ⟨_, rfl, ?_, by (repeat (first | with_reducible assumption | with_reducible exact Below.refl _ _ | with_reducible refine Below.setCell ?_ (by first | omega | (simp; done) | (simp; omega)) _ | with_reducible refine Below.alloc ?_ (by first | omega | (simp; done) | (simp; omega)) _ | with_reducible refine below_drewN ?_ _ | with_reducible refine Below.drew ?_))⟩
  have h := gt_empty strRow 1 9 (B := w.heap.size) (w.alloc (.cells #[.int .i64 0, .string (bs []), .string (bs []), .int .i64 Ex.none.kind, .int .i64 Ex.none.n, .string (bs Ex.none.s), .slice A1 Ex.none.kids.length c1, .int .i64 Ex.none.kind, .int .i64 Ex.none.n, .string (bs Ex.none.s), .slice A2 Ex.none.kids.length c2] 26)) _ (by simp) (Below.refl _ _)
  rw [World.size_alloc] at h
  exact h
theorem spL5_say (e : E) (v : Value) (w : World) (hok : e.Ok) (hv : SmV w w.heap.size v (SE.say e).sm) :
    Calls Tryz.prog 55 #[v] w fun r w' => ∃ u, r = .returned u ∧ GtS w.heap.size w' u (SE.say e).words ∧ Below w.heap.size w w' := by
  obtain ⟨A1, A2, c1, c2, rfl, hn, ht, hE1, hE2⟩ := hv.form2
  simp only [SE.sm] at hn ht hE1 hE2 ⊢
  have hpos := E.words_pos e 1
  have hlen := E.words_len e 1
  have hcn := hok.2.2
  have IH := Lib.hid (fun (w' : World) (h : Below w.heap.size w w') => spWords1 e _ w' hok ((hE1.keep h (Nat.le_refl _)).more h.size))
  have hww : (SE.say e).words = [cSay] ++ e.words 1 := rfl
  have HWW := Lib.hid hww
  clear hE1 hE2 hok hww
  generalize e.words 1 = wa at *
  go_enter Tryz.func55, Tryz.ntmps55
  go_wp2_with fail
  generalize hW : World.alloc w _ = W0
  have hb0 : Below w.heap.size w W0 := by rw [← hW]; (repeat (first | with_reducible assumption | with_reducible exact Below.refl _ _ | with_reducible refine Below.setCell ?_ (by first | omega | (simp; done) | (simp; omega)) _ | with_reducible refine Below.alloc ?_ (by first | omega | (simp; done) | (simp; omega)) _ | with_reducible refine below_drewN ?_ _ | with_reducible refine Below.drew ?_))
  have hz0 : w.heap.size < W0.heap.size := by rw [← hW]; simp
  have HZ0 := Lib.hid (show w.heap.size + 1 = W0.heap.size by rw [← hW]; simp)
  clear hW
  refine (IH.out _ (by (repeat (first | with_reducible assumption | with_reducible exact Below.refl _ _ | with_reducible refine Below.setCell ?_ (by first | omega | (simp; done) | (simp; omega)) _ | with_reducible refine Below.alloc ?_ (by first | omega | (simp; done) | (simp; omega)) _ | with_reducible refine below_drewN ?_ _ | with_reducible refine Below.drew ?_ | with_reducible refine Below.trans ?_ (Below.mono hb0 (by first | omega | (simp; done) | (simp; omega))))))).mono ?_
  rintro r w2 ⟨u2, rfl, hG2, hb2⟩
  have hz2 := hb2.size
  (try simp at hz2)
  obtain ⟨gg2, cap2, rfl, hgl2, hgh2⟩ := hG2.block hpos
  go_wp2_with (first | (at_builtin; refine aps_plain (by rfl) (.tmp 19) (.tmp 22) (by rfl) w.heap.size (.slice (some ⟨w.heap.size + 1, 0, none⟩) 1 1) [cSay] (by rfl) ?_ ⟨gg2, 0, none⟩ cap2 wa (by rfl) hG2.cells hpos (by first | omega | (simp; done) | (simp only [List.length_cons, List.length_nil, List.length_append]; omega) | (simp; omega)) (by first | omega | (simp; done) | (simp only [List.length_cons, List.length_nil, List.length_append]; omega) | (simp; omega)) ?_; exact Gt.laid (w' := W0) _ _ HZ0.out rfl _ rfl (by first | omega | (simp; done) | (simp only [List.length_cons, List.length_nil, List.length_append]; omega) | (simp; omega)) (fun _ => rfl) (by first | omega | (simp; done) | (simp only [List.length_cons, List.length_nil, List.length_append]; omega) | (simp; omega)) (hb2.block W0.heap.size (by simp)) (by omega); intro g3' cap3 w3 hG3 hgr3 hat3) | fail)
  go_ret
  exact ⟨_, rfl, by rw [HWW.out]; exact hG3.len (by first | omega | (simp; done) | (simp only [List.length_cons, List.length_nil, List.length_append]; omega) | (simp; omega)) rfl, by (repeat (first | with_reducible assumption | with_reducible exact Below.refl _ _ | with_reducible refine Below.setCell ?_ (by first | omega | (simp; done) | (simp; omega)) _ | with_reducible refine Below.alloc ?_ (by first | omega | (simp; done) | (simp; omega)) _ | with_reducible refine below_drewN ?_ _ | with_reducible refine Below.drew ?_ | with_reducible refine Below.trans ?_ (Below.mono hb2 (by first | omega | (simp; done) | (simp; omega))) | with_reducible refine Below.trans ?_ (Below.mono hb0 (by first | omega | (simp; done) | (simp; omega))) | with_reducible refine below_app ?_ hgr3 (by intro q hq; simp [Value.ownBlock] at hq; omega) (by first | omega | (simp; done) | (simp; omega))))⟩
set_option maxHeartbeats 4000000 in
theorem spL5_when (e f : E) (v : Value) (w : World) (hok : e.Ok) (hof : f.Ok) (hv : SmV w w.heap.size v (SE.when e f).sm) :
    Calls Tryz.prog 55 #[v] w fun r w' => ∃ u, r = .returned u ∧ GtS w.heap.size w' u (SE.when e f).words ∧ Below w.heap.size w w' := by
  obtain ⟨A1, A2, c1, c2, rfl, hn, ht, hE1, hE2⟩ := hv.form2
  simp only [SE.sm] at hn ht hE1 hE2 ⊢
  have hpos := E.words_pos e 1
  have hlen := E.words_len e 1
  have hpos' := E.words_pos f 1
  have hlen' := E.words_len f 1
  have hcn := hok.2.2
  have hcn' := hof.2.2
  have IH := Lib.hid (fun (w' : World) (h : Below w.heap.size w w') => spWords1 e _ w' hok ((hE1.keep h (Nat.le_refl _)).more h.size))
  have IH2 := Lib.hid (fun (w' : World) (h : Below w.heap.size w w') => spWords1 f _ w' hof ((hE2.keep h (Nat.le_refl _)).more h.size))
  have hww : (SE.when e f).words = [cWhen] ++ e.words 1 ++ [cSay] ++ f.words 1 := by simp [SE.words]
  have HWW := Lib.hid hww
  clear hE1 hE2 hok hof hww
  generalize e.words 1 = wa at *
  generalize f.words 1 = wb at *
  go_enter Tryz.func55, Tryz.ntmps55
  go_wp2_with fail
  generalize hW : World.alloc w _ = W0
  have hb0 : Below w.heap.size w W0 := by rw [← hW]; (repeat (first | with_reducible assumption | with_reducible exact Below.refl _ _ | with_reducible refine Below.setCell ?_ (by first | omega | (simp; done) | (simp; omega)) _ | with_reducible refine Below.alloc ?_ (by first | omega | (simp; done) | (simp; omega)) _ | with_reducible refine below_drewN ?_ _ | with_reducible refine Below.drew ?_))
  have hz0 : w.heap.size < W0.heap.size := by rw [← hW]; simp
  have HZ0 := Lib.hid (show w.heap.size + 1 = W0.heap.size by rw [← hW]; simp)
  have q7 : W0.cell? ⟨w.heap.size, 7, none⟩ = some (.int .i64 f.ex.kind) := by rw [← hW]; simp [go_sem]
  have q8 : W0.cell? ⟨w.heap.size, 8, none⟩ = some (.int .i64 f.ex.n) := by rw [← hW]; simp [go_sem]
  have q9 : W0.cell? ⟨w.heap.size, 9, none⟩ = some (.string (bs f.ex.s)) := by rw [← hW]; simp [go_sem]
  have q10 : W0.cell? ⟨w.heap.size, 10, none⟩ = some (.slice A2 f.ex.kids.length c2) := by rw [← hW]; simp [go_sem]
  have KEEP := Lib.hid (show ∀ w' : World, Below W0.heap.size W0 w' → (w'.cell? ⟨w.heap.size, 7, none⟩ = some (.int .i64 f.ex.kind) ∧ w'.cell? ⟨w.heap.size, 8, none⟩ = some (.int .i64 f.ex.n) ∧ w'.cell? ⟨w.heap.size, 9, none⟩ = some (.string (bs f.ex.s)) ∧ w'.cell? ⟨w.heap.size, 10, none⟩ = some (.slice A2 f.ex.kids.length c2)) from
    fun w' h => ⟨(h.cell (p := ⟨w.heap.size, 7, none⟩) hz0).trans q7, (h.cell (p := ⟨w.heap.size, 8, none⟩) hz0).trans q8, (h.cell (p := ⟨w.heap.size, 9, none⟩) hz0).trans q9, (h.cell (p := ⟨w.heap.size, 10, none⟩) hz0).trans q10⟩)
  clear hW q7 q8 q9 q10
  refine (IH.out _ (by (repeat (first | with_reducible assumption | with_reducible exact Below.refl _ _ | with_reducible refine Below.setCell ?_ (by first | omega | (simp; done) | (simp; omega)) _ | with_reducible refine Below.alloc ?_ (by first | omega | (simp; done) | (simp; omega)) _ | with_reducible refine below_drewN ?_ _ | with_reducible refine Below.drew ?_ | with_reducible refine Below.trans ?_ (Below.mono hb0 (by first | omega | (simp; done) | (simp; omega))))))).mono ?_
  rintro r w2 ⟨u2, rfl, hG2, hb2⟩
  have hz2 := hb2.size
  (try simp at hz2)
  obtain ⟨gg2, cap2, rfl, hgl2, hgh2⟩ := hG2.block hpos
  go_wp2_with (first | (at_builtin; refine aps_plain (by rfl) (.tmp 26) (.tmp 29) (by rfl) W0.heap.size (.slice (some ⟨w.heap.size + 1, 0, none⟩) 1 1) [cWhen] (by rfl) ?_ ⟨gg2, 0, none⟩ cap2 wa (by rfl) hG2.cells hpos (by first | omega | (simp; done) | (simp only [List.length_cons, List.length_nil, List.length_append]; omega) | (simp; omega)) (by first | omega | (simp; done) | (simp only [List.length_cons, List.length_nil, List.length_append]; omega) | (simp; omega)) ?_; exact Gt.laid (w' := W0) _ _ HZ0.out rfl _ rfl (by first | omega | (simp; done) | (simp only [List.length_cons, List.length_nil, List.length_append]; omega) | (simp; omega)) (fun _ => rfl) (by first | omega | (simp; done) | (simp only [List.length_cons, List.length_nil, List.length_append]; omega) | (simp; omega)) (hb2.block W0.heap.size (by simp)) (by omega); intro g3' cap3 w3 hG3 hgr3 hat3) | fail)
  have HZ := HZ0.out
  have hlo3 : W0.heap.size ≤ g3' := (by rcases hat3 with h | h <;> (try simp [Value.ownBlock] at h) <;> omega)
  have hz3 := hgr3.size
  have hb3 : Below W0.heap.size W0 w3 := by (repeat (first | with_reducible assumption | with_reducible exact Below.refl _ _ | with_reducible refine Below.setCell ?_ (by first | omega | (simp; done) | (simp; omega)) _ | with_reducible refine Below.alloc ?_ (by first | omega | (simp; done) | (simp; omega)) _ | with_reducible refine below_drewN ?_ _ | with_reducible refine Below.drew ?_ | with_reducible refine Below.trans ?_ (Below.mono hb2 (by first | omega | (simp; done) | (simp; omega))) | with_reducible refine below_app ?_ hgr3 (by intro q hq; simp [Value.ownBlock] at hq; omega) (by first | omega | (simp; done) | (simp; omega))))
  clear HZ
  go_region_held3 (fun w' => w'.cell? ⟨w.heap.size, 7, none⟩ = some (.int .i64 f.ex.kind) ∧ w'.cell? ⟨w.heap.size, 8, none⟩ = some (.int .i64 f.ex.n) ∧ w'.cell? ⟨w.heap.size, 9, none⟩ = some (.string (bs f.ex.s)) ∧ w'.cell? ⟨w.heap.size, 10, none⟩ = some (.slice A2 f.ex.kids.length c2))
    (first | exact KEEP.out _ (by (repeat (first | with_reducible assumption | with_reducible exact Below.refl _ _ | with_reducible refine Below.setCell ?_ (by first | omega | (simp; done) | (simp; omega)) _ | with_reducible refine Below.alloc ?_ (by first | omega | (simp; done) | (simp; omega)) _ | with_reducible refine below_drewN ?_ _ | with_reducible refine Below.drew ?_ | with_reducible refine Below.trans ?_ (Below.mono hb3 (by first | omega | (simp; done) | (simp; omega))) | with_reducible refine Below.trans ?_ (Below.mono hb5 (by first | omega | (simp; done) | (simp; omega))) | with_reducible refine below_app ?_ hgr4 (by intro q hq; simp [Value.ownBlock] at hq; omega) (by first | omega | (simp; done) | (simp; omega)) | with_reducible refine below_app ?_ hgr6 (by intro q hq; simp [Value.ownBlock] at hq; omega) (by first | omega | (simp; done) | (simp; omega))))) | go_keep)
    (first
      | (go_at_call 116; refine (IH2.out _ (by (repeat (first | with_reducible assumption | with_reducible exact Below.refl _ _ | with_reducible refine Below.setCell ?_ (by first | omega | (simp; done) | (simp; omega)) _ | with_reducible refine Below.alloc ?_ (by first | omega | (simp; done) | (simp; omega)) _ | with_reducible refine below_drewN ?_ _ | with_reducible refine Below.drew ?_ | with_reducible refine Below.trans ?_ (Below.mono hb3 (by first | omega | (simp; done) | (simp; omega))) | with_reducible refine Below.trans ?_ (Below.mono hb0 (by first | omega | (simp; done) | (simp; omega))) | with_reducible refine below_app ?_ hgr4 (by intro q hq; simp [Value.ownBlock] at hq; omega) (by first | omega | (simp; done) | (simp; omega)))))).mono ?_; rintro r w5 ⟨u5, rfl, hG5, hb5⟩; have hz5 := hb5.size; (try simp at hz5); obtain ⟨gg5, cap5, rfl, hgl5, hgh5⟩ := hG5.block hpos')
      | (refine aps_step (by rfl) (.tmp 31) (.tmp 32) (by rfl) W0.heap.size (.slice (some ⟨g3', 0, none⟩) _ cap3) ([cWhen] ++ wa) (by rfl) ?_ ⟨w3.heap.size, 0, none⟩ 1 [cSay] (by rfl) ?_ (Nat.succ_pos 0) ?_ ?_ ?_; exact (hG3.ext (by (repeat (first | with_reducible assumption | with_reducible exact Below.refl _ _ | with_reducible refine Below.setCell ?_ (by first | omega | (simp; done) | (simp; omega)) _ | with_reducible refine Below.alloc ?_ (by first | omega | (simp; done) | (simp; omega)) _ | with_reducible refine below_drewN ?_ _ | with_reducible refine Below.drew ?_)))).len (by first | omega | (simp; done) | (simp only [List.length_cons, List.length_nil, List.length_append]; omega) | (simp; omega)) rfl; exact World.news_of_block (heap_alloc_new w3 _); (first | omega | (simp; done) | (simp only [List.length_cons, List.length_nil, List.length_append]; omega) | (simp; omega)); (first | omega | (simp; done) | (simp only [List.length_cons, List.length_nil, List.length_append]; omega) | (simp; omega)); intro g4' cap4 w4 hG4 hgr4 hat4; have hz4 := hgr4.size; (try simp at hz4); have hlo4 : W0.heap.size ≤ g4' := (by rcases hat4 with h | h <;> (try simp [Value.ownBlock] at h) <;> omega))
      | (refine aps_step (by rfl) (.tmp 33) (.tmp 36) (by rfl) W0.heap.size (.slice (some ⟨g4', 0, none⟩) _ cap4) ([cWhen] ++ wa ++ [cSay]) (by rfl) ?_ ⟨gg5, 0, none⟩ cap5 wb (by rfl) ?_ hpos' ?_ ?_ ?_; exact (hG4.ext (by (repeat (first | with_reducible assumption | with_reducible exact Below.refl _ _ | with_reducible refine Below.setCell ?_ (by first | omega | (simp; done) | (simp; omega)) _ | with_reducible refine Below.alloc ?_ (by first | omega | (simp; done) | (simp; omega)) _ | with_reducible refine below_drewN ?_ _ | with_reducible refine Below.drew ?_ | with_reducible refine Below.trans ?_ (Below.mono hb5 (by first | omega | (simp; done) | (simp; omega))))))).len (by first | omega | (simp; done) | (simp only [List.length_cons, List.length_nil, List.length_append]; omega) | (simp; omega)) rfl; exact hG5.cells; (first | omega | (simp; done) | (simp only [List.length_cons, List.length_nil, List.length_append]; omega) | (simp; omega)); (first | omega | (simp; done) | (simp only [List.length_cons, List.length_nil, List.length_append]; omega) | (simp; omega)); intro g6' cap6 w6 hG6 hgr6 hat6)
      | fail)
  all_goals
    go_wp2_with fail
    go_ret
    exact ⟨_, rfl, by rw [HWW.out]; exact (hG6.less (Nat.le_of_lt hz0)).len (by first | omega | (simp; done) | (simp only [List.length_cons, List.length_nil, List.length_append]; omega) | (simp; omega)) rfl, by (repeat (first | with_reducible assumption | with_reducible exact Below.refl _ _ | with_reducible refine Below.setCell ?_ (by first | omega | (simp; done) | (simp; omega)) _ | with_reducible refine Below.alloc ?_ (by first | omega | (simp; done) | (simp; omega)) _ | with_reducible refine below_drewN ?_ _ | with_reducible refine Below.drew ?_ | with_reducible refine Below.trans ?_ (Below.mono hb5 (by first | omega | (simp; done) | (simp; omega))) | with_reducible refine Below.trans ?_ (Below.mono hb3 (by first | omega | (simp; done) | (simp; omega))) | with_reducible refine Below.trans ?_ (Below.mono hb0 (by first | omega | (simp; done) | (simp; omega))) | with_reducible refine below_app ?_ hgr4 (by intro q hq; simp [Value.ownBlock] at hq; omega) (by first | omega | (simp; done) | (simp; omega)) | with_reducible refine below_app ?_ hgr6 (by intro q hq; simp [Value.ownBlock] at hq; omega) (by first | omega | (simp; done) | (simp; omega))))⟩
theorem spL5_any (s : Sm) (v : Value) (w : World) (hf : formSB s = true) (hv : SmV w w.heap.size v s) :
    Calls Tryz.prog 55 #[v] w fun r w' => ∃ u, r = .returned u ∧ GtS w.heap.size w' u (smWords s) ∧ Below w.heap.size w w' := by
  obtain ⟨t, rfl, h⟩ := formSB_iff.1 hf
  rw [smWords_se h]
  cases t with
  | none => exact spL5_none v w hv
  | slet nm ty e => exact spL5_let nm ty e v w (nameB_short h.1).2 h.2 hv
  | say e => exact spL5_say e v w h hv
  | when a b => exact spL5_when a b v w h.1 h.2 hv
end Go.Proofs.YtgakjhaepdigpaaGreatDoor
