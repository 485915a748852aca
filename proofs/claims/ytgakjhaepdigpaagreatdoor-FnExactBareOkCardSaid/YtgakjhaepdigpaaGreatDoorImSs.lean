/- Statements: the program's words. -/
import Derived.Test.YtgakjhaepdigpaaGreatDoorImWs
import Derived.Test.YtgakjhaepdigpaaGreatDoorStOk
namespace Go.Proofs.YtgakjhaepdigpaaGreatDoor
set_option maxRecDepth 100000
set_option linter.unusedSimpArgs false
set_option linter.unusedVariables false
open Go.RowKit
attribute [local go_sem] bs_toList bs_get bs_size

/-- what the program's words of a line tells -/
def SWP (wd : List Bytes) (w : World) (r : Ending) (w' : World) : Prop := ∃ u m, r = .returned u ∧ SlC w' w'.heap.size u m ∧ m.map (·.1) = wd ∧ m.length ≤ 1000 ∧ Below w.heap.size w w'
theorem imS_none (v : Value) (w : World) (hv : SmV w w.heap.size v SE.none.sm) : Calls Tryz.prog 122 #[v] w (SWP SE.none.words w) := by
  obtain ⟨A1, A2, c1, c2, rfl, hn, ht, hE1, hE2⟩ := hv.form2
  simp only [SE.sm] at hn ht hE1 hE2 ⊢
  clear hE1 hE2
  go_enter Tryz.func122, Tryz.ntmps122
  go_wp2_with fail
  go_ret
  exact ⟨_, [], rfl, ⟨none, 0, rfl, Nat.le_refl _, by unfold maxLen; omega, fun h => absurd h (by simp)⟩, rfl, by simp, by (repeat (first | with_reducible assumption | with_reducible exact Below.refl _ _ | with_reducible refine Below.setCell ?_ (by first | omega | (simp; done) | (simp; omega)) _ | with_reducible refine Below.alloc ?_ (by first | omega | (simp; done) | (simp; omega)) _ | with_reducible refine below_drewN ?_ _ | with_reducible refine Below.drew ?_))⟩
set_option maxHeartbeats 4000000 in
theorem imS_let (nm : Bytes) (t : Bool) (e : E) (v : Value) (w : World) (hok : e.Ok) (hv : SmV w w.heap.size v (SE.slet nm t e).sm) (hE : Env w) : Calls Tryz.prog 122 #[v] w (SWP (SE.slet nm t e).words w) := by
  obtain ⟨A1, A2, c1, c2, rfl, hn, ht, hE1, hE2⟩ := hv.form2
  simp only [SE.sm] at hn ht hE1 hE2 ⊢
  have hpos := E.words_pos e 1
  have hlen := E.words_len e 1
  have hcn := hok.2.2
  have IH := Lib.hid (show ∀ (w' : World) (k : Nat), Below w.heap.size w w' → k ≤ 100 → Blk w' (w.heap.size + 1) 3 #[.int .i64 (k : Int)] → Calls Tryz.prog 85 #[.agg #[.int .i64 e.ex.kind, .int .i64 e.ex.n, .string (bs e.ex.s), .slice A1 e.ex.kids.length c1], .int .i64 0, .pointer (some ⟨w.heap.size + 1, 0, none⟩)] w' (WP (e.words 0) e.cnt (w.heap.size + 1) k w') from fun w' k h hk hb =>
    imW_any e 0 _ w' (w.heap.size + 1) k w.heap.size hok.1 (by omega) (by omega) (by omega) (hE1.keep h (Nat.le_refl _)) (by omega) hb ((hE.envB).keep h))
  rw [E.words_zero] at IH
  have HWW := Lib.hid (show (SE.slet nm t e).words = [cLet, nm, [58], tyB t, [61]] ++ e.words 1 from rfl)
  clear hE1 hE2 hok hE hv
  generalize e.words 1 = wa at *
  generalize tyB t = ty at *
  go_enter Tryz.func122, Tryz.ntmps122
  go_upto_region 2 with fail
  generalize hW : World.alloc (World.alloc w _) _ = W1
  have hb0 : Below w.heap.size w W1 := by rw [← hW]; (repeat (first | with_reducible assumption | with_reducible exact Below.refl _ _ | with_reducible refine Below.setCell ?_ (by first | omega | (simp; done) | (simp; omega)) _ | with_reducible refine Below.alloc ?_ (by first | omega | (simp; done) | (simp; omega)) _ | with_reducible refine below_drewN ?_ _ | with_reducible refine Below.drew ?_))
  have hz0 : w.heap.size + 1 < W1.heap.size := by rw [← hW]; simp
  have q0 : W1.cell? ⟨w.heap.size, 0, none⟩ = some (.int .i64 1) := by rw [← hW]; simp [go_sem]
  have q1 : W1.cell? ⟨w.heap.size, 1, none⟩ = some (.string (bs nm)) := by rw [← hW]; simp [go_sem]
  have q2 : W1.cell? ⟨w.heap.size, 2, none⟩ = some (.string (bs ty)) := by rw [← hW]; simp [go_sem]
  have q3 : W1.cell? ⟨w.heap.size, 3, none⟩ = some (.int .i64 e.ex.kind) := by rw [← hW]; simp [go_sem]
  have q4 : W1.cell? ⟨w.heap.size, 4, none⟩ = some (.int .i64 e.ex.n) := by rw [← hW]; simp [go_sem]
  have q5 : W1.cell? ⟨w.heap.size, 5, none⟩ = some (.string (bs e.ex.s)) := by rw [← hW]; simp [go_sem]
  have q6 : W1.cell? ⟨w.heap.size, 6, none⟩ = some (.slice A1 e.ex.kids.length c1) := by rw [← hW]; simp [go_sem]
  have q7 : W1.cell? ⟨w.heap.size, 7, none⟩ = some (.int .i64 Ex.none.kind) := by rw [← hW]; simp [go_sem]
  have q8 : W1.cell? ⟨w.heap.size, 8, none⟩ = some (.int .i64 Ex.none.n) := by rw [← hW]; simp [go_sem]
  have q9 : W1.cell? ⟨w.heap.size, 9, none⟩ = some (.string (bs Ex.none.s)) := by rw [← hW]; simp [go_sem]
  have q10 : W1.cell? ⟨w.heap.size, 10, none⟩ = some (.slice A2 Ex.none.kids.length c2) := by rw [← hW]; simp [go_sem]
  have hBk : Blk W1 (w.heap.size + 1) 3 #[.int .i64 ((0 : Nat) : Int)] := by
    rw [← hW]
    have h := Blk.new (w.alloc (.cells #[.int .i64 1, .string (bs nm), .string (bs ty), .int .i64 e.ex.kind, .int .i64 e.ex.n, .string (bs e.ex.s), .slice A1 e.ex.kids.length c1, .int .i64 Ex.none.kind, .int .i64 Ex.none.n, .string (bs Ex.none.s), .slice A2 Ex.none.kids.length c2] 26)) 3 #[.int .i64 ((0 : Nat) : Int)]
    rwa [World.size_alloc] at h
  clear hW
  have KEEP := Lib.hid (show ∀ w' : World, Below (w.heap.size + 1) W1 w' → (w'.cell? ⟨w.heap.size, 1, none⟩ = some (.string (bs nm)) ∧ w'.cell? ⟨w.heap.size, 2, none⟩ = some (.string (bs ty)) ∧ w'.cell? ⟨w.heap.size, 3, none⟩ = some (.int .i64 e.ex.kind) ∧ w'.cell? ⟨w.heap.size, 4, none⟩ = some (.int .i64 e.ex.n) ∧ w'.cell? ⟨w.heap.size, 5, none⟩ = some (.string (bs e.ex.s)) ∧ w'.cell? ⟨w.heap.size, 6, none⟩ = some (.slice A1 e.ex.kids.length c1)) from
    fun w' h => ⟨(h.cell (p := ⟨w.heap.size, 1, none⟩) (Nat.lt_succ_self _)).trans q1, (h.cell (p := ⟨w.heap.size, 2, none⟩) (Nat.lt_succ_self _)).trans q2, (h.cell (p := ⟨w.heap.size, 3, none⟩) (Nat.lt_succ_self _)).trans q3, (h.cell (p := ⟨w.heap.size, 4, none⟩) (Nat.lt_succ_self _)).trans q4, (h.cell (p := ⟨w.heap.size, 5, none⟩) (Nat.lt_succ_self _)).trans q5, (h.cell (p := ⟨w.heap.size, 6, none⟩) (Nat.lt_succ_self _)).trans q6⟩)
  go_upto_region 4 with fail
  go_region_held3 (fun w' => w'.cell? ⟨w.heap.size, 1, none⟩ = some (.string (bs nm)) ∧ w'.cell? ⟨w.heap.size, 2, none⟩ = some (.string (bs ty)) ∧ w'.cell? ⟨w.heap.size, 3, none⟩ = some (.int .i64 e.ex.kind) ∧ w'.cell? ⟨w.heap.size, 4, none⟩ = some (.int .i64 e.ex.n) ∧ w'.cell? ⟨w.heap.size, 5, none⟩ = some (.string (bs e.ex.s)) ∧ w'.cell? ⟨w.heap.size, 6, none⟩ = some (.slice A1 e.ex.kids.length c1))
    (first | exact KEEP.out _ (by (repeat (first | with_reducible assumption | with_reducible exact Below.refl _ _ | with_reducible refine Below.setCell ?_ (by first | omega | (simp; done) | (simp; omega)) _ | with_reducible refine Below.alloc ?_ (by first | omega | (simp; done) | (simp; omega)) _ | with_reducible refine below_drewN ?_ _ | with_reducible refine Below.drew ?_ | with_reducible refine Below.trans ?_ (Below.mono hb2 (by first | omega | (simp; done) | (simp; omega))) | with_reducible refine below_app ?_ hgr3 (by intro q hq; simp [Value.ownBlock] at hq; omega) (by first | omega | (simp; done) | (simp; omega))))) | go_keep)
    (first
      | (go_at_call 85; refine (IH.out _ 0 (by (repeat (first | with_reducible assumption | with_reducible exact Below.refl _ _ | with_reducible refine Below.setCell ?_ (by first | omega | (simp; done) | (simp; omega)) _ | with_reducible refine Below.alloc ?_ (by first | omega | (simp; done) | (simp; omega)) _ | with_reducible refine below_drewN ?_ _ | with_reducible refine Below.drew ?_ | with_reducible refine Below.trans ?_ (Below.mono hb0 (by first | omega | (simp; done) | (simp; omega)))))) (by omega) (by (repeat (first | with_reducible assumption | with_reducible refine Blk.alloc ?_ _ | with_reducible refine Blk.drew ?_)))).mono ?_; rintro r w2 ⟨u2, m2, n2, rfl, hG2, hM2, hg2, hB2, hn2, hn2'⟩; have hb2 := below_of_grown (B := w.heap.size + 1) hg2 (Nat.le_refl _) (by first | omega | (simp; done) | (simp only [List.length_cons, List.length_nil, List.length_append]; omega) | (simp; omega)); have hz2 := hb2.size; (try simp at hz2); obtain ⟨hp2, hl2⟩ : 0 < m2.length ∧ m2.length ≤ 100 := (by have := congrArg List.length hM2; rw [List.length_map] at this; omega); obtain ⟨gg2, cap2, rfl, hgl2, hgh2⟩ := hG2.block hp2)
      | (refine app_step rtSrc (by rfl) (.tmp 18) (.tmp 21) (by rfl) W1.heap.size (.slice (some ⟨w2.heap.size, 0, none⟩) 5 5) [(cLet, 100), (nm, 101), ([58], -1), (ty, -1), ([61], 102)] (by rfl) ?_ ⟨gg2, 0, none⟩ cap2 m2 (by rfl) ?_ hp2 ?_ ?_ ?_; exact Gt.laid (w' := w2) _ _ rfl rfl _ rfl (by first | omega | (simp; done) | (simp only [List.length_cons, List.length_nil, List.length_append]; omega) | (simp; omega)) (fun _ => rfl) (by first | omega | (simp; done) | (simp only [List.length_cons, List.length_nil, List.length_append]; omega) | (simp; omega)) rfl (by first | omega | (simp; done) | (simp only [List.length_cons, List.length_nil, List.length_append]; omega) | (simp; omega)); exact (hG2.ext (by (repeat (first | with_reducible assumption | with_reducible exact Below.refl _ _ | with_reducible refine Below.setCell ?_ (by first | omega | (simp; done) | (simp; omega)) _ | with_reducible refine Below.alloc ?_ (by first | omega | (simp; done) | (simp; omega)) _ | with_reducible refine below_drewN ?_ _ | with_reducible refine Below.drew ?_)))).cells; (first | omega | (simp; done) | (simp only [List.length_cons, List.length_nil, List.length_append]; omega) | (simp; omega)); (first | omega | (simp; done) | (simp only [List.length_cons, List.length_nil, List.length_append]; omega) | (simp; omega)); intro g3' cap3 w3 hG3 hgr3 hat3)
      | (refine app_step rtSrc (by rfl) (.tmp 18) (.tmp 21) (by rfl) W1.heap.size (.slice (some ⟨W1.heap.size, 0, none⟩) 5 5) [(cLet, 100), (nm, 101), ([58], -1), (ty, -1), ([61], 102)] (by rfl) ?_ ⟨gg2, 0, none⟩ cap2 m2 (by rfl) ?_ hp2 ?_ ?_ ?_; exact Gt.laid (w' := W1) _ _ rfl rfl _ rfl (by first | omega | (simp; done) | (simp only [List.length_cons, List.length_nil, List.length_append]; omega) | (simp; omega)) (fun _ => rfl) (by first | omega | (simp; done) | (simp only [List.length_cons, List.length_nil, List.length_append]; omega) | (simp; omega)) (hg2.block W1.heap.size (by simp) (by intro e; have := Option.some.inj e; omega)) (by first | omega | (simp; done) | (simp only [List.length_cons, List.length_nil, List.length_append]; omega) | (simp; omega)); exact hG2.cells; (first | omega | (simp; done) | (simp only [List.length_cons, List.length_nil, List.length_append]; omega) | (simp; omega)); (first | omega | (simp; done) | (simp only [List.length_cons, List.length_nil, List.length_append]; omega) | (simp; omega)); intro g3' cap3 w3 hG3 hgr3 hat3)
      | fail)
  all_goals
    go_wp2_with fail
    go_ret
    exact ⟨_, [(cLet, 100), (nm, 101), ([58], -1), (ty, -1), ([61], 102)] ++ m2, rfl, (hG3.len (by first | omega | (simp; done) | (simp only [List.length_cons, List.length_nil, List.length_append]; omega) | (simp; omega)) rfl).sl (fun _ => rfl), by rw [HWW.out, ← hM2]; rfl, by simp; omega, by (repeat (first | with_reducible assumption | with_reducible exact Below.refl _ _ | with_reducible refine Below.setCell ?_ (by first | omega | (simp; done) | (simp; omega)) _ | with_reducible refine Below.alloc ?_ (by first | omega | (simp; done) | (simp; omega)) _ | with_reducible refine below_drewN ?_ _ | with_reducible refine Below.drew ?_ | with_reducible refine Below.trans ?_ (Below.mono hb2 (by first | omega | (simp; done) | (simp; omega))) | with_reducible refine Below.trans ?_ (Below.mono hb0 (by first | omega | (simp; done) | (simp; omega))) | with_reducible refine below_app ?_ hgr3 (by intro q hq; simp [Value.ownBlock] at hq; omega) (by first | omega | (simp; done) | (simp; omega))))⟩
set_option maxHeartbeats 4000000 in
theorem imS_say (e : E) (v : Value) (w : World) (hok : e.Ok) (hv : SmV w w.heap.size v (SE.say e).sm) (hE : Env w) : Calls Tryz.prog 122 #[v] w (SWP (SE.say e).words w) := by
  obtain ⟨A1, A2, c1, c2, rfl, hn, ht, hE1, hE2⟩ := hv.form2
  simp only [SE.sm] at hn ht hE1 hE2 ⊢
  have hpos := E.words_pos e 1
  have hlen := E.words_len e 1
  have hcn := hok.2.2
  have IH := Lib.hid (show ∀ (w' : World) (k : Nat), Below w.heap.size w w' → k ≤ 100 → Blk w' (w.heap.size + 1) 3 #[.int .i64 (k : Int)] → Calls Tryz.prog 85 #[.agg #[.int .i64 e.ex.kind, .int .i64 e.ex.n, .string (bs e.ex.s), .slice A1 e.ex.kids.length c1], .int .i64 0, .pointer (some ⟨w.heap.size + 1, 0, none⟩)] w' (WP (e.words 0) e.cnt (w.heap.size + 1) k w') from fun w' k h hk hb =>
    imW_any e 0 _ w' (w.heap.size + 1) k w.heap.size hok.1 (by omega) (by omega) (by omega) (hE1.keep h (Nat.le_refl _)) (by omega) hb ((hE.envB).keep h))
  rw [E.words_zero] at IH
  have HWW := Lib.hid (show (SE.say e).words = [cSay] ++ e.words 1 from rfl)
  clear hE1 hE2 hok hE hv
  generalize e.words 1 = wa at *
  go_enter Tryz.func122, Tryz.ntmps122
  go_upto_region 2 with fail
  generalize hW : World.alloc (World.alloc w _) _ = W1
  have hb0 : Below w.heap.size w W1 := by rw [← hW]; (repeat (first | with_reducible assumption | with_reducible exact Below.refl _ _ | with_reducible refine Below.setCell ?_ (by first | omega | (simp; done) | (simp; omega)) _ | with_reducible refine Below.alloc ?_ (by first | omega | (simp; done) | (simp; omega)) _ | with_reducible refine below_drewN ?_ _ | with_reducible refine Below.drew ?_))
  have hz0 : w.heap.size + 1 < W1.heap.size := by rw [← hW]; simp
  have q0 : W1.cell? ⟨w.heap.size, 0, none⟩ = some (.int .i64 2) := by rw [← hW]; simp [go_sem]
  have q1 : W1.cell? ⟨w.heap.size, 1, none⟩ = some (.string (bs [])) := by rw [← hW]; simp [go_sem]
  have q2 : W1.cell? ⟨w.heap.size, 2, none⟩ = some (.string (bs [])) := by rw [← hW]; simp [go_sem]
  have q3 : W1.cell? ⟨w.heap.size, 3, none⟩ = some (.int .i64 e.ex.kind) := by rw [← hW]; simp [go_sem]
  have q4 : W1.cell? ⟨w.heap.size, 4, none⟩ = some (.int .i64 e.ex.n) := by rw [← hW]; simp [go_sem]
  have q5 : W1.cell? ⟨w.heap.size, 5, none⟩ = some (.string (bs e.ex.s)) := by rw [← hW]; simp [go_sem]
  have q6 : W1.cell? ⟨w.heap.size, 6, none⟩ = some (.slice A1 e.ex.kids.length c1) := by rw [← hW]; simp [go_sem]
  have q7 : W1.cell? ⟨w.heap.size, 7, none⟩ = some (.int .i64 Ex.none.kind) := by rw [← hW]; simp [go_sem]
  have q8 : W1.cell? ⟨w.heap.size, 8, none⟩ = some (.int .i64 Ex.none.n) := by rw [← hW]; simp [go_sem]
  have q9 : W1.cell? ⟨w.heap.size, 9, none⟩ = some (.string (bs Ex.none.s)) := by rw [← hW]; simp [go_sem]
  have q10 : W1.cell? ⟨w.heap.size, 10, none⟩ = some (.slice A2 Ex.none.kids.length c2) := by rw [← hW]; simp [go_sem]
  have hBk : Blk W1 (w.heap.size + 1) 3 #[.int .i64 ((0 : Nat) : Int)] := by
    rw [← hW]
    have h := Blk.new (w.alloc (.cells #[.int .i64 2, .string (bs []), .string (bs []), .int .i64 e.ex.kind, .int .i64 e.ex.n, .string (bs e.ex.s), .slice A1 e.ex.kids.length c1, .int .i64 Ex.none.kind, .int .i64 Ex.none.n, .string (bs Ex.none.s), .slice A2 Ex.none.kids.length c2] 26)) 3 #[.int .i64 ((0 : Nat) : Int)]
    rwa [World.size_alloc] at h
  clear hW
  have ka := fun (o : Obj) (j : Nat) => World.cell?_alloc_lt W1 o ⟨w.heap.size, j, none⟩ (show w.heap.size < W1.heap.size by omega)
  go_upto_region 6 with fail
  go_wp2_with fail
  refine (IH.out _ 0 (by (repeat (first | with_reducible assumption | with_reducible exact Below.refl _ _ | with_reducible refine Below.setCell ?_ (by first | omega | (simp; done) | (simp; omega)) _ | with_reducible refine Below.alloc ?_ (by first | omega | (simp; done) | (simp; omega)) _ | with_reducible refine below_drewN ?_ _ | with_reducible refine Below.drew ?_ | with_reducible refine Below.trans ?_ (Below.mono hb0 (by first | omega | (simp; done) | (simp; omega)))))) (by omega) (by (repeat (first | with_reducible assumption | with_reducible refine Blk.alloc ?_ _ | with_reducible refine Blk.drew ?_)))).mono ?_
  rintro r w2 ⟨u2, m2, n2, rfl, hG2, hM2, hg2, hB2, hn2, hn2'⟩
  have hb2 := below_of_grown (B := w.heap.size + 1) hg2 (Nat.le_refl _) (by first | omega | (simp; done) | (simp only [List.length_cons, List.length_nil, List.length_append]; omega) | (simp; omega))
  have hz2 := hb2.size
  (try simp at hz2)
  obtain ⟨hp2, hl2⟩ : 0 < m2.length ∧ m2.length ≤ 100 := (by have := congrArg List.length hM2; rw [List.length_map] at this; omega)
  obtain ⟨gg2, cap2, rfl, hgl2, hgh2⟩ := hG2.block hp2
  go_wp2_with (first | (at_builtin; refine app_plain rtSrc (by rfl) (.tmp 26) (.tmp 29) (by rfl) W1.heap.size (.slice (some ⟨W1.heap.size, 0, none⟩) 1 1) [(cSay, 103)] (by rfl) ?_ ⟨gg2, 0, none⟩ cap2 m2 (by rfl) hG2.cells hp2 (by first | omega | (simp; done) | (simp only [List.length_cons, List.length_nil, List.length_append]; omega) | (simp; omega)) (by first | omega | (simp; done) | (simp only [List.length_cons, List.length_nil, List.length_append]; omega) | (simp; omega)) ?_; exact Gt.laid (w' := W1) _ _ rfl rfl _ rfl (by first | omega | (simp; done) | (simp only [List.length_cons, List.length_nil, List.length_append]; omega) | (simp; omega)) (fun _ => rfl) (by first | omega | (simp; done) | (simp only [List.length_cons, List.length_nil, List.length_append]; omega) | (simp; omega)) (hg2.block W1.heap.size (by simp) (by intro e; have := Option.some.inj e; omega)) (by first | omega | (simp; done) | (simp only [List.length_cons, List.length_nil, List.length_append]; omega) | (simp; omega)); intro g3' cap3 w3 hG3 hgr3 hat3) | fail)
  go_ret
  exact ⟨_, [(cSay, 103)] ++ m2, rfl, (hG3.len (by first | omega | (simp; done) | (simp only [List.length_cons, List.length_nil, List.length_append]; omega) | (simp; omega)) rfl).sl (fun _ => rfl), by rw [HWW.out, ← hM2]; rfl, by simp; omega, by (repeat (first | with_reducible assumption | with_reducible exact Below.refl _ _ | with_reducible refine Below.setCell ?_ (by first | omega | (simp; done) | (simp; omega)) _ | with_reducible refine Below.alloc ?_ (by first | omega | (simp; done) | (simp; omega)) _ | with_reducible refine below_drewN ?_ _ | with_reducible refine Below.drew ?_ | with_reducible refine Below.trans ?_ (Below.mono hb2 (by first | omega | (simp; done) | (simp; omega))) | with_reducible refine Below.trans ?_ (Below.mono hb0 (by first | omega | (simp; done) | (simp; omega))) | with_reducible refine below_app ?_ hgr3 (by intro q hq; simp [Value.ownBlock] at hq; omega) (by first | omega | (simp; done) | (simp; omega))))⟩
set_option maxHeartbeats 4000000 in
theorem imS_when (e f : E) (v : Value) (w : World) (hok : e.Ok) (hof : f.Ok) (hv : SmV w w.heap.size v (SE.when e f).sm) (hE : Env w) : Calls Tryz.prog 122 #[v] w (SWP (SE.when e f).words w) := by
  obtain ⟨A1, A2, c1, c2, rfl, hn, ht, hE1, hE2⟩ := hv.form2
  simp only [SE.sm] at hn ht hE1 hE2 ⊢
  have hpos := E.words_pos e 1
  have hlen := E.words_len e 1
  have hcn := hok.2.2
  have hpos' := E.words_pos f 1
  have hlen' := E.words_len f 1
  have hcn' := hof.2.2
  have IH := Lib.hid (show ∀ (w' : World) (k : Nat), Below w.heap.size w w' → k ≤ 100 → Blk w' (w.heap.size + 1) 3 #[.int .i64 (k : Int)] → Calls Tryz.prog 85 #[.agg #[.int .i64 e.ex.kind, .int .i64 e.ex.n, .string (bs e.ex.s), .slice A1 e.ex.kids.length c1], .int .i64 0, .pointer (some ⟨w.heap.size + 1, 0, none⟩)] w' (WP (e.words 0) e.cnt (w.heap.size + 1) k w') from fun w' k h hk hb =>
    imW_any e 0 _ w' (w.heap.size + 1) k w.heap.size hok.1 (by omega) (by omega) (by omega) (hE1.keep h (Nat.le_refl _)) (by omega) hb ((hE.envB).keep h))
  have IH2 := Lib.hid (show ∀ (w' : World) (k : Nat), Below w.heap.size w w' → k ≤ 100 → Blk w' (w.heap.size + 1) 3 #[.int .i64 (k : Int)] → Calls Tryz.prog 85 #[.agg #[.int .i64 f.ex.kind, .int .i64 f.ex.n, .string (bs f.ex.s), .slice A2 f.ex.kids.length c2], .int .i64 0, .pointer (some ⟨w.heap.size + 1, 0, none⟩)] w' (WP (f.words 0) f.cnt (w.heap.size + 1) k w') from fun w' k h hk hb =>
    imW_any f 0 _ w' (w.heap.size + 1) k w.heap.size hof.1 (by omega) (by omega) (by omega) (hE2.keep h (Nat.le_refl _)) (by omega) hb ((hE.envB).keep h))
  rw [E.words_zero] at IH IH2
  have HWW := Lib.hid (show (SE.when e f).words = [cWhen] ++ e.words 1 ++ [cSay] ++ f.words 1 by simp [SE.words])
  clear hE1 hE2 hok hof hE hv
  generalize e.words 1 = wa at *
  generalize f.words 1 = wb at *
  go_enter Tryz.func122, Tryz.ntmps122
  go_upto_region 2 with fail
  generalize hW : World.alloc (World.alloc w _) _ = W1
  have hb0 : Below w.heap.size w W1 := by rw [← hW]; (repeat (first | with_reducible assumption | with_reducible exact Below.refl _ _ | with_reducible refine Below.setCell ?_ (by first | omega | (simp; done) | (simp; omega)) _ | with_reducible refine Below.alloc ?_ (by first | omega | (simp; done) | (simp; omega)) _ | with_reducible refine below_drewN ?_ _ | with_reducible refine Below.drew ?_))
  have hz0 : w.heap.size + 1 < W1.heap.size := by rw [← hW]; simp
  have q0 : W1.cell? ⟨w.heap.size, 0, none⟩ = some (.int .i64 3) := by rw [← hW]; simp [go_sem]
  have q1 : W1.cell? ⟨w.heap.size, 1, none⟩ = some (.string (bs [])) := by rw [← hW]; simp [go_sem]
  have q2 : W1.cell? ⟨w.heap.size, 2, none⟩ = some (.string (bs [])) := by rw [← hW]; simp [go_sem]
  have q3 : W1.cell? ⟨w.heap.size, 3, none⟩ = some (.int .i64 e.ex.kind) := by rw [← hW]; simp [go_sem]
  have q4 : W1.cell? ⟨w.heap.size, 4, none⟩ = some (.int .i64 e.ex.n) := by rw [← hW]; simp [go_sem]
  have q5 : W1.cell? ⟨w.heap.size, 5, none⟩ = some (.string (bs e.ex.s)) := by rw [← hW]; simp [go_sem]
  have q6 : W1.cell? ⟨w.heap.size, 6, none⟩ = some (.slice A1 e.ex.kids.length c1) := by rw [← hW]; simp [go_sem]
  have q7 : W1.cell? ⟨w.heap.size, 7, none⟩ = some (.int .i64 f.ex.kind) := by rw [← hW]; simp [go_sem]
  have q8 : W1.cell? ⟨w.heap.size, 8, none⟩ = some (.int .i64 f.ex.n) := by rw [← hW]; simp [go_sem]
  have q9 : W1.cell? ⟨w.heap.size, 9, none⟩ = some (.string (bs f.ex.s)) := by rw [← hW]; simp [go_sem]
  have q10 : W1.cell? ⟨w.heap.size, 10, none⟩ = some (.slice A2 f.ex.kids.length c2) := by rw [← hW]; simp [go_sem]
  have hBk : Blk W1 (w.heap.size + 1) 3 #[.int .i64 ((0 : Nat) : Int)] := by
    rw [← hW]
    have h := Blk.new (w.alloc (.cells #[.int .i64 3, .string (bs []), .string (bs []), .int .i64 e.ex.kind, .int .i64 e.ex.n, .string (bs e.ex.s), .slice A1 e.ex.kids.length c1, .int .i64 f.ex.kind, .int .i64 f.ex.n, .string (bs f.ex.s), .slice A2 f.ex.kids.length c2] 26)) 3 #[.int .i64 ((0 : Nat) : Int)]
    rwa [World.size_alloc] at h
  clear hW
  have KEEP := Lib.hid (show ∀ w' : World, Below (w.heap.size + 1) W1 w' → (w'.cell? ⟨w.heap.size, 7, none⟩ = some (.int .i64 f.ex.kind) ∧ w'.cell? ⟨w.heap.size, 8, none⟩ = some (.int .i64 f.ex.n) ∧ w'.cell? ⟨w.heap.size, 9, none⟩ = some (.string (bs f.ex.s)) ∧ w'.cell? ⟨w.heap.size, 10, none⟩ = some (.slice A2 f.ex.kids.length c2)) from
    fun w' h => ⟨(h.cell (p := ⟨w.heap.size, 7, none⟩) (Nat.lt_succ_self _)).trans q7, (h.cell (p := ⟨w.heap.size, 8, none⟩) (Nat.lt_succ_self _)).trans q8, (h.cell (p := ⟨w.heap.size, 9, none⟩) (Nat.lt_succ_self _)).trans q9, (h.cell (p := ⟨w.heap.size, 10, none⟩) (Nat.lt_succ_self _)).trans q10⟩)
  have ka := fun (o : Obj) (j : Nat) => World.cell?_alloc_lt W1 o ⟨w.heap.size, j, none⟩ (show w.heap.size < W1.heap.size by omega)
  go_upto_region 8 with fail
  clear q7 q8 q9 q10
  go_wp2_with fail
  refine (IH.out _ 0 (by (repeat (first | with_reducible assumption | with_reducible exact Below.refl _ _ | with_reducible refine Below.setCell ?_ (by first | omega | (simp; done) | (simp; omega)) _ | with_reducible refine Below.alloc ?_ (by first | omega | (simp; done) | (simp; omega)) _ | with_reducible refine below_drewN ?_ _ | with_reducible refine Below.drew ?_ | with_reducible refine Below.trans ?_ (Below.mono hb0 (by first | omega | (simp; done) | (simp; omega)))))) (by omega) (by (repeat (first | with_reducible assumption | with_reducible refine Blk.alloc ?_ _ | with_reducible refine Blk.drew ?_)))).mono ?_
  rintro r w2 ⟨u2, m2, n2, rfl, hG2, hM2, hg2, hB2, hn2, hn2'⟩
  have hb2 := below_of_grown (B := w.heap.size + 1) hg2 (Nat.le_refl _) (by first | omega | (simp; done) | (simp only [List.length_cons, List.length_nil, List.length_append]; omega) | (simp; omega))
  have hz2 := hb2.size
  (try simp at hz2)
  obtain ⟨hp2, hl2⟩ : 0 < m2.length ∧ m2.length ≤ 100 := (by have := congrArg List.length hM2; rw [List.length_map] at this; omega)
  obtain ⟨gg2, cap2, rfl, hgl2, hgh2⟩ := hG2.block hp2
  go_wp2_with (first
    | (at_builtin; refine app_plain rtSrc (by rfl) (.tmp 34) (.tmp 37) (by rfl) W1.heap.size (.slice (some ⟨W1.heap.size, 0, none⟩) 1 1) [(cWhen, 100)] (by rfl) ?_ ⟨gg2, 0, none⟩ cap2 m2 (by rfl) hG2.cells hp2 (by first | omega | (simp; done) | (simp only [List.length_cons, List.length_nil, List.length_append]; omega) | (simp; omega)) (by first | omega | (simp; done) | (simp only [List.length_cons, List.length_nil, List.length_append]; omega) | (simp; omega)) ?_; exact Gt.laid (w' := W1) _ _ rfl rfl _ rfl (by first | omega | (simp; done) | (simp only [List.length_cons, List.length_nil, List.length_append]; omega) | (simp; omega)) (fun _ => rfl) (by first | omega | (simp; done) | (simp only [List.length_cons, List.length_nil, List.length_append]; omega) | (simp; omega)) (hg2.block W1.heap.size (by simp) (by intro e; have := Option.some.inj e; omega)) (by first | omega | (simp; done) | (simp only [List.length_cons, List.length_nil, List.length_append]; omega) | (simp; omega)); intro g3 cap3 w3 hG3 hgr3 hat3; have hz3 := hgr3.size; (try simp at hz3); have hlo3 : W1.heap.size ≤ g3 := (by rcases hat3 with h | h <;> (try simp [Value.ownBlock] at h) <;> omega); have hb3 : Below (w.heap.size + 1) W1 w3 := (by (repeat (first | with_reducible assumption | with_reducible exact Below.refl _ _ | with_reducible refine Below.setCell ?_ (by first | omega | (simp; done) | (simp; omega)) _ | with_reducible refine Below.alloc ?_ (by first | omega | (simp; done) | (simp; omega)) _ | with_reducible refine below_drewN ?_ _ | with_reducible refine Below.drew ?_ | with_reducible refine Below.trans ?_ (Below.mono hb2 (by first | omega | (simp; done) | (simp; omega))) | with_reducible refine below_app ?_ hgr3 (by intro q hq; simp [Value.ownBlock] at hq; omega) (by first | omega | (simp; done) | (simp; omega))))))
    | (at_builtin; refine app_plain rtSrc (by rfl) (.tmp 39) (.tmp 41) (by rfl) W1.heap.size (.slice (some ⟨g3, 0, none⟩) _ cap3) ([(cWhen, 100)] ++ m2) (by rfl) ((hG3.ext (by (repeat (first | with_reducible assumption | with_reducible exact Below.refl _ _ | with_reducible refine Below.setCell ?_ (by first | omega | (simp; done) | (simp; omega)) _ | with_reducible refine Below.alloc ?_ (by first | omega | (simp; done) | (simp; omega)) _ | with_reducible refine below_drewN ?_ _ | with_reducible refine Below.drew ?_)))).len (by first | omega | (simp; done) | (simp only [List.length_cons, List.length_nil, List.length_append]; omega) | (simp; omega)) rfl) ⟨w3.heap.size, 0, none⟩ 1 [(cSay, 103)] (by rfl) (World.news_of_block (heap_alloc_new w3 _)) (by simp) (by first | omega | (simp; done) | (simp only [List.length_cons, List.length_nil, List.length_append]; omega) | (simp; omega)) (by first | omega | (simp; done) | (simp only [List.length_cons, List.length_nil, List.length_append]; omega) | (simp; omega)) ?_; intro g4 cap4 w4 hG4 hgr4 hat4; have hz4 := hgr4.size; (try simp at hz4); have hlo4 : W1.heap.size ≤ g4 := (by rcases hat4 with h | h <;> (try simp [Value.ownBlock] at h) <;> omega); have hb4 : Below (w.heap.size + 1) W1 w4 := (by (repeat (first | with_reducible assumption | with_reducible exact Below.refl _ _ | with_reducible refine Below.setCell ?_ (by first | omega | (simp; done) | (simp; omega)) _ | with_reducible refine Below.alloc ?_ (by first | omega | (simp; done) | (simp; omega)) _ | with_reducible refine below_drewN ?_ _ | with_reducible refine Below.drew ?_ | with_reducible refine Below.trans ?_ (Below.mono hb3 (by first | omega | (simp; done) | (simp; omega))) | with_reducible refine below_app ?_ hgr4 (by intro q hq; simp [Value.ownBlock] at hq; omega) (by first | omega | (simp; done) | (simp; omega))))); have hBp4 : Blk w4 (w.heap.size + 1) 3 #[.int .i64 (n2 : Int)] := (by (repeat (first | with_reducible assumption | with_reducible refine Blk.alloc ?_ _ | with_reducible refine Blk.drew ?_ | with_reducible refine blk_app ?_ hgr3 (by intro q hq; simp [Value.ownBlock] at hq; omega) | with_reducible refine blk_app ?_ hgr4 (by intro q hq; simp [Value.ownBlock] at hq; omega)))); obtain ⟨v7, v8, v9, v10⟩ := KEEP.out _ hb4)
    | fail)
  refine (IH2.out _ n2 (by (repeat (first | with_reducible assumption | with_reducible exact Below.refl _ _ | with_reducible refine Below.setCell ?_ (by first | omega | (simp; done) | (simp; omega)) _ | with_reducible refine Below.alloc ?_ (by first | omega | (simp; done) | (simp; omega)) _ | with_reducible refine below_drewN ?_ _ | with_reducible refine Below.drew ?_ | with_reducible refine Below.trans ?_ (Below.mono hb4 (by first | omega | (simp; done) | (simp; omega))) | with_reducible refine Below.trans ?_ (Below.mono hb0 (by first | omega | (simp; done) | (simp; omega)))))) (by omega) (by (repeat (first | with_reducible assumption | with_reducible refine Blk.alloc ?_ _ | with_reducible refine Blk.drew ?_)))).mono ?_
  rintro r w5 ⟨u5, m5, n5, rfl, hG5, hM5, hg5, hB5, hn5, hn5'⟩
  have hb5 := below_of_grown (B := w.heap.size + 1) hg5 (Nat.le_refl _) (by first | omega | (simp; done) | (simp only [List.length_cons, List.length_nil, List.length_append]; omega) | (simp; omega))
  have hz5 := hb5.size
  obtain ⟨hp5, hl5⟩ : 0 < m5.length ∧ m5.length ≤ 100 := (by have := congrArg List.length hM5; rw [List.length_map] at this; omega)
  obtain ⟨gg5, cap5, rfl, hgl5, hgh5⟩ := hG5.block hp5
  have hG4' := hG4.grown hg5 (.inr (by simp [Value.ownBlock]; omega))
  go_wp2_with (first
    | (at_builtin; refine app_plain rtSrc (by rfl) (.tmp 43) (.tmp 46) (by rfl) W1.heap.size (.slice (some ⟨g4, 0, none⟩) _ cap4) ([(cWhen, 100)] ++ m2 ++ [(cSay, 103)]) (by rfl) (hG4'.len (by first | omega | (simp; done) | (simp only [List.length_cons, List.length_nil, List.length_append]; omega) | (simp; omega)) rfl) ⟨gg5, 0, none⟩ cap5 m5 (by rfl) hG5.cells hp5 (by first | omega | (simp; done) | (simp only [List.length_cons, List.length_nil, List.length_append]; omega) | (simp; omega)) (by first | omega | (simp; done) | (simp only [List.length_cons, List.length_nil, List.length_append]; omega) | (simp; omega)) ?_; intro g6 cap6 w6 hG6 hgr6 hat6)
    | fail)
  go_ret
  exact ⟨_, [(cWhen, 100)] ++ m2 ++ [(cSay, 103)] ++ m5, rfl, (hG6.len (by first | omega | (simp; done) | (simp only [List.length_cons, List.length_nil, List.length_append]; omega) | (simp; omega)) rfl).sl (fun _ => rfl), by rw [HWW.out, ← hM2, ← hM5]; simp, by simp; omega, by (repeat (first | with_reducible assumption | with_reducible exact Below.refl _ _ | with_reducible refine Below.setCell ?_ (by first | omega | (simp; done) | (simp; omega)) _ | with_reducible refine Below.alloc ?_ (by first | omega | (simp; done) | (simp; omega)) _ | with_reducible refine below_drewN ?_ _ | with_reducible refine Below.drew ?_ | with_reducible refine Below.trans ?_ (Below.mono hb5 (by first | omega | (simp; done) | (simp; omega))) | with_reducible refine Below.trans ?_ (Below.mono hb4 (by first | omega | (simp; done) | (simp; omega))) | with_reducible refine Below.trans ?_ (Below.mono hb0 (by first | omega | (simp; done) | (simp; omega))) | with_reducible refine below_app ?_ hgr6 (by intro q hq; simp [Value.ownBlock] at hq; omega) (by first | omega | (simp; done) | (simp; omega))))⟩
theorem imS_any (s : Sm) (v : Value) (w : World) (hf : formSB s = true) (hv : SmV w w.heap.size v s) (hE : Env w) : Calls Tryz.prog 122 #[v] w (SWP (smWords s) w) := by
  obtain ⟨t, rfl, h⟩ := formSB_iff.1 hf
  rw [smWords_se h]
  cases t with
  | none => exact imS_none v w hv
  | slet nm ty e => exact imS_let nm ty e v w h.2 hv hE
  | say e => exact imS_say e v w h hv hE
  | when a b => exact imS_when a b v w h.1 h.2 hv hE
theorem imSText_any (s : Sm) (v : Value) (w : World) (hf : formSB s = true) (hv : SmV w w.heap.size v s) (hE : Env w) : Calls Tryz.prog 63 #[v] w fun r w' => r = .returned (.string (bs (smText s))) ∧ Below w.heap.size w w' := by
  have C1 := Lib.hid (fun (w' : World) (h : Below w.heap.size w w') => imS_any s _ w' hf ((hv.keep h (Nat.le_refl _)).more h.size) (hE.ext h))
  have HX := Lib.hid (And.intro (smText_len hf) (smWords_len hf))
  have HS := Lib.hid (show smText s = joinL (smWords s) from rfl)
  obtain ⟨A1, A2, c1, c2, rfl, hn, ht, hE1, hE2⟩ := id hv.form2
  clear hE1 hE2 hv hE
  go_enter Tryz.func63, Tryz.ntmps63
  go_wp2_with fail
  refine (C1.out _ (by (repeat (first | with_reducible assumption | with_reducible exact Below.refl _ _ | with_reducible refine Below.setCell ?_ (by first | omega | (simp; done) | (simp; omega)) _ | with_reducible refine Below.alloc ?_ (by first | omega | (simp; done) | (simp; omega)) _ | with_reducible refine below_drewN ?_ _ | with_reducible refine Below.drew ?_)))).mono ?_
  rintro r w1 ⟨u1, m1, rfl, hS1, hM1, hl1, hb1⟩
  have hz1 := hb1.size
  (try simp at hz1)
  obtain ⟨A, c, rfl, _, _⟩ := hS1.val
  go_wp2_with fail
  refine (bareWords_any m1 _ w1 hS1 hl1).mono ?_
  rintro r w2 ⟨u2, rfl, hS2, hb2⟩
  have hz2 := hb2.size
  rw [hM1] at hS2
  obtain ⟨A', c', rfl, _, _⟩ := hS2.val
  go_wp2_with fail
  refine (imTokText_any (smWords s) _ w2 hS2 (by rw [← HS.out]; have := HX.out.1; omega) (by have := HX.out.2; omega)).mono ?_
  rintro r w3 ⟨rfl, hb3⟩
  go_wp2_with fail
  go_ret
  exact ⟨ret_bs (by first | (rw [HS.out]; done) | (rw [HS.out]; simp)), by (repeat (first | with_reducible assumption | with_reducible exact Below.refl _ _ | with_reducible refine Below.setCell ?_ (by first | omega | (simp; done) | (simp; omega)) _ | with_reducible refine Below.alloc ?_ (by first | omega | (simp; done) | (simp; omega)) _ | with_reducible refine below_drewN ?_ _ | with_reducible refine Below.drew ?_ | with_reducible refine Below.trans ?_ (Below.mono hb3 (by first | omega | (simp; done) | (simp; omega))) | with_reducible refine Below.trans ?_ (Below.mono hb2 (by first | omega | (simp; done) | (simp; omega))) | with_reducible refine Below.trans ?_ (Below.mono hb1 (by first | omega | (simp; done) | (simp; omega)))))⟩
end Go.Proofs.YtgakjhaepdigpaaGreatDoor


/- Statements: the program's test and text. -/
namespace Go.Proofs.YtgakjhaepdigpaaGreatDoor
set_option maxRecDepth 100000
set_option linter.unusedSimpArgs false
set_option linter.unusedVariables false
open Go.RowKit
attribute [local go_sem] bs_toList bs_get bs_size

set_option maxHeartbeats 4000000 in
theorem imStmtOk_any (s : Sm) (v : Value) (w : World) (hv : SmV w w.heap.size v s) (hE : Env w) : Calls Tryz.prog 20 #[v] w fun r w' => r = .returned (.bool (smOkB s)) ∧ Below w.heap.size w w' := by
  obtain ⟨A1, A2, c1, c2, rfl, hn, ht, hE1, hE2⟩ := id hv.form2
  have N1 : Hid (∀ w', Below w.heap.size w w' → Calls Tryz.prog 64 #[.agg #[.int .i64 s.ex.kind, .int .i64 s.ex.n, .string (bs s.ex.s), .slice A1 s.ex.kids.length c1]] w' fun r w'' => r = .returned (.bool (noneB s.ex)) ∧ Below w'.heap.size w' w'') := Lib.hid (fun (w' : World) (h : Below w.heap.size w w') => imNone_any s.ex _ w' ((hE1.keep h (Nat.le_refl _)).more h.size))
  have N2 : Hid (∀ w', Below w.heap.size w w' → Calls Tryz.prog 64 #[.agg #[.int .i64 s.th.kind, .int .i64 s.th.n, .string (bs s.th.s), .slice A2 s.th.kids.length c2]] w' fun r w'' => r = .returned (.bool (noneB s.th)) ∧ Below w'.heap.size w' w'') := Lib.hid (fun (w' : World) (h : Below w.heap.size w w') => imNone_any s.th _ w' ((hE2.keep h (Nat.le_refl _)).more h.size))
  have O1 := Lib.hid (fun (w' : World) (h : Below w.heap.size w w') => imOk_any s.ex _ w' ((hE1.keep h (Nat.le_refl _)).more h.size) (hE.ext h))
  have O2 := Lib.hid (fun (w' : World) (h : Below w.heap.size w w') => imOk_any s.th _ w' ((hE2.keep h (Nat.le_refl _)).more h.size) (hE.ext h))
  have NM := Lib.hid (fun (w' : World) (h : Below w.heap.size w w') => imName_any s.name w' hn (hE.ext h))
  have L5 := Lib.hid (fun (w' : World) (h : Below w.heap.size w w') (hf : formSB s = true) => imSText_any s _ w' hf ((hv.keep h (Nat.le_refl _)).more h.size) (hE.ext h))
  have hfs : formSB s = (if s.kind = 0 then (s.name == []) && (s.typ == []) && noneB s.ex && noneB s.th
    else if s.kind = 1 then nameB s.name && typeB s.typ && exOkB s.ex && noneB s.th
    else if s.kind = 2 then (s.name == []) && (s.typ == []) && exOkB s.ex && noneB s.th
    else if s.kind = 3 then (s.name == []) && (s.typ == []) && exOkB s.ex && exOkB s.th else false) := rfl
  have HO := Lib.hid (smOkB_form s)
  clear hv hE1 hE2 hE
  generalize formSB s = fs at *
  generalize noneB s.ex = bn1 at *
  generalize noneB s.th = bn2 at *
  generalize exOkB s.ex = bo1 at *
  generalize exOkB s.th = bo2 at *
  generalize s.name = nm at *
  generalize s.typ = ty at *
  generalize s.kind = k at *
  generalize s.ex = ea at *
  generalize s.th = eb at *
  generalize smText s = tx at *
  generalize smOkB s = so at *
  go_enter Tryz.func20, Tryz.ntmps20
  go_upto_block 0 with fail
  go_cut [0, 3] (fun s0 s3 wx => s3 = .bool fs ∧ Below (w.heap.size + 1) (w.alloc (.cells #[.int .i64 k, .string (bs nm), .string (bs ty), .int .i64 ea.kind, .int .i64 ea.n, .string (bs ea.s), .slice A1 ea.kids.length c1, .int .i64 eb.kind, .int .i64 eb.n, .string (bs eb.s), .slice A2 eb.kids.length c2] 26)) wx)
  case first =>
    clear L5 HO
    by_cases e0 : k = 0
    · subst e0
      simp only [if_true] at hfs
      subst hfs
      have tok1 : True := trivial
      go_wp2_with (first
        | (have tk := tok1; go_at_call 64; refine (N1.out _ (by (repeat (first | with_reducible assumption | with_reducible exact Below.refl _ _ | with_reducible refine Below.setCell ?_ (by first | omega | (simp; done) | (simp; omega)) _ | with_reducible refine Below.alloc ?_ (by first | omega | (simp; done) | (simp; omega)) _ | with_reducible refine below_drewN ?_ _ | with_reducible refine Below.drew ?_)))).mono ?_; rintro r w1 ⟨rfl, hb1⟩; clear tk tok1; have hz1 := hb1.size; (try simp at hz1); have k1_0 := fun o => hb1.cell (p := ⟨w.heap.size, o, none⟩) (by first | omega | (simp; done) | (simp; omega)); have k1f_0 := fun o => hb1.frozen (p := ⟨w.heap.size, o, none⟩) (by first | omega | (simp; done) | (simp; omega)))
        | (have tk := hb1; go_at_call 64; refine (N2.out _ (by (repeat (first | with_reducible assumption | with_reducible exact Below.refl _ _ | with_reducible refine Below.setCell ?_ (by first | omega | (simp; done) | (simp; omega)) _ | with_reducible refine Below.alloc ?_ (by first | omega | (simp; done) | (simp; omega)) _ | with_reducible refine below_drewN ?_ _ | with_reducible refine Below.drew ?_ | with_reducible refine Below.trans ?_ (Below.mono hb1 (by first | omega | (simp; done) | (simp; omega))))))).mono ?_; rintro r w2 ⟨rfl, hb2⟩; clear tk; have hz2 := hb2.size; (try simp at hz2); have k2_0 := fun o => hb2.cell (p := ⟨w.heap.size, o, none⟩) (by first | omega | (simp; done) | (simp; omega)); have k2f_0 := fun o => hb2.frozen (p := ⟨w.heap.size, o, none⟩) (by first | omega | (simp; done) | (simp; omega)))
        | fail)
      all_goals (try (have hq := (by assumption : nm = []); subst hq))
      all_goals (try (have hq := (by assumption : ty = []); subst hq))
      all_goals
        go_meet
        refine ⟨congrArg Value.bool ?_, by (repeat (first | with_reducible assumption | with_reducible exact Below.refl _ _ | with_reducible refine Below.setCell ?_ (by first | omega | (simp; done) | (simp; omega)) _ | with_reducible refine Below.alloc ?_ (by first | omega | (simp; done) | (simp; omega)) _ | with_reducible refine below_drewN ?_ _ | with_reducible refine Below.drew ?_ | with_reducible refine Below.trans ?_ (Below.mono hb2 (by first | omega | (simp; done) | (simp; omega))) | with_reducible refine Below.trans ?_ (Below.mono hb1 (by first | omega | (simp; done) | (simp; omega)))))⟩
        clear O1 O2 N1 N2
        go_light
        simp_all
    rw [if_neg e0] at hfs
    by_cases e1 : k = 1
    · subst e1
      simp only [if_true] at hfs
      subst hfs
      clear e0
      go_wp2_with (first
        | (go_at_call 65; refine (NM.out _ (by (repeat (first | with_reducible assumption | with_reducible exact Below.refl _ _ | with_reducible refine Below.setCell ?_ (by first | omega | (simp; done) | (simp; omega)) _ | with_reducible refine Below.alloc ?_ (by first | omega | (simp; done) | (simp; omega)) _ | with_reducible refine below_drewN ?_ _ | with_reducible refine Below.drew ?_)))).mono ?_; rintro r _ ⟨rfl, rfl⟩)
        | (go_at_call 66; refine (imType_any _ _).mono ?_; rintro r _ ⟨rfl, rfl⟩)
        | (go_at_call 67; refine (O1.out _ (by (repeat (first | with_reducible assumption | with_reducible exact Below.refl _ _ | with_reducible refine Below.setCell ?_ (by first | omega | (simp; done) | (simp; omega)) _ | with_reducible refine Below.alloc ?_ (by first | omega | (simp; done) | (simp; omega)) _ | with_reducible refine below_drewN ?_ _ | with_reducible refine Below.drew ?_)))).mono ?_; rintro r w1 ⟨rfl, hb1⟩; have hz1 := hb1.size; (try simp at hz1); have k1_0 := fun o => hb1.cell (p := ⟨w.heap.size, o, none⟩) (by first | omega | (simp; done) | (simp; omega)); have k1f_0 := fun o => hb1.frozen (p := ⟨w.heap.size, o, none⟩) (by first | omega | (simp; done) | (simp; omega)))
        | (go_at_call 64; refine (N2.out _ (by (repeat (first | with_reducible assumption | with_reducible exact Below.refl _ _ | with_reducible refine Below.setCell ?_ (by first | omega | (simp; done) | (simp; omega)) _ | with_reducible refine Below.alloc ?_ (by first | omega | (simp; done) | (simp; omega)) _ | with_reducible refine below_drewN ?_ _ | with_reducible refine Below.drew ?_ | with_reducible refine Below.trans ?_ (Below.mono hb1 (by first | omega | (simp; done) | (simp; omega))))))).mono ?_; rintro r w2 ⟨rfl, hb2⟩; have hz2 := hb2.size; (try simp at hz2); have k2_0 := fun o => hb2.cell (p := ⟨w.heap.size, o, none⟩) (by first | omega | (simp; done) | (simp; omega)); have k2f_0 := fun o => hb2.frozen (p := ⟨w.heap.size, o, none⟩) (by first | omega | (simp; done) | (simp; omega)))
        | fail)
      all_goals (try (have hq := (by assumption : nm = []); subst hq))
      all_goals (try (have hq := (by assumption : ty = []); subst hq))
      all_goals
        go_meet
        refine ⟨congrArg Value.bool ?_, by (repeat (first | with_reducible assumption | with_reducible exact Below.refl _ _ | with_reducible refine Below.setCell ?_ (by first | omega | (simp; done) | (simp; omega)) _ | with_reducible refine Below.alloc ?_ (by first | omega | (simp; done) | (simp; omega)) _ | with_reducible refine below_drewN ?_ _ | with_reducible refine Below.drew ?_ | with_reducible refine Below.trans ?_ (Below.mono hb2 (by first | omega | (simp; done) | (simp; omega))) | with_reducible refine Below.trans ?_ (Below.mono hb1 (by first | omega | (simp; done) | (simp; omega)))))⟩
        clear O1 O2 N1 N2
        go_light
        simp_all
    rw [if_neg e1] at hfs
    by_cases e2 : k = 2
    · subst e2
      simp only [if_true] at hfs
      subst hfs
      clear e0 e1
      go_wp2_with (first
        | (go_at_call 67; refine (O1.out _ (by (repeat (first | with_reducible assumption | with_reducible exact Below.refl _ _ | with_reducible refine Below.setCell ?_ (by first | omega | (simp; done) | (simp; omega)) _ | with_reducible refine Below.alloc ?_ (by first | omega | (simp; done) | (simp; omega)) _ | with_reducible refine below_drewN ?_ _ | with_reducible refine Below.drew ?_)))).mono ?_; rintro r w1 ⟨rfl, hb1⟩; have hz1 := hb1.size; (try simp at hz1); have k1_0 := fun o => hb1.cell (p := ⟨w.heap.size, o, none⟩) (by first | omega | (simp; done) | (simp; omega)); have k1f_0 := fun o => hb1.frozen (p := ⟨w.heap.size, o, none⟩) (by first | omega | (simp; done) | (simp; omega)))
        | (go_at_call 64; refine (N2.out _ (by (repeat (first | with_reducible assumption | with_reducible exact Below.refl _ _ | with_reducible refine Below.setCell ?_ (by first | omega | (simp; done) | (simp; omega)) _ | with_reducible refine Below.alloc ?_ (by first | omega | (simp; done) | (simp; omega)) _ | with_reducible refine below_drewN ?_ _ | with_reducible refine Below.drew ?_ | with_reducible refine Below.trans ?_ (Below.mono hb1 (by first | omega | (simp; done) | (simp; omega))))))).mono ?_; rintro r w2 ⟨rfl, hb2⟩; have hz2 := hb2.size; (try simp at hz2); have k2_0 := fun o => hb2.cell (p := ⟨w.heap.size, o, none⟩) (by first | omega | (simp; done) | (simp; omega)); have k2f_0 := fun o => hb2.frozen (p := ⟨w.heap.size, o, none⟩) (by first | omega | (simp; done) | (simp; omega)))
        | fail)
      all_goals (try (have hq := (by assumption : nm = []); subst hq))
      all_goals (try (have hq := (by assumption : ty = []); subst hq))
      all_goals
        go_meet
        refine ⟨congrArg Value.bool ?_, by (repeat (first | with_reducible assumption | with_reducible exact Below.refl _ _ | with_reducible refine Below.setCell ?_ (by first | omega | (simp; done) | (simp; omega)) _ | with_reducible refine Below.alloc ?_ (by first | omega | (simp; done) | (simp; omega)) _ | with_reducible refine below_drewN ?_ _ | with_reducible refine Below.drew ?_ | with_reducible refine Below.trans ?_ (Below.mono hb2 (by first | omega | (simp; done) | (simp; omega))) | with_reducible refine Below.trans ?_ (Below.mono hb1 (by first | omega | (simp; done) | (simp; omega)))))⟩
        clear O1 O2 N1 N2
        go_light
        simp_all
    rw [if_neg e2] at hfs
    by_cases e3 : k = 3
    · subst e3
      simp only [if_true] at hfs
      subst hfs
      clear e0 e1 e2
      have tok1 : True := trivial
      go_wp2_with (first
        | (have tk := tok1; go_at_call 67; refine (O1.out _ (by (repeat (first | with_reducible assumption | with_reducible exact Below.refl _ _ | with_reducible refine Below.setCell ?_ (by first | omega | (simp; done) | (simp; omega)) _ | with_reducible refine Below.alloc ?_ (by first | omega | (simp; done) | (simp; omega)) _ | with_reducible refine below_drewN ?_ _ | with_reducible refine Below.drew ?_)))).mono ?_; rintro r w1 ⟨rfl, hb1⟩; clear tk tok1; have hz1 := hb1.size; (try simp at hz1); have k1_0 := fun o => hb1.cell (p := ⟨w.heap.size, o, none⟩) (by first | omega | (simp; done) | (simp; omega)); have k1f_0 := fun o => hb1.frozen (p := ⟨w.heap.size, o, none⟩) (by first | omega | (simp; done) | (simp; omega)))
        | (have tk := hb1; go_at_call 67; refine (O2.out _ (by (repeat (first | with_reducible assumption | with_reducible exact Below.refl _ _ | with_reducible refine Below.setCell ?_ (by first | omega | (simp; done) | (simp; omega)) _ | with_reducible refine Below.alloc ?_ (by first | omega | (simp; done) | (simp; omega)) _ | with_reducible refine below_drewN ?_ _ | with_reducible refine Below.drew ?_ | with_reducible refine Below.trans ?_ (Below.mono hb1 (by first | omega | (simp; done) | (simp; omega))))))).mono ?_; rintro r w2 ⟨rfl, hb2⟩; clear tk; have hz2 := hb2.size; (try simp at hz2); have k2_0 := fun o => hb2.cell (p := ⟨w.heap.size, o, none⟩) (by first | omega | (simp; done) | (simp; omega)); have k2f_0 := fun o => hb2.frozen (p := ⟨w.heap.size, o, none⟩) (by first | omega | (simp; done) | (simp; omega)))
        | fail)
      all_goals (try (have hq := (by assumption : nm = []); subst hq))
      all_goals (try (have hq := (by assumption : ty = []); subst hq))
      all_goals
        go_meet
        refine ⟨congrArg Value.bool ?_, by (repeat (first | with_reducible assumption | with_reducible exact Below.refl _ _ | with_reducible refine Below.setCell ?_ (by first | omega | (simp; done) | (simp; omega)) _ | with_reducible refine Below.alloc ?_ (by first | omega | (simp; done) | (simp; omega)) _ | with_reducible refine below_drewN ?_ _ | with_reducible refine Below.drew ?_ | with_reducible refine Below.trans ?_ (Below.mono hb2 (by first | omega | (simp; done) | (simp; omega))) | with_reducible refine Below.trans ?_ (Below.mono hb1 (by first | omega | (simp; done) | (simp; omega)))))⟩
        clear O1 O2 N1 N2
        go_light
        simp_all
    rw [if_neg e3] at hfs
    subst hfs
    have d0 : (k == 0) = false := by simpa using e0
    have d1 : (k == 1) = false := by simpa using e1
    have d2 : (k == 2) = false := by simpa using e2
    have d3 : (k == 3) = false := by simpa using e3
    go_wp2_with fail
    go_meet
    exact ⟨rfl, by (repeat (first | with_reducible assumption | with_reducible exact Below.refl _ _ | with_reducible refine Below.setCell ?_ (by first | omega | (simp; done) | (simp; omega)) _ | with_reducible refine Below.alloc ?_ (by first | omega | (simp; done) | (simp; omega)) _ | with_reducible refine below_drewN ?_ _ | with_reducible refine Below.drew ?_))⟩
  case rest =>
    obtain ⟨rfl, hbc⟩ := hcut
    have hz := hbc.size
    (try simp at hz)
    clear hfs N1 N2 O1 O2 NM
    have kc := fun o => hbc.cell (p := ⟨w.heap.size, o, none⟩) (by first | omega | (simp; done) | (simp only [List.length_cons, List.length_nil, List.length_append]; omega) | (simp; omega))
    have hbw : Below w.heap.size w wc := by (repeat (first | with_reducible assumption | with_reducible exact Below.refl _ _ | with_reducible refine Below.setCell ?_ (by first | omega | (simp; done) | (simp; omega)) _ | with_reducible refine Below.alloc ?_ (by first | omega | (simp; done) | (simp; omega)) _ | with_reducible refine below_drewN ?_ _ | with_reducible refine Below.drew ?_ | with_reducible refine Below.trans ?_ (Below.mono hbc (by first | omega | (simp; done) | (simp; omega)))))
    cases fs
    · go_wp2_with fail
      go_ret
      exact ⟨ret_bool (by rw [HO.out]; rfl), hbw⟩
    · go_wp2_with fail
      refine (L5.out _ hbw (by simp)).mono ?_
      rintro r w3 ⟨rfl, hb3⟩
      go_wp2_with fail
      go_ret
      exact ⟨ret_bool (by rw [HO.out, Bool.eq_iff_iff]; simp; try omega), by (repeat (first | with_reducible assumption | with_reducible exact Below.refl _ _ | with_reducible refine Below.setCell ?_ (by first | omega | (simp; done) | (simp; omega)) _ | with_reducible refine Below.alloc ?_ (by first | omega | (simp; done) | (simp; omega)) _ | with_reducible refine below_drewN ?_ _ | with_reducible refine Below.drew ?_ | with_reducible refine Below.trans ?_ (Below.mono hb3 (by first | omega | (simp; done) | (simp; omega))) | with_reducible refine Below.trans ?_ (Below.mono hbw (by first | omega | (simp; done) | (simp; omega)))))⟩
theorem imStmtText_any (s : Sm) (v : Value) (w : World) (hv : SmV w w.heap.size v s) (hE : Env w) : Calls Tryz.prog 18 #[v] w fun r w' => r = .returned (.string (bs (if smOkB s then smText s else []))) ∧ Below w.heap.size w w' := by
  have C1 := Lib.hid (fun (w' : World) (h : Below w.heap.size w w') => imStmtOk_any s _ w' ((hv.keep h (Nat.le_refl _)).more h.size) (hE.ext h))
  have L5 := Lib.hid (fun (w' : World) (h : Below w.heap.size w w') (hf : formSB s = true) => imSText_any s _ w' hf ((hv.keep h (Nat.le_refl _)).more h.size) (hE.ext h))
  have HF := Lib.hid (show smOkB s = true → formSB s = true from fun h => by rw [smOkB_form, Bool.and_eq_true] at h; exact h.1)
  obtain ⟨A1, A2, c1, c2, rfl, hn, ht, hE1, hE2⟩ := id hv.form2
  clear hE1 hE2 hv hE
  generalize smOkB s = so at *
  cases so
  · go_enter Tryz.func18, Tryz.ntmps18
    go_wp2_with fail
    refine (C1.out _ (by (repeat (first | with_reducible assumption | with_reducible exact Below.refl _ _ | with_reducible refine Below.setCell ?_ (by first | omega | (simp; done) | (simp; omega)) _ | with_reducible refine Below.alloc ?_ (by first | omega | (simp; done) | (simp; omega)) _ | with_reducible refine below_drewN ?_ _ | with_reducible refine Below.drew ?_)))).mono ?_
    rintro r w1 ⟨rfl, hb1⟩
    go_wp2_with fail
    go_ret
    exact ⟨rfl, by (repeat (first | with_reducible assumption | with_reducible exact Below.refl _ _ | with_reducible refine Below.setCell ?_ (by first | omega | (simp; done) | (simp; omega)) _ | with_reducible refine Below.alloc ?_ (by first | omega | (simp; done) | (simp; omega)) _ | with_reducible refine below_drewN ?_ _ | with_reducible refine Below.drew ?_ | with_reducible refine Below.trans ?_ (Below.mono hb1 (by first | omega | (simp; done) | (simp; omega)))))⟩
  · go_enter Tryz.func18, Tryz.ntmps18
    go_wp2_with fail
    refine (C1.out _ (by (repeat (first | with_reducible assumption | with_reducible exact Below.refl _ _ | with_reducible refine Below.setCell ?_ (by first | omega | (simp; done) | (simp; omega)) _ | with_reducible refine Below.alloc ?_ (by first | omega | (simp; done) | (simp; omega)) _ | with_reducible refine below_drewN ?_ _ | with_reducible refine Below.drew ?_)))).mono ?_
    rintro r w1 ⟨rfl, hb1⟩
    have hz1 := hb1.size
    (try simp at hz1)
    have k1_0 := fun o => hb1.cell (p := ⟨w.heap.size, o, none⟩) (by first | omega | (simp; done) | (simp; omega)); have k1f_0 := fun o => hb1.frozen (p := ⟨w.heap.size, o, none⟩) (by first | omega | (simp; done) | (simp; omega))
    go_wp2_with fail
    refine (L5.out _ (by (repeat (first | with_reducible assumption | with_reducible exact Below.refl _ _ | with_reducible refine Below.setCell ?_ (by first | omega | (simp; done) | (simp; omega)) _ | with_reducible refine Below.alloc ?_ (by first | omega | (simp; done) | (simp; omega)) _ | with_reducible refine below_drewN ?_ _ | with_reducible refine Below.drew ?_ | with_reducible refine Below.trans ?_ (Below.mono hb1 (by first | omega | (simp; done) | (simp; omega)))))) (HF.out (by simp))).mono ?_
    rintro r w3 ⟨rfl, hb3⟩
    go_wp2_with fail
    go_ret
    exact ⟨ret_bs (by simp), by (repeat (first | with_reducible assumption | with_reducible exact Below.refl _ _ | with_reducible refine Below.setCell ?_ (by first | omega | (simp; done) | (simp; omega)) _ | with_reducible refine Below.alloc ?_ (by first | omega | (simp; done) | (simp; omega)) _ | with_reducible refine below_drewN ?_ _ | with_reducible refine Below.drew ?_ | with_reducible refine Below.trans ?_ (Below.mono hb3 (by first | omega | (simp; done) | (simp; omega))) | with_reducible refine Below.trans ?_ (Below.mono hb1 (by first | omega | (simp; done) | (simp; omega)))))⟩
end Go.Proofs.YtgakjhaepdigpaaGreatDoor
