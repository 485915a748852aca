
/- The names in a line: the reference's StmtNames. -/
import Derived.Test.YtgakjhaepdigpaaGreatDoorNm
import Derived.Test.YtgakjhaepdigpaaGreatDoorStOk
namespace Go.Proofs.YtgakjhaepdigpaaGreatDoor
set_option maxRecDepth 100000
set_option linter.unusedSimpArgs false
set_option linter.unusedVariables false
open Go.RowKit
attribute [local go_sem] bs_toList bs_get bs_size

noncomputable def usX (l : List Bytes) (x : Ex) : List Bytes := open Classical in if h : ∃ e : E, x = e.ex then usesL l h.choose else l
theorem usX_ex (l : List Bytes) (e : E) : usX l e.ex = usesL l e := by
  have h : ∃ g : E, e.ex = g.ex := ⟨e, rfl⟩
  unfold usX
  rw [dif_pos h, ← E.ex_inj h.choose_spec]
theorem none_ne (e : E) : Ex.none ≠ e.ex := by cases e <;> simp [E.ex, Ex.none]
theorem usX_none (l : List Bytes) : usX l Ex.none = l := by
  unfold usX
  rw [dif_neg]
  rintro ⟨e, he⟩
  exact none_ne e he
def UsOk (x : Ex) : Prop := (∃ e : E, x = e.ex ∧ e.cnt ≤ 50) ∨ x = Ex.none
theorem usX_len {x : Ex} (h : UsOk x) (l : List Bytes) : (usX l x).length ≤ l.length + 50 := by
  rcases h with ⟨e, rfl, h⟩ | rfl
  · rw [usX_ex]; have := uses_len e l; omega
  · rw [usX_none]; omega
theorem spUsX_any (x : Ex) (hx : UsOk x) (l : List Bytes) (lo : Nat) (v u : Value) (w : World) (hv : ExV w lo v x) (hG : GtS lo w u l) (hlo : lo ≤ w.heap.size) (hl : l.length ≤ 100) : Calls Tryz.prog 82 #[u, v] w (UsP (usX l x) lo u w) := by
  rcases hx with ⟨e, rfl, hc⟩ | rfl
  · rw [usX_ex]
    exact spUses_n _ e (Nat.le_refl _) l lo v u w hv hG hlo (by omega)
  · rw [usX_none]
    obtain ⟨k, m, s, A, c, kl, hex, rfl, hs, hc, hm, hkv⟩ := hv.form
    obtain ⟨rfl, rfl, rfl, rfl⟩ := Ex.mk.inj hex
    obtain ⟨Au, cu, rfl, _, _⟩ := hG.val
    have HU := Lib.hid hG
    clear hv hkv hG
    generalize hu : Value.slice Au l.length cu = u at *
    clear hu
    go_enter Tryz.func82, Tryz.ntmps82
    go_wp2_with fail
    go_loopg [0, 5] 0 (fun n o i wr => n = 0 ∧ o = u ∧ i = .int .i64 0 ∧ Below w.heap.size w wr ∧ wr.cell? ⟨w.heap.size, 3, none⟩ = some (.slice A 0 c))
    case atStart => exact ⟨rfl, rfl, rfl, by (repeat (first | with_reducible assumption | with_reducible exact Below.refl _ _ | with_reducible refine Below.setCell ?_ (by first | omega | (simp; done) | (simp; omega)) _ | with_reducible refine Below.alloc ?_ (by first | omega | (simp; done) | (simp; omega)) _ | with_reducible refine below_drewN ?_ _ | with_reducible refine Below.drew ?_)), by simp [go_sem]⟩
    case round =>
      obtain ⟨hk, rfl, rfl, hbl, x3⟩ := hrel
      go_wp2_with fail
      go_ret
      exact ⟨_, rfl, HU.out.ext hbl, ⟨hbl.os, hbl.tape, hbl.output, hbl.size, fun k hk _ => hbl.block k hk⟩, fun q hq => .inl hq⟩
/-- the names in a line that is ok, else none -/
noncomputable def smNm (s : Sm) : List Bytes := if smOkB s = true then usX (usX [] s.ex) s.th else []
theorem sm_us {s : Sm} (h : smOkB s = true) : UsOk s.ex ∧ UsOk s.th := by
  obtain ⟨t, rfl, ht⟩ := smOkB_iff.1 h
  have hf := ht.1
  cases t with
  | none => exact ⟨.inr rfl, .inr rfl⟩
  | slet nm ty e => exact ⟨.inl ⟨e, rfl, by have := hf.2.2.2; omega⟩, .inr rfl⟩
  | say e => exact ⟨.inl ⟨e, rfl, by have := hf.2.2; omega⟩, .inr rfl⟩
  | when a b => exact ⟨.inl ⟨a, rfl, by have := hf.1.2.2; omega⟩, .inl ⟨b, rfl, by have := hf.2.2.2; omega⟩⟩
theorem smNm_len (s : Sm) : (smNm s).length ≤ 100 := by
  unfold smNm
  split
  · next h =>
    obtain ⟨h1, h2⟩ := sm_us h
    have a := usX_len h1 []
    have b := usX_len h2 (usX [] s.ex)
    simp at a
    omega
  · simp
set_option maxHeartbeats 2000000 in
theorem spStmtNames_any (s : Sm) (v : Value) (w : World) (hv : SmV w w.heap.size v s) : Calls Tryz.prog 29 #[v] w fun r w' => ∃ u, r = .returned u ∧ GtS w.heap.size w' u (smNm s) ∧ Below w.heap.size w w' := by
  have OK := Lib.hid (fun (w' : World) (h : Below w.heap.size w w') => spStmtOk_any s v w' ((hv.keep h (Nat.le_refl _)).more h.size))
  obtain ⟨A1, A2, c1, c2, rfl, hn, ht, hE1, hE2⟩ := hv.form2
  by_cases hso : smOkB s = true
  rotate_left
  · have hnm : smNm s = [] := by unfold smNm; rw [if_neg hso]
    have hso : smOkB s = false := by simpa using hso
    rw [hnm]
    rw [hso] at OK
    clear hE1 hE2 hv hnm hso
    go_enter Tryz.func29, Tryz.ntmps29
    go_wp2_with fail
    refine (OK.out _ (by (repeat (first | with_reducible assumption | with_reducible exact Below.refl _ _ | with_reducible refine Below.setCell ?_ (by first | omega | (simp; done) | (simp; omega)) _ | with_reducible refine Below.alloc ?_ (by first | omega | (simp; done) | (simp; omega)) _ | with_reducible refine below_drewN ?_ _ | with_reducible refine Below.drew ?_)))).mono ?_
    rintro r w1 ⟨rfl, hb1⟩
    have hbw1 : Below w.heap.size w w1 := by (repeat (first | with_reducible assumption | with_reducible exact Below.refl _ _ | with_reducible refine Below.setCell ?_ (by first | omega | (simp; done) | (simp; omega)) _ | with_reducible refine Below.alloc ?_ (by first | omega | (simp; done) | (simp; omega)) _ | with_reducible refine below_drewN ?_ _ | with_reducible refine Below.drew ?_ | with_reducible refine Below.trans ?_ (Below.mono hb1 (by first | omega | (simp; done) | (simp; omega)))))
    have hz1 := hbw1.size
    go_wp2_with fail
    go_ret
    exact ⟨_, rfl, gt_empty strRow 1 9 w1 _ hbw1.size (Below.refl _ _), by (repeat (first | with_reducible assumption | with_reducible exact Below.refl _ _ | with_reducible refine Below.setCell ?_ (by first | omega | (simp; done) | (simp; omega)) _ | with_reducible refine Below.alloc ?_ (by first | omega | (simp; done) | (simp; omega)) _ | with_reducible refine below_drewN ?_ _ | with_reducible refine Below.drew ?_ | with_reducible refine Below.trans ?_ (Below.mono hbw1 (by first | omega | (simp; done) | (simp; omega)))))⟩
  have hnm : smNm s = usX (usX [] s.ex) s.th := by unfold smNm; rw [if_pos hso]
  obtain ⟨hu1, hu2⟩ := sm_us hso
  have hl1 := usX_len hu1 []
  simp at hl1
  rw [hso] at OK
  rw [hnm]
  have C1 := Lib.hid (fun (u : Value) (w' : World) (lo : Nat) (h : Below w.heap.size w w') (h1 : w.heap.size ≤ lo) (h2 : lo ≤ w'.heap.size) (hG : GtS lo w' u []) => spUsX_any s.ex hu1 [] lo _ u w' ((hE1.keep h (Nat.le_refl _)).more h1) hG h2 (by simp))
  have C2 := Lib.hid (fun (u : Value) (w' : World) (lo : Nat) (h : Below w.heap.size w w') (h1 : w.heap.size ≤ lo) (h2 : lo ≤ w'.heap.size) (hG : GtS lo w' u (usX [] s.ex)) => spUsX_any s.th hu2 (usX [] s.ex) lo _ u w' ((hE2.keep h (Nat.le_refl _)).more h1) hG h2 (by omega))
  generalize usX (usX [] s.ex) s.th = l2 at *
  generalize usX [] s.ex = l1 at *
  clear hE1 hE2 hv hnm hso hu1 hu2
  generalize s.ex = ea at *
  generalize s.th = eb at *
  go_enter Tryz.func29, Tryz.ntmps29
  go_wp2_with fail
  refine (OK.out _ (by (repeat (first | with_reducible assumption | with_reducible exact Below.refl _ _ | with_reducible refine Below.setCell ?_ (by first | omega | (simp; done) | (simp; omega)) _ | with_reducible refine Below.alloc ?_ (by first | omega | (simp; done) | (simp; omega)) _ | with_reducible refine below_drewN ?_ _ | with_reducible refine Below.drew ?_)))).mono ?_
  rintro r w1 ⟨rfl, hb1⟩
  have hbw1 : Below w.heap.size w w1 := by (repeat (first | with_reducible assumption | with_reducible exact Below.refl _ _ | with_reducible refine Below.setCell ?_ (by first | omega | (simp; done) | (simp; omega)) _ | with_reducible refine Below.alloc ?_ (by first | omega | (simp; done) | (simp; omega)) _ | with_reducible refine below_drewN ?_ _ | with_reducible refine Below.drew ?_ | with_reducible refine Below.trans ?_ (Below.mono hb1 (by first | omega | (simp; done) | (simp; omega)))))
  have hz1 := hb1.size
  (try simp at hz1)
  have q : ∀ i, w1.cell? ⟨w.heap.size, i, none⟩ = _ := fun i => hb1.cell (p := ⟨w.heap.size, i, none⟩) (by simp)
  have q3 := q 3; have q4 := q 4; have q5 := q 5; have q6 := q 6; have q7 := q 7; have q8 := q 8; have q9 := q 9; have q10 := q 10
  simp [go_sem] at q3 q4 q5 q6 q7 q8 q9 q10
  clear q OK hb1
  go_upto_region 3 with fail
  have KEEP := Lib.hid (show ∀ w' : World, Below w1.heap.size w1 w' → (w'.cell? ⟨w.heap.size, 3, none⟩ = some (.int .i64 ea.kind) ∧ w'.cell? ⟨w.heap.size, 4, none⟩ = some (.int .i64 ea.n) ∧ w'.cell? ⟨w.heap.size, 5, none⟩ = some (.string (bs ea.s)) ∧ w'.cell? ⟨w.heap.size, 6, none⟩ = some (.slice A1 ea.kids.length c1) ∧ w'.cell? ⟨w.heap.size, 7, none⟩ = some (.int .i64 eb.kind) ∧ w'.cell? ⟨w.heap.size, 8, none⟩ = some (.int .i64 eb.n) ∧ w'.cell? ⟨w.heap.size, 9, none⟩ = some (.string (bs eb.s)) ∧ w'.cell? ⟨w.heap.size, 10, none⟩ = some (.slice A2 eb.kids.length c2)) from fun w' h => ⟨h.keepc q3, h.keepc q4, h.keepc q5, h.keepc q6, h.keepc q7, h.keepc q8, h.keepc q9, h.keepc q10⟩)
  have hlw : w.heap.size ≤ w1.heap.size := by omega
  go_region_held3 (fun w' => w'.cell? ⟨w.heap.size, 3, none⟩ = some (.int .i64 ea.kind) ∧ w'.cell? ⟨w.heap.size, 4, none⟩ = some (.int .i64 ea.n) ∧ w'.cell? ⟨w.heap.size, 5, none⟩ = some (.string (bs ea.s)) ∧ w'.cell? ⟨w.heap.size, 6, none⟩ = some (.slice A1 ea.kids.length c1) ∧ w'.cell? ⟨w.heap.size, 7, none⟩ = some (.int .i64 eb.kind) ∧ w'.cell? ⟨w.heap.size, 8, none⟩ = some (.int .i64 eb.n) ∧ w'.cell? ⟨w.heap.size, 9, none⟩ = some (.string (bs eb.s)) ∧ w'.cell? ⟨w.heap.size, 10, none⟩ = some (.slice A2 eb.kids.length c2))
    (first | exact KEEP.out _ hb3 | exact KEEP.out _ hb2 | exact KEEP.out _ (by (repeat (first | with_reducible assumption | with_reducible exact Below.refl _ _ | with_reducible refine Below.setCell ?_ (by first | omega | (simp; done) | (simp; omega)) _ | with_reducible refine Below.alloc ?_ (by first | omega | (simp; done) | (simp; omega)) _ | with_reducible refine below_drewN ?_ _ | with_reducible refine Below.drew ?_ | with_reducible refine Below.trans ?_ (Below.mono hb2 (by first | omega | (simp; done) | (simp; omega)))))) | go_keep)
    (first
      | (have tk := hb2; go_at_call 82; refine (C2.out _ _ w1.heap.size (by (repeat (first | with_reducible assumption | with_reducible exact Below.refl _ _ | with_reducible refine Below.setCell ?_ (by first | omega | (simp; done) | (simp; omega)) _ | with_reducible refine Below.alloc ?_ (by first | omega | (simp; done) | (simp; omega)) _ | with_reducible refine below_drewN ?_ _ | with_reducible refine Below.drew ?_ | with_reducible refine Below.trans ?_ (Below.mono hb2 (by first | omega | (simp; done) | (simp; omega))) | with_reducible refine Below.trans ?_ (Below.mono hbw1 (by first | omega | (simp; done) | (simp; omega)))))) hlw (by first | exact hz2 | (simp; omega)) (hG2.ext (by (repeat (first | with_reducible assumption | with_reducible exact Below.refl _ _ | with_reducible refine Below.setCell ?_ (by first | omega | (simp; done) | (simp; omega)) _ | with_reducible refine Below.alloc ?_ (by first | omega | (simp; done) | (simp; omega)) _ | with_reducible refine below_drewN ?_ _ | with_reducible refine Below.drew ?_))))).mono ?_; rintro r w3 ⟨u3, rfl, hG3, hg3, hO3⟩; have hb3 : Below w1.heap.size w1 w3 := (below_app (by (repeat (first | with_reducible assumption | with_reducible exact Below.refl _ _ | with_reducible refine Below.setCell ?_ (by first | omega | (simp; done) | (simp; omega)) _ | with_reducible refine Below.alloc ?_ (by first | omega | (simp; done) | (simp; omega)) _ | with_reducible refine below_drewN ?_ _ | with_reducible refine Below.drew ?_ | with_reducible refine Below.trans ?_ (Below.mono hb2 (by first | omega | (simp; done) | (simp; omega)))))) hg3 (fun q hq => (hG2.lt hq).1) (by first | exact hz2 | (simp; omega))))
      | (go_at_call 82; refine (C1.out _ _ w1.heap.size (by (repeat (first | with_reducible assumption | with_reducible exact Below.refl _ _ | with_reducible refine Below.setCell ?_ (by first | omega | (simp; done) | (simp; omega)) _ | with_reducible refine Below.alloc ?_ (by first | omega | (simp; done) | (simp; omega)) _ | with_reducible refine below_drewN ?_ _ | with_reducible refine Below.drew ?_ | with_reducible refine Below.trans ?_ (Below.mono hbw1 (by first | omega | (simp; done) | (simp; omega)))))) hlw (by simp) (gt_empty strRow 1 9 w1 _ (Nat.le_refl _) (by (repeat (first | with_reducible assumption | with_reducible exact Below.refl _ _ | with_reducible refine Below.setCell ?_ (by first | omega | (simp; done) | (simp; omega)) _ | with_reducible refine Below.alloc ?_ (by first | omega | (simp; done) | (simp; omega)) _ | with_reducible refine below_drewN ?_ _ | with_reducible refine Below.drew ?_))))).mono ?_; rintro r w2 ⟨u2, rfl, hG2, hg2, hO2⟩; have hb2 : Below w1.heap.size w1 w2 := (below_app (by (repeat (first | with_reducible assumption | with_reducible exact Below.refl _ _ | with_reducible refine Below.setCell ?_ (by first | omega | (simp; done) | (simp; omega)) _ | with_reducible refine Below.alloc ?_ (by first | omega | (simp; done) | (simp; omega)) _ | with_reducible refine below_drewN ?_ _ | with_reducible refine Below.drew ?_))) hg2 (fun q hq => by simp [Value.ownBlock] at hq; omega) (by simp)); have hz2 := hb2.size)
      | fail)
  all_goals
    go_wp2_with fail
    go_ret
    exact ⟨_, rfl, hG3.less hlw, hbw1.ext hb3⟩
end Go.Proofs.YtgakjhaepdigpaaGreatDoor
