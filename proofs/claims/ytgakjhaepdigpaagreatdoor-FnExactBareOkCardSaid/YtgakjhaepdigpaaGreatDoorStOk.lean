
/- Statements: the reference's test and text. -/
import Derived.Test.YtgakjhaepdigpaaGreatDoorStSp
import Derived.Test.YtgakjhaepdigpaaGreatDoorZm10
import Derived.Test.YtgakjhaepdigpaaGreatDoorZm13
import Derived.Deep.CutBlock
namespace Go.Proofs.YtgakjhaepdigpaaGreatDoor
set_option maxRecDepth 100000
set_option linter.unusedSimpArgs false
set_option linter.unusedVariables false
open Go.RowKit
attribute [local go_sem] bs_toList bs_get bs_size

theorem smText_lt {s : Sm} (h : formSB s = true) : (smText s).length ≤ 100000000 := Nat.le_trans (smText_len h) (by decide)
def smVal (k : Int) (nm ty : Bytes) (a b : Ex) (A1 A2 : Option Addr) (c1 c2 : Nat) : Array Value := #[.int .i64 k, .string (bs nm), .string (bs ty), .int .i64 a.kind, .int .i64 a.n, .string (bs a.s), .slice A1 a.kids.length c1, .int .i64 b.kind, .int .i64 b.n, .string (bs b.s), .slice A2 b.kids.length c2]
set_option maxHeartbeats 4000000 in
theorem spStmtOk_any (s : Sm) (v : Value) (w : World) (hv : SmV w w.heap.size v s) : Calls Tryz.prog 21 #[v] w fun r w' => r = .returned (.bool (smOkB s)) ∧ Below w.heap.size w w' := by
  obtain ⟨A1, A2, c1, c2, rfl, hn, ht, hE1, hE2⟩ := id hv.form2
  have N1 : Hid (∀ w', Below w.heap.size w w' → Calls Tryz.prog 68 #[.agg #[.int .i64 s.ex.kind, .int .i64 s.ex.n, .string (bs s.ex.s), .slice A1 s.ex.kids.length c1]] w' fun r w'' => r = .returned (.bool (noneB s.ex)) ∧ Below w'.heap.size w' w'') := Lib.hid (fun (w' : World) (h : Below w.heap.size w w') => spNone_any s.ex _ w' ((hE1.keep h (Nat.le_refl _)).more h.size))
  have N2 : Hid (∀ w', Below w.heap.size w w' → Calls Tryz.prog 68 #[.agg #[.int .i64 s.th.kind, .int .i64 s.th.n, .string (bs s.th.s), .slice A2 s.th.kids.length c2]] w' fun r w'' => r = .returned (.bool (noneB s.th)) ∧ Below w'.heap.size w' w'') := Lib.hid (fun (w' : World) (h : Below w.heap.size w w') => spNone_any s.th _ w' ((hE2.keep h (Nat.le_refl _)).more h.size))
  have O1 := Lib.hid (fun (w' : World) (h : Below w.heap.size w w') => spOk_any s.ex _ w' ((hE1.keep h (Nat.le_refl _)).more h.size))
  have O2 := Lib.hid (fun (w' : World) (h : Below w.heap.size w w') => spOk_any s.th _ w' ((hE2.keep h (Nat.le_refl _)).more h.size))
  have L5 := Lib.hid (fun (w' : World) (h : Below w.heap.size w w') (hf : formSB s = true) => spL5_any s _ w' hf ((hv.keep h (Nat.le_refl _)).more h.size))
  have hfs : formSB s = (if s.kind = 0 then (s.name == []) && (s.typ == []) && noneB s.ex && noneB s.th
    else if s.kind = 1 then nameB s.name && typeB s.typ && exOkB s.ex && noneB s.th
    else if s.kind = 2 then (s.name == []) && (s.typ == []) && exOkB s.ex && noneB s.th
    else if s.kind = 3 then (s.name == []) && (s.typ == []) && exOkB s.ex && exOkB s.th else false) := rfl
  have HO := Lib.hid (smOkB_form s)
  have HX := Lib.hid (@smText_lt s)
  have HS := Lib.hid (show smText s = joinL (smWords s) from rfl)
  clear hv hE1 hE2
  generalize formSB s = fs at *
  generalize noneB s.ex = bn1 at *
  generalize noneB s.th = bn2 at *
  generalize exOkB s.ex = bo1 at *
  generalize exOkB s.th = bo2 at *
  generalize s.name = nm at *
  generalize s.typ = ty at *
  generalize s.kind = k at *
  generalize s.ex = ea at *
  generalize s.th = eb at *
  generalize smText s = tx at *
  generalize smWords s = ws at *
  generalize smOkB s = so at *
  go_enter Tryz.func21, Tryz.ntmps21
  go_upto_block 0 with fail
  go_cut [0, 3] (fun s0 s3 wx => s3 = .bool fs ∧ Below (w.heap.size + 1) (w.alloc (.cells #[.int .i64 k, .string (bs nm), .string (bs ty), .int .i64 ea.kind, .int .i64 ea.n, .string (bs ea.s), .slice A1 ea.kids.length c1, .int .i64 eb.kind, .int .i64 eb.n, .string (bs eb.s), .slice A2 eb.kids.length c2] 26)) wx)
  case first =>
    clear L5 HO HX HS
    by_cases e0 : k = 0
    · subst e0
      simp only [if_true] at hfs
      subst hfs
      have tok1 : True := trivial
      go_wp2_with (first
        | (have tk := tok1; go_at_call 68; refine (N1.out _ (by (repeat (first | with_reducible assumption | with_reducible exact Below.refl _ _ | with_reducible refine Below.setCell ?_ (by first | omega | (simp; done) | (simp; omega)) _ | with_reducible refine Below.alloc ?_ (by first | omega | (simp; done) | (simp; omega)) _ | with_reducible refine below_drewN ?_ _ | with_reducible refine Below.drew ?_)))).mono ?_; rintro r w1 ⟨rfl, hb1⟩; clear tk tok1; have hz1 := hb1.size; (try simp at hz1); have k1_0 := fun o => hb1.cell (p := ⟨w.heap.size, o, none⟩) (by first | omega | (simp; done) | (simp; omega)); have k1f_0 := fun o => hb1.frozen (p := ⟨w.heap.size, o, none⟩) (by first | omega | (simp; done) | (simp; omega)))
        | (have tk := hb1; go_at_call 68; refine (N2.out _ (by (repeat (first | with_reducible assumption | with_reducible exact Below.refl _ _ | with_reducible refine Below.setCell ?_ (by first | omega | (simp; done) | (simp; omega)) _ | with_reducible refine Below.alloc ?_ (by first | omega | (simp; done) | (simp; omega)) _ | with_reducible refine below_drewN ?_ _ | with_reducible refine Below.drew ?_ | with_reducible refine Below.trans ?_ (Below.mono hb1 (by first | omega | (simp; done) | (simp; omega))))))).mono ?_; rintro r w2 ⟨rfl, hb2⟩; clear tk; have hz2 := hb2.size; (try simp at hz2); have k2_0 := fun o => hb2.cell (p := ⟨w.heap.size, o, none⟩) (by first | omega | (simp; done) | (simp; omega)); have k2f_0 := fun o => hb2.frozen (p := ⟨w.heap.size, o, none⟩) (by first | omega | (simp; done) | (simp; omega)))
        | fail)
      all_goals (try (have hq := (by assumption : nm = []); subst hq))
      all_goals (try (have hq := (by assumption : ty = []); subst hq))
      all_goals
        go_meet
        refine ⟨congrArg Value.bool ?_, by (repeat (first | with_reducible assumption | with_reducible exact Below.refl _ _ | with_reducible refine Below.setCell ?_ (by first | omega | (simp; done) | (simp; omega)) _ | with_reducible refine Below.alloc ?_ (by first | omega | (simp; done) | (simp; omega)) _ | with_reducible refine below_drewN ?_ _ | with_reducible refine Below.drew ?_ | with_reducible refine Below.trans ?_ (Below.mono hb2 (by first | omega | (simp; done) | (simp; omega))) | with_reducible refine Below.trans ?_ (Below.mono hb1 (by first | omega | (simp; done) | (simp; omega)))))⟩
        clear O1 O2 N1 N2
        go_light
        simp_all
    rw [if_neg e0] at hfs
    by_cases e1 : k = 1
    · subst e1
      simp only [if_true] at hfs
      subst hfs
      clear e0
      go_wp2_with (first
        | (go_at_call 69; refine (spName_any _ _ hn).mono ?_; rintro r _ ⟨rfl, rfl⟩)
        | (go_at_call 70; refine (spType_any _ _).mono ?_; rintro r _ ⟨rfl, rfl⟩)
        | (go_at_call 71; refine (O1.out _ (by (repeat (first | with_reducible assumption | with_reducible exact Below.refl _ _ | with_reducible refine Below.setCell ?_ (by first | omega | (simp; done) | (simp; omega)) _ | with_reducible refine Below.alloc ?_ (by first | omega | (simp; done) | (simp; omega)) _ | with_reducible refine below_drewN ?_ _ | with_reducible refine Below.drew ?_)))).mono ?_; rintro r w1 ⟨rfl, hb1⟩; have hz1 := hb1.size; (try simp at hz1); have k1_0 := fun o => hb1.cell (p := ⟨w.heap.size, o, none⟩) (by first | omega | (simp; done) | (simp; omega)); have k1f_0 := fun o => hb1.frozen (p := ⟨w.heap.size, o, none⟩) (by first | omega | (simp; done) | (simp; omega)))
        | (go_at_call 68; refine (N2.out _ (by (repeat (first | with_reducible assumption | with_reducible exact Below.refl _ _ | with_reducible refine Below.setCell ?_ (by first | omega | (simp; done) | (simp; omega)) _ | with_reducible refine Below.alloc ?_ (by first | omega | (simp; done) | (simp; omega)) _ | with_reducible refine below_drewN ?_ _ | with_reducible refine Below.drew ?_ | with_reducible refine Below.trans ?_ (Below.mono hb1 (by first | omega | (simp; done) | (simp; omega))))))).mono ?_; rintro r w2 ⟨rfl, hb2⟩; have hz2 := hb2.size; (try simp at hz2); have k2_0 := fun o => hb2.cell (p := ⟨w.heap.size, o, none⟩) (by first | omega | (simp; done) | (simp; omega)); have k2f_0 := fun o => hb2.frozen (p := ⟨w.heap.size, o, none⟩) (by first | omega | (simp; done) | (simp; omega)))
        | fail)
      all_goals (try (have hq := (by assumption : nm = []); subst hq))
      all_goals (try (have hq := (by assumption : ty = []); subst hq))
      all_goals
        go_meet
        refine ⟨congrArg Value.bool ?_, by (repeat (first | with_reducible assumption | with_reducible exact Below.refl _ _ | with_reducible refine Below.setCell ?_ (by first | omega | (simp; done) | (simp; omega)) _ | with_reducible refine Below.alloc ?_ (by first | omega | (simp; done) | (simp; omega)) _ | with_reducible refine below_drewN ?_ _ | with_reducible refine Below.drew ?_ | with_reducible refine Below.trans ?_ (Below.mono hb2 (by first | omega | (simp; done) | (simp; omega))) | with_reducible refine Below.trans ?_ (Below.mono hb1 (by first | omega | (simp; done) | (simp; omega)))))⟩
        clear O1 O2 N1 N2
        go_light
        simp_all
    rw [if_neg e1] at hfs
    by_cases e2 : k = 2
    · subst e2
      simp only [if_true] at hfs
      subst hfs
      clear e0 e1
      go_wp2_with (first
        | (go_at_call 71; refine (O1.out _ (by (repeat (first | with_reducible assumption | with_reducible exact Below.refl _ _ | with_reducible refine Below.setCell ?_ (by first | omega | (simp; done) | (simp; omega)) _ | with_reducible refine Below.alloc ?_ (by first | omega | (simp; done) | (simp; omega)) _ | with_reducible refine below_drewN ?_ _ | with_reducible refine Below.drew ?_)))).mono ?_; rintro r w1 ⟨rfl, hb1⟩; have hz1 := hb1.size; (try simp at hz1); have k1_0 := fun o => hb1.cell (p := ⟨w.heap.size, o, none⟩) (by first | omega | (simp; done) | (simp; omega)); have k1f_0 := fun o => hb1.frozen (p := ⟨w.heap.size, o, none⟩) (by first | omega | (simp; done) | (simp; omega)))
        | (go_at_call 68; refine (N2.out _ (by (repeat (first | with_reducible assumption | with_reducible exact Below.refl _ _ | with_reducible refine Below.setCell ?_ (by first | omega | (simp; done) | (simp; omega)) _ | with_reducible refine Below.alloc ?_ (by first | omega | (simp; done) | (simp; omega)) _ | with_reducible refine below_drewN ?_ _ | with_reducible refine Below.drew ?_ | with_reducible refine Below.trans ?_ (Below.mono hb1 (by first | omega | (simp; done) | (simp; omega))))))).mono ?_; rintro r w2 ⟨rfl, hb2⟩; have hz2 := hb2.size; (try simp at hz2); have k2_0 := fun o => hb2.cell (p := ⟨w.heap.size, o, none⟩) (by first | omega | (simp; done) | (simp; omega)); have k2f_0 := fun o => hb2.frozen (p := ⟨w.heap.size, o, none⟩) (by first | omega | (simp; done) | (simp; omega)))
        | fail)
      all_goals (try (have hq := (by assumption : nm = []); subst hq))
      all_goals (try (have hq := (by assumption : ty = []); subst hq))
      all_goals
        go_meet
        refine ⟨congrArg Value.bool ?_, by (repeat (first | with_reducible assumption | with_reducible exact Below.refl _ _ | with_reducible refine Below.setCell ?_ (by first | omega | (simp; done) | (simp; omega)) _ | with_reducible refine Below.alloc ?_ (by first | omega | (simp; done) | (simp; omega)) _ | with_reducible refine below_drewN ?_ _ | with_reducible refine Below.drew ?_ | with_reducible refine Below.trans ?_ (Below.mono hb2 (by first | omega | (simp; done) | (simp; omega))) | with_reducible refine Below.trans ?_ (Below.mono hb1 (by first | omega | (simp; done) | (simp; omega)))))⟩
        clear O1 O2 N1 N2
        go_light
        simp_all
    rw [if_neg e2] at hfs
    by_cases e3 : k = 3
    · subst e3
      simp only [if_true] at hfs
      subst hfs
      clear e0 e1 e2
      have tok1 : True := trivial
      go_wp2_with (first
        | (have tk := tok1; go_at_call 71; refine (O1.out _ (by (repeat (first | with_reducible assumption | with_reducible exact Below.refl _ _ | with_reducible refine Below.setCell ?_ (by first | omega | (simp; done) | (simp; omega)) _ | with_reducible refine Below.alloc ?_ (by first | omega | (simp; done) | (simp; omega)) _ | with_reducible refine below_drewN ?_ _ | with_reducible refine Below.drew ?_)))).mono ?_; rintro r w1 ⟨rfl, hb1⟩; clear tk tok1; have hz1 := hb1.size; (try simp at hz1); have k1_0 := fun o => hb1.cell (p := ⟨w.heap.size, o, none⟩) (by first | omega | (simp; done) | (simp; omega)); have k1f_0 := fun o => hb1.frozen (p := ⟨w.heap.size, o, none⟩) (by first | omega | (simp; done) | (simp; omega)))
        | (have tk := hb1; go_at_call 71; refine (O2.out _ (by (repeat (first | with_reducible assumption | with_reducible exact Below.refl _ _ | with_reducible refine Below.setCell ?_ (by first | omega | (simp; done) | (simp; omega)) _ | with_reducible refine Below.alloc ?_ (by first | omega | (simp; done) | (simp; omega)) _ | with_reducible refine below_drewN ?_ _ | with_reducible refine Below.drew ?_ | with_reducible refine Below.trans ?_ (Below.mono hb1 (by first | omega | (simp; done) | (simp; omega))))))).mono ?_; rintro r w2 ⟨rfl, hb2⟩; clear tk; have hz2 := hb2.size; (try simp at hz2); have k2_0 := fun o => hb2.cell (p := ⟨w.heap.size, o, none⟩) (by first | omega | (simp; done) | (simp; omega)); have k2f_0 := fun o => hb2.frozen (p := ⟨w.heap.size, o, none⟩) (by first | omega | (simp; done) | (simp; omega)))
        | fail)
      all_goals (try (have hq := (by assumption : nm = []); subst hq))
      all_goals (try (have hq := (by assumption : ty = []); subst hq))
      all_goals
        go_meet
        refine ⟨congrArg Value.bool ?_, by (repeat (first | with_reducible assumption | with_reducible exact Below.refl _ _ | with_reducible refine Below.setCell ?_ (by first | omega | (simp; done) | (simp; omega)) _ | with_reducible refine Below.alloc ?_ (by first | omega | (simp; done) | (simp; omega)) _ | with_reducible refine below_drewN ?_ _ | with_reducible refine Below.drew ?_ | with_reducible refine Below.trans ?_ (Below.mono hb2 (by first | omega | (simp; done) | (simp; omega))) | with_reducible refine Below.trans ?_ (Below.mono hb1 (by first | omega | (simp; done) | (simp; omega)))))⟩
        clear O1 O2 N1 N2
        go_light
        simp_all
    rw [if_neg e3] at hfs
    subst hfs
    have d0 : (k == 0) = false := by simpa using e0
    have d1 : (k == 1) = false := by simpa using e1
    have d2 : (k == 2) = false := by simpa using e2
    have d3 : (k == 3) = false := by simpa using e3
    go_wp2_with fail
    go_meet
    exact ⟨rfl, by (repeat (first | with_reducible assumption | with_reducible exact Below.refl _ _ | with_reducible refine Below.setCell ?_ (by first | omega | (simp; done) | (simp; omega)) _ | with_reducible refine Below.alloc ?_ (by first | omega | (simp; done) | (simp; omega)) _ | with_reducible refine below_drewN ?_ _ | with_reducible refine Below.drew ?_))⟩
  case rest =>
    obtain ⟨rfl, hbc⟩ := hcut
    have hz := hbc.size
    (try simp at hz)
    clear hfs N1 N2 O1 O2
    have kc := fun o => hbc.cell (p := ⟨w.heap.size, o, none⟩) (by first | omega | (simp; done) | (simp only [List.length_cons, List.length_nil, List.length_append]; omega) | (simp; omega))
    have hbw : Below w.heap.size w wc := by (repeat (first | with_reducible assumption | with_reducible exact Below.refl _ _ | with_reducible refine Below.setCell ?_ (by first | omega | (simp; done) | (simp; omega)) _ | with_reducible refine Below.alloc ?_ (by first | omega | (simp; done) | (simp; omega)) _ | with_reducible refine below_drewN ?_ _ | with_reducible refine Below.drew ?_ | with_reducible refine Below.trans ?_ (Below.mono hbc (by first | omega | (simp; done) | (simp; omega)))))
    cases fs
    · go_wp2_with fail
      go_ret
      exact ⟨ret_bool (by rw [HO.out]; rfl), hbw⟩
    · go_wp2_with fail
      refine (L5.out _ hbw (by simp)).mono ?_
      rintro r w3 ⟨u3, rfl, hG3, hb3⟩
      have hsl := hG3.sl (fun _ => rfl)
      obtain ⟨A, c, rfl, _, _⟩ := hG3.val
      go_wp2_with fail
      refine (spTokText_any ws _ _ hsl (by rw [← HS.out]; exact HX.out (by simp))).mono ?_
      rintro r _ ⟨rfl, rfl⟩
      go_wp2_with fail
      go_ret
      exact ⟨ret_bool (by rw [HO.out, HS.out, Bool.eq_iff_iff]; simp; try omega), by (repeat (first | with_reducible assumption | with_reducible exact Below.refl _ _ | with_reducible refine Below.setCell ?_ (by first | omega | (simp; done) | (simp; omega)) _ | with_reducible refine Below.alloc ?_ (by first | omega | (simp; done) | (simp; omega)) _ | with_reducible refine below_drewN ?_ _ | with_reducible refine Below.drew ?_ | with_reducible refine Below.trans ?_ (Below.mono hb3 (by first | omega | (simp; done) | (simp; omega))) | with_reducible refine Below.trans ?_ (Below.mono hbw (by first | omega | (simp; done) | (simp; omega)))))⟩
theorem spStmtText_any (s : Sm) (v : Value) (w : World) (hv : SmV w w.heap.size v s) : Calls Tryz.prog 19 #[v] w fun r w' => r = .returned (.string (bs (if smOkB s then smText s else []))) ∧ Below w.heap.size w w' := by
  have C1 := Lib.hid (fun (w' : World) (h : Below w.heap.size w w') => spStmtOk_any s _ w' ((hv.keep h (Nat.le_refl _)).more h.size))
  have L5 := Lib.hid (fun (w' : World) (h : Below w.heap.size w w') (hf : formSB s = true) => spL5_any s _ w' hf ((hv.keep h (Nat.le_refl _)).more h.size))
  have HX := Lib.hid (@smText_lt s)
  have HS := Lib.hid (show smText s = joinL (smWords s) from rfl)
  have HF := Lib.hid (show smOkB s = true → formSB s = true from fun h => by rw [smOkB_form, Bool.and_eq_true] at h; exact h.1)
  obtain ⟨A1, A2, c1, c2, rfl, hn, ht, hE1, hE2⟩ := id hv.form2
  clear hE1 hE2 hv
  generalize smOkB s = so at *
  cases so
  · go_enter Tryz.func19, Tryz.ntmps19
    go_wp2_with fail
    refine (C1.out _ (by (repeat (first | with_reducible assumption | with_reducible exact Below.refl _ _ | with_reducible refine Below.setCell ?_ (by first | omega | (simp; done) | (simp; omega)) _ | with_reducible refine Below.alloc ?_ (by first | omega | (simp; done) | (simp; omega)) _ | with_reducible refine below_drewN ?_ _ | with_reducible refine Below.drew ?_)))).mono ?_
    rintro r w1 ⟨rfl, hb1⟩
    go_wp2_with fail
    go_ret
    exact ⟨rfl, by (repeat (first | with_reducible assumption | with_reducible exact Below.refl _ _ | with_reducible refine Below.setCell ?_ (by first | omega | (simp; done) | (simp; omega)) _ | with_reducible refine Below.alloc ?_ (by first | omega | (simp; done) | (simp; omega)) _ | with_reducible refine below_drewN ?_ _ | with_reducible refine Below.drew ?_ | with_reducible refine Below.trans ?_ (Below.mono hb1 (by first | omega | (simp; done) | (simp; omega)))))⟩
  · go_enter Tryz.func19, Tryz.ntmps19
    go_wp2_with fail
    refine (C1.out _ (by (repeat (first | with_reducible assumption | with_reducible exact Below.refl _ _ | with_reducible refine Below.setCell ?_ (by first | omega | (simp; done) | (simp; omega)) _ | with_reducible refine Below.alloc ?_ (by first | omega | (simp; done) | (simp; omega)) _ | with_reducible refine below_drewN ?_ _ | with_reducible refine Below.drew ?_)))).mono ?_
    rintro r w1 ⟨rfl, hb1⟩
    have hz1 := hb1.size
    (try simp at hz1)
    have k1_0 := fun o => hb1.cell (p := ⟨w.heap.size, o, none⟩) (by first | omega | (simp; done) | (simp; omega)); have k1f_0 := fun o => hb1.frozen (p := ⟨w.heap.size, o, none⟩) (by first | omega | (simp; done) | (simp; omega))
    go_wp2_with fail
    refine (L5.out _ (by (repeat (first | with_reducible assumption | with_reducible exact Below.refl _ _ | with_reducible refine Below.setCell ?_ (by first | omega | (simp; done) | (simp; omega)) _ | with_reducible refine Below.alloc ?_ (by first | omega | (simp; done) | (simp; omega)) _ | with_reducible refine below_drewN ?_ _ | with_reducible refine Below.drew ?_ | with_reducible refine Below.trans ?_ (Below.mono hb1 (by first | omega | (simp; done) | (simp; omega)))))) (HF.out (by simp))).mono ?_
    rintro r w3 ⟨u3, rfl, hG3, hb3⟩
    have hsl := hG3.sl (fun _ => rfl)
    obtain ⟨A, c, rfl, _, _⟩ := hG3.val
    go_wp2_with fail
    refine (spTokText_any (smWords s) _ _ hsl (by rw [← HS.out]; exact HX.out (HF.out (by simp)))).mono ?_
    rintro r _ ⟨rfl, rfl⟩
    go_wp2_with fail
    go_ret
    exact ⟨ret_bs (by first | (rw [HS.out]; done) | (rw [HS.out]; simp)), by (repeat (first | with_reducible assumption | with_reducible exact Below.refl _ _ | with_reducible refine Below.setCell ?_ (by first | omega | (simp; done) | (simp; omega)) _ | with_reducible refine Below.alloc ?_ (by first | omega | (simp; done) | (simp; omega)) _ | with_reducible refine below_drewN ?_ _ | with_reducible refine Below.drew ?_ | with_reducible refine Below.trans ?_ (Below.mono hb3 (by first | omega | (simp; done) | (simp; omega))) | with_reducible refine Below.trans ?_ (Below.mono hb1 (by first | omega | (simp; done) | (simp; omega)))))⟩
end Go.Proofs.YtgakjhaepdigpaaGreatDoor
