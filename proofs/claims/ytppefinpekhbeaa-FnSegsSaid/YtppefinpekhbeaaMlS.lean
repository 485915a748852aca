
/- The law FnSegs: the walk. -/
import Derived.Test.YtppefinpekhbeaaMlB
import Derived.Test.YtppefinpekhbeaaDwK
import Derived.Deep.RegionHeld3
namespace Go.Proofs.Ytppefinpekhbeaa
set_option maxRecDepth 100000
set_option linter.unusedSimpArgs false
set_option linter.unusedVariables false
open Go.RowKit
attribute [local go_sem] bs_toList bs_get bs_size

theorem tail_ok' {l : List Sg} (h : SegsOk l) : SegsOk l.tail := by
  cases l with
  | nil => exact h
  | cons s l => exact tail_ok h
theorem last_no {l : List Sg} {j : Nat} {s : Sg} (h : l[j]? = some s) : ¬ SegsOk (l ++ [s]) := fun k => by
  have hj : j < l.length := (List.getElem?_eq_some_iff.1 h).1
  have h1 : (l ++ [s])[j]? = some s := by rw [List.getElem?_append_left hj]; exact h
  have h2 : (l ++ [s])[l.length]? = some s := by simp
  exact less_irr _ (segs_lt' k hj h1 h2)
theorem set_no {l : List Sg} {s s' : Sg} (h : l[0]? = some s) (hn : ¬ (PosOk s'.1 ∧ PosOk s'.2)) : ¬ SegsOk (l.set 0 s') := fun k => hn (segs_pos k (i := 0) (by
  have hj : 0 < l.length := (List.getElem?_eq_some_iff.1 h).1
  simp [hj]))
theorem ne_snoc (l : List Sg) (s : Sg) : ¬ l = l ++ [s] := fun h => by have := congrArg List.length h; simp at this
theorem news_keep {V w w' : World} {n : Nat} (l : List Sg) (cs : Array Value) {t : TypeId} {r : Option Nat} (hcs : cs = (l.flatMap sgRow).toArray) (h : V.heap.size = n) (hb : Below (n + 1) (V.alloc (.cells cs t)) w) (hg : w.grownBy w' r) (hr : r ≠ some n) : ∀ (j : Nat) (u : Value), (l.flatMap sgRow)[j]? = some u → w'.cell? ((⟨n, 0, none⟩ : Addr).add j) = some u := by
  intro j u hu
  subst hcs
  have h1 := news_sg (t := t) h j u hu
  rw [Addr.add_lit] at h1 ⊢
  exact grown_cell hg ((hb.cell (p := ⟨n, 0 + j, none⟩) (Nat.lt_succ_self n)).trans h1) hr
set_option maxHeartbeats 8000000 in
theorem lawSegs (W : World) (v : Value) (cl : List Int) (hv : CodeV W v cl) : Calls Try.prog 3 #[v] W fun e w' => e = .returned (.bool true) ∧ Below W.heap.size W w' := by
  have DR := Lib.hid (drawSegs_any v cl W hv)
  obtain ⟨A, c, rfl, hc, hm⟩ := hv.1.val
  clear hv
  obtain ⟨b1, hb1⟩ : ∃ b, decide ((1048576 : Int) < ((cl.length : Nat) : Int)) = b := ⟨_, rfl⟩
  cases b1
  rotate_left
  · go_enter Try.func3, Try.ntmps3
    go_wp2_with fail
    go_ret
    exact ⟨rfl, Below.refl _ _⟩
  go_enter Try.func3, Try.ntmps3
  go_wp2_with fail
  refine DR.out.mono ?_
  rintro r w1 ⟨u, m, rfl, hG, hml, hbw1⟩
  have hS := hG.sl (fun _ => rfl)
  have CI := Lib.hid (fun (w' : World) (h : Below w1.heap.size w1 w') => imSegsOk_any w' _ m (hS.ext h))
  have CK := Lib.hid (fun (w' : World) (h : Below w1.heap.size w1 w') => spSegsOk_any w' _ m (hS.ext h))
  clear DR hb1
  by_cases hok : SegsOk m
  rotate_left
  · rw [segsOkB_no hok] at CI CK
    obtain ⟨Au, cu, rfl, _, _⟩ := hG.val
    clear hG hok
    go_wp2_with fail
    refine (CI.out _ (Below.refl _ _)).mono ?_
    rintro r w2 ⟨rfl, hb2⟩
    go_wp2_with fail
    refine (CK.out _ hb2).mono ?_
    rintro r w3 ⟨rfl, hb3⟩
    have hb13 := hb2.ext hb3
    go_wp2_with fail
    refine (CK.out _ hb13).mono ?_
    rintro r w4 ⟨rfl, hb4⟩
    have hb14 := hb13.ext hb4
    go_wp2_with fail
    refine (CI.out _ hb14).mono ?_
    rintro r w5 ⟨rfl, hb5⟩
    have hb15 := hb14.ext hb5
    go_wp2_with fail
    refine (CK.out _ hb15).mono ?_
    rintro r w6 ⟨rfl, hb6⟩
    go_wp2_with fail
    go_ret
    exact ⟨rfl, hbw1.ext (hb15.ext hb6)⟩
  rw [segsOkB_yes hok] at CI CK
  by_cases h0 : m.length = 0
  · obtain rfl : m = [] := List.length_eq_zero_iff.1 h0
    obtain ⟨Au, cu, rfl, _, _⟩ := hG.val
    clear hG hok h0
    go_wp2_with fail
    refine (CI.out _ (Below.refl _ _)).mono ?_
    rintro r w2 ⟨rfl, hb2⟩
    go_wp2_with fail
    refine (CK.out _ hb2).mono ?_
    rintro r w3 ⟨rfl, hb3⟩
    have hb13 := hb2.ext hb3
    go_wp2_with fail
    refine (CK.out _ hb13).mono ?_
    rintro r w4 ⟨rfl, hb4⟩
    have hb14 := hb13.ext hb4
    go_wp2_with fail
    refine (CI.out _ hb14).mono ?_
    rintro r w5 ⟨rfl, hb5⟩
    have hb15 := hb14.ext hb5
    go_wp2_with fail
    refine (CK.out _ hb15).mono ?_
    rintro r w6 ⟨rfl, hb6⟩
    go_wp2_with fail
    go_ret
    exact ⟨rfl, hbw1.ext (hb15.ext hb6)⟩
  have hpos : 0 < m.length := by omega
  obtain ⟨g, cap, rfl, hgl, hgh⟩ := hG.block hpos
  have HOK := Lib.hid hok
  have HG := Lib.hid hG
  have hcapm : m.length ≤ cap := by obtain ⟨A', c', hv, h1, _⟩ := hG.val; injection hv with _ _ e; omega
  have hn0 : ¬ m.length = 0 := h0
  have hne : (((m.length : Nat) : Int) == 0) = false := by rw [beq_eq_false_iff_ne]; omega
  clear hok hG
  go_wp2_with fail
  refine (CI.out _ (Below.refl _ _)).mono ?_
  rintro r w2 ⟨rfl, hb2⟩
  go_wp2_with fail
  refine (CK.out _ hb2).mono ?_
  rintro r w3 ⟨rfl, hb3⟩
  have hb13 := hb2.ext hb3
  go_wp2_with fail
  refine (CK.out _ hb13).mono ?_
  rintro r w4 ⟨rfl, hb4⟩
  have hb14 := hb13.ext hb4
  have hG4 := HG.out.ext hb14
  have hz14 := hb14.size
  have hg := List.getElem?_eq_getElem (show m.length - 1 < m.length by omega)
  obtain ⟨⟨⟨a, b⟩, ⟨c', d⟩⟩, hs⟩ : ∃ s, s = m[m.length - 1] := ⟨_, rfl⟩
  rw [← hs] at hg
  obtain ⟨c0, c1, c2, c3⟩ := sg_own hG4 hg
  have hw : IntKind.i64.wrap ((m.length : Int) - 1) = ((m.length - 1 : Nat) : Int) := by rw [IntKind.wrap_i64]; omega
  have HL := Lib.hid hg
  have HG4 := Lib.hid hG4
  have HCL := Lib.hid (show ∀ w' : World, Below w4.heap.size w4 w' → (w'.cell? ⟨g, (m.length - 1) * 4, none⟩ = some (.int .i64 a) ∧ w'.cell? ⟨g, (m.length - 1) * 4 + 1, none⟩ = some (.int .i64 b) ∧ w'.cell? ⟨g, (m.length - 1) * 4 + 2, none⟩ = some (.int .i64 c') ∧ w'.cell? ⟨g, (m.length - 1) * 4 + 3, none⟩ = some (.int .i64 d)) from fun w' h => sg_own (hG4.ext h) hg)
  have hj1 : m.length - 1 < m.length := by omega
  clear hg hs hG4
  generalize m.length - 1 = j at *
  go_upto_region 6 with fail
  have HE := Lib.hid (fun (w' : World) (h : Below w4.heap.size w4 w') => HG4.out.ext h)
  have hml2 : m.length ≤ 1000000 := by omega
  go_cut [4] (fun s4 wx => ∃ (w6 : World) (g6 cap6 : Nat), w6 = wx ∧ s4 = .slice (some ⟨g6, 0, none⟩) (m.length + 1) cap6 ∧ GtG w4.heap.size w6 (.slice (some ⟨g6, 0, none⟩) (m.length + 1) cap6) (m ++ [((a, b), (c', d))]) ∧ Below w4.heap.size w4 w6)
  case first =>
    go_region_held3 (fun w' => w'.cell? ⟨g, j * 4, none⟩ = some (.int .i64 a) ∧ w'.cell? ⟨g, j * 4 + 1, none⟩ = some (.int .i64 b) ∧ w'.cell? ⟨g, j * 4 + 2, none⟩ = some (.int .i64 c') ∧ w'.cell? ⟨g, j * 4 + 3, none⟩ = some (.int .i64 d))
      (first | exact HCL.out _ hk6 | exact HCL.out _ hk5 | exact HCL.out _ (by (repeat (first | with_reducible assumption | with_reducible exact Below.refl _ _ | with_reducible refine Below.setCell ?_ (by first | omega | (simp; done) | (simp; omega)) _ | with_reducible refine Below.alloc ?_ (by first | omega | (simp; done) | (simp; omega)) _ | with_reducible refine below_drewN ?_ _ | with_reducible refine Below.drew ?_ | with_reducible refine Below.trans ?_ (Below.mono hk5 (by first | omega | (simp; done) | (simp; omega)))))) | go_keep)
      (first
        | (refine app_step rtSg (by rfl) (.tmp 32) (.tmp 33) (by rfl) w4.heap.size (.slice (some ⟨w4.heap.size, 0, none⟩) 0 0) [] (by rfl) (gt_empty sgRow 4 29 w4 _ (Nat.le_refl _) (by (repeat (first | with_reducible assumption | with_reducible exact Below.refl _ _ | with_reducible refine Below.setCell ?_ (by first | omega | (simp; done) | (simp; omega)) _ | with_reducible refine Below.alloc ?_ (by first | omega | (simp; done) | (simp; omega)) _ | with_reducible refine below_drewN ?_ _ | with_reducible refine Below.drew ?_)))) ⟨g, 0, none⟩ cap m (by rfl) (HE.out _ (by (repeat (first | with_reducible assumption | with_reducible exact Below.refl _ _ | with_reducible refine Below.setCell ?_ (by first | omega | (simp; done) | (simp; omega)) _ | with_reducible refine Below.alloc ?_ (by first | omega | (simp; done) | (simp; omega)) _ | with_reducible refine below_drewN ?_ _ | with_reducible refine Below.drew ?_)))).cells hpos (by simp; omega) (by simp; try omega) ?_; intro g5 cap5 w5 hG5 hgr5 hat5; have hz5 := hgr5.size; (try simp at hz5); have hg5 := (hG5.lt (b := g5) rfl).1; have hk5 : Below w4.heap.size w4 w5 := (by (repeat (first | with_reducible assumption | with_reducible exact Below.refl _ _ | with_reducible refine Below.setCell ?_ (by first | omega | (simp; done) | (simp; omega)) _ | with_reducible refine Below.alloc ?_ (by first | omega | (simp; done) | (simp; omega)) _ | with_reducible refine below_drewN ?_ _ | with_reducible refine Below.drew ?_ | with_reducible refine below_app ?_ hgr5 (by intro q hq; simp [Value.ownBlock] at hq; omega) (by first | omega | (simp; done) | (simp; omega))))))
        | (refine app_step rtSg (by rfl) (.tmp 32) (.tmp 33) (by rfl) w4.heap.size (.slice (some ⟨w4.heap.size + 1, 0, none⟩) 0 0) [] (by rfl) (by have h := gt_empty sgRow 4 29 (B := w4.heap.size) (w4.alloc (.cells #[.int .i64 a, .int .i64 b, .int .i64 c', .int .i64 d] 29)) _ (by simp) (Below.refl _ _); rw [World.size_alloc] at h; exact h) ⟨g, 0, none⟩ cap m (by rfl) (HE.out _ (by (repeat (first | with_reducible assumption | with_reducible exact Below.refl _ _ | with_reducible refine Below.setCell ?_ (by first | omega | (simp; done) | (simp; omega)) _ | with_reducible refine Below.alloc ?_ (by first | omega | (simp; done) | (simp; omega)) _ | with_reducible refine below_drewN ?_ _ | with_reducible refine Below.drew ?_)))).cells hpos (by simp; omega) (by simp; try omega) ?_; intro g5 cap5 w5 hG5 hgr5 hat5; have hz5 := hgr5.size; (try simp at hz5); have hg5 := (hG5.lt (b := g5) rfl).1; have hk5 : Below w4.heap.size w4 w5 := (by (repeat (first | with_reducible assumption | with_reducible exact Below.refl _ _ | with_reducible refine Below.setCell ?_ (by first | omega | (simp; done) | (simp; omega)) _ | with_reducible refine Below.alloc ?_ (by first | omega | (simp; done) | (simp; omega)) _ | with_reducible refine below_drewN ?_ _ | with_reducible refine Below.drew ?_ | with_reducible refine below_app ?_ hgr5 (by intro q hq; simp [Value.ownBlock] at hq; omega) (by first | omega | (simp; done) | (simp; omega))))))
        | (have tk := hgr5; refine app_step rtSg (by rfl) (.tmp 34) (.tmp 41) (by rfl) w4.heap.size (.slice (some ⟨g5, 0, none⟩) m.length cap5) m (by rfl) ((hG5.ext (by (repeat (first | with_reducible assumption | with_reducible exact Below.refl _ _ | with_reducible refine Below.setCell ?_ (by first | omega | (simp; done) | (simp; omega)) _ | with_reducible refine Below.alloc ?_ (by first | omega | (simp; done) | (simp; omega)) _ | with_reducible refine below_drewN ?_ _ | with_reducible refine Below.drew ?_)))).len (by simp) (by simp)) ⟨w5.heap.size, 0, none⟩ 1 [((a, b), (c', d))] (by rfl) (news_sg (by simp)) Nat.zero_lt_one (by simp; omega) (by have := hgr5.size; simp at this ⊢; omega) ?_; intro g6 cap6 w6 hG6 hgr6 hat6; have hz6 := hgr6.size; (try simp at hz6); have hk6 : Below w4.heap.size w4 w6 := (by (repeat (first | with_reducible assumption | with_reducible exact Below.refl _ _ | with_reducible refine Below.setCell ?_ (by first | omega | (simp; done) | (simp; omega)) _ | with_reducible refine Below.alloc ?_ (by first | omega | (simp; done) | (simp; omega)) _ | with_reducible refine below_drewN ?_ _ | with_reducible refine Below.drew ?_ | with_reducible refine Below.trans ?_ (Below.mono hk5 (by first | omega | (simp; done) | (simp; omega))) | with_reducible refine below_app ?_ hgr6 (by intro q hq; simp [Value.ownBlock] at hq; omega) (by first | omega | (simp; done) | (simp; omega))))))
        | (have tk := hgr5; refine app_step rtSg (by rfl) (.tmp 34) (.tmp 41) (by rfl) w4.heap.size (.slice (some ⟨g5, 0, none⟩) (([] : List Sg).length + m.length) cap5) ([] ++ m) (by rfl) (hG5.ext (by (repeat (first | with_reducible assumption | with_reducible exact Below.refl _ _ | with_reducible refine Below.setCell ?_ (by first | omega | (simp; done) | (simp; omega)) _ | with_reducible refine Below.alloc ?_ (by first | omega | (simp; done) | (simp; omega)) _ | with_reducible refine below_drewN ?_ _ | with_reducible refine Below.drew ?_)))) ⟨w4.heap.size + 1, 0, none⟩ 1 [((a, b), (c', d))] (by rfl) (news_keep (V := w4.alloc (.cells #[] 29)) (t := 29) [((a, b), (c', d))] #[.int .i64 a, .int .i64 b, .int .i64 c', .int .i64 d] rfl (by simp) (by (repeat (first | with_reducible assumption | with_reducible exact Below.refl _ _ | with_reducible refine Below.setCell ?_ (by first | omega | (simp; done) | (simp; omega)) _ | with_reducible refine Below.alloc ?_ (by first | omega | (simp; done) | (simp; omega)) _ | with_reducible refine below_drewN ?_ _ | with_reducible refine Below.drew ?_))) hgr5 (by simp [Value.ownBlock])) Nat.zero_lt_one (by simp; omega) (by have := hgr5.size; simp at this ⊢; omega) ?_; intro g6 cap6 w6 hG6 hgr6 hat6; have hz6 := hgr6.size; (try simp at hz6); have hk6 : Below w4.heap.size w4 w6 := (by (repeat (first | with_reducible assumption | with_reducible exact Below.refl _ _ | with_reducible refine Below.setCell ?_ (by first | omega | (simp; done) | (simp; omega)) _ | with_reducible refine Below.alloc ?_ (by first | omega | (simp; done) | (simp; omega)) _ | with_reducible refine below_drewN ?_ _ | with_reducible refine Below.drew ?_ | with_reducible refine Below.trans ?_ (Below.mono hk5 (by first | omega | (simp; done) | (simp; omega))) | with_reducible refine below_app ?_ hgr6 (by intro q hq; simp [Value.ownBlock] at hq; omega) (by first | omega | (simp; done) | (simp; omega))))))
        | (have tk := hgr5; refine app_step rtSg (by rfl) (.tmp 34) (.tmp 41) (by rfl) w4.heap.size (.slice (some ⟨g5, 0, none⟩) (([] : List Sg).length + m.length) cap5) ([] ++ m) (by rfl) (hG5.ext (by (repeat (first | with_reducible assumption | with_reducible exact Below.refl _ _ | with_reducible refine Below.setCell ?_ (by first | omega | (simp; done) | (simp; omega)) _ | with_reducible refine Below.alloc ?_ (by first | omega | (simp; done) | (simp; omega)) _ | with_reducible refine below_drewN ?_ _ | with_reducible refine Below.drew ?_)))) ⟨w4.heap.size, 0, none⟩ 1 [((a, b), (c', d))] (by rfl) (news_keep (V := w4) (t := 29) [((a, b), (c', d))] #[.int .i64 a, .int .i64 b, .int .i64 c', .int .i64 d] rfl rfl (by (repeat (first | with_reducible assumption | with_reducible exact Below.refl _ _ | with_reducible refine Below.setCell ?_ (by first | omega | (simp; done) | (simp; omega)) _ | with_reducible refine Below.alloc ?_ (by first | omega | (simp; done) | (simp; omega)) _ | with_reducible refine below_drewN ?_ _ | with_reducible refine Below.drew ?_))) hgr5 (by simp [Value.ownBlock])) Nat.zero_lt_one (by simp; omega) (by have := hgr5.size; simp at this ⊢; omega) ?_; intro g6 cap6 w6 hG6 hgr6 hat6; have hz6 := hgr6.size; (try simp at hz6); have hk6 : Below w4.heap.size w4 w6 := (by (repeat (first | with_reducible assumption | with_reducible exact Below.refl _ _ | with_reducible refine Below.setCell ?_ (by first | omega | (simp; done) | (simp; omega)) _ | with_reducible refine Below.alloc ?_ (by first | omega | (simp; done) | (simp; omega)) _ | with_reducible refine below_drewN ?_ _ | with_reducible refine Below.drew ?_ | with_reducible refine Below.trans ?_ (Below.mono hk5 (by first | omega | (simp; done) | (simp; omega))) | with_reducible refine below_app ?_ hgr6 (by intro q hq; simp [Value.ownBlock] at hq; omega) (by first | omega | (simp; done) | (simp; omega))))))
        | fail)
    all_goals
      go_wp2_with fail
      go_meet
      exact ⟨_, _, _, rfl, rfl, hG6.len (by simp) (by simp), hk6⟩
  case rest =>
    obtain ⟨w6, g6, cap6, rfl, rfl, hGA, hk6⟩ := hcut
    have HA := Lib.hid (And.intro hGA hk6)
    have hb16 := hb14.ext hk6
    have hz16 := hb16.size
    clear hk6 hGA c0 c1 c2 c3 HE HCL
    have HE6 := Lib.hid (fun (w' : World) (h : Below w6.heap.size w6 w') => (HG.out.ext hb16).ext h)
    go_upto_region 8 with (first
      | (at_builtin; refine app_plain rtSg (by rfl) (.tmp 43) (.tmp 44) (by rfl) w6.heap.size (.slice (some ⟨w6.heap.size, 0, none⟩) 0 0) [] (by rfl) (gt_empty sgRow 4 29 w6 _ (Nat.le_refl _) (by (repeat (first | with_reducible assumption | with_reducible exact Below.refl _ _ | with_reducible refine Below.setCell ?_ (by first | omega | (simp; done) | (simp; omega)) _ | with_reducible refine Below.alloc ?_ (by first | omega | (simp; done) | (simp; omega)) _ | with_reducible refine below_drewN ?_ _ | with_reducible refine Below.drew ?_)))) ⟨g, 0, none⟩ cap m (by rfl) (HE6.out _ (by (repeat (first | with_reducible assumption | with_reducible exact Below.refl _ _ | with_reducible refine Below.setCell ?_ (by first | omega | (simp; done) | (simp; omega)) _ | with_reducible refine Below.alloc ?_ (by first | omega | (simp; done) | (simp; omega)) _ | with_reducible refine below_drewN ?_ _ | with_reducible refine Below.drew ?_)))).cells hpos (by simp; omega) (by simp; try omega) ?_; intro g7 cap7 w7 hG7 hgr7 hat7)
      | fail)
    have hGB : GtG w6.heap.size w7 (.slice (some ⟨g7, 0, none⟩) m.length cap7) m := hG7.len (by simp) (by simp)
    have hb67 : Below w6.heap.size w6 w7 := by (repeat (first | with_reducible assumption | with_reducible exact Below.refl _ _ | with_reducible refine Below.setCell ?_ (by first | omega | (simp; done) | (simp; omega)) _ | with_reducible refine Below.alloc ?_ (by first | omega | (simp; done) | (simp; omega)) _ | with_reducible refine below_drewN ?_ _ | with_reducible refine Below.drew ?_ | with_reducible refine below_app ?_ hgr7 (by intro q hq; simp [Value.ownBlock] at hq; omega) (by first | omega | (simp; done) | (simp; omega))))
    have hz67 := hb67.size
    obtain ⟨⟨⟨x, y⟩, ⟨z, t⟩⟩, hs0⟩ : ∃ s, s = m[0] := ⟨_, rfl⟩
    have hg0 : m[0]? = some ((x, y), (z, t)) := by rw [hs0]; exact List.getElem?_eq_getElem hpos
    have q3 : w7.cell? ⟨g7, 3, none⟩ = some (.int .i64 t) := by have := (sg_own hGB hg0).2.2.2; simpa using this
    have y3 := hGB.frozen 3
    have hGB2 := Gt.set (row := sgRow) (k := 4) (fun _ => rfl) hGB rfl hg0 (s' := ((x, y), (z, 120))) (j := 3) (o := 3) (by decide) (x := .int .i64 120) rfl rfl
    have hg7 := (hG7.lt (b := g7) rfl).1
    have hb68 : Below w6.heap.size w6 (w7.setCell ⟨g7, 3, none⟩ (.int .i64 120)) := hb67.setCell (by simpa using hg7) _
    have HG0 := Lib.hid hg0
    clear hG7 hgr7 hat7 hGB hb67 hg0 hs0
    go_upto_region 9 with fail
    generalize hw8 : World.setCell w7 _ _ = w8 at *
    have HB := Lib.hid hGB2
    clear hw8 hGB2 q3 y3
    have hz68 := hb68.size
    go_upto_region 10 with (first
      | (at_builtin; refine app_plain rtSg (by rfl) (.tmp 50) (.tmp 51) (by rfl) w8.heap.size (.slice (some ⟨w8.heap.size, 0, none⟩) 0 0) [] (by rfl) (gt_empty sgRow 4 29 w8 _ (Nat.le_refl _) (by (repeat (first | with_reducible assumption | with_reducible exact Below.refl _ _ | with_reducible refine Below.setCell ?_ (by first | omega | (simp; done) | (simp; omega)) _ | with_reducible refine Below.alloc ?_ (by first | omega | (simp; done) | (simp; omega)) _ | with_reducible refine below_drewN ?_ _ | with_reducible refine Below.drew ?_)))) ⟨g, 0, none⟩ cap m (by rfl) (HE6.out _ (by (repeat (first | with_reducible assumption | with_reducible exact Below.refl _ _ | with_reducible refine Below.setCell ?_ (by first | omega | (simp; done) | (simp; omega)) _ | with_reducible refine Below.alloc ?_ (by first | omega | (simp; done) | (simp; omega)) _ | with_reducible refine below_drewN ?_ _ | with_reducible refine Below.drew ?_ | with_reducible refine Below.trans ?_ (Below.mono hb68 (by first | omega | (simp; done) | (simp; omega))))))).cells hpos (by simp; omega) (by simp; try omega) ?_; intro g9 cap9 w9 hG9 hgr9 hat9)
      | fail)
    have hGC : GtG w8.heap.size w9 (.slice (some ⟨g9, 0, none⟩) m.length cap9) m := hG9.len (by simp) (by simp)
    have hb89 : Below w8.heap.size w8 w9 := by (repeat (first | with_reducible assumption | with_reducible exact Below.refl _ _ | with_reducible refine Below.setCell ?_ (by first | omega | (simp; done) | (simp; omega)) _ | with_reducible refine Below.alloc ?_ (by first | omega | (simp; done) | (simp; omega)) _ | with_reducible refine below_drewN ?_ _ | with_reducible refine Below.drew ?_ | with_reducible refine below_app ?_ hgr9 (by intro q hq; simp [Value.ownBlock] at hq; omega) (by first | omega | (simp; done) | (simp; omega))))
    have q0 : w9.cell? ⟨g9, 0, none⟩ = some (.int .i64 x) := by have := (sg_own hGC HG0.out).1; simpa using this
    have y0 := hGC.frozen 0
    have hGC2 := Gt.set (row := sgRow) (k := 4) (fun _ => rfl) hGC rfl HG0.out (s' := (((-1 : Int), y), (z, t))) (j := 0) (o := 0) (by decide) (x := .int .i64 (-1)) rfl rfl
    have hg9 := (hG9.lt (b := g9) rfl).1
    have hb8a : Below w8.heap.size w8 (w9.setCell ⟨g9, 0, none⟩ (.int .i64 (-1))) := hb89.setCell (by simpa using hg9) _
    clear hG9 hgr9 hat9 hGC hb89
    go_upto_region 11 with fail
    generalize hwa : World.setCell w9 _ _ = wa at *
    have hb6a := hb68.ext hb8a
    have hSA : SlS wa wa.heap.size _ _ := (HA.out.1.ext hb6a).sl (fun _ => rfl)
    have hSB : SlS wa wa.heap.size _ _ := (HB.out.ext hb8a).sl (fun _ => rfl)
    have hSC : SlS wa wa.heap.size _ _ := hGC2.sl (fun _ => rfl)
    have hSL : SlS wa wa.heap.size _ _ := (HE6.out wa hb6a).sl (fun _ => rfl)
    have hb1a := hb16.ext hb6a
    clear hwa hGC2 q0 y0 hb8a hb68 HB HA HE6
    have K1 := Lib.hid (fun (w' : World) (h : Below wa.heap.size wa w') => imSegsOk_any w' _ _ (hSA.ext h))
    have K2 := Lib.hid (fun (w' : World) (h : Below wa.heap.size wa w') => imSegsOk_any w' _ _ (hSB.ext h))
    have K3 := Lib.hid (fun (w' : World) (h : Below wa.heap.size wa w') => imSegsOk_any w' _ _ (hSC.ext h))
    rw [segsOkB_no (last_no HL.out)] at K1
    rw [segsOkB_no (set_no HG0.out (by simp [PosOk]))] at K2
    rw [segsOkB_no (set_no HG0.out (by simp [PosOk]))] at K3
    have K5 := Lib.hid (fun (w' : World) (_ : Below wa.heap.size wa w') => imSegsOk_any w' (.slice none 0 0) [] (sg_nil _ _))
    rw [segsOkB_yes nil_ok] at K5
    have K6 := Lib.hid (fun (w' : World) (h : Below wa.heap.size wa w') => imSegsSame_any w' _ _ _ _ (hSL.ext h) (hSA.ext h))
    rw [decide_eq_false (ne_snoc m _)] at K6
    have HSL := Lib.hid hSL
    have hcap : m.length ≤ cap := hcapm
    clear hSA hSB hSC hSL
    by_cases hc1 : cap = 1
    · subst hc1
      have K4 := Lib.hid (fun (w' : World) (h : Below wa.heap.size wa w') => imSegsOk_any w' _ _ ((sg_tail0 (A := some ⟨g, 0, none⟩) (w := wa) (B := wa.heap.size) hcap).ext h))
      rw [segsOkB_yes (tail_ok' HOK.out)] at K4
      go_wp2_with fail
      refine (K1.out wa (Below.refl _ _)).mono ?_
      rintro r wb ⟨rfl, hbb⟩
      go_wp2_with fail
      refine (K2.out wb hbb).mono ?_
      rintro r wc ⟨rfl, hbc⟩
      have hbac := hbb.ext hbc
      go_wp2_with fail
      refine (K3.out wc hbac).mono ?_
      rintro r wd ⟨rfl, hbd⟩
      have hbad := hbac.ext hbd
      go_wp2_with fail
      refine (K4.out wd hbad).mono ?_
      rintro r we ⟨rfl, hbe⟩
      have hbae := hbad.ext hbe
      go_wp2_with fail
      refine (K5.out we hbae).mono ?_
      rintro r wf ⟨rfl, hbf⟩
      have hbaf := hbae.ext hbf
      go_wp2_with fail
      refine (K6.out wf hbaf).mono ?_
      rintro r wg ⟨rfl, hbg⟩
      go_wp2_with fail
      go_ret
      exact ⟨rfl, hbw1.ext (hb1a.ext (hbaf.ext hbg))⟩
    · have K4 := Lib.hid (fun (w' : World) (h : Below wa.heap.size wa w') => imSegsOk_any w' _ _ ((sg_tail' HSL.out hpos).ext h))
      rw [segsOkB_yes (tail_ok' HOK.out)] at K4
      go_wp2_with fail
      refine (K1.out wa (Below.refl _ _)).mono ?_
      rintro r wb ⟨rfl, hbb⟩
      go_wp2_with fail
      refine (K2.out wb hbb).mono ?_
      rintro r wc ⟨rfl, hbc⟩
      have hbac := hbb.ext hbc
      go_wp2_with fail
      refine (K3.out wc hbac).mono ?_
      rintro r wd ⟨rfl, hbd⟩
      have hbad := hbac.ext hbd
      go_wp2_with fail
      refine (K4.out wd hbad).mono ?_
      rintro r we ⟨rfl, hbe⟩
      have hbae := hbad.ext hbe
      go_wp2_with fail
      refine (K5.out we hbae).mono ?_
      rintro r wf ⟨rfl, hbf⟩
      have hbaf := hbae.ext hbf
      go_wp2_with fail
      refine (K6.out wf hbaf).mono ?_
      rintro r wg ⟨rfl, hbg⟩
      go_wp2_with fail
      go_ret
      exact ⟨rfl, hbw1.ext (hb1a.ext (hbaf.ext hbg))⟩
end Go.Proofs.Ytppefinpekhbeaa
