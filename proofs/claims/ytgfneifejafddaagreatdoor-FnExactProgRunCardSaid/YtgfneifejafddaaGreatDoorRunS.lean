
/- What a program says: the reference's ProgRun. -/
import Derived.Test.YtgfneifejafddaaGreatDoorRun
namespace Go.Proofs.YtgfneifejafddaaGreatDoor
set_option maxRecDepth 100000
set_option linter.unusedSimpArgs false
set_option linter.unusedVariables false
open Go.RowKit
attribute [local go_sem] bs_toList bs_get bs_size

theorem DJ.symm {n t : Value} (h : DJ n t) : DJ t n := fun b hb e => h b e hb
theorem DJ.ne {n t : Value} (h : DJ n t) : t.ownBlock = none ∨ t.ownBlock ≠ n.ownBlock := by
  rcases hq : t.ownBlock with _ | q
  · exact .inl rfl
  · exact .inr (fun e => h q e.symm hq)
theorem ret2_bool {u : Value} {b c : Bool} (h : b = c) : Ending.returned (.tuple #[u, .bool b]) = .returned (.tuple #[u, .bool c]) := by rw [h]
theorem GtN.cells1 (x : Int) (w : World) : ∀ (j : Nat) (u : Value), ([x].flatMap intRow)[j]? = some u → (w.alloc (.cells #[.int .i64 x] 3)).cell? ((⟨w.heap.size, 0, none⟩ : Addr).add j) = some u :=
  World.news_of_block (heap_alloc_new w _)
set_option maxHeartbeats 4000000 in
theorem spProgRun_any (l : List Sm) (v : Value) (W : World) (hv : SmS W W.heap.size v l) : Calls Tryz.prog 10 #[v] W fun r w' => ∃ u, r = .returned (.tuple #[u, .bool (prRun l).2]) ∧ Fr intRow 1 3 w' W.heap.size u (prRun l).1 ∧ Below W.heap.size W w' := by
  have C1 := Lib.hid (fun (w' : World) (h : Below W.heap.size W w') => spProgOk_any l v w' ((hv.keep h (Nat.le_refl _)).more h.size))
  obtain ⟨A, c, rfl, hc, hm⟩ := hv.val
  have hg0 := gt_empty intRow 1 3 (B := W.heap.size) W (W.alloc (.cells #[] 3)) (Nat.le_refl _) (by rw [← World.size_alloc W (.cells #[] 3)]; exact Below.refl _ _)
  by_cases hok : progOkB l = true
  rotate_left
  · have hok2 : progOkB l = false := by simpa using hok
    rw [hok2] at C1
    have HO := Lib.hid (show prRun l = ([], false) by unfold prRun; rw [hok2]; rfl)
    have HG := Lib.hid hg0
    clear hok hok2 hg0
    go_enter Tryz.func10, Tryz.ntmps10
    go_wp2_with fail
    refine (C1.out _ (by (repeat (first | with_reducible assumption | with_reducible exact Below.refl _ _ | with_reducible refine Below.setCell ?_ (by first | omega | (simp; done) | (simp; omega)) _ | with_reducible refine Below.alloc ?_ (by first | omega | (simp; done) | (simp; omega)) _ | with_reducible refine below_drewN ?_ _ | with_reducible refine Below.drew ?_)))).mono ?_
    rintro r w1 ⟨rfl, hb1⟩
    go_wp2_with fail
    go_ret2
    exact ⟨_, ret2_bool (by rw [HO.out]), by rw [HO.out]; exact (HG.out.ext hb1).fr (fun _ => rfl), by (repeat (first | with_reducible assumption | with_reducible exact Below.refl _ _ | with_reducible refine Below.setCell ?_ (by first | omega | (simp; done) | (simp; omega)) _ | with_reducible refine Below.alloc ?_ (by first | omega | (simp; done) | (simp; omega)) _ | with_reducible refine below_drewN ?_ _ | with_reducible refine Below.drew ?_ | with_reducible refine Below.trans ?_ (Below.mono hb1 (by first | omega | (simp; done) | (simp; omega)))))⟩
  · rw [hok] at C1
    have HO := Lib.hid (show prRun l = prR l [] [] by unfold prRun; rw [hok]; rfl)
    have HF := Lib.hid (show ∀ i s, l[i]? = some s → formSB s = true from fun i s h => by
      simp only [progOkB, Bool.and_eq_true, List.all_eq_true] at hok
      have := hok.1.1 s (List.mem_of_getElem? h)
      rw [smOkB_form, Bool.and_eq_true] at this
      exact this.1)
    have hl16 : l.length ≤ 16 := by simp only [progOkB, Bool.and_eq_true, decide_eq_true_eq] at hok; exact hok.2
    have HG := Lib.hid hg0
    clear hok hg0
    go_enter Tryz.func10, Tryz.ntmps10
    go_wp2_with fail
    refine (C1.out _ (by (repeat (first | with_reducible assumption | with_reducible exact Below.refl _ _ | with_reducible refine Below.setCell ?_ (by first | omega | (simp; done) | (simp; omega)) _ | with_reducible refine Below.alloc ?_ (by first | omega | (simp; done) | (simp; omega)) _ | with_reducible refine below_drewN ?_ _ | with_reducible refine Below.drew ?_)))).mono ?_
    rintro r w1 ⟨rfl, hb1⟩
    have hz1 := hb1.size
    have hbW1 : Below W.heap.size W w1 := by (repeat (first | with_reducible assumption | with_reducible exact Below.refl _ _ | with_reducible refine Below.setCell ?_ (by first | omega | (simp; done) | (simp; omega)) _ | with_reducible refine Below.alloc ?_ (by first | omega | (simp; done) | (simp; omega)) _ | with_reducible refine below_drewN ?_ _ | with_reducible refine Below.drew ?_ | with_reducible refine Below.trans ?_ (Below.mono hb1 (by first | omega | (simp; done) | (simp; omega)))))
    have hzW := hbW1.size
    (try simp at hz1)
    go_wp2_with fail
    go_loopg [4, 5, 6, 7] l.length (fun k o n t i wr => ∃ (j : Nat) (names : List Bytes) (nums out : List Int), k = l.length - j ∧ j ≤ l.length ∧ i = .int .i64 j ∧ GtN W.heap.size wr o out ∧ GtS W.heap.size wr n names ∧ GtN W.heap.size wr t nums ∧ DJ n t ∧ DJ o n ∧ DJ o t ∧ names.length = nums.length ∧ names.length ≤ j ∧ out.length ≤ j ∧ Ran l j names nums out ∧ Below W.heap.size W wr)
    case atStart =>
      refine ⟨0, [], [], [], by omega, by omega, rfl, ?_, ?_, ?_, ?_, ?_, ?_, rfl, by simp, by simp, Ran.zero l, by (repeat (first | with_reducible assumption | with_reducible exact Below.refl _ _ | with_reducible refine Below.setCell ?_ (by first | omega | (simp; done) | (simp; omega)) _ | with_reducible refine Below.alloc ?_ (by first | omega | (simp; done) | (simp; omega)) _ | with_reducible refine below_drewN ?_ _ | with_reducible refine Below.drew ?_ | with_reducible refine Below.trans ?_ (Below.mono hb1 (by first | omega | (simp; done) | (simp; omega)))))⟩
      · exact (HG.out.ext hb1).ext (by (repeat (first | with_reducible assumption | with_reducible exact Below.refl _ _ | with_reducible refine Below.setCell ?_ (by first | omega | (simp; done) | (simp; omega)) _ | with_reducible refine Below.alloc ?_ (by first | omega | (simp; done) | (simp; omega)) _ | with_reducible refine below_drewN ?_ _ | with_reducible refine Below.drew ?_)))
      · have h := gt_empty strRow 1 9 (B := W.heap.size) w1 ((w1.alloc (.cells #[] 9)).alloc (.cells #[] 3)) hzW (by (repeat (first | with_reducible assumption | with_reducible exact Below.refl _ _ | with_reducible refine Below.setCell ?_ (by first | omega | (simp; done) | (simp; omega)) _ | with_reducible refine Below.alloc ?_ (by first | omega | (simp; done) | (simp; omega)) _ | with_reducible refine below_drewN ?_ _ | with_reducible refine Below.drew ?_)))
        exact h
      · have h := gt_empty intRow 1 3 (B := W.heap.size) (w1.alloc (.cells #[] 9)) ((w1.alloc (.cells #[] 9)).alloc (.cells #[] 3)) (by simp; omega) (by rw [← World.size_alloc (w1.alloc (.cells #[] 9)) (.cells #[] 3)]; exact Below.refl _ _)
        rwa [World.size_alloc] at h
      · intro b hb e
        simp [Value.ownBlock] at hb e
        omega
      · intro b hb e
        simp [Value.ownBlock] at hb e
        omega
      · intro b hb e
        simp [Value.ownBlock] at hb e
        omega
    case round =>
      obtain ⟨j, names, nums, out, hk, hj, rfl, hO, hN, hT, hD, hDn, hDt, hlen, hnj, hoj, hR, hbl⟩ := hrel
      have HK := Lib.hid (And.intro hk (And.intro hR (And.intro hlen (And.intro hD (And.intro hDn hDt)))))
      have hz := hbl.size
      by_cases hlt : j < l.length
      rotate_left
      · obtain rfl : j = l.length := by omega
        clear hk hR hlen hD hDn hDt
        go_wp2_with fail
        go_ret2
        exact ⟨_, ret2_bool (by rw [HO.out, HK.out.2.1.done]), by rw [HO.out, HK.out.2.1.done]; exact hO.fr (fun _ => rfl), hbl⟩
      · obtain ⟨b, o, s, A1, A2, c1, c2, rfl, hb, hg, hS, f0, f1, f2, f3, f4, f5, f6, f7, f8, f9, f10⟩ := sm_at2 hv hlt
        have g0 := f0 ⟨wr, hbl⟩; have g1 := f1 ⟨wr, hbl⟩; have g2 := f2 ⟨wr, hbl⟩; have g3 := f3 ⟨wr, hbl⟩; have g4 := f4 ⟨wr, hbl⟩; have g5 := f5 ⟨wr, hbl⟩; have g6 := f6 ⟨wr, hbl⟩; have g7 := f7 ⟨wr, hbl⟩; have g8 := f8 ⟨wr, hbl⟩; have g9 := f9 ⟨wr, hbl⟩; have g10 := f10 ⟨wr, hbl⟩
        by_cases hk0 : s.kind = 0
        · have d0 : (s.kind == 0) = true := by simpa using hk0
          have HX := Lib.hid (And.intro hg (And.intro hk0 (smVals_zero (HF.out _ _ hg) hk0 names nums)))
          clear f0 f1 f2 f3 f4 f5 f6 f7 f8 f9 f10 hg hS hk hR hlen hD hDn hDt hk0
          go_wp2_with fail
          go_roundg (l.length - (j + 1))
          case measure => have := HK.out.1; omega
          case rel =>
            obtain ⟨hk, hR, hlen, hD, hDn, hDt⟩ := HK.out
            obtain ⟨hg, hk0, hsv⟩ := HX.out
            have hR2 := hR.step hg hsv
            rw [letN_no (by omega), letV_no (by omega), show saidL s (0, 0) = [] by unfold saidL; rw [if_neg (by omega), if_neg (by omega)], List.append_nil, List.append_nil, List.append_nil] at hR2
            have hb2 : Below wr.heap.size wr (wr.alloc (.cells #[.int .i64 s.kind, .string (bs s.name), .string (bs s.typ), .int .i64 s.ex.kind, .int .i64 s.ex.n, .string (bs s.ex.s), .slice A1 s.ex.kids.length c1, .int .i64 s.th.kind, .int .i64 s.th.n, .string (bs s.th.s), .slice A2 s.th.kids.length c2] 55)) := by (repeat (first | with_reducible assumption | with_reducible exact Below.refl _ _ | with_reducible refine Below.setCell ?_ (by first | omega | (simp; done) | (simp; omega)) _ | with_reducible refine Below.alloc ?_ (by first | omega | (simp; done) | (simp; omega)) _ | with_reducible refine below_drewN ?_ _ | with_reducible refine Below.drew ?_))
            exact ⟨j + 1, names, nums, out, rfl, by omega, by go_num, hO.ext hb2, hN.ext hb2, hT.ext hb2, hD, hDn, hDt, hlen, by omega, by omega, hR2, hbl.ext hb2⟩
        · have d0 : (s.kind == 0) = false := by simpa using hk0
          have hbA : Below wr.heap.size wr (wr.alloc (.cells #[.int .i64 s.kind, .string (bs s.name), .string (bs s.typ), .int .i64 s.ex.kind, .int .i64 s.ex.n, .string (bs s.ex.s), .slice A1 s.ex.kids.length c1, .int .i64 s.th.kind, .int .i64 s.th.n, .string (bs s.th.s), .slice A2 s.th.kids.length c2] 55)) := by (repeat (first | with_reducible assumption | with_reducible exact Below.refl _ _ | with_reducible refine Below.setCell ?_ (by first | omega | (simp; done) | (simp; omega)) _ | with_reducible refine Below.alloc ?_ (by first | omega | (simp; done) | (simp; omega)) _ | with_reducible refine below_drewN ?_ _ | with_reducible refine Below.drew ?_))
          have hblA := hbl.ext hbA
          obtain ⟨a, bb, ok, hcall, hvals⟩ := spBoth_any s _ u5 u6 names nums _ (HF.out _ _ hg) hk0 hlen (by omega) ((hS.keep hblA (Nat.le_refl _)).more hblA.size) ((hN.ext hbA).sl (fun _ => rfl)) ((hT.ext hbA).sl (fun _ => rfl))
          have HC := Lib.hid hcall
          have HX := Lib.hid (And.intro hg (And.intro hk0 hvals))
          clear f0 f1 f2 f3 f4 f5 f6 f7 f8 f9 f10 hg hS hk hR hlen hD hDn hDt hk0 hcall hvals hblA hbA
          cases ok
          · go_wp2_with fail
            refine HC.out.mono ?_
            rintro r w2 ⟨rfl, hb2⟩
            have hb2w : Below wr.heap.size wr w2 := by (repeat (first | with_reducible assumption | with_reducible exact Below.refl _ _ | with_reducible refine Below.setCell ?_ (by first | omega | (simp; done) | (simp; omega)) _ | with_reducible refine Below.alloc ?_ (by first | omega | (simp; done) | (simp; omega)) _ | with_reducible refine below_drewN ?_ _ | with_reducible refine Below.drew ?_ | with_reducible refine Below.trans ?_ (Below.mono hb2 (by first | omega | (simp; done) | (simp; omega)))))
            clear g0 g1 g2 g3 g4 g5 g6 g7 g8 g9 g10 HC
            go_wp2_with fail
            go_ret2
            have he := HK.out.2.1.stuck HX.out.1 (by rw [HX.out.2.2]; rfl)
            exact ⟨_, ret2_bool (by rw [HO.out, he]), by rw [HO.out, he]; exact (hO.ext hb2w).fr (fun _ => rfl), hbl.ext hb2w⟩
          · go_wp2_with fail
            refine HC.out.mono ?_
            rintro r w2 ⟨rfl, hb2⟩
            have hz2 := hb2.size
            (try simp at hz2)
            have hb2w : Below wr.heap.size wr w2 := by (repeat (first | with_reducible assumption | with_reducible exact Below.refl _ _ | with_reducible refine Below.setCell ?_ (by first | omega | (simp; done) | (simp; omega)) _ | with_reducible refine Below.alloc ?_ (by first | omega | (simp; done) | (simp; omega)) _ | with_reducible refine below_drewN ?_ _ | with_reducible refine Below.drew ?_ | with_reducible refine Below.trans ?_ (Below.mono hb2 (by first | omega | (simp; done) | (simp; omega)))))
            have hbl2 := hbl.ext hb2w
            have hO2 := hO.ext hb2w
            have hN2 := hN.ext hb2w
            have hT2 := hT.ext hb2w
            have x0 : w2.cell? ⟨wr.heap.size, 0, none⟩ = some (.int .i64 s.kind) := (hb2.cell (p := ⟨wr.heap.size, 0, none⟩) (by simp)).trans (by simp [go_sem])
            have x1 : w2.cell? ⟨wr.heap.size, 1, none⟩ = some (.string (bs s.name)) := (hb2.cell (p := ⟨wr.heap.size, 1, none⟩) (by simp)).trans (by simp [go_sem])
            have HR2 := Lib.hid (HK.out.2.1.step HX.out.1 (p := (a, bb)) (by rw [HX.out.2.2]; rfl))
            have hnl : names.length ≤ 16 := by omega
            have htl : nums.length ≤ 16 := by have := HK.out.2.2.1; omega
            have hol : out.length ≤ 16 := by omega
            clear g0 g1 g2 g3 g4 g5 g6 g7 g8 g9 g10 HC
            by_cases hk1 : s.kind = 1
            · have d1 : (s.kind == 1) = true := by simpa using hk1
              have HKD := Lib.hid hk1
              clear hk1
              go_wp2_with (first
                | (at_builtin; refine aps_plain (by rfl) (.tmp 48) (.tmp 51) (by rfl) W.heap.size u5 names (by rfl) (hN2.ext (by (repeat (first | with_reducible assumption | with_reducible exact Below.refl _ _ | with_reducible refine Below.setCell ?_ (by first | omega | (simp; done) | (simp; omega)) _ | with_reducible refine Below.alloc ?_ (by first | omega | (simp; done) | (simp; omega)) _ | with_reducible refine below_drewN ?_ _ | with_reducible refine Below.drew ?_)))) ⟨w2.heap.size, 0, none⟩ 1 [s.name] (by rfl) (World.news_of_block (heap_alloc_new w2 _)) (Nat.succ_pos 0) (by first | omega | (simp; done) | (simp only [List.length_cons, List.length_nil, List.length_append]; omega) | (simp; omega)) (by first | omega | (simp; done) | (simp only [List.length_cons, List.length_nil, List.length_append]; omega) | (simp; omega)) ?_; intro ga capa w4 hG4 hgr4 hat4; have hz4 := hgr4.size; (try simp at hz4); have hb4 : Below W.heap.size W w4 := below_app (show Below W.heap.size W _ from (by (repeat (first | with_reducible assumption | with_reducible exact Below.refl _ _ | with_reducible refine Below.setCell ?_ (by first | omega | (simp; done) | (simp; omega)) _ | with_reducible refine Below.alloc ?_ (by first | omega | (simp; done) | (simp; omega)) _ | with_reducible refine below_drewN ?_ _ | with_reducible refine Below.drew ?_ | with_reducible refine Below.trans ?_ (Below.mono hbl2 (by first | omega | (simp; done) | (simp; omega))))))) hgr4 hN2.less_own (by first | omega | (simp; done) | (simp only [List.length_cons, List.length_nil, List.length_append]; omega) | (simp; omega)); have hT4 := (hT2.ext (w' := w2.alloc (.cells #[.string (bs s.name)] 9)) (by (repeat (first | with_reducible assumption | with_reducible exact Below.refl _ _ | with_reducible refine Below.setCell ?_ (by first | omega | (simp; done) | (simp; omega)) _ | with_reducible refine Below.alloc ?_ (by first | omega | (simp; done) | (simp; omega)) _ | with_reducible refine below_drewN ?_ _ | with_reducible refine Below.drew ?_)))).grown hgr4 HK.out.2.2.2.1.ne; have hO4 := (hO2.ext (w' := w2.alloc (.cells #[.string (bs s.name)] 9)) (by (repeat (first | with_reducible assumption | with_reducible exact Below.refl _ _ | with_reducible refine Below.setCell ?_ (by first | omega | (simp; done) | (simp; omega)) _ | with_reducible refine Below.alloc ?_ (by first | omega | (simp; done) | (simp; omega)) _ | with_reducible refine below_drewN ?_ _ | with_reducible refine Below.drew ?_)))).grown hgr4 HK.out.2.2.2.2.1.symm.ne)
                | (at_builtin; refine app_plain rtInt (by rfl) (.tmp 53) (.tmp 55) (by rfl) W.heap.size u6 nums (by rfl) (hT4.ext (by (repeat (first | with_reducible assumption | with_reducible exact Below.refl _ _ | with_reducible refine Below.setCell ?_ (by first | omega | (simp; done) | (simp; omega)) _ | with_reducible refine Below.alloc ?_ (by first | omega | (simp; done) | (simp; omega)) _ | with_reducible refine below_drewN ?_ _ | with_reducible refine Below.drew ?_)))) ⟨w4.heap.size, 0, none⟩ 1 [a] (by rfl) (GtN.cells1 a w4) (Nat.succ_pos 0) (by first | omega | (simp; done) | (simp only [List.length_cons, List.length_nil, List.length_append]; omega) | (simp; omega)) (by first | omega | (simp; done) | (simp only [List.length_cons, List.length_nil, List.length_append]; omega) | (simp; omega)) ?_; intro gb capb w5 hG5 hgr5 hat5)
                | fail)
              obtain ⟨_, _, _, hD, hDn, hDt⟩ := HK.out
              have hbq : Below w2.heap.size w2 (w2.alloc (.cells #[.string (bs s.name)] 9)) := by (repeat (first | with_reducible assumption | with_reducible exact Below.refl _ _ | with_reducible refine Below.setCell ?_ (by first | omega | (simp; done) | (simp; omega)) _ | with_reducible refine Below.alloc ?_ (by first | omega | (simp; done) | (simp; omega)) _ | with_reducible refine below_drewN ?_ _ | with_reducible refine Below.drew ?_))
              have hbr : Below w4.heap.size w4 (w4.alloc (.cells #[.int .i64 a] 3)) := by (repeat (first | with_reducible assumption | with_reducible exact Below.refl _ _ | with_reducible refine Below.setCell ?_ (by first | omega | (simp; done) | (simp; omega)) _ | with_reducible refine Below.alloc ?_ (by first | omega | (simp; done) | (simp; omega)) _ | with_reducible refine below_drewN ?_ _ | with_reducible refine Below.drew ?_))
              have hD4 : DJ (.slice (some ⟨ga, 0, none⟩) (names.length + [s.name].length) capa) u6 := DJ.first hD (hT2.ext hbq) hat4
              have hDo4 : DJ (.slice (some ⟨ga, 0, none⟩) (names.length + [s.name].length) capa) u4 := DJ.first hDn.symm (hO2.ext hbq) hat4
              have hD5 : DJ (.slice (some ⟨gb, 0, none⟩) (nums.length + [a].length) capb) (.slice (some ⟨ga, 0, none⟩) (names.length + [s.name].length) capa) := DJ.first hD4.symm (hG4.ext hbr) hat5
              have hDo5 : DJ (.slice (some ⟨gb, 0, none⟩) (nums.length + [a].length) capb) u4 := DJ.first hDt.symm (hO4.ext hbr) hat5
              have hG4' := (hG4.ext hbr).grown hgr5 hD4.symm.ne
              have hO5 := (hO4.ext hbr).grown hgr5 hDt.symm.ne
              have hb5 : Below W.heap.size W w5 := below_app (show Below W.heap.size W _ from (by (repeat (first | with_reducible assumption | with_reducible exact Below.refl _ _ | with_reducible refine Below.setCell ?_ (by first | omega | (simp; done) | (simp; omega)) _ | with_reducible refine Below.alloc ?_ (by first | omega | (simp; done) | (simp; omega)) _ | with_reducible refine below_drewN ?_ _ | with_reducible refine Below.drew ?_ | with_reducible refine Below.trans ?_ (Below.mono hb4 (by first | omega | (simp; done) | (simp; omega))))))) hgr5 hT4.less_own (by first | omega | (simp; done) | (simp only [List.length_cons, List.length_nil, List.length_append]; omega) | (simp; omega))
              have HQ := Lib.hid (And.intro hD5 (And.intro hDo5 (And.intro hDo4 (And.intro hG4' (And.intro hG5 hO5)))))
              clear hD hDn hDt hD4 hD5 hDo4 hDo5 hG4 hG4' hG5 hO5 hO4 hT4
              go_roundg (l.length - (j + 1))
              case measure => have := HK.out.1; omega
              case rel =>
                obtain ⟨hD5, hDo5, hDo4, hG4, hG5, hO5⟩ := HQ.out
                have e1 : letN s = [s.name] := by unfold letN; rw [if_pos HKD.out]
                have e2 : letV s (a, bb) = [a] := by unfold letV; rw [if_pos HKD.out]
                have e3 : saidL s (a, bb) = [] := by unfold saidL; rw [if_neg (by rw [HKD.out]; omega), if_neg (by rw [HKD.out]; omega)]
                have hR2 := HR2.out
                rw [e1, e2, e3, List.append_nil] at hR2
                exact ⟨j + 1, names ++ [s.name], nums ++ [a], out, rfl, by omega, by go_num, hO5, hG4, hG5, hD5.symm, hDo4.symm, hDo5.symm, by have := HK.out.2.2.1; simp only [List.length_append, List.length_singleton]; omega, by simp only [List.length_append, List.length_singleton]; omega, by omega, hR2, hb5⟩
            · have d1 : (s.kind == 1) = false := by simpa using hk1
              have e1 := letN_no hk1
              have e2 := letV_no hk1 (a, bb)
              have HE := Lib.hid (And.intro e1 e2)
              have HKD := Lib.hid hk1
              clear hk1 e1 e2
              by_cases hk2 : s.kind = 2
              · have d2 : (s.kind == 2) = true := by simpa using hk2
                have e3 : saidL s (a, bb) = [a] := by unfold saidL; rw [if_pos hk2]
                have HE3 := Lib.hid e3
                clear hk2 e3
                go_wp2_with (first
                  | (at_builtin; refine app_plain rtInt (by rfl) (.tmp 61) (.tmp 63) (by rfl) W.heap.size u4 out (by rfl) (hO2.ext (by (repeat (first | with_reducible assumption | with_reducible exact Below.refl _ _ | with_reducible refine Below.setCell ?_ (by first | omega | (simp; done) | (simp; omega)) _ | with_reducible refine Below.alloc ?_ (by first | omega | (simp; done) | (simp; omega)) _ | with_reducible refine below_drewN ?_ _ | with_reducible refine Below.drew ?_)))) ⟨w2.heap.size, 0, none⟩ 1 [a] (by rfl) (GtN.cells1 a w2) (Nat.succ_pos 0) (by first | omega | (simp; done) | (simp only [List.length_cons, List.length_nil, List.length_append]; omega) | (simp; omega)) (by first | omega | (simp; done) | (simp only [List.length_cons, List.length_nil, List.length_append]; omega) | (simp; omega)) ?_; intro ga capa w4 hG4 hgr4 hat4)
                  | fail)
                obtain ⟨_, _, hlen, hD, hDn, hDt⟩ := HK.out
                have hbq : Below w2.heap.size w2 (w2.alloc (.cells #[.int .i64 a] 3)) := by (repeat (first | with_reducible assumption | with_reducible exact Below.refl _ _ | with_reducible refine Below.setCell ?_ (by first | omega | (simp; done) | (simp; omega)) _ | with_reducible refine Below.alloc ?_ (by first | omega | (simp; done) | (simp; omega)) _ | with_reducible refine below_drewN ?_ _ | with_reducible refine Below.drew ?_))
                have hDo4 : DJ (.slice (some ⟨ga, 0, none⟩) (out.length + [a].length) capa) u5 := DJ.first hDn (hN2.ext hbq) hat4
                have hDp4 : DJ (.slice (some ⟨ga, 0, none⟩) (out.length + [a].length) capa) u6 := DJ.first hDt (hT2.ext hbq) hat4
                have hN4 := (hN2.ext hbq).grown hgr4 hDn.ne
                have hT4 := (hT2.ext hbq).grown hgr4 hDt.ne
                have hb4 : Below W.heap.size W w4 := below_app (show Below W.heap.size W _ from (by (repeat (first | with_reducible assumption | with_reducible exact Below.refl _ _ | with_reducible refine Below.setCell ?_ (by first | omega | (simp; done) | (simp; omega)) _ | with_reducible refine Below.alloc ?_ (by first | omega | (simp; done) | (simp; omega)) _ | with_reducible refine below_drewN ?_ _ | with_reducible refine Below.drew ?_ | with_reducible refine Below.trans ?_ (Below.mono hbl2 (by first | omega | (simp; done) | (simp; omega))))))) hgr4 hO2.less_own (by first | omega | (simp; done) | (simp only [List.length_cons, List.length_nil, List.length_append]; omega) | (simp; omega))
                have HQ := Lib.hid (And.intro hDo4 (And.intro hDp4 (And.intro hG4 (And.intro hN4 hT4))))
                clear hlen hD hDn hDt hDo4 hDp4 hG4 hN4 hT4
                go_roundg (l.length - (j + 1))
                case measure => have := HK.out.1; omega
                case rel =>
                  obtain ⟨_, _, hlen, hD, hDn, hDt⟩ := HK.out
                  obtain ⟨hDo4, hDp4, hG4, hN4, hT4⟩ := HQ.out
                  have hR2 := HR2.out
                  rw [HE.out.1, HE.out.2, HE3.out, List.append_nil, List.append_nil] at hR2
                  exact ⟨j + 1, names, nums, out ++ [a], rfl, by omega, by go_num, hG4, hN4, hT4, hD, hDo4, hDp4, hlen, by omega, by simp only [List.length_append, List.length_singleton]; omega, hR2, hb4⟩
              · have d2 : (s.kind == 2) = false := by simpa using hk2
                by_cases ha : a = 0
                · subst ha
                  have e3 : saidL s (0, bb) = [] := by unfold saidL; rw [if_neg hk2, if_neg (by simp)]
                  have HE3 := Lib.hid e3
                  clear hk2 e3
                  go_wp2_with fail
                  go_roundg (l.length - (j + 1))
                  case measure => have := HK.out.1; omega
                  case rel =>
                    obtain ⟨_, _, hlen, hD, hDn, hDt⟩ := HK.out
                    have hR2 := HR2.out
                    rw [HE.out.1, HE.out.2, HE3.out, List.append_nil, List.append_nil, List.append_nil] at hR2
                    exact ⟨j + 1, names, nums, out, rfl, by omega, by go_num, hO2, hN2, hT2, hD, hDn, hDt, hlen, by omega, by omega, hR2, hbl2⟩
                · have d3 : (a != 0) = true := by simpa using ha
                  have hk3 : s.kind = 3 := by
                    obtain ⟨t, rfl, hf⟩ := formSB_iff.1 (HF.out _ _ HX.out.1)
                    have h0 := HX.out.2.1
                    have h1 := HKD.out
                    cases t <;> simp [SE.sm] at h0 h1 hk2 ⊢
                  have e3 : saidL s (a, bb) = [bb] := by unfold saidL; rw [if_neg hk2, if_pos ⟨hk3, ha⟩]
                  have HE3 := Lib.hid e3
                  clear hk2 e3 ha hk3
                  go_wp2_with (first
                    | (at_builtin; refine app_plain rtInt (by rfl) (.tmp 68) (.tmp 70) (by rfl) W.heap.size u4 out (by rfl) (hO2.ext (by (repeat (first | with_reducible assumption | with_reducible exact Below.refl _ _ | with_reducible refine Below.setCell ?_ (by first | omega | (simp; done) | (simp; omega)) _ | with_reducible refine Below.alloc ?_ (by first | omega | (simp; done) | (simp; omega)) _ | with_reducible refine below_drewN ?_ _ | with_reducible refine Below.drew ?_)))) ⟨w2.heap.size, 0, none⟩ 1 [bb] (by rfl) (GtN.cells1 bb w2) (Nat.succ_pos 0) (by first | omega | (simp; done) | (simp only [List.length_cons, List.length_nil, List.length_append]; omega) | (simp; omega)) (by first | omega | (simp; done) | (simp only [List.length_cons, List.length_nil, List.length_append]; omega) | (simp; omega)) ?_; intro ga capa w4 hG4 hgr4 hat4)
                    | fail)
                  obtain ⟨_, _, hlen, hD, hDn, hDt⟩ := HK.out
                  have hbq : Below w2.heap.size w2 (w2.alloc (.cells #[.int .i64 bb] 3)) := by (repeat (first | with_reducible assumption | with_reducible exact Below.refl _ _ | with_reducible refine Below.setCell ?_ (by first | omega | (simp; done) | (simp; omega)) _ | with_reducible refine Below.alloc ?_ (by first | omega | (simp; done) | (simp; omega)) _ | with_reducible refine below_drewN ?_ _ | with_reducible refine Below.drew ?_))
                  have hDo4 : DJ (.slice (some ⟨ga, 0, none⟩) (out.length + [bb].length) capa) u5 := DJ.first hDn (hN2.ext hbq) hat4
                  have hDp4 : DJ (.slice (some ⟨ga, 0, none⟩) (out.length + [bb].length) capa) u6 := DJ.first hDt (hT2.ext hbq) hat4
                  have hN4 := (hN2.ext hbq).grown hgr4 hDn.ne
                  have hT4 := (hT2.ext hbq).grown hgr4 hDt.ne
                  have hb4 : Below W.heap.size W w4 := below_app (show Below W.heap.size W _ from (by (repeat (first | with_reducible assumption | with_reducible exact Below.refl _ _ | with_reducible refine Below.setCell ?_ (by first | omega | (simp; done) | (simp; omega)) _ | with_reducible refine Below.alloc ?_ (by first | omega | (simp; done) | (simp; omega)) _ | with_reducible refine below_drewN ?_ _ | with_reducible refine Below.drew ?_ | with_reducible refine Below.trans ?_ (Below.mono hbl2 (by first | omega | (simp; done) | (simp; omega))))))) hgr4 hO2.less_own (by first | omega | (simp; done) | (simp only [List.length_cons, List.length_nil, List.length_append]; omega) | (simp; omega))
                  have HQ := Lib.hid (And.intro hDo4 (And.intro hDp4 (And.intro hG4 (And.intro hN4 hT4))))
                  clear hlen hD hDn hDt hDo4 hDp4 hG4 hN4 hT4
                  go_roundg (l.length - (j + 1))
                  case measure => have := HK.out.1; omega
                  case rel =>
                    obtain ⟨_, _, hlen, hD, hDn, hDt⟩ := HK.out
                    obtain ⟨hDo4, hDp4, hG4, hN4, hT4⟩ := HQ.out
                    have hR2 := HR2.out
                    rw [HE.out.1, HE.out.2, HE3.out, List.append_nil, List.append_nil] at hR2
                    exact ⟨j + 1, names, nums, out ++ [bb], rfl, by omega, by go_num, hG4, hN4, hT4, hD, hDo4, hDp4, hlen, by omega, by simp only [List.length_append, List.length_singleton]; omega, hR2, hb4⟩
end Go.Proofs.YtgfneifejafddaaGreatDoor
