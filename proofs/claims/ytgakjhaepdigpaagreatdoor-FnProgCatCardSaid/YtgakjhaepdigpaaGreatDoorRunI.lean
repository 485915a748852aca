
/- What a program says: the program's ProgRun. -/
import Derived.Test.YtgakjhaepdigpaaGreatDoorZn5
namespace Go.Proofs.YtgakjhaepdigpaaGreatDoor
set_option maxRecDepth 100000
set_option linter.unusedSimpArgs false
set_option linter.unusedVariables false
open Go.RowKit
attribute [local go_sem] bs_toList bs_get bs_size

theorem clipInt_any (v : Value) (l : List Int) (lo : Nat) (w : World) (hv : Fr intRow 1 3 w lo v l) :
    Calls Tryz.prog 112 #[v] w fun e w' => ∃ u, e = .returned u ∧ Fr intRow 1 3 w' lo u l ∧ w = w' := by
  rcases hv.form with ⟨rfl, rfl⟩ | ⟨g, cap, cur, rfl, hlo, hc, hm, hB, hx⟩
  · go_enter Tryz.func112, Tryz.ntmps112
    go_wp2
    go_ret
    exact ⟨_, rfl, .inl ⟨rfl, rfl⟩, rfl⟩
  · go_enter Tryz.func112, Tryz.ntmps112
    go_wp2
    go_ret
    exact ⟨_, rfl, hv.clip, rfl⟩
theorem va_both (s : Sm) (nv tv : Value) (names : List Bytes) (nums : List Int) (w : World) (A1 A2 : Option Addr) (c1 c2 : Nat) (hf : formSB s = true) (hk0 : s.kind ≠ 0) (hl : names.length = nums.length) (hn0 : names.length ≤ 1000)
    (hE1 : ExV w w.heap.size (.agg #[.int .i64 s.ex.kind, .int .i64 s.ex.n, .string (bs s.ex.s), .slice A1 s.ex.kids.length c1]) s.ex) (hE2 : ExV w w.heap.size (.agg #[.int .i64 s.th.kind, .int .i64 s.th.n, .string (bs s.th.s), .slice A2 s.th.kids.length c2]) s.th) (hnv : SlB w w.heap.size nv names) (htv : SlN w w.heap.size tv nums) :
    ∃ r1 r2 : Option Int, (∀ w', Below w.heap.size w w' → Calls Tryz.prog 111 #[.agg #[.int .i64 s.ex.kind, .int .i64 s.ex.n, .string (bs s.ex.s), .slice A1 s.ex.kids.length c1], nv, tv] w' fun r w'' => r = .returned (ofVal r1) ∧ Below w'.heap.size w' w'') ∧
      (s.kind = 3 → ∀ w', Below w.heap.size w w' → Calls Tryz.prog 111 #[.agg #[.int .i64 s.th.kind, .int .i64 s.th.n, .string (bs s.th.s), .slice A2 s.th.kids.length c2], nv, tv] w' fun r w'' => r = .returned (ofVal r2) ∧ Below w'.heap.size w' w'') ∧
      (s.kind ≠ 3 → smVals s names nums = r1.map (fun x => (x, 0))) ∧ (s.kind = 3 → smVals s names nums = match r1, r2 with | some x, some y => some (x, y) | _, _ => none) ∧ (s.kind = 1 ∨ s.kind = 2 ∨ s.kind = 3) := by
  obtain ⟨t, rfl, h⟩ := formSB_iff.1 hf
  rw [smVals_se h]
  cases t with
  | none => exact absurd rfl hk0
  | slet nm ty e =>
    exact ⟨e.va names nums, none, fun w' hb => imVa_any e _ nv tv names nums w' hl hn0 h.2.1 ((hE1.keep hb (Nat.le_refl _)).more hb.size) (hnv.ext hb) (htv.ext hb), fun h3 => absurd h3 (by simp [SE.sm]), fun _ => rfl, fun h3 => absurd h3 (by simp [SE.sm]), .inl rfl⟩
  | say e =>
    exact ⟨e.va names nums, none, fun w' hb => imVa_any e _ nv tv names nums w' hl hn0 h.1 ((hE1.keep hb (Nat.le_refl _)).more hb.size) (hnv.ext hb) (htv.ext hb), fun h3 => absurd h3 (by simp [SE.sm]), fun _ => rfl, fun h3 => absurd h3 (by simp [SE.sm]), .inr (.inl rfl)⟩
  | when a b =>
    exact ⟨a.va names nums, b.va names nums, fun w' hb => imVa_any a _ nv tv names nums w' hl hn0 h.1.1 ((hE1.keep hb (Nat.le_refl _)).more hb.size) (hnv.ext hb) (htv.ext hb), fun _ w' hb => imVa_any b _ nv tv names nums w' hl hn0 h.2.1 ((hE2.keep hb (Nat.le_refl _)).more hb.size) (hnv.ext hb) (htv.ext hb), fun h3 => absurd rfl h3, fun _ => rfl, .inr (.inr rfl)⟩
set_option maxHeartbeats 8000000 in
theorem imProgRun_any (l : List Sm) (v : Value) (W : World) (hv : SmS W W.heap.size v l) (hE : Env W) : Calls Tryz.prog 52 #[v] W fun r w' => ∃ u, r = .returned (.tuple #[u, .bool (prRun l).2]) ∧ Fr intRow 1 3 w' W.heap.size u (prRun l).1 ∧ Below W.heap.size W w' := by
  have C1 := Lib.hid (imProgOk_any l v W hv hE)
  obtain ⟨A, c, rfl, hc, hm⟩ := hv.val
  by_cases hok : progOkB l = true
  rotate_left
  · have hok2 : progOkB l = false := by simpa using hok
    rw [hok2] at C1
    have HO := Lib.hid (show prRun l = ([], false) by unfold prRun; rw [hok2]; rfl)
    clear hok hok2 hE
    go_enter Tryz.func52, Tryz.ntmps52
    go_wp2_with fail
    refine C1.out.mono ?_
    rintro r w1 ⟨rfl, hb1⟩
    go_wp2_with fail
    go_ret2
    exact ⟨_, ret2_bool (by rw [HO.out]), by rw [HO.out]; exact .inl ⟨rfl, rfl⟩, hb1⟩
  rw [hok] at C1
  have HO := Lib.hid (show prRun l = prR l [] [] by unfold prRun; rw [hok]; rfl)
  have HF := Lib.hid (show ∀ i s, l[i]? = some s → formSB s = true from fun i s h => by
    simp only [progOkB, Bool.and_eq_true, List.all_eq_true] at hok
    have := hok.1.1 s (List.mem_of_getElem? h)
    rw [smOkB_form, Bool.and_eq_true] at this
    exact this.1)
  have hl16 : l.length ≤ 16 := by simp only [progOkB, Bool.and_eq_true, decide_eq_true_eq] at hok; exact hok.2
  clear hok hE
  go_enter Tryz.func52, Tryz.ntmps52
  go_wp2_with fail
  refine C1.out.mono ?_
  rintro r w1 ⟨rfl, hb1⟩
  have hz1 := hb1.size
  go_wp2_with fail
  go_loopg [4, 5, 6, 17] l.length (fun k n t o i wr => ∃ (j : Nat) (names : List Bytes) (nums out : List Int), k = l.length - j ∧ j ≤ l.length ∧ i = .int .i64 j ∧ GtN W.heap.size wr o out ∧ GtS W.heap.size wr n names ∧ GtN W.heap.size wr t nums ∧ DJ n t ∧ DJ o n ∧ DJ o t ∧ names.length = nums.length ∧ names.length ≤ j ∧ out.length ≤ j ∧ Ran l j names nums out ∧ Below W.heap.size W wr)
  case atStart => exact ⟨0, [], [], [], by omega, by omega, rfl, Gt.nil _ _ _ _ _, Gt.nil _ _ _ _ _, Gt.nil _ _ _ _ _, fun b hb => by simp [Value.ownBlock] at hb, fun b hb => by simp [Value.ownBlock] at hb, fun b hb => by simp [Value.ownBlock] at hb, rfl, by simp, by simp, Ran.zero l, hb1⟩
  case round =>
    obtain ⟨j, names, nums, out, hk, hj, rfl, hO, hN, hT, hD, hDn, hDt, hlen, hnj, hoj, hR, hbl⟩ := hrel
    have HK := Lib.hid (And.intro hk (And.intro hR (And.intro hlen (And.intro hD (And.intro hDn hDt)))))
    have hz := hbl.size
    by_cases hlt : j < l.length
    rotate_left
    · obtain rfl : j = l.length := by omega
      clear hk hR hlen hD hDn hDt
      go_wp2_with fail
      refine (clipInt_any _ _ _ _ (hO.fr (fun _ => rfl))).mono ?_
      rintro e wz ⟨u, rfl, hu, rfl⟩
      go_wp2_with fail
      go_ret2
      exact ⟨_, ret2_bool (by rw [HO.out, HK.out.2.1.done]), by rw [HO.out, HK.out.2.1.done]; exact hu, hbl⟩
    obtain ⟨b, o, s, A1, A2, c1, c2, rfl, hb, hg, hS, f0, f1, f2, f3, f4, f5, f6, f7, f8, f9, f10⟩ := sm_at2 hv hlt
    have g0 := f0 ⟨wr, hbl⟩; have g1 := f1 ⟨wr, hbl⟩; have g2 := f2 ⟨wr, hbl⟩; have g3 := f3 ⟨wr, hbl⟩; have g4 := f4 ⟨wr, hbl⟩; have g5 := f5 ⟨wr, hbl⟩; have g6 := f6 ⟨wr, hbl⟩; have g7 := f7 ⟨wr, hbl⟩; have g8 := f8 ⟨wr, hbl⟩; have g9 := f9 ⟨wr, hbl⟩; have g10 := f10 ⟨wr, hbl⟩
    by_cases hk0 : s.kind = 0
    · have d0 : (s.kind == 0) = true := by simpa using hk0
      have HX := Lib.hid (And.intro hg (And.intro hk0 (smVals_zero (HF.out _ _ hg) hk0 names nums)))
      clear f0 f1 f2 f3 f4 f5 f6 f7 f8 f9 f10 hg hS hk hR hlen hD hDn hDt hk0
      go_wp2_with fail
      go_roundg (l.length - (j + 1))
      case measure => have := HK.out.1; omega
      case rel =>
        obtain ⟨hk, hR, hlen, hD, hDn, hDt⟩ := HK.out
        obtain ⟨hg, hk0, hsv⟩ := HX.out
        have hR2 := hR.step hg hsv
        rw [letN_no (by omega), letV_no (by omega), show saidL s (0, 0) = [] by unfold saidL; rw [if_neg (by omega), if_neg (by omega)], List.append_nil, List.append_nil, List.append_nil] at hR2
        have hb2 : Below wr.heap.size wr (wr.alloc (.cells #[.int .i64 s.kind, .string (bs s.name), .string (bs s.typ), .int .i64 s.ex.kind, .int .i64 s.ex.n, .string (bs s.ex.s), .slice A1 s.ex.kids.length c1, .int .i64 s.th.kind, .int .i64 s.th.n, .string (bs s.th.s), .slice A2 s.th.kids.length c2] 26)) := by (repeat (first | with_reducible assumption | with_reducible exact Below.refl _ _ | with_reducible refine Below.setCell ?_ (by first | omega | (simp; done) | (simp; omega)) _ | with_reducible refine Below.alloc ?_ (by first | omega | (simp; done) | (simp; omega)) _ | with_reducible refine below_drewN ?_ _ | with_reducible refine Below.drew ?_))
        exact ⟨j + 1, names, nums, out, rfl, by omega, by go_num, hO.ext hb2, hN.ext hb2, hT.ext hb2, hD, hDn, hDt, hlen, by omega, by omega, hR2, hbl.ext hb2⟩
    have d0 : (s.kind == 0) = false := by simpa using hk0
    have hSr := (hS.keep hbl (Nat.le_refl _)).more hz
    obtain ⟨hX1, hX2⟩ := sm_parts hSr
    obtain ⟨r1, r2, D1, D2, hv1, hv3, hkd⟩ := va_both s u4 u5 names nums wr A1 A2 c1 c2 (HF.out _ _ hg) hk0 hlen (by omega) hX1 hX2 (hN.sl (fun _ => rfl)) (hT.sl (fun _ => rfl))
    have T1 := Lib.hid D1
    have T2 := Lib.hid D2
    have HG := Lib.hid (And.intro hg (And.intro hv1 (And.intro hv3 hkd)))
    have hnl : names.length ≤ 16 := by omega
    have htl : nums.length ≤ 16 := by omega
    have hol : out.length ≤ 16 := by omega
    clear f0 f1 f2 f3 f4 f5 f6 f7 f8 f9 f10 hg hS hSr hX1 hX2 D1 D2 hk hR hlen hD hDn hDt hk0 hv1 hv3 hkd
    go_upto_region 9 with fail
    generalize hWB : World.alloc wr _ = wB
    have hbB : Below wr.heap.size wr wB := by rw [← hWB]; (repeat (first | with_reducible assumption | with_reducible exact Below.refl _ _ | with_reducible refine Below.setCell ?_ (by first | omega | (simp; done) | (simp; omega)) _ | with_reducible refine Below.alloc ?_ (by first | omega | (simp; done) | (simp; omega)) _ | with_reducible refine below_drewN ?_ _ | with_reducible refine Below.drew ?_))
    have hzB : wr.heap.size < wB.heap.size := by rw [← hWB]; simp
    have KEEP : Hid (∀ w', Below (wr.heap.size + 1) wB w' → w'.cell? ⟨wr.heap.size, 0, none⟩ = some (.int .i64 s.kind) ∧ w'.cell? ⟨wr.heap.size, 1, none⟩ = some (.string (bs s.name)) ∧ w'.cell? ⟨wr.heap.size, 2, none⟩ = some (.string (bs s.typ)) ∧ w'.cell? ⟨wr.heap.size, 3, none⟩ = some (.int .i64 s.ex.kind) ∧ w'.cell? ⟨wr.heap.size, 4, none⟩ = some (.int .i64 s.ex.n) ∧ w'.cell? ⟨wr.heap.size, 5, none⟩ = some (.string (bs s.ex.s)) ∧ w'.cell? ⟨wr.heap.size, 6, none⟩ = some (.slice A1 s.ex.kids.length c1) ∧ w'.cell? ⟨wr.heap.size, 7, none⟩ = some (.int .i64 s.th.kind) ∧ w'.cell? ⟨wr.heap.size, 8, none⟩ = some (.int .i64 s.th.n) ∧ w'.cell? ⟨wr.heap.size, 9, none⟩ = some (.string (bs s.th.s)) ∧ w'.cell? ⟨wr.heap.size, 10, none⟩ = some (.slice A2 s.th.kids.length c2)) := Lib.hid (fun w' h => by
      rw [← hWB] at h
      refine ⟨?_, ?_, ?_, ?_, ?_, ?_, ?_, ?_, ?_, ?_, ?_⟩ <;> exact (h.cell (p := ⟨wr.heap.size, _, none⟩) (Nat.lt_succ_self _)).trans (by simp [go_sem]))
    obtain ⟨x0, x1, x2, x3, x4, x5, x6, x7, x8, x9, x10⟩ := KEEP.out wB (Below.refl _ _)
    clear hWB g0 g1 g2 g3 g4 g5 g6 g7 g8 g9 g10
    go_wp2_with fail
    refine (T1.out _ (by (repeat (first | with_reducible assumption | with_reducible exact Below.refl _ _ | with_reducible refine Below.setCell ?_ (by first | omega | (simp; done) | (simp; omega)) _ | with_reducible refine Below.alloc ?_ (by first | omega | (simp; done) | (simp; omega)) _ | with_reducible refine below_drewN ?_ _ | with_reducible refine Below.drew ?_ | with_reducible refine Below.trans ?_ (Below.mono hbB (by first | omega | (simp; done) | (simp; omega))))))).mono ?_
    rintro r w2 ⟨rfl, hb2⟩
    have hz2 := hb2.size
    have hb2w : Below wr.heap.size wr w2 := by (repeat (first | with_reducible assumption | with_reducible exact Below.refl _ _ | with_reducible refine Below.setCell ?_ (by first | omega | (simp; done) | (simp; omega)) _ | with_reducible refine Below.alloc ?_ (by first | omega | (simp; done) | (simp; omega)) _ | with_reducible refine below_drewN ?_ _ | with_reducible refine Below.drew ?_ | with_reducible refine Below.trans ?_ (Below.mono hb2 (by first | omega | (simp; done) | (simp; omega))) | with_reducible refine Below.trans ?_ (Below.mono hbB (by first | omega | (simp; done) | (simp; omega)))))
    have hb2B : Below (wr.heap.size + 1) wB w2 := by (repeat (first | with_reducible assumption | with_reducible exact Below.refl _ _ | with_reducible refine Below.setCell ?_ (by first | omega | (simp; done) | (simp; omega)) _ | with_reducible refine Below.alloc ?_ (by first | omega | (simp; done) | (simp; omega)) _ | with_reducible refine below_drewN ?_ _ | with_reducible refine Below.drew ?_ | with_reducible refine Below.trans ?_ (Below.mono hb2 (by first | omega | (simp; done) | (simp; omega)))))
    clear T1 x0 x1 x2 x3 x4 x5 x6 x7 x8 x9 x10
    obtain ⟨x0, x1, x2, x3, x4, x5, x6, x7, x8, x9, x10⟩ := KEEP.out w2 hb2B
    by_cases hk3 : s.kind = 3
    · have d3 : (s.kind == 3) = true := by simpa using hk3
      have d1 : (s.kind == 1) = false := by rw [hk3]; rfl
      have d2 : (s.kind == 2) = false := by rw [hk3]; rfl
      have HK3 := Lib.hid hk3
      have T3 := Lib.hid (T2.out hk3)
      clear hk3 T2
      unfold ofVal at T3
      cases r1 with
      | none =>
        clear T3
        unfold ofVal
        go_wp2_with fail
        refine (clipInt_any _ _ _ _ ((hO.ext hb2w).fr (fun _ => rfl))).mono ?_
        rintro e wz ⟨u, rfl, hu, rfl⟩
        go_wp2_with fail
        go_ret2
        have he := HK.out.2.1.stuck HG.out.1 (by rw [HG.out.2.2.1 HK3.out])
        exact ⟨_, ret2_bool (by rw [HO.out, he]), by rw [HO.out, he]; exact hu, hbl.ext hb2w⟩
      | some x =>
        cases r2 with
        | none =>
          unfold ofVal
          go_wp2_with fail
          refine (T3.out _ hb2w).mono ?_
          rintro r w3 ⟨rfl, hb3⟩
          have hb3w : Below wr.heap.size wr w3 := hb2w.ext hb3
          clear T3
          go_wp2_with fail
          refine (clipInt_any _ _ _ _ ((hO.ext hb3w).fr (fun _ => rfl))).mono ?_
          rintro e wz ⟨u, rfl, hu, rfl⟩
          go_wp2_with fail
          go_ret2
          have he := HK.out.2.1.stuck HG.out.1 (by rw [HG.out.2.2.1 HK3.out])
          exact ⟨_, ret2_bool (by rw [HO.out, he]), by rw [HO.out, he]; exact hu, hbl.ext hb3w⟩
        | some y =>
          unfold ofVal
          go_wp2_with fail
          refine (T3.out _ hb2w).mono ?_
          rintro r w3 ⟨rfl, hb3⟩
          have hb3w : Below wr.heap.size wr w3 := hb2w.ext hb3
          have hb3B : Below (wr.heap.size + 1) wB w3 := by (repeat (first | with_reducible assumption | with_reducible exact Below.refl _ _ | with_reducible refine Below.setCell ?_ (by first | omega | (simp; done) | (simp; omega)) _ | with_reducible refine Below.alloc ?_ (by first | omega | (simp; done) | (simp; omega)) _ | with_reducible refine below_drewN ?_ _ | with_reducible refine Below.drew ?_ | with_reducible refine Below.trans ?_ (Below.mono hb3 (by first | omega | (simp; done) | (simp; omega))) | with_reducible refine Below.trans ?_ (Below.mono hb2B (by first | omega | (simp; done) | (simp; omega)))))
          have hbl2 := hbl.ext hb3w
          have hO2 := hO.ext hb3w
          have hN2 := hN.ext hb3w
          have hT2 := hT.ext hb3w
          have hz3 := hb3.size
          clear T3 x0 x1 x2 x3 x4 x5 x6 x7 x8 x9 x10
          obtain ⟨x0, x1, x2, x3, x4, x5, x6, x7, x8, x9, x10⟩ := KEEP.out w3 hb3B
          have HR2 := Lib.hid (HK.out.2.1.step HG.out.1 (p := (x, y)) (by rw [HG.out.2.2.1 HK3.out]))
          by_cases hx : x = 0
          · subst hx
            have HE := Lib.hid (And.intro (letN_no (s := s) (by rw [HK3.out]; omega)) (And.intro (letV_no (s := s) (by rw [HK3.out]; omega) (0, y)) (show saidL s (0, y) = [] by unfold saidL; rw [if_neg (by rw [HK3.out]; omega), if_neg (by simp)])))
            go_wp2_with fail
            go_roundg (l.length - (j + 1))
            case measure => have := HK.out.1; omega
            case rel =>
              obtain ⟨_, _, hlen, hD, hDn, hDt⟩ := HK.out
              have hR2 := HR2.out
              rw [HE.out.1, HE.out.2.1, HE.out.2.2, List.append_nil, List.append_nil, List.append_nil] at hR2
              exact ⟨j + 1, names, nums, out, rfl, by omega, by go_num, hO2, hN2, hT2, hD, hDn, hDt, hlen, by omega, by omega, hR2, hbl2⟩
          · have dx : (x != 0) = true := by simpa using hx
            have HE := Lib.hid (And.intro (letN_no (s := s) (by rw [HK3.out]; omega)) (And.intro (letV_no (s := s) (by rw [HK3.out]; omega) (x, y)) (show saidL s (x, y) = [y] by unfold saidL; rw [if_neg (by rw [HK3.out]; omega), if_pos ⟨HK3.out, hx⟩])))
            have HX := Lib.hid hx
            clear hx
            go_wp2_with (first
              | (at_builtin; refine app_plain rtInt (by rfl) (.tmp 73) (.tmp 75) (by rfl) W.heap.size u6 out (by rfl) (hO2.ext (by (repeat (first | with_reducible assumption | with_reducible exact Below.refl _ _ | with_reducible refine Below.setCell ?_ (by first | omega | (simp; done) | (simp; omega)) _ | with_reducible refine Below.alloc ?_ (by first | omega | (simp; done) | (simp; omega)) _ | with_reducible refine below_drewN ?_ _ | with_reducible refine Below.drew ?_)))) ⟨w3.heap.size, 0, none⟩ 1 [y] (by rfl) (GtN.cells1 y w3) (Nat.succ_pos 0) (by first | omega | (simp; done) | (simp only [List.length_cons, List.length_nil, List.length_append]; omega) | (simp; omega)) (by first | omega | (simp; done) | (simp only [List.length_cons, List.length_nil, List.length_append]; omega) | (simp; omega)) ?_; intro ga capa w4 hG4 hgr4 hat4)
              | fail)
            obtain ⟨_, _, hlen, hD, hDn, hDt⟩ := HK.out
            have hbq : Below w3.heap.size w3 (w3.alloc (.cells #[.int .i64 y] 3)) := by (repeat (first | with_reducible assumption | with_reducible exact Below.refl _ _ | with_reducible refine Below.setCell ?_ (by first | omega | (simp; done) | (simp; omega)) _ | with_reducible refine Below.alloc ?_ (by first | omega | (simp; done) | (simp; omega)) _ | with_reducible refine below_drewN ?_ _ | with_reducible refine Below.drew ?_))
            have hDo4 : DJ (.slice (some ⟨ga, 0, none⟩) (out.length + [y].length) capa) u4 := DJ.first hDn (hN2.ext hbq) hat4
            have hDp4 : DJ (.slice (some ⟨ga, 0, none⟩) (out.length + [y].length) capa) u5 := DJ.first hDt (hT2.ext hbq) hat4
            have hN4 := (hN2.ext hbq).grown hgr4 hDn.ne
            have hT4 := (hT2.ext hbq).grown hgr4 hDt.ne
            have hb4 : Below W.heap.size W w4 := below_app (show Below W.heap.size W _ from (by (repeat (first | with_reducible assumption | with_reducible exact Below.refl _ _ | with_reducible refine Below.setCell ?_ (by first | omega | (simp; done) | (simp; omega)) _ | with_reducible refine Below.alloc ?_ (by first | omega | (simp; done) | (simp; omega)) _ | with_reducible refine below_drewN ?_ _ | with_reducible refine Below.drew ?_ | with_reducible refine Below.trans ?_ (Below.mono hbl2 (by first | omega | (simp; done) | (simp; omega))))))) hgr4 hO2.less_own (by first | omega | (simp; done) | (simp only [List.length_cons, List.length_nil, List.length_append]; omega) | (simp; omega))
            have HQ := Lib.hid (And.intro hDo4 (And.intro hDp4 (And.intro hG4 (And.intro hN4 hT4))))
            clear hlen hD hDn hDt hDo4 hDp4 hG4 hN4 hT4
            go_wp2_with fail
            go_roundg (l.length - (j + 1))
            case measure => have := HK.out.1; omega
            case rel =>
              obtain ⟨_, _, hlen, hD, hDn, hDt⟩ := HK.out
              obtain ⟨hDo4, hDp4, hG4, hN4, hT4⟩ := HQ.out
              have hR2 := HR2.out
              rw [HE.out.1, HE.out.2.1, HE.out.2.2, List.append_nil, List.append_nil] at hR2
              exact ⟨j + 1, names, nums, out ++ [y], rfl, by omega, by go_num, hG4, hN4, hT4, hD, hDo4, hDp4, hlen, by omega, by simp only [List.length_append, List.length_singleton]; omega, hR2, hb4⟩
    · have d3 : (s.kind == 3) = false := by simpa using hk3
      have HV := Lib.hid (HG.out.2.1 hk3)
      have HK3 := Lib.hid hk3
      clear hk3 T2
      cases r1 with
      | none =>
        unfold ofVal
        go_wp2_with fail
        refine (clipInt_any _ _ _ _ ((hO.ext hb2w).fr (fun _ => rfl))).mono ?_
        rintro e wz ⟨u, rfl, hu, rfl⟩
        go_wp2_with fail
        go_ret2
        have he := HK.out.2.1.stuck HG.out.1 (by rw [HV.out]; rfl)
        exact ⟨_, ret2_bool (by rw [HO.out, he]), by rw [HO.out, he]; exact hu, hbl.ext hb2w⟩
      | some x =>
        unfold ofVal
        have hbl2 := hbl.ext hb2w
        have hO2 := hO.ext hb2w
        have hN2 := hN.ext hb2w
        have hT2 := hT.ext hb2w
        have HR2 := Lib.hid (HK.out.2.1.step HG.out.1 (p := (x, 0)) (by rw [HV.out]; rfl))
        by_cases hk1 : s.kind = 1
        rotate_left
        · have hk2 : s.kind = 2 := by
            have h1 := HG.out.2.2.2
            have h3 := HK3.out
            omega
          have d1 : (s.kind == 1) = false := by rw [hk2]; rfl
          have d2 : (s.kind == 2) = true := by rw [hk2]; rfl
          have HE := Lib.hid (And.intro (letN_no (s := s) (by rw [hk2]; omega)) (And.intro (letV_no (s := s) (by rw [hk2]; omega) (x, 0)) (show saidL s (x, 0) = [x] by unfold saidL; rw [if_pos hk2])))
          clear hk1 hk2
          go_wp2_with (first
            | (at_builtin; refine app_plain rtInt (by rfl) (.tmp 73) (.tmp 75) (by rfl) W.heap.size u6 out (by rfl) (hO2.ext (by (repeat (first | with_reducible assumption | with_reducible exact Below.refl _ _ | with_reducible refine Below.setCell ?_ (by first | omega | (simp; done) | (simp; omega)) _ | with_reducible refine Below.alloc ?_ (by first | omega | (simp; done) | (simp; omega)) _ | with_reducible refine below_drewN ?_ _ | with_reducible refine Below.drew ?_)))) ⟨w2.heap.size, 0, none⟩ 1 [x] (by rfl) (GtN.cells1 x w2) (Nat.succ_pos 0) (by first | omega | (simp; done) | (simp only [List.length_cons, List.length_nil, List.length_append]; omega) | (simp; omega)) (by first | omega | (simp; done) | (simp only [List.length_cons, List.length_nil, List.length_append]; omega) | (simp; omega)) ?_; intro ga capa w4 hG4 hgr4 hat4)
            | fail)
          obtain ⟨_, _, hlen, hD, hDn, hDt⟩ := HK.out
          have hbq : Below w2.heap.size w2 (w2.alloc (.cells #[.int .i64 x] 3)) := by (repeat (first | with_reducible assumption | with_reducible exact Below.refl _ _ | with_reducible refine Below.setCell ?_ (by first | omega | (simp; done) | (simp; omega)) _ | with_reducible refine Below.alloc ?_ (by first | omega | (simp; done) | (simp; omega)) _ | with_reducible refine below_drewN ?_ _ | with_reducible refine Below.drew ?_))
          have hDo4 : DJ (.slice (some ⟨ga, 0, none⟩) (out.length + [x].length) capa) u4 := DJ.first hDn (hN2.ext hbq) hat4
          have hDp4 : DJ (.slice (some ⟨ga, 0, none⟩) (out.length + [x].length) capa) u5 := DJ.first hDt (hT2.ext hbq) hat4
          have hN4 := (hN2.ext hbq).grown hgr4 hDn.ne
          have hT4 := (hT2.ext hbq).grown hgr4 hDt.ne
          have hb4 : Below W.heap.size W w4 := below_app (show Below W.heap.size W _ from (by (repeat (first | with_reducible assumption | with_reducible exact Below.refl _ _ | with_reducible refine Below.setCell ?_ (by first | omega | (simp; done) | (simp; omega)) _ | with_reducible refine Below.alloc ?_ (by first | omega | (simp; done) | (simp; omega)) _ | with_reducible refine below_drewN ?_ _ | with_reducible refine Below.drew ?_ | with_reducible refine Below.trans ?_ (Below.mono hbl2 (by first | omega | (simp; done) | (simp; omega))))))) hgr4 hO2.less_own (by first | omega | (simp; done) | (simp only [List.length_cons, List.length_nil, List.length_append]; omega) | (simp; omega))
          have HQ := Lib.hid (And.intro hDo4 (And.intro hDp4 (And.intro hG4 (And.intro hN4 hT4))))
          clear hlen hD hDn hDt hDo4 hDp4 hG4 hN4 hT4
          go_wp2_with fail
          go_roundg (l.length - (j + 1))
          case measure => have := HK.out.1; omega
          case rel =>
            obtain ⟨_, _, hlen, hD, hDn, hDt⟩ := HK.out
            obtain ⟨hDo4, hDp4, hG4, hN4, hT4⟩ := HQ.out
            have hR2 := HR2.out
            rw [HE.out.1, HE.out.2.1, HE.out.2.2, List.append_nil, List.append_nil] at hR2
            exact ⟨j + 1, names, nums, out ++ [x], rfl, by omega, by go_num, hG4, hN4, hT4, hD, hDo4, hDp4, hlen, by omega, by simp only [List.length_append, List.length_singleton]; omega, hR2, hb4⟩
        · have d1 : (s.kind == 1) = true := by simpa using hk1
          have HE := Lib.hid (And.intro (show letN s = [s.name] by unfold letN; rw [if_pos hk1]) (And.intro (show letV s (x, 0) = [x] by unfold letV; rw [if_pos hk1]) (show saidL s (x, 0) = [] by unfold saidL; rw [if_neg (by rw [hk1]; omega), if_neg (by rw [hk1]; omega)])))
          clear hk1
          go_wp2_with (first
            | (at_builtin; refine aps_plain (by rfl) (.tmp 56) (.tmp 59) (by rfl) W.heap.size u4 names (by rfl) (hN2.ext (by (repeat (first | with_reducible assumption | with_reducible exact Below.refl _ _ | with_reducible refine Below.setCell ?_ (by first | omega | (simp; done) | (simp; omega)) _ | with_reducible refine Below.alloc ?_ (by first | omega | (simp; done) | (simp; omega)) _ | with_reducible refine below_drewN ?_ _ | with_reducible refine Below.drew ?_)))) ⟨w2.heap.size, 0, none⟩ 1 [s.name] (by rfl) (World.news_of_block (heap_alloc_new w2 _)) (Nat.succ_pos 0) (by first | omega | (simp; done) | (simp only [List.length_cons, List.length_nil, List.length_append]; omega) | (simp; omega)) (by first | omega | (simp; done) | (simp only [List.length_cons, List.length_nil, List.length_append]; omega) | (simp; omega)) ?_; intro ga capa w4 hG4 hgr4 hat4; have hz4 := hgr4.size; (try simp at hz4); have hb4 : Below W.heap.size W w4 := below_app (show Below W.heap.size W _ from (by (repeat (first | with_reducible assumption | with_reducible exact Below.refl _ _ | with_reducible refine Below.setCell ?_ (by first | omega | (simp; done) | (simp; omega)) _ | with_reducible refine Below.alloc ?_ (by first | omega | (simp; done) | (simp; omega)) _ | with_reducible refine below_drewN ?_ _ | with_reducible refine Below.drew ?_ | with_reducible refine Below.trans ?_ (Below.mono hbl2 (by first | omega | (simp; done) | (simp; omega))))))) hgr4 hN2.less_own (by first | omega | (simp; done) | (simp only [List.length_cons, List.length_nil, List.length_append]; omega) | (simp; omega)); have hT4 := (hT2.ext (w' := w2.alloc (.cells #[.string (bs s.name)] 9)) (by (repeat (first | with_reducible assumption | with_reducible exact Below.refl _ _ | with_reducible refine Below.setCell ?_ (by first | omega | (simp; done) | (simp; omega)) _ | with_reducible refine Below.alloc ?_ (by first | omega | (simp; done) | (simp; omega)) _ | with_reducible refine below_drewN ?_ _ | with_reducible refine Below.drew ?_)))).grown hgr4 HK.out.2.2.2.1.ne; have hO4 := (hO2.ext (w' := w2.alloc (.cells #[.string (bs s.name)] 9)) (by (repeat (first | with_reducible assumption | with_reducible exact Below.refl _ _ | with_reducible refine Below.setCell ?_ (by first | omega | (simp; done) | (simp; omega)) _ | with_reducible refine Below.alloc ?_ (by first | omega | (simp; done) | (simp; omega)) _ | with_reducible refine below_drewN ?_ _ | with_reducible refine Below.drew ?_)))).grown hgr4 HK.out.2.2.2.2.1.symm.ne)
            | (at_builtin; refine app_plain rtInt (by rfl) (.tmp 61) (.tmp 63) (by rfl) W.heap.size u5 nums (by rfl) (hT4.ext (by (repeat (first | with_reducible assumption | with_reducible exact Below.refl _ _ | with_reducible refine Below.setCell ?_ (by first | omega | (simp; done) | (simp; omega)) _ | with_reducible refine Below.alloc ?_ (by first | omega | (simp; done) | (simp; omega)) _ | with_reducible refine below_drewN ?_ _ | with_reducible refine Below.drew ?_)))) ⟨w4.heap.size, 0, none⟩ 1 [x] (by rfl) (GtN.cells1 x w4) (Nat.succ_pos 0) (by first | omega | (simp; done) | (simp only [List.length_cons, List.length_nil, List.length_append]; omega) | (simp; omega)) (by first | omega | (simp; done) | (simp only [List.length_cons, List.length_nil, List.length_append]; omega) | (simp; omega)) ?_; intro gb capb w5 hG5 hgr5 hat5)
            | fail)
          obtain ⟨_, _, _, hD, hDn, hDt⟩ := HK.out
          have hbq : Below w2.heap.size w2 (w2.alloc (.cells #[.string (bs s.name)] 9)) := by (repeat (first | with_reducible assumption | with_reducible exact Below.refl _ _ | with_reducible refine Below.setCell ?_ (by first | omega | (simp; done) | (simp; omega)) _ | with_reducible refine Below.alloc ?_ (by first | omega | (simp; done) | (simp; omega)) _ | with_reducible refine below_drewN ?_ _ | with_reducible refine Below.drew ?_))
          have hbr : Below w4.heap.size w4 (w4.alloc (.cells #[.int .i64 x] 3)) := by (repeat (first | with_reducible assumption | with_reducible exact Below.refl _ _ | with_reducible refine Below.setCell ?_ (by first | omega | (simp; done) | (simp; omega)) _ | with_reducible refine Below.alloc ?_ (by first | omega | (simp; done) | (simp; omega)) _ | with_reducible refine below_drewN ?_ _ | with_reducible refine Below.drew ?_))
          have hD4 : DJ (.slice (some ⟨ga, 0, none⟩) (names.length + [s.name].length) capa) u5 := DJ.first hD (hT2.ext hbq) hat4
          have hDo4 : DJ (.slice (some ⟨ga, 0, none⟩) (names.length + [s.name].length) capa) u6 := DJ.first hDn.symm (hO2.ext hbq) hat4
          have hD5 : DJ (.slice (some ⟨gb, 0, none⟩) (nums.length + [x].length) capb) (.slice (some ⟨ga, 0, none⟩) (names.length + [s.name].length) capa) := DJ.first hD4.symm (hG4.ext hbr) hat5
          have hDo5 : DJ (.slice (some ⟨gb, 0, none⟩) (nums.length + [x].length) capb) u6 := DJ.first hDt.symm (hO4.ext hbr) hat5
          have hG4' := (hG4.ext hbr).grown hgr5 hD4.symm.ne
          have hO5 := (hO4.ext hbr).grown hgr5 hDt.symm.ne
          have hB9 : Below W.heap.size W w5 := below_app (show Below W.heap.size W _ from (by (repeat (first | with_reducible assumption | with_reducible exact Below.refl _ _ | with_reducible refine Below.setCell ?_ (by first | omega | (simp; done) | (simp; omega)) _ | with_reducible refine Below.alloc ?_ (by first | omega | (simp; done) | (simp; omega)) _ | with_reducible refine below_drewN ?_ _ | with_reducible refine Below.drew ?_ | with_reducible refine Below.trans ?_ (Below.mono hb4 (by first | omega | (simp; done) | (simp; omega))))))) hgr5 hT4.less_own (by first | omega | (simp; done) | (simp only [List.length_cons, List.length_nil, List.length_append]; omega) | (simp; omega))
          have HQ := Lib.hid (And.intro hD5.symm (And.intro hDo4.symm (And.intro hDo5.symm (And.intro hG4' (And.intro hG5 hO5)))))
          clear hD hDn hDt hD4 hD5 hDo4 hDo5 hG4 hG4' hG5 hO5 hO4 hT4
          go_wp2_with fail
          go_roundg (l.length - (j + 1))
          case measure => have := HK.out.1; omega
          case rel =>
            obtain ⟨_, _, hlen, _⟩ := HK.out
            obtain ⟨hDa, hDb, hDc, hGn, hGt, hO9⟩ := HQ.out
            have hR2 := HR2.out
            rw [HE.out.1, HE.out.2.1, HE.out.2.2, List.append_nil] at hR2
            exact ⟨j + 1, names ++ [s.name], nums ++ [x], out, rfl, by omega, by go_num, hO9, hGn, hGt, hDa, hDb, hDc, by simp only [List.length_append, List.length_singleton]; omega, by simp only [List.length_append, List.length_singleton]; omega, by omega, hR2, hB9⟩
end Go.Proofs.YtgakjhaepdigpaaGreatDoor
