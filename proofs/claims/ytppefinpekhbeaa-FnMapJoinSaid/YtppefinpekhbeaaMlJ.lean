
/- The law FnMapJoin: the walk. -/
import Derived.Test.YtppefinpekhbeaaMlL
namespace Go.Proofs.Ytppefinpekhbeaa
set_option maxRecDepth 100000
set_option linter.unusedSimpArgs false
set_option linter.unusedVariables false
open Go.RowKit
attribute [local go_sem] bs_toList bs_get bs_size

theorem same_n {a m : List Sg} {n n' : Int} (h : SameTo a n m) (e : n = n') : SameTo a n' m := e ▸ h
theorem has_skip {l : List Sg} {p : Ps} {j : Nat} (h : ∀ i s, i < j → l[i]? = some s → s.2 ≠ p) {s : Sg} (hs : l[j]? = some s) (hn : s.2 ≠ p) : ∀ i s, i < j + 1 → l[i]? = some s → s.2 ≠ p := fun i t hi ht => by
  by_cases e : i = j
  · subst e; rw [hs] at ht; obtain rfl := Option.some.inj ht; exact hn
  · exact h i t (by omega) ht
theorem wmHas_any (l : List Sg) (p1 p2 : Int) (v : Value) (w : World) (hv : SlS w w.heap.size v l) : Calls Try.prog 22 #[v, .agg #[.int .i64 p1, .int .i64 p2]] w fun e w' => ∃ b : Bool, e = .returned (.bool b) ∧ (b = true ↔ ∃ s ∈ l, s.2 = (p1, p2)) ∧ Below w.heap.size w w' := by
  obtain ⟨A, c, rfl, hc, hm⟩ := hv.val
  go_enter Try.func22, Try.ntmps22
  go_upto_region 1 with fail
  generalize hWB : World.alloc w _ = wB
  have hbB : Below w.heap.size w wB := by rw [← hWB]; (repeat (first | with_reducible assumption | with_reducible exact Below.refl _ _ | with_reducible refine Below.setCell ?_ (by first | omega | (simp; done) | (simp; omega)) _ | with_reducible refine Below.alloc ?_ (by first | omega | (simp; done) | (simp; omega)) _ | with_reducible refine below_drewN ?_ _ | with_reducible refine Below.drew ?_))
  have k0 : wB.cell? ⟨w.heap.size, 0, none⟩ = some (.int .i64 p1) := by rw [← hWB]; simp [go_sem]
  have k1 : wB.cell? ⟨w.heap.size, 1, none⟩ = some (.int .i64 p2) := by rw [← hWB]; simp [go_sem]
  clear hWB
  have hvB := hv.ext hbB
  go_wp2_with fail
  go_loopg [5] l.length (fun k i wr => ∃ j : Nat, k = l.length - j ∧ j ≤ l.length ∧ i = .int .i64 j ∧ (∀ i s, i < j → l[i]? = some s → s.2 ≠ (p1, p2)) ∧ Below wB.heap.size wB wr)
  case atStart => exact ⟨0, by omega, by omega, rfl, fun i s hi => by omega, Below.refl _ _⟩
  case round =>
    obtain ⟨j, hk, hj, rfl, hn, hbl⟩ := hrel
    have HK := Lib.hid (And.intro hk hn)
    clear hk hn
    by_cases hlt : j < l.length
    rotate_left
    · obtain rfl : j = l.length := by omega
      go_wp2_with fail
      go_ret
      refine ⟨false, rfl, ?_, hbB.ext hbl⟩
      simp only [Bool.false_eq_true, false_iff, not_exists, not_and]
      intro s hs
      obtain ⟨i, hi, rfl⟩ := List.mem_iff_getElem.1 hs
      exact HK.out.2 i _ hi (List.getElem?_eq_getElem hi)
    · obtain ⟨b, o, p, q, r, t, rfl, hbb, hgt, f0, f1, f2, f3⟩ := sg_at hvB hlt
      have HG := Lib.hid hgt
      have m0 := Later.of (W := wB) (b := w.heap.size) (o := 0) k0
      have m1 := Later.of (W := wB) (b := w.heap.size) (o := 1) k1
      have hq := eq_ps r t p1 p2
      clear hgt f0 f1
      by_cases hst : (r, t) = (p1, p2)
      all_goals
        rw [show decide ((r, t) = (p1, p2)) = _ by first | exact decide_eq_true hst | exact decide_eq_false hst] at hq
        have HST := Lib.hid hst
        clear hst
        go_wp2_with fail
        refine wp_region_later hbl (by kernel_rfl) (by kernel_rfl) ?_
        repeat (go_big_quiet_step (fail))
        refine wpQuiet_nil ?_
        rintro _ ⟨y, rfl⟩
        have hy := y.ok
        go_wp2_with fail
      · go_ret
        exact ⟨true, rfl, ⟨fun _ => ⟨_, List.mem_of_getElem? HG.out, HST.out⟩, fun _ => rfl⟩, hbB.ext hy⟩
      · go_roundg (l.length - (j + 1))
        case measure => have := HK.out.1; omega
        case rel => exact ⟨j + 1, rfl, by omega, by go_num, has_skip HK.out.2 HG.out HST.out, hy⟩
set_option maxHeartbeats 1000000 in
theorem lawMJoin (W : World) (v : Value) (cl : List Int) (hv : CodeV W v cl) : Calls Try.prog 7 #[v] W fun e w' => e = .returned (.bool true) ∧ Below W.heap.size W w' := by
  have DR := Lib.hid (drawJoin_any v cl W hv)
  obtain ⟨A, c, rfl, hc, hm⟩ := hv.1.val
  clear hv
  obtain ⟨b1, hb1⟩ : ∃ b, decide ((1048576 : Int) < ((cl.length : Nat) : Int)) = b := ⟨_, rfl⟩
  cases b1
  rotate_left
  · go_enter Try.func7, Try.ntmps7
    go_wp2_with fail
    go_ret
    exact ⟨rfl, Below.refl _ _⟩
  go_enter Try.func7, Try.ntmps7
  go_wp2_with fail
  refine DR.out.mono ?_
  rintro r w2 ⟨ua, ub, ma, mb, rfl, hGa, hGb, hla, hlb, hbw2⟩
  have hSa := hGa.sl (fun _ => rfl)
  have hSb := hGb.sl (fun _ => rfl)
  obtain ⟨Aa, ca, rfl, _, _⟩ := hGa.val
  obtain ⟨Ab, cb, rfl, _, _⟩ := hGb.val
  have HSA := Lib.hid (fun (w' : World) (h : Below w2.heap.size w2 w') => hSa.ext h)
  have CI := Lib.hid (fun (w' : World) (h : Below w2.heap.size w2 w') => imMapJoin_any _ _ ma mb w' (hSa.ext h) (hSb.ext h))
  have CJ := Lib.hid (fun (w' : World) (h : Below w2.heap.size w2 w') => spMapJoin_any _ _ ma mb w' (hSa.ext h) (hSb.ext h))
  have KA := Lib.hid (fun (w' : World) (h : Below w2.heap.size w2 w') => spSegsOk_any w' _ ma (hSa.ext h))
  have KB := Lib.hid (fun (w' : World) (h : Below w2.heap.size w2 w') => spSegsOk_any w' _ mb (hSb.ext h))
  have LB := Lib.hid (fun (p q : Int) (w' : World) (h : Below w2.heap.size w2 w') => imMapLook_any _ mb p q w' (hSb.ext h))
  have WH := Lib.hid (fun (p q : Int) (w' : World) (h : Below w2.heap.size w2 w') => wmHas_any ma p q _ w' (hSa.ext h))
  have CY := Lib.hid (fun (x : Value) (l : List Sg) (w' : World) (h : Below w2.heap.size w2 w') (hx : SlS w' w'.heap.size x l) => imMapJoin_any _ _ ma l w' (hSa.ext h) hx)
  clear hGa hGb DR hb1 hSb
  have HX0 := Lib.hid (show ∃ z, z = mapJoinL ma mb from ⟨_, rfl⟩)
  obtain ⟨xl, hxl⟩ := HX0.out
  have HXL := Lib.hid hxl
  have hxl2 : xl.length ≤ 1280 := by rw [hxl]; exact mapJoinL_len _ _
  clear hxl HX0
  go_wp2_with fail
  refine (CI.out _ (Below.refl _ _)).mono ?_
  rintro r w3 ⟨x3, rfl, hF3, hb3⟩
  rw [← HXL.out] at hF3
  have hS3 := hF3.sl
  have HS3 := Lib.hid hS3
  obtain ⟨A3, c3, rfl, _, _⟩ := hS3.val
  clear hF3 hS3
  go_wp2_with fail
  refine (CJ.out _ hb3).mono ?_
  rintro r w4 ⟨x4, rfl, hF4, hb4⟩
  rw [← HXL.out] at hF4
  have hb24 := hb3.ext hb4
  have S4 := Lib.hid (imSegsSame_any w4 _ _ xl xl (HS3.out.ext hb4) hF4.sl)
  rw [decide_eq_true (rfl : xl = xl)] at S4
  obtain ⟨A4, c4, rfl, _, _⟩ := hF4.sl.val
  clear hF4
  go_wp2_with fail
  refine S4.out.mono ?_
  rintro r w5 ⟨rfl, hb5⟩
  have hb25 := hb24.ext hb5
  have HS5 := Lib.hid ((HS3.out.ext hb4).ext hb5)
  clear hb24 S4
  have KA1 := Lib.hid (KA.out _ hb25)
  by_cases ha : SegsOk ma
  rotate_left
  · rw [segsOkB_no ha] at KA1
    have hx0 : xl = [] := by rw [HXL.out, mapJoinL_no1 ha]
    subst hx0
    clear ha HXL
    go_wp2_with fail
    refine KA1.out.mono ?_
    rintro r w6 ⟨rfl, hb6⟩
    go_wp2_with fail
    go_ret
    exact ⟨rfl, hbw2.ext (hb25.ext hb6)⟩
  rw [segsOkB_yes ha] at KA1
  have HA := Lib.hid ha
  clear ha
  go_wp2_with fail
  refine KA1.out.mono ?_
  rintro r w6 ⟨rfl, hb6⟩
  have hb26 := hb25.ext hb6
  have HS6 := Lib.hid (HS5.out.ext hb6)
  have KB1 := Lib.hid (KB.out _ hb26)
  clear KA1 HS5 HS3 hb25
  by_cases hb : SegsOk mb
  rotate_left
  · rw [segsOkB_no hb] at KB1
    have hx0 : xl = [] := by rw [HXL.out, mapJoinL_no2 hb]
    subst hx0
    clear hb HXL
    go_wp2_with fail
    refine KB1.out.mono ?_
    rintro r w7 ⟨rfl, hb7⟩
    go_wp2_with fail
    go_ret
    exact ⟨rfl, hbw2.ext (hb26.ext hb7)⟩
  rw [segsOkB_yes hb] at KB1
  have HB := Lib.hid hb
  clear hb
  go_wp2_with fail
  refine KB1.out.mono ?_
  rintro r w7 ⟨rfl, hb7⟩
  have hb27 := hb26.ext hb7
  have hSx := HS6.out.ext hb7
  have hSa7 := HSA.out _ hb27
  have HXJ := Lib.hid (show xl = joinG ma mb by rw [HXL.out, mapJoinL_yes HA.out HB.out])
  clear KB1 HS6 HXL hb26 CI CJ KA KB hSa
  go_wp2_with fail
  go_loopg [6, 7] ma.length (fun k n i wr => ∃ j : Nat, k = ma.length - j ∧ j ≤ ma.length ∧ n = .int .i64 ((joinG (ma.take j) mb).length : Nat) ∧ i = .int .i64 j ∧ Below w7.heap.size w7 wr)
  case atStart => exact ⟨0, by omega, by omega, rfl, rfl, Below.refl _ _⟩
  case round =>
    obtain ⟨j, hk, hj, rfl, rfl, hbl⟩ := hrel
    have HK := Lib.hid hk
    clear hk
    by_cases hlt : j < ma.length
    rotate_left
    · obtain rfl : j = ma.length := by omega
      rw [List.take_length, ← HXJ.out]
      obtain ⟨wq, rfl⟩ : ∃ wq, wq = wr := ⟨wr, rfl⟩
      have hbr := hb27.ext hbl
      have HSX := Lib.hid (hSx.ext hbl)
      clear hSx
      go_wp2_with fail
      go_loopg [10, 11] 16 (fun k s l wx => ∃ (a : Nat) (m : List Sg), k = 16 - a ∧ a ≤ 16 ∧ l = .int .i64 a ∧ GtG wq.heap.size wx s m ∧ SameTo ma (ix ((a : Int), 0)) m ∧ Below wq.heap.size wq wx)
      case atStart => exact ⟨0, [], by omega, by omega, rfl, gt_empty sgRow 4 29 wq _ (Nat.le_refl _) (Below.refl _ _), same_n (.zero ma) (by simp [ix]), by (repeat (first | with_reducible assumption | with_reducible exact Below.refl _ _ | with_reducible refine Below.setCell ?_ (by first | omega | (simp; done) | (simp; omega)) _ | with_reducible refine Below.alloc ?_ (by first | omega | (simp; done) | (simp; omega)) _ | with_reducible refine below_drewN ?_ _ | with_reducible refine Below.drew ?_))⟩
      case round =>
        obtain ⟨a, m, hka, haa, rfl, hGm, hsm, hbx⟩ := hrel
        have HKA := Lib.hid (And.intro hka hsm)
        have HGM := Lib.hid hGm
        have hbrx := hbr.ext hbx
        clear hka hsm
        by_cases hlta : a < 16
        rotate_left
        · obtain rfl : a = 16 := by omega
          have hsm := same_n HKA.out.2 (n' := 1920) (by simp [ix])
          have hmm : m.length ≤ 1280 := by have := hsm.len; have := HA.out.2; omega
          have hSm := hGm.sl (fun _ => rfl)
          have HJ := Lib.hid (show mapJoinL ma m = ma by rw [mapJoinL_yes HA.out (hsm.ok HA.out), join_same hsm HA.out])
          have C7 := Lib.hid (imSegsOk_any _ _ xl (HSX.out.ext hbx))
          rw [segsOkB_yes (show SegsOk xl by rw [HXJ.out]; exact joinG_ok HA.out HB.out)] at C7
          obtain ⟨Am, cm, rfl, _, _⟩ := hSm.val
          have HSM := Lib.hid hSm
          clear hGm hsm hSm
          go_wp2_with fail
          refine C7.out.mono ?_
          rintro r wa ⟨rfl, hba⟩
          have hbra := hbrx.ext hba
          have C8 := Lib.hid (CY.out _ m wa hbra (HSM.out.ext hba))
          rw [HJ.out] at C8
          go_wp2_with fail
          refine C8.out.mono ?_
          rintro r wb ⟨xb, rfl, hFb, hbb⟩
          have hbrb := hbra.ext hbb
          have C9 := Lib.hid (imSegsSame_any wb _ _ ma ma hFb.sl (HSA.out _ hbrb))
          rw [decide_eq_true (rfl : ma = ma)] at C9
          obtain ⟨Ax, cx, rfl, _, _⟩ := hFb.sl.val
          clear hFb
          go_wp2_with fail
          refine C9.out.mono ?_
          rintro r wc ⟨rfl, hbc⟩
          go_wp2_with fail
          go_ret
          exact ⟨rfl, hbw2.ext (hbrb.ext hbc)⟩
        · have hd16 : decide ((a : Int) < 16) = true := by rw [decide_eq_true_eq]; omega
          clear hGm
          go_wp2_with fail
          go_loopg [10, 12] 120 (fun k s i wy => ∃ (b : Nat) (m2 : List Sg), k = 120 - b ∧ b ≤ 120 ∧ i = .int .i64 b ∧ GtG wq.heap.size wy s m2 ∧ SameTo ma (ix ((a : Int), (b : Int))) m2 ∧ Below wq.heap.size wq wy)
          case atStart => exact ⟨0, m, by omega, by omega, rfl, HGM.out, HKA.out.2, hbx⟩
          case round =>
            obtain ⟨b, m2, hkb, hbbb, rfl, hG2, hs2, hby⟩ := hrel
            have HKB := Lib.hid (And.intro hkb hs2)
            have hm2 : m2.length ≤ 1280 := by have := hs2.len; have := HA.out.2; omega
            have hzy := hby.size
            obtain ⟨Au, cu, rfl, _, _⟩ := hG2.val
            have HG2 := Lib.hid hG2
            clear hkb hs2 hG2
            by_cases hltb : b < 120
            rotate_left
            · obtain rfl : b = 120 := by omega
              go_wp2_with fail
              go_roundg (16 - (a + 1))
              case measure => have := HKA.out.1; omega
              case rel => exact ⟨a + 1, m2, rfl, by omega, by go_num, HG2.out, same_n HKB.out.2 (by simp [ix]; omega), hby⟩
            · have C5 := Lib.hid (WH.out (a : Int) (b : Int) _ (hbr.ext hby))
              have hpo : PosOk ((a : Int), (b : Int)) := by unfold PosOk; simp only; omega
              go_wp2_with fail
              refine C5.out.mono ?_
              rintro r wz ⟨x, rfl, hx, hbz⟩
              have hbyz := hby.ext hbz
              have hzz := hbyz.size
              cases x
              · have hxn : ¬ ∃ s ∈ ma, s.2 = ((a : Int), (b : Int)) := fun h => by have := hx.2 h; cases this
                have HXN := Lib.hid (And.intro hxn hpo)
                clear hx hxn hpo
                go_wp2_with fail
                go_roundg (120 - (b + 1))
                case measure => have := HKB.out.1; omega
                case rel => exact ⟨b + 1, m2, rfl, by omega, by go_num, HG2.out.ext hbz, same_n (HKB.out.2.no HXN.out.2 HXN.out.1) (by simp [ix]; omega), hbyz⟩
              · have HXN := Lib.hid (And.intro (hx.1 rfl) hpo)
                clear hx hpo
                go_wp2_with (first
                  | (at_builtin; refine app_plain rtSg (by rfl) (.tmp 101) (.tmp 109) (by rfl) wq.heap.size (.slice Au m2.length cu) m2 (by rfl) ((HG2.out.ext hbz).ext (by (repeat (first | with_reducible assumption | with_reducible exact Below.refl _ _ | with_reducible refine Below.setCell ?_ (by first | omega | (simp; done) | (simp; omega)) _ | with_reducible refine Below.alloc ?_ (by first | omega | (simp; done) | (simp; omega)) _ | with_reducible refine below_drewN ?_ _ | with_reducible refine Below.drew ?_)))) ⟨wz.heap.size, 0, none⟩ 1 [(((a : Int), (b : Int)), ((a : Int), (b : Int)))] (by rfl) (news_sg (by simp)) Nat.zero_lt_one (by simp; omega) (by simp; omega) ?_; intro g6 cap6 w6 hG6 hgr6 hat6)
                  | fail)
                go_roundg (120 - (b + 1))
                case measure => have := HKB.out.1; omega
                case rel => exact ⟨b + 1, _, rfl, by omega, by go_num, hG6, same_n (HKB.out.2.yes HXN.out.2 HXN.out.1) (by simp [ix]; omega), below_app (by (repeat (first | with_reducible assumption | with_reducible exact Below.refl _ _ | with_reducible refine Below.setCell ?_ (by first | omega | (simp; done) | (simp; omega)) _ | with_reducible refine Below.alloc ?_ (by first | omega | (simp; done) | (simp; omega)) _ | with_reducible refine below_drewN ?_ _ | with_reducible refine Below.drew ?_ | with_reducible refine Below.trans ?_ (Below.mono hbyz (by first | omega | (simp; done) | (simp; omega)))))) hgr6 (fun q hq => (HG2.out.lt hq).1) (by simp; omega)⟩
    · obtain ⟨b, o, p, q, r, t, rfl, hbb, hgt, f0, f1, f2, f3⟩ := sg_at hSa7 hlt
      have HG := Lib.hid hgt
      have HN := Lib.hid (show ∃ z, z = (joinG (ma.take j) mb).length from ⟨_, rfl⟩)
      obtain ⟨n, hn⟩ := HN.out
      have HN2 := Lib.hid hn
      have hn1 : n ≤ 1280 := by rw [hn]; have := joinG_len ma mb j; omega
      rw [← hn]
      have C1 := Lib.hid (LB.out r t wr (hb27.ext hbl))
      rw [mapLookL_yes HB.out] at C1
      have g2 := f2 ⟨wr, hbl⟩; have g3 := f3 ⟨wr, hbl⟩
      clear hgt hn HN
      obtain ⟨o', ho⟩ : ∃ o', lookL mb (r, t) = o' := ⟨_, rfl⟩
      rw [ho] at C1
      have HO := Lib.hid ho
      clear ho
      go_wp2_with fail
      refine C1.out.mono ?_
      rintro e w8 ⟨rfl, hb8⟩
      have hB8 := hbl.ext hb8
      have hz8 := hB8.size
      clear g2 g3
      cases o' with
      | none =>
        unfold lookV
        go_wp2_with fail
        go_roundg (ma.length - (j + 1))
        case measure => have := HK.out; omega
        case rel => exact ⟨j + 1, rfl, by omega, by rw [joinG_skip HG.out HO.out, ← HN2.out], by go_num, by (repeat (first | with_reducible assumption | with_reducible exact Below.refl _ _ | with_reducible refine Below.setCell ?_ (by first | omega | (simp; done) | (simp; omega)) _ | with_reducible refine Below.alloc ?_ (by first | omega | (simp; done) | (simp; omega)) _ | with_reducible refine below_drewN ?_ _ | with_reducible refine Below.drew ?_ | with_reducible refine Below.trans ?_ (Below.mono hB8 (by first | omega | (simp; done) | (simp; omega)))))⟩
      | some x =>
        obtain ⟨x1, x2⟩ := x
        unfold lookV
        have hhd := joinG_head HG.out HO.out
        rw [← HN2.out, ← HXJ.out] at hhd
        have hnl : n < xl.length := (List.getElem?_eq_some_iff.1 hhd).1
        obtain ⟨b', o', p', q', r', t', rfl, hbb', hgt', f0', f1', f2', f3'⟩ := sg_at hSx hnl
        have hpq : ((p', q'), (r', t')) = ((p, q), (x1, x2)) := by rw [hhd] at hgt'; exact (Option.some.inj hgt').symm
        obtain ⟨h1, h2⟩ := Prod.mk.inj hpq
        obtain ⟨rfl, rfl⟩ := Prod.mk.inj h1
        obtain ⟨rfl, rfl⟩ := Prod.mk.inj h2
        clear h1 h2 hpq hhd hgt'
        go_upto_region 15 with fail
        generalize hWE : World.alloc w8 _ = wE
        have hbE : Below w8.heap.size w8 wE := by rw [← hWE]; (repeat (first | with_reducible assumption | with_reducible exact Below.refl _ _ | with_reducible refine Below.setCell ?_ (by first | omega | (simp; done) | (simp; omega)) _ | with_reducible refine Below.alloc ?_ (by first | omega | (simp; done) | (simp; omega)) _ | with_reducible refine below_drewN ?_ _ | with_reducible refine Below.drew ?_))
        have x0 : wE.cell? ⟨w8.heap.size, 0, none⟩ = some (.int .i64 r') := by rw [← hWE]; simp [go_sem]
        have x1 : wE.cell? ⟨w8.heap.size, 1, none⟩ = some (.int .i64 t') := by rw [← hWE]; simp [go_sem]
        clear hWE
        have hBE := hB8.ext hbE
        have g0 := Later.up f0 hBE hBE.size
        have g1 := Later.up f1 hBE hBE.size
        have g2 := Later.up f0' hBE hBE.size
        have g3 := Later.up f1' hBE hBE.size
        have g4 := Later.up f2' hBE hBE.size
        have g5 := Later.up f3' hBE hBE.size
        have y0 := Later.of x0
        have y1 := Later.of x1
        have hq := neq_ps p' q' p' q'
        have hq2 := neq_ps r' t' r' t'
        rw [decide_eq_true (rfl : (p', q') = (p', q'))] at hq
        rw [decide_eq_true (rfl : (r', t') = (r', t'))] at hq2
        have hd : decide (((xl.length : Nat) : Int) ≤ (n : Int)) = false := by rw [decide_eq_false_iff_not]; omega
        have hd2 : decide (xl.length ≤ n) = false := by rw [decide_eq_false_iff_not]; omega
        have hd3 : ¬ xl.length ≤ n := by omega
        clear f0 f1 f2 f3 f0' f1' f2' f3' x0 x1
        refine wp_region_later (Below.refl wE.heap.size wE) (by kernel_rfl) (by kernel_rfl) ?_
        repeat (go_big_quiet_step (fail))
        refine wpQuiet_nil ?_
        rintro _ ⟨y, rfl⟩
        have hy := y.ok
        go_wp2_with fail
        go_roundg (ma.length - (j + 1))
        case measure => have := HK.out; omega
        case rel => exact ⟨j + 1, rfl, by omega, by rw [joinG_step HG.out HO.out, List.length_append, ← HN2.out]; go_num, by go_num, hBE.ext hy⟩
end Go.Proofs.Ytppefinpekhbeaa
