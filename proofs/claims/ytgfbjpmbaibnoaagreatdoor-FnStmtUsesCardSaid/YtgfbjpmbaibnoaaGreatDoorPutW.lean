
/- A name in the place of a name: the walk of wePut. -/
import Derived.Test.YtgfbjpmbaibnoaaGreatDoorBare
import Derived.Test.YtgfbjpmbaibnoaaGreatDoorPut
namespace Go.Proofs.YtgfbjpmbaibnoaaGreatDoor
set_option maxRecDepth 100000
set_option linter.unusedSimpArgs false
set_option linter.unusedVariables false
open Go.RowKit
attribute [local go_sem] bs_toList bs_get bs_size

/-- the name w, by value -/
abbrev vNamW : Value := .agg #[.int .i64 2, .int .i64 0, .string ⟨#[119]⟩, .slice none 0 0]
def PwB (x y : Ex) : Prop := ∀ (v : Value) (w : World), ExV w w.heap.size v x → Calls Tryz.prog 19 #[v, .string (bs [120]), vNamW] w fun r w' => ∃ v', r = .returned v' ∧ DrE w.heap.size w' v' y ∧ Below w.heap.size w w'
set_option maxHeartbeats 4000000 in
theorem wePutW_two (n : Int) (s : Bytes) (xs ys : List Ex) (hk : s ≠ [120]) (hl : xs.length = ys.length) (hm : xs.length ≤ 1000) (IH : ∀ (i : Nat) (x y : Ex), xs[i]? = some x → ys[i]? = some y → PwB x y) : PwB (.mk 2 n s xs) (.mk 2 n s ys) := by
  intro v w hv
  obtain ⟨A, c, rfl, hc, hcm⟩ := (show ∃ A c, v = .agg #[.int .i64 2, .int .i64 n, .string (bs s), .slice A xs.length c] ∧ xs.length ≤ c ∧ c ≤ 9223372036854775807 from by
    obtain ⟨kv, rfl, h1, h2⟩ := id hv
    obtain ⟨A, c, e, h3, h4⟩ := h2.val
    simp only [Ex.kids] at e h3
    exact ⟨A, c, by simp only [Ex.kind, Ex.n, Ex.s]; rw [e], h3, h4⟩)
  obtain ⟨hs, hkv⟩ : s.length ≤ 9223372036854775807 ∧ ExS w w.heap.size (.slice A xs.length c) xs := by
    obtain ⟨kv, e, h1, h2⟩ := hv
    have e4 : (Value.slice A xs.length c) = kv := by simp at e; exact e.2.2.2
    rw [e4]
    exact ⟨h1, h2⟩
  have HI := Lib.hid (And.intro IH (And.intro hl hs))
  have hsx : (s == [120]) = false := by simpa using hk
  clear IH hk hl hs hv
  go_enter Tryz.func19, Tryz.ntmps19
  go_wp2_with fail
  go_loopg [8] xs.length (fun mm i wr => ∃ (j : Nat) (u : Value), mm = xs.length - j ∧ j ≤ xs.length ∧ i = .int .i64 j ∧ Blk wr w.heap.size 25 #[.int .i64 2, .int .i64 n, .string (bs s), .slice A xs.length c] ∧ Blk wr (w.heap.size + 1) 25 #[.int .i64 2, .int .i64 0, .string ⟨#[119]⟩, .slice none 0 0] ∧ Blk wr (w.heap.size + 1 + 1) 25 #[.int .i64 0, .int .i64 0, .string ⟨#[]⟩, .slice none 0 0] ∧ Blk wr (w.heap.size + 1 + 1 + 1) 25 #[.int .i64 2, .int .i64 n, .string (bs s), u] ∧ GrE (w.heap.size + 4) wr u (ys.take j) ∧ Below w.heap.size w wr)
  case atStart => exact ⟨0, _, by omega, by omega, rfl, (((Blk.new _ _ _).alloc _).alloc _).alloc _, by simpa using ((Blk.new (w.alloc _) 25 #[.int .i64 2, .int .i64 0, .string ⟨#[119]⟩, .slice none 0 0]).alloc _).alloc _, by simpa using (Blk.new ((w.alloc _).alloc _) 25 #[.int .i64 0, .int .i64 0, .string ⟨#[]⟩, .slice none 0 0]).alloc _, by simpa using Blk.new (((w.alloc _).alloc _).alloc _) 25 #[.int .i64 2, .int .i64 n, .string (bs s), .slice none 0 0], by rw [List.take_zero]; exact GrE.nil _ _, by (repeat (first | with_reducible assumption | with_reducible exact Below.refl _ _ | with_reducible refine Below.setCell ?_ (by first | omega | (simp; done) | (simp; omega)) _ | with_reducible refine Below.alloc ?_ (by first | omega | (simp; done) | (simp; omega)) _ | with_reducible refine below_drewN ?_ _ | with_reducible refine Below.drew ?_))⟩
  case round =>
    obtain ⟨j, u, hm2, hj, rfl, hB0, hBx, hB1, hB2, hG, hbl⟩ := hrel
    have HK := Lib.hid hm2
    clear hm2
    have b03 := hB0.cell 3
    simp at b03
    have bx0 := hBx.cell 0; have bx1 := hBx.cell 1; have bx2 := hBx.cell 2; have bx3 := hBx.cell 3
    simp at bx0 bx1 bx2 bx3
    have hz := hB2.lt
    by_cases hlt : j < xs.length
    · obtain ⟨b, o, p1, q1, s1, A1, c1, m1, rfl, hb, hg, hs1, hm1, hc1, hk1, f0, f1, f2, f3⟩ := ex_at hkv hlt
      have g0 := f0 ⟨wr, hbl⟩; have g1 := f1 ⟨wr, hbl⟩; have g2 := f2 ⟨wr, hbl⟩; have g3 := f3 ⟨wr, hbl⟩
      obtain ⟨y, hy⟩ : ∃ y, ys[j]? = some y := ⟨_, List.getElem?_eq_getElem (by have := HI.out.2.1; omega)⟩
      have IH := Lib.hid (fun (w' : World) (h : Below w.heap.size w w') => HI.out.1 j _ y hg hy (.agg #[.int .i64 p1, .int .i64 q1, .string (bs s1), .slice A1 m1.length c1]) w' ⟨_, rfl, by rw [bs_size] at hs1; exact hs1, (hk1.keep h (Nat.le_refl _)).more h.size⟩)
      obtain ⟨fl, bls, hP⟩ := hG
      have hG1 := hP.1
      have hfl3 : fl.length = j := by rw [hP.2.1, List.length_take]; have := HI.out.2.1; omega
      obtain ⟨Au, cu, rfl, _, _⟩ := hG1.val
      have b23 := hB2.cell 3
      simp at b23
      have HG := Lib.hid (And.intro hG1 (And.intro hP (And.intro hy hfl3)))
      have hown : ∀ q, (Value.slice Au fl.length cu).ownBlock = some q → w.heap.size + 4 ≤ q ∧ q < wr.heap.size := fun q hq => hG1.lt hq
      have KEEP := Lib.hid (show ∀ w' : World, Below (w.heap.size + 4) wr w' → (w'.cell? ⟨w.heap.size, 3, none⟩ = some (.slice (some ⟨b, o, none⟩) xs.length c) ∧ w'.cell? ⟨w.heap.size + 1 + 1 + 1, 3, none⟩ = some (.slice Au fl.length cu) ∧ w'.cell? ⟨b, o + j * 4, none⟩ = some (.int .i64 p1) ∧ w'.cell? ⟨b, o + j * 4 + 1, none⟩ = some (.int .i64 q1) ∧ w'.cell? ⟨b, o + j * 4 + 2, none⟩ = some (.string (bs s1)) ∧ w'.cell? ⟨b, o + j * 4 + 3, none⟩ = some (.slice A1 m1.length c1) ∧ w'.cell? ⟨w.heap.size + 1, 0, none⟩ = some (.int .i64 2) ∧ w'.cell? ⟨w.heap.size + 1, 1, none⟩ = some (.int .i64 0) ∧ w'.cell? ⟨w.heap.size + 1, 2, none⟩ = some (.string ⟨#[119]⟩) ∧ w'.cell? ⟨w.heap.size + 1, 3, none⟩ = some (.slice none 0 0)) from
        fun w' h => ⟨(h.cell (p := ⟨_, 3, none⟩) (by first | omega | (simp; done) | (simp only [List.length_cons, List.length_nil, List.length_append]; omega) | (simp; omega))).trans b03, (h.cell (p := ⟨_, 3, none⟩) (by first | omega | (simp; done) | (simp only [List.length_cons, List.length_nil, List.length_append]; omega) | (simp; omega))).trans b23, (h.cell (p := ⟨b, _, none⟩) (by first | omega | (simp; done) | (simp only [List.length_cons, List.length_nil, List.length_append]; omega) | (simp; omega))).trans g0, (h.cell (p := ⟨b, _, none⟩) (by first | omega | (simp; done) | (simp only [List.length_cons, List.length_nil, List.length_append]; omega) | (simp; omega))).trans g1, (h.cell (p := ⟨b, _, none⟩) (by first | omega | (simp; done) | (simp only [List.length_cons, List.length_nil, List.length_append]; omega) | (simp; omega))).trans g2, (h.cell (p := ⟨b, _, none⟩) (by first | omega | (simp; done) | (simp only [List.length_cons, List.length_nil, List.length_append]; omega) | (simp; omega))).trans g3, (h.cell (p := ⟨_, 0, none⟩) (by first | omega | (simp; done) | (simp only [List.length_cons, List.length_nil, List.length_append]; omega) | (simp; omega))).trans bx0, (h.cell (p := ⟨_, 1, none⟩) (by first | omega | (simp; done) | (simp only [List.length_cons, List.length_nil, List.length_append]; omega) | (simp; omega))).trans bx1, (h.cell (p := ⟨_, 2, none⟩) (by first | omega | (simp; done) | (simp only [List.length_cons, List.length_nil, List.length_append]; omega) | (simp; omega))).trans bx2, (h.cell (p := ⟨_, 3, none⟩) (by first | omega | (simp; done) | (simp only [List.length_cons, List.length_nil, List.length_append]; omega) | (simp; omega))).trans bx3⟩)
      have HB := Lib.hid (And.intro hB0 (And.intro hBx (And.intro hB1 hB2)))
      have hfb : fl.length + 1 ≤ 1000000 := by omega
      clear f0 f1 f2 f3 hg hy hk1 hG1 hP hfl3 hB0 hBx hB1 hB2 hkv bx0 bx1 bx2 bx3
      go_wp2_with fail
      obtain ⟨y03, y23, yk0, yk1, yk2, yk3, yx0, yx1, yx2, yx3⟩ := KEEP.out wr (Below.refl _ _)
      go_region_law
        (first
          | (refine app_stepE (by rfl) (.tmp 29) (.tmp 38) (by rfl) (w.heap.size + 4) (.slice Au fl.length cu) fl (by rfl) ?_ ⟨k2, n2, s2, .slice A2 l2.length c2⟩ fe_one w2.heap.size (by rfl) ?_ ?_ ?_ ?_; exact HG.out.1.ext (by (repeat (first | with_reducible assumption | with_reducible exact Below.refl _ _ | with_reducible refine Below.setCell ?_ (by first | omega | (simp; done) | (simp; omega)) _ | with_reducible refine Below.alloc ?_ (by first | omega | (simp; done) | (simp; omega)) _ | with_reducible refine below_drewN ?_ _ | with_reducible refine Below.drew ?_ | with_reducible refine Below.trans ?_ (Below.mono hb2 (by first | omega | (simp; done) | (simp; omega)))))); exact news_fe rfl; (first | omega | (simp; done) | (simp only [List.length_cons, List.length_nil, List.length_append]; omega) | (simp; omega)); (first | omega | (simp; done) | (simp only [List.length_cons, List.length_nil, List.length_append]; omega) | (simp; omega)); intro g6 cap6 w6 hG6 hgr6 hat6; have hb6 : Below (w.heap.size + 4) wr w6 := below_app (show Below (w.heap.size + 4) wr _ from by (repeat (first | with_reducible assumption | with_reducible exact Below.refl _ _ | with_reducible refine Below.setCell ?_ (by first | omega | (simp; done) | (simp; omega)) _ | with_reducible refine Below.alloc ?_ (by first | omega | (simp; done) | (simp; omega)) _ | with_reducible refine below_drewN ?_ _ | with_reducible refine Below.drew ?_ | with_reducible refine Below.trans ?_ (Below.mono hb2 (by first | omega | (simp; done) | (simp; omega)))))) hgr6 (fun q hq => (hown q hq).1) (by first | omega | (simp; done) | (simp only [List.length_cons, List.length_nil, List.length_append]; omega) | (simp; omega)); obtain ⟨_, x23, _⟩ := KEEP.out w6 hb6; have z23 := (HB.out.2.2.2.below hb6 (by first | omega | (simp; done) | (simp only [List.length_cons, List.length_nil, List.length_append]; omega) | (simp; omega))).frozen 3)
          | (go_simp; go_at_call 19; refine (IH.out _ (by (repeat (first | with_reducible assumption | with_reducible exact Below.refl _ _ | with_reducible refine Below.setCell ?_ (by first | omega | (simp; done) | (simp; omega)) _ | with_reducible refine Below.alloc ?_ (by first | omega | (simp; done) | (simp; omega)) _ | with_reducible refine below_drewN ?_ _ | with_reducible refine Below.drew ?_ | with_reducible refine Below.trans ?_ (Below.mono hbl (by first | omega | (simp; done) | (simp; omega))))))).mono ?_; rintro r w2 ⟨v2, rfl, hD2, hb2⟩; have hz2 := hb2.size; (try simp at hz2); obtain ⟨k2, n2, s2, A2, c2, l2, rfl, rfl, hs2, hc2, hm2, hK2⟩ := hD2.form; obtain ⟨x03, x23, xk0, xk1, xk2, xk3, xx0, xx1, xx2, xx3⟩ := KEEP.out w2 (by (repeat (first | with_reducible assumption | with_reducible exact Below.refl _ _ | with_reducible refine Below.setCell ?_ (by first | omega | (simp; done) | (simp; omega)) _ | with_reducible refine Below.alloc ?_ (by first | omega | (simp; done) | (simp; omega)) _ | with_reducible refine below_drewN ?_ _ | with_reducible refine Below.drew ?_ | with_reducible refine Below.trans ?_ (Below.mono hb2 (by first | omega | (simp; done) | (simp; omega)))))); have a23 := (KEEP.out (w2.alloc (.cells #[.int .i64 k2, .int .i64 n2, .string (bs s2), .slice A2 l2.length c2] 25)) (by (repeat (first | with_reducible assumption | with_reducible exact Below.refl _ _ | with_reducible refine Below.setCell ?_ (by first | omega | (simp; done) | (simp; omega)) _ | with_reducible refine Below.alloc ?_ (by first | omega | (simp; done) | (simp; omega)) _ | with_reducible refine below_drewN ?_ _ | with_reducible refine Below.drew ?_ | with_reducible refine Below.trans ?_ (Below.mono hb2 (by first | omega | (simp; done) | (simp; omega))))))).2.1)
          | fail)
      all_goals
        have HW := Lib.hid (And.intro hb6 (And.intro hG6 (And.intro hgr6 (And.intro hat6 (And.intro hD2 (And.intro hb2 hown))))))
        clear hb6 hG6 hgr6 hat6 hD2 hb2 hown
        go_wp2_with fail
        go_roundg (xs.length - (j + 1))
        case measure => have := HK.out; omega
        case rel =>
          obtain ⟨hb6, hG6, hgr6, hat6, hD2, hb2, hown⟩ := HW.out
          obtain ⟨hB0, hBx, hB1, hB2⟩ := HB.out
          obtain ⟨_, hP, hy, hfl3⟩ := HG.out
          refine ⟨j + 1, _, rfl, by omega, by go_num, (hB0.below hb6 (by first | omega | (simp; done) | (simp only [List.length_cons, List.length_nil, List.length_append]; omega) | (simp; omega))).far (by first | omega | (simp; done) | (simp only [List.length_cons, List.length_nil, List.length_append]; omega) | (simp; omega)) _, (hBx.below hb6 (by first | omega | (simp; done) | (simp only [List.length_cons, List.length_nil, List.length_append]; omega) | (simp; omega))).far (by first | omega | (simp; done) | (simp only [List.length_cons, List.length_nil, List.length_append]; omega) | (simp; omega)) _, (hB1.below hb6 (by first | omega | (simp; done) | (simp only [List.length_cons, List.length_nil, List.length_append]; omega) | (simp; omega))).far (by first | omega | (simp; done) | (simp only [List.length_cons, List.length_nil, List.length_append]; omega) | (simp; omega)) _, by simpa using (hB2.below hb6 (by first | omega | (simp; done) | (simp only [List.length_cons, List.length_nil, List.length_append]; omega) | (simp; omega))).set_ 3 _, ?_, by (repeat (first | with_reducible assumption | with_reducible exact Below.refl _ _ | with_reducible refine Below.setCell ?_ (by first | omega | (simp; done) | (simp; omega)) _ | with_reducible refine Below.alloc ?_ (by first | omega | (simp; done) | (simp; omega)) _ | with_reducible refine below_drewN ?_ _ | with_reducible refine Below.drew ?_ | with_reducible refine Below.trans ?_ (Below.mono hb6 (by first | omega | (simp; done) | (simp; omega))) | with_reducible refine Below.trans ?_ (Below.mono hbl (by first | omega | (simp; done) | (simp; omega)))))⟩
          rw [take_succ_ex hy]
          exact ((hP.ext (by (repeat (first | with_reducible assumption | with_reducible exact Below.refl _ _ | with_reducible refine Below.setCell ?_ (by first | omega | (simp; done) | (simp; omega)) _ | with_reducible refine Below.alloc ?_ (by first | omega | (simp; done) | (simp; omega)) _ | with_reducible refine below_drewN ?_ _ | with_reducible refine Below.drew ?_ | with_reducible refine Below.trans ?_ (Below.mono hb2 (by first | omega | (simp; done) | (simp; omega))))))).push (hD2.ext (by (repeat (first | with_reducible assumption | with_reducible exact Below.refl _ _ | with_reducible refine Below.setCell ?_ (by first | omega | (simp; done) | (simp; omega)) _ | with_reducible refine Below.alloc ?_ (by first | omega | (simp; done) | (simp; omega)) _ | with_reducible refine below_drewN ?_ _ | with_reducible refine Below.drew ?_)))) (fun q hq => by have := hown q hq; simp; omega) (by simp; omega) hG6 hgr6 hat6).far (by simp) _ _
    · obtain rfl : j = xs.length := by omega
      obtain ⟨fl, bls, hP⟩ := hG
      obtain ⟨Au, cu, rfl, hcu, hcm2⟩ := hP.1.val
      have z0 := hB1.frozen 0; have z1 := hB1.frozen 1; have z2 := hB1.frozen 2; have z3 := hB1.frozen 3
      have y0 := hB1.cell 0; have y1 := hB1.cell 1; have y2 := hB1.cell 2; have y3 := hB1.cell 3
      have b0 := hB2.cell 0; have b1 := hB2.cell 1; have b2 := hB2.cell 2; have b3 := hB2.cell 3
      simp at y0 y1 y2 y3 b0 b1 b2 b3
      have hGr : GrE (w.heap.size + 4) wr (.slice Au fl.length cu) ys := by rw [HI.out.2.1, List.take_length] at hP; exact ⟨fl, bls, hP⟩
      have HG := Lib.hid (And.intro hGr hbl)
      clear hP hB0 hBx hB1 hB2 hkv hGr hbl bx0 bx1 bx2 bx3
      go_wp2_with fail
      refine bodyPost_ret (v := vEx 2 n s (.slice Au fl.length cu)) (by simp [results, Tryz.results19, go_sem, vEx, *]) rfl ?_
      obtain ⟨hGr, hbl⟩ := HG.out
      refine ⟨_, rfl, DrE.of HI.out.2.2 ((DrK.grown hGr.drk (r := some (w.heap.size + 1 + 1)) (by (repeat (first | with_reducible assumption | with_reducible exact grown_rfl _ _ | with_reducible refine grown_st ?_ _ _ | with_reducible refine grown_al ?_ _))) (fun q e => by have := Option.some.inj e; omega)).less (by omega)), by (repeat (first | with_reducible assumption | with_reducible exact Below.refl _ _ | with_reducible refine Below.setCell ?_ (by first | omega | (simp; done) | (simp; omega)) _ | with_reducible refine Below.alloc ?_ (by first | omega | (simp; done) | (simp; omega)) _ | with_reducible refine below_drewN ?_ _ | with_reducible refine Below.drew ?_ | with_reducible refine Below.trans ?_ (Below.mono hbl (by first | omega | (simp; done) | (simp; omega)))))⟩
set_option maxHeartbeats 4000000 in
theorem wePutW_one (k n : Int) (s : Bytes) (xs ys : List Ex) (hk : k ≠ 2) (hl : xs.length = ys.length) (hm : xs.length ≤ 1000) (IH : ∀ (i : Nat) (x y : Ex), xs[i]? = some x → ys[i]? = some y → PwB x y) : PwB (.mk k n s xs) (.mk k n s ys) := by
  intro v w hv
  obtain ⟨A, c, rfl, hc, hcm⟩ := (show ∃ A c, v = .agg #[.int .i64 k, .int .i64 n, .string (bs s), .slice A xs.length c] ∧ xs.length ≤ c ∧ c ≤ 9223372036854775807 from by
    obtain ⟨kv, rfl, h1, h2⟩ := id hv
    obtain ⟨A, c, e, h3, h4⟩ := h2.val
    simp only [Ex.kids] at e h3
    exact ⟨A, c, by simp only [Ex.kind, Ex.n, Ex.s]; rw [e], h3, h4⟩)
  obtain ⟨hs, hkv⟩ : s.length ≤ 9223372036854775807 ∧ ExS w w.heap.size (.slice A xs.length c) xs := by
    obtain ⟨kv, e, h1, h2⟩ := hv
    have e4 : (Value.slice A xs.length c) = kv := by simp at e; exact e.2.2.2
    rw [e4]
    exact ⟨h1, h2⟩
  have HI := Lib.hid (And.intro IH (And.intro hl hs))
  have hk2 : (k == 2) = false := by simpa using hk
  clear IH hk hl hs hv
  go_enter Tryz.func19, Tryz.ntmps19
  go_wp2_with fail
  go_loopg [8] xs.length (fun mm i wr => ∃ (j : Nat) (u : Value), mm = xs.length - j ∧ j ≤ xs.length ∧ i = .int .i64 j ∧ Blk wr w.heap.size 25 #[.int .i64 k, .int .i64 n, .string (bs s), .slice A xs.length c] ∧ Blk wr (w.heap.size + 1) 25 #[.int .i64 2, .int .i64 0, .string ⟨#[119]⟩, .slice none 0 0] ∧ Blk wr (w.heap.size + 1 + 1) 25 #[.int .i64 0, .int .i64 0, .string ⟨#[]⟩, .slice none 0 0] ∧ Blk wr (w.heap.size + 1 + 1 + 1) 25 #[.int .i64 k, .int .i64 n, .string (bs s), u] ∧ GrE (w.heap.size + 4) wr u (ys.take j) ∧ Below w.heap.size w wr)
  case atStart => exact ⟨0, _, by omega, by omega, rfl, (((Blk.new _ _ _).alloc _).alloc _).alloc _, by simpa using ((Blk.new (w.alloc _) 25 #[.int .i64 2, .int .i64 0, .string ⟨#[119]⟩, .slice none 0 0]).alloc _).alloc _, by simpa using (Blk.new ((w.alloc _).alloc _) 25 #[.int .i64 0, .int .i64 0, .string ⟨#[]⟩, .slice none 0 0]).alloc _, by simpa using Blk.new (((w.alloc _).alloc _).alloc _) 25 #[.int .i64 k, .int .i64 n, .string (bs s), .slice none 0 0], by rw [List.take_zero]; exact GrE.nil _ _, by (repeat (first | with_reducible assumption | with_reducible exact Below.refl _ _ | with_reducible refine Below.setCell ?_ (by first | omega | (simp; done) | (simp; omega)) _ | with_reducible refine Below.alloc ?_ (by first | omega | (simp; done) | (simp; omega)) _ | with_reducible refine below_drewN ?_ _ | with_reducible refine Below.drew ?_))⟩
  case round =>
    obtain ⟨j, u, hm2, hj, rfl, hB0, hBx, hB1, hB2, hG, hbl⟩ := hrel
    have HK := Lib.hid hm2
    clear hm2
    have b03 := hB0.cell 3
    simp at b03
    have bx0 := hBx.cell 0; have bx1 := hBx.cell 1; have bx2 := hBx.cell 2; have bx3 := hBx.cell 3
    simp at bx0 bx1 bx2 bx3
    have hz := hB2.lt
    by_cases hlt : j < xs.length
    · obtain ⟨b, o, p1, q1, s1, A1, c1, m1, rfl, hb, hg, hs1, hm1, hc1, hk1, f0, f1, f2, f3⟩ := ex_at hkv hlt
      have g0 := f0 ⟨wr, hbl⟩; have g1 := f1 ⟨wr, hbl⟩; have g2 := f2 ⟨wr, hbl⟩; have g3 := f3 ⟨wr, hbl⟩
      obtain ⟨y, hy⟩ : ∃ y, ys[j]? = some y := ⟨_, List.getElem?_eq_getElem (by have := HI.out.2.1; omega)⟩
      have IH := Lib.hid (fun (w' : World) (h : Below w.heap.size w w') => HI.out.1 j _ y hg hy (.agg #[.int .i64 p1, .int .i64 q1, .string (bs s1), .slice A1 m1.length c1]) w' ⟨_, rfl, by rw [bs_size] at hs1; exact hs1, (hk1.keep h (Nat.le_refl _)).more h.size⟩)
      obtain ⟨fl, bls, hP⟩ := hG
      have hG1 := hP.1
      have hfl3 : fl.length = j := by rw [hP.2.1, List.length_take]; have := HI.out.2.1; omega
      obtain ⟨Au, cu, rfl, _, _⟩ := hG1.val
      have b23 := hB2.cell 3
      simp at b23
      have HG := Lib.hid (And.intro hG1 (And.intro hP (And.intro hy hfl3)))
      have hown : ∀ q, (Value.slice Au fl.length cu).ownBlock = some q → w.heap.size + 4 ≤ q ∧ q < wr.heap.size := fun q hq => hG1.lt hq
      have KEEP := Lib.hid (show ∀ w' : World, Below (w.heap.size + 4) wr w' → (w'.cell? ⟨w.heap.size, 3, none⟩ = some (.slice (some ⟨b, o, none⟩) xs.length c) ∧ w'.cell? ⟨w.heap.size + 1 + 1 + 1, 3, none⟩ = some (.slice Au fl.length cu) ∧ w'.cell? ⟨b, o + j * 4, none⟩ = some (.int .i64 p1) ∧ w'.cell? ⟨b, o + j * 4 + 1, none⟩ = some (.int .i64 q1) ∧ w'.cell? ⟨b, o + j * 4 + 2, none⟩ = some (.string (bs s1)) ∧ w'.cell? ⟨b, o + j * 4 + 3, none⟩ = some (.slice A1 m1.length c1) ∧ w'.cell? ⟨w.heap.size + 1, 0, none⟩ = some (.int .i64 2) ∧ w'.cell? ⟨w.heap.size + 1, 1, none⟩ = some (.int .i64 0) ∧ w'.cell? ⟨w.heap.size + 1, 2, none⟩ = some (.string ⟨#[119]⟩) ∧ w'.cell? ⟨w.heap.size + 1, 3, none⟩ = some (.slice none 0 0)) from
        fun w' h => ⟨(h.cell (p := ⟨_, 3, none⟩) (by first | omega | (simp; done) | (simp only [List.length_cons, List.length_nil, List.length_append]; omega) | (simp; omega))).trans b03, (h.cell (p := ⟨_, 3, none⟩) (by first | omega | (simp; done) | (simp only [List.length_cons, List.length_nil, List.length_append]; omega) | (simp; omega))).trans b23, (h.cell (p := ⟨b, _, none⟩) (by first | omega | (simp; done) | (simp only [List.length_cons, List.length_nil, List.length_append]; omega) | (simp; omega))).trans g0, (h.cell (p := ⟨b, _, none⟩) (by first | omega | (simp; done) | (simp only [List.length_cons, List.length_nil, List.length_append]; omega) | (simp; omega))).trans g1, (h.cell (p := ⟨b, _, none⟩) (by first | omega | (simp; done) | (simp only [List.length_cons, List.length_nil, List.length_append]; omega) | (simp; omega))).trans g2, (h.cell (p := ⟨b, _, none⟩) (by first | omega | (simp; done) | (simp only [List.length_cons, List.length_nil, List.length_append]; omega) | (simp; omega))).trans g3, (h.cell (p := ⟨_, 0, none⟩) (by first | omega | (simp; done) | (simp only [List.length_cons, List.length_nil, List.length_append]; omega) | (simp; omega))).trans bx0, (h.cell (p := ⟨_, 1, none⟩) (by first | omega | (simp; done) | (simp only [List.length_cons, List.length_nil, List.length_append]; omega) | (simp; omega))).trans bx1, (h.cell (p := ⟨_, 2, none⟩) (by first | omega | (simp; done) | (simp only [List.length_cons, List.length_nil, List.length_append]; omega) | (simp; omega))).trans bx2, (h.cell (p := ⟨_, 3, none⟩) (by first | omega | (simp; done) | (simp only [List.length_cons, List.length_nil, List.length_append]; omega) | (simp; omega))).trans bx3⟩)
      have HB := Lib.hid (And.intro hB0 (And.intro hBx (And.intro hB1 hB2)))
      have hfb : fl.length + 1 ≤ 1000000 := by omega
      clear f0 f1 f2 f3 hg hy hk1 hG1 hP hfl3 hB0 hBx hB1 hB2 hkv bx0 bx1 bx2 bx3
      go_wp2_with fail
      obtain ⟨y03, y23, yk0, yk1, yk2, yk3, yx0, yx1, yx2, yx3⟩ := KEEP.out wr (Below.refl _ _)
      go_region_law
        (first
          | (refine app_stepE (by rfl) (.tmp 29) (.tmp 38) (by rfl) (w.heap.size + 4) (.slice Au fl.length cu) fl (by rfl) ?_ ⟨k2, n2, s2, .slice A2 l2.length c2⟩ fe_one w2.heap.size (by rfl) ?_ ?_ ?_ ?_; exact HG.out.1.ext (by (repeat (first | with_reducible assumption | with_reducible exact Below.refl _ _ | with_reducible refine Below.setCell ?_ (by first | omega | (simp; done) | (simp; omega)) _ | with_reducible refine Below.alloc ?_ (by first | omega | (simp; done) | (simp; omega)) _ | with_reducible refine below_drewN ?_ _ | with_reducible refine Below.drew ?_ | with_reducible refine Below.trans ?_ (Below.mono hb2 (by first | omega | (simp; done) | (simp; omega)))))); exact news_fe rfl; (first | omega | (simp; done) | (simp only [List.length_cons, List.length_nil, List.length_append]; omega) | (simp; omega)); (first | omega | (simp; done) | (simp only [List.length_cons, List.length_nil, List.length_append]; omega) | (simp; omega)); intro g6 cap6 w6 hG6 hgr6 hat6; have hb6 : Below (w.heap.size + 4) wr w6 := below_app (show Below (w.heap.size + 4) wr _ from by (repeat (first | with_reducible assumption | with_reducible exact Below.refl _ _ | with_reducible refine Below.setCell ?_ (by first | omega | (simp; done) | (simp; omega)) _ | with_reducible refine Below.alloc ?_ (by first | omega | (simp; done) | (simp; omega)) _ | with_reducible refine below_drewN ?_ _ | with_reducible refine Below.drew ?_ | with_reducible refine Below.trans ?_ (Below.mono hb2 (by first | omega | (simp; done) | (simp; omega)))))) hgr6 (fun q hq => (hown q hq).1) (by first | omega | (simp; done) | (simp only [List.length_cons, List.length_nil, List.length_append]; omega) | (simp; omega)); obtain ⟨_, x23, _⟩ := KEEP.out w6 hb6; have z23 := (HB.out.2.2.2.below hb6 (by first | omega | (simp; done) | (simp only [List.length_cons, List.length_nil, List.length_append]; omega) | (simp; omega))).frozen 3)
          | (go_simp; go_at_call 19; refine (IH.out _ (by (repeat (first | with_reducible assumption | with_reducible exact Below.refl _ _ | with_reducible refine Below.setCell ?_ (by first | omega | (simp; done) | (simp; omega)) _ | with_reducible refine Below.alloc ?_ (by first | omega | (simp; done) | (simp; omega)) _ | with_reducible refine below_drewN ?_ _ | with_reducible refine Below.drew ?_ | with_reducible refine Below.trans ?_ (Below.mono hbl (by first | omega | (simp; done) | (simp; omega))))))).mono ?_; rintro r w2 ⟨v2, rfl, hD2, hb2⟩; have hz2 := hb2.size; (try simp at hz2); obtain ⟨k2, n2, s2, A2, c2, l2, rfl, rfl, hs2, hc2, hm2, hK2⟩ := hD2.form; obtain ⟨x03, x23, xk0, xk1, xk2, xk3, xx0, xx1, xx2, xx3⟩ := KEEP.out w2 (by (repeat (first | with_reducible assumption | with_reducible exact Below.refl _ _ | with_reducible refine Below.setCell ?_ (by first | omega | (simp; done) | (simp; omega)) _ | with_reducible refine Below.alloc ?_ (by first | omega | (simp; done) | (simp; omega)) _ | with_reducible refine below_drewN ?_ _ | with_reducible refine Below.drew ?_ | with_reducible refine Below.trans ?_ (Below.mono hb2 (by first | omega | (simp; done) | (simp; omega)))))); have a23 := (KEEP.out (w2.alloc (.cells #[.int .i64 k2, .int .i64 n2, .string (bs s2), .slice A2 l2.length c2] 25)) (by (repeat (first | with_reducible assumption | with_reducible exact Below.refl _ _ | with_reducible refine Below.setCell ?_ (by first | omega | (simp; done) | (simp; omega)) _ | with_reducible refine Below.alloc ?_ (by first | omega | (simp; done) | (simp; omega)) _ | with_reducible refine below_drewN ?_ _ | with_reducible refine Below.drew ?_ | with_reducible refine Below.trans ?_ (Below.mono hb2 (by first | omega | (simp; done) | (simp; omega))))))).2.1)
          | fail)
      all_goals
        have HW := Lib.hid (And.intro hb6 (And.intro hG6 (And.intro hgr6 (And.intro hat6 (And.intro hD2 (And.intro hb2 hown))))))
        clear hb6 hG6 hgr6 hat6 hD2 hb2 hown
        go_wp2_with fail
        go_roundg (xs.length - (j + 1))
        case measure => have := HK.out; omega
        case rel =>
          obtain ⟨hb6, hG6, hgr6, hat6, hD2, hb2, hown⟩ := HW.out
          obtain ⟨hB0, hBx, hB1, hB2⟩ := HB.out
          obtain ⟨_, hP, hy, hfl3⟩ := HG.out
          refine ⟨j + 1, _, rfl, by omega, by go_num, (hB0.below hb6 (by first | omega | (simp; done) | (simp only [List.length_cons, List.length_nil, List.length_append]; omega) | (simp; omega))).far (by first | omega | (simp; done) | (simp only [List.length_cons, List.length_nil, List.length_append]; omega) | (simp; omega)) _, (hBx.below hb6 (by first | omega | (simp; done) | (simp only [List.length_cons, List.length_nil, List.length_append]; omega) | (simp; omega))).far (by first | omega | (simp; done) | (simp only [List.length_cons, List.length_nil, List.length_append]; omega) | (simp; omega)) _, (hB1.below hb6 (by first | omega | (simp; done) | (simp only [List.length_cons, List.length_nil, List.length_append]; omega) | (simp; omega))).far (by first | omega | (simp; done) | (simp only [List.length_cons, List.length_nil, List.length_append]; omega) | (simp; omega)) _, by simpa using (hB2.below hb6 (by first | omega | (simp; done) | (simp only [List.length_cons, List.length_nil, List.length_append]; omega) | (simp; omega))).set_ 3 _, ?_, by (repeat (first | with_reducible assumption | with_reducible exact Below.refl _ _ | with_reducible refine Below.setCell ?_ (by first | omega | (simp; done) | (simp; omega)) _ | with_reducible refine Below.alloc ?_ (by first | omega | (simp; done) | (simp; omega)) _ | with_reducible refine below_drewN ?_ _ | with_reducible refine Below.drew ?_ | with_reducible refine Below.trans ?_ (Below.mono hb6 (by first | omega | (simp; done) | (simp; omega))) | with_reducible refine Below.trans ?_ (Below.mono hbl (by first | omega | (simp; done) | (simp; omega)))))⟩
          rw [take_succ_ex hy]
          exact ((hP.ext (by (repeat (first | with_reducible assumption | with_reducible exact Below.refl _ _ | with_reducible refine Below.setCell ?_ (by first | omega | (simp; done) | (simp; omega)) _ | with_reducible refine Below.alloc ?_ (by first | omega | (simp; done) | (simp; omega)) _ | with_reducible refine below_drewN ?_ _ | with_reducible refine Below.drew ?_ | with_reducible refine Below.trans ?_ (Below.mono hb2 (by first | omega | (simp; done) | (simp; omega))))))).push (hD2.ext (by (repeat (first | with_reducible assumption | with_reducible exact Below.refl _ _ | with_reducible refine Below.setCell ?_ (by first | omega | (simp; done) | (simp; omega)) _ | with_reducible refine Below.alloc ?_ (by first | omega | (simp; done) | (simp; omega)) _ | with_reducible refine below_drewN ?_ _ | with_reducible refine Below.drew ?_)))) (fun q hq => by have := hown q hq; simp; omega) (by simp; omega) hG6 hgr6 hat6).far (by simp) _ _
    · obtain rfl : j = xs.length := by omega
      obtain ⟨fl, bls, hP⟩ := hG
      obtain ⟨Au, cu, rfl, hcu, hcm2⟩ := hP.1.val
      have z0 := hB1.frozen 0; have z1 := hB1.frozen 1; have z2 := hB1.frozen 2; have z3 := hB1.frozen 3
      have y0 := hB1.cell 0; have y1 := hB1.cell 1; have y2 := hB1.cell 2; have y3 := hB1.cell 3
      have b0 := hB2.cell 0; have b1 := hB2.cell 1; have b2 := hB2.cell 2; have b3 := hB2.cell 3
      simp at y0 y1 y2 y3 b0 b1 b2 b3
      have hGr : GrE (w.heap.size + 4) wr (.slice Au fl.length cu) ys := by rw [HI.out.2.1, List.take_length] at hP; exact ⟨fl, bls, hP⟩
      have HG := Lib.hid (And.intro hGr hbl)
      clear hP hB0 hBx hB1 hB2 hkv hGr hbl bx0 bx1 bx2 bx3
      go_wp2_with fail
      refine bodyPost_ret (v := vEx k n s (.slice Au fl.length cu)) (by simp [results, Tryz.results19, go_sem, vEx, *]) rfl ?_
      obtain ⟨hGr, hbl⟩ := HG.out
      refine ⟨_, rfl, DrE.of HI.out.2.2 ((DrK.grown hGr.drk (r := some (w.heap.size + 1 + 1)) (by (repeat (first | with_reducible assumption | with_reducible exact grown_rfl _ _ | with_reducible refine grown_st ?_ _ _ | with_reducible refine grown_al ?_ _))) (fun q e => by have := Option.some.inj e; omega)).less (by omega)), by (repeat (first | with_reducible assumption | with_reducible exact Below.refl _ _ | with_reducible refine Below.setCell ?_ (by first | omega | (simp; done) | (simp; omega)) _ | with_reducible refine Below.alloc ?_ (by first | omega | (simp; done) | (simp; omega)) _ | with_reducible refine below_drewN ?_ _ | with_reducible refine Below.drew ?_ | with_reducible refine Below.trans ?_ (Below.mono hbl (by first | omega | (simp; done) | (simp; omega)))))⟩
theorem wePutW_hit (n : Int) : PwB (.mk 2 n [120] []) (.mk 2 0 [119] []) := by
  intro v w hv
  obtain ⟨kv, rfl, hs, hk⟩ := hv
  obtain ⟨A, c, rfl, hc, hm⟩ := hk.val
  simp only [Ex.kind, Ex.n, Ex.s, Ex.kids, List.length_nil]
  clear hk hs
  go_enter Tryz.func19, Tryz.ntmps19
  go_wp2_with fail
  refine bodyPost_ret (v := vEx 2 0 [119] (.slice none 0 0)) (by simp [results, Tryz.results19, go_sem, vEx, bs, *]) rfl ?_
  exact ⟨_, rfl, DrE.of (by simp) (DrK.nil _ _), by (repeat (first | with_reducible assumption | with_reducible exact Below.refl _ _ | with_reducible refine Below.setCell ?_ (by first | omega | (simp; done) | (simp; omega)) _ | with_reducible refine Below.alloc ?_ (by first | omega | (simp; done) | (simp; omega)) _ | with_reducible refine below_drewN ?_ _ | with_reducible refine Below.drew ?_))⟩
theorem wePutW_any : ∀ e : E, PwB e.ex (E.put [120] (.nam [119]) e).ex
  | .num n => wePutW_one 1 n [] [] [] (by decide) rfl (by simp) (fun i x y h => by simp at h)
  | .nam s => by
    by_cases h : s = [120]
    · subst h
      rw [show E.put [120] (.nam [119]) (.nam [120]) = (.nam [119]) by simp [E.put]]
      exact wePutW_hit 0
    · rw [show E.put [120] (.nam [119]) (.nam s) = .nam s by simp [E.put, h]]
      exact wePutW_two 0 s [] [] h rfl (by simp) (fun i x y h => by simp at h)
  | .two o a b => wePutW_one 3 0 o.b [a.ex, b.ex] [(E.put [120] (.nam [119]) a).ex, (E.put [120] (.nam [119]) b).ex] (by decide) rfl (by simp) (fun i x y h1 h2 => by
      rcases i with _ | _ | i
      · simp at h1 h2; subst h1 h2; exact wePutW_any a
      · simp at h1 h2; subst h1 h2; exact wePutW_any b
      · simp at h1)
  | .cast t a => wePutW_one 4 0 (tyB t) [a.ex] [(E.put [120] (.nam [119]) a).ex] (by decide) rfl (by simp) (fun i x y h1 h2 => by
      rcases i with _ | i
      · simp at h1 h2; subst h1 h2; exact wePutW_any a
      · simp at h1)
end Go.Proofs.YtgfbjpmbaibnoaaGreatDoor
