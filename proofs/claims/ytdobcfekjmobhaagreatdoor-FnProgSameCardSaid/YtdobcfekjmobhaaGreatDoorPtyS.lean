
/- The type of a program: the reference's. -/
import Derived.Test.YtdobcfekjmobhaaGreatDoorFits
import Derived.Test.YtdobcfekjmobhaaGreatDoorPgOk
namespace Go.Proofs.YtdobcfekjmobhaaGreatDoor
set_option maxRecDepth 100000
set_option linter.unusedSimpArgs false
set_option linter.unusedVariables false
open Go.RowKit
attribute [local go_sem] bs_toList bs_get bs_size

noncomputable def prTyp (l : List Sm) : Int := if progOkB l then prT l 0 [] [] else -2
/-- two rows that share no block -/
def DJ (n t : Value) : Prop := ∀ b, n.ownBlock = some b → t.ownBlock ≠ some b
theorem Gt.less_own {α : Type} {row : α → List Value} {k B : Nat} {t : TypeId} {w : World} {u : Value} {m : List α} (h : Gt row k t B w u m) : ∀ b, u.ownBlock = some b → B ≤ b := fun b hb => (h.lt hb).1
theorem DJ.first {α : Type} {row : α → List Value} {k B : Nat} {ty : TypeId} {w : World} {n t : Value} {m : List α} {g c q : Nat} (h : DJ n t) (ht : Gt row k ty B w t m) (hat : n.ownBlock = some g ∨ g = w.heap.size) : DJ (.slice (some ⟨g, 0, none⟩) q c) t := by
  intro b hb e
  have hb2 : g = b := by simpa [Value.ownBlock] using hb
  subst hb2
  rcases hat with h1 | h1
  · exact h g h1 e
  · have := (ht.lt e).2
    omega
theorem DJ.second {α : Type} {row : α → List Value} {k B : Nat} {ty : TypeId} {w : World} {t : Value} {m : List α} {g c q g2 c2 q2 : Nat} (h : DJ (.slice (some ⟨g, 0, none⟩) q c) t) (hn : Gt row k ty B w (.slice (some ⟨g, 0, none⟩) q c) m) (hat : t.ownBlock = some g2 ∨ g2 = w.heap.size) : DJ (.slice (some ⟨g, 0, none⟩) q c) (.slice (some ⟨g2, 0, none⟩) q2 c2) := by
  intro b hb e
  have hb2 : g = b := by simpa [Value.ownBlock] using hb
  have he : g2 = b := by simpa [Value.ownBlock] using e
  subst hb2
  rcases hat with h1 | h1
  · rw [he] at h1
    exact h g hb h1
  · have := (hn.lt (b := g) rfl).2
    omega
set_option maxHeartbeats 4000000 in
theorem spProgType_any (l : List Sm) (v : Value) (W : World) (hv : SmS W W.heap.size v l) : Calls Tryz.prog 26 #[v] W fun r w' => r = .returned (.int .i64 (prTyp l)) ∧ Below W.heap.size W w' := by
  have C1 := Lib.hid (spProgOk_any l v W hv)
  obtain ⟨A, c, rfl, hc, hm⟩ := hv.val
  by_cases hok : progOkB l = true
  rotate_left
  · have hok2 : progOkB l = false := by simpa using hok
    rw [hok2] at C1
    have HO := Lib.hid hok2
    clear hok hok2
    go_enter Tryz.func26, Tryz.ntmps26
    go_wp2_with fail
    refine C1.out.mono ?_
    rintro r w1 ⟨rfl, hb1⟩
    go_wp2_with fail
    go_ret
    exact ⟨ret_int (by unfold prTyp; rw [HO.out]; rfl), hb1⟩
  · rw [hok] at C1
    have HO := Lib.hid (show prTyp l = prT l 0 [] [] by unfold prTyp; rw [hok]; rfl)
    have HF := Lib.hid (show ∀ i s, l[i]? = some s → formSB s = true from fun i s h => by
      simp only [progOkB, Bool.and_eq_true, List.all_eq_true] at hok
      have := hok.1.1 s (List.mem_of_getElem? h)
      rw [smOkB_form, Bool.and_eq_true] at this
      exact this.1)
    have hl16 : l.length ≤ 16 := by simp only [progOkB, Bool.and_eq_true, decide_eq_true_eq] at hok; exact hok.2
    clear hok
    go_enter Tryz.func26, Tryz.ntmps26
    go_wp2_with fail
    refine C1.out.mono ?_
    rintro r w1 ⟨rfl, hb1⟩
    have hz1 := hb1.size
    go_wp2_with fail
    go_loopg [3, 4, 5] l.length (fun k n t i wr => ∃ (j : Nat) (names types : List Bytes), k = l.length - j ∧ j ≤ l.length ∧ i = .int .i64 j ∧ GtS W.heap.size wr n names ∧ GtS W.heap.size wr t types ∧ DJ n t ∧ names.length = types.length ∧ names.length ≤ j ∧ prT l 0 [] [] = prT (l.drop j) j names types ∧ Below W.heap.size W wr)
    case atStart =>
      refine ⟨0, [], [], by omega, by omega, rfl, ?_, ?_, ?_, rfl, by simp, rfl, by (repeat (first | with_reducible assumption | with_reducible exact Below.refl _ _ | with_reducible refine Below.setCell ?_ (by first | omega | (simp; done) | (simp; omega)) _ | with_reducible refine Below.alloc ?_ (by first | omega | (simp; done) | (simp; omega)) _ | with_reducible refine below_drewN ?_ _ | with_reducible refine Below.drew ?_ | with_reducible refine Below.trans ?_ (Below.mono hb1 (by first | omega | (simp; done) | (simp; omega)))))⟩
      · have h := gt_empty strRow 1 9 (B := W.heap.size) w1 ((w1.alloc (.cells #[] 9)).alloc (.cells #[] 9)) hz1 (by (repeat (first | with_reducible assumption | with_reducible exact Below.refl _ _ | with_reducible refine Below.setCell ?_ (by first | omega | (simp; done) | (simp; omega)) _ | with_reducible refine Below.alloc ?_ (by first | omega | (simp; done) | (simp; omega)) _ | with_reducible refine below_drewN ?_ _ | with_reducible refine Below.drew ?_)))
        exact h
      · have h := gt_empty strRow 1 9 (B := W.heap.size) (w1.alloc (.cells #[] 9)) ((w1.alloc (.cells #[] 9)).alloc (.cells #[] 9)) (by simp; omega) (by rw [← World.size_alloc (w1.alloc (.cells #[] 9)) (.cells #[] 9)]; exact Below.refl _ _)
        rwa [World.size_alloc] at h
      · intro b hb e
        simp [Value.ownBlock] at hb e
        omega
    case round =>
      obtain ⟨j, names, types, hk, hj, rfl, hN, hT, hD, hlen, hnj, hpr, hbl⟩ := hrel
      have HK := Lib.hid (And.intro hk (And.intro hpr (And.intro hlen hD)))
      have hz := hbl.size
      by_cases hlt : j < l.length
      · obtain ⟨b, o, s, A1, A2, c1, c2, rfl, hb, hg, hS, f0, f1, f2, f3, f4, f5, f6, f7, f8, f9, f10⟩ := sm_at2 hv hlt
        have g0 := f0 ⟨wr, hbl⟩; have g1 := f1 ⟨wr, hbl⟩; have g2 := f2 ⟨wr, hbl⟩; have g3 := f3 ⟨wr, hbl⟩; have g4 := f4 ⟨wr, hbl⟩; have g5 := f5 ⟨wr, hbl⟩; have g6 := f6 ⟨wr, hbl⟩; have g7 := f7 ⟨wr, hbl⟩; have g8 := f8 ⟨wr, hbl⟩; have g9 := f9 ⟨wr, hbl⟩; have g10 := f10 ⟨wr, hbl⟩
        have HG := Lib.hid hg
        have hcall := spFits_any s _ u3 u4 names types wr (HF.out _ _ hg) hlen (by omega) ((hS.keep hbl (Nat.le_refl _)).more hz) (hN.sl (fun _ => rfl)) (hT.sl (fun _ => rfl))
        have FF := Lib.hid (And.intro f0 (And.intro f1 f2))
        have HC := Lib.hid hcall
        clear f0 f1 f2 f3 f4 f5 f6 f7 f8 f9 f10 hg hS hcall hk hpr hlen hD
        by_cases hfit : smFits s names types = true
        rotate_left
        · have hfit2 : smFits s names types = false := by simpa using hfit
          rw [hfit2] at HC
          have HX := Lib.hid hfit2
          clear hfit hfit2
          go_wp2_with fail
          refine HC.out.mono ?_
          rintro r w2 ⟨rfl, hb2⟩
          go_wp2_with fail
          go_ret
          exact ⟨ret_int (by rw [HO.out, HK.out.2.1, prT_no HG.out HX.out]), hbl.ext hb2⟩
        · rw [hfit] at HC
          have HX := Lib.hid hfit
          clear hfit
          go_wp2_with fail
          refine HC.out.mono ?_
          rintro r w2 ⟨rfl, hb2⟩
          have hbl2 := hbl.ext hb2
          have hz2 := hbl2.size
          have k0 := FF.out.1 ⟨w2, hbl2⟩
          have k1 := FF.out.2.1 ⟨w2, hbl2⟩
          have hN2 := hN.ext hb2
          have hT2 := hT.ext hb2
          clear g0 g1 g2 g3 g4 g5 g6 g7 g8 g9 g10 HC
          by_cases hkd : s.kind = 1
          rotate_left
          · have d1 : (s.kind == 1) = false := by simpa using hkd
            have HKD := Lib.hid hkd
            clear hkd
            go_wp2_with fail
            go_roundg (l.length - (j + 1))
            case measure => have := HK.out.1; omega
            case rel =>
              have e1 : letN s = [] := by unfold letN; rw [if_neg HKD.out]
              have e2 : letT s = [] := by unfold letT; rw [if_neg HKD.out]
              exact ⟨j + 1, names, types, rfl, by omega, by go_num, hN2, hT2, HK.out.2.2.2, HK.out.2.2.1, by omega, by rw [HK.out.2.1, prT_yes HG.out HX.out, e1, e2, List.append_nil, List.append_nil], hbl2⟩
          · have d1 : (s.kind == 1) = true := by simpa using hkd
            have HKD := Lib.hid hkd
            clear hkd
            have hnl : names.length ≤ 16 := by omega
            have htl : types.length ≤ 16 := by have := HK.out.2.2.1; omega
            go_wp2_with (first
              | (at_builtin; refine aps_plain (by rfl) (.tmp 32) (.tmp 38) (by rfl) W.heap.size u3 names (by rfl) (hN2.ext (by (repeat (first | with_reducible assumption | with_reducible exact Below.refl _ _ | with_reducible refine Below.setCell ?_ (by first | omega | (simp; done) | (simp; omega)) _ | with_reducible refine Below.alloc ?_ (by first | omega | (simp; done) | (simp; omega)) _ | with_reducible refine below_drewN ?_ _ | with_reducible refine Below.drew ?_)))) ⟨w2.heap.size, 0, none⟩ 1 [s.name] (by rfl) (World.news_of_block (heap_alloc_new w2 _)) (Nat.succ_pos 0) (by first | omega | (simp; done) | (simp only [List.length_cons, List.length_nil, List.length_append]; omega) | (simp; omega)) (by first | omega | (simp; done) | (simp only [List.length_cons, List.length_nil, List.length_append]; omega) | (simp; omega)) ?_; intro ga capa w4 hG4 hgr4 hat4; have hz4 := hgr4.size; (try simp at hz4); have hb4 : Below W.heap.size W w4 := below_app (show Below W.heap.size W _ from (by (repeat (first | with_reducible assumption | with_reducible exact Below.refl _ _ | with_reducible refine Below.setCell ?_ (by first | omega | (simp; done) | (simp; omega)) _ | with_reducible refine Below.alloc ?_ (by first | omega | (simp; done) | (simp; omega)) _ | with_reducible refine below_drewN ?_ _ | with_reducible refine Below.drew ?_ | with_reducible refine Below.trans ?_ (Below.mono hbl2 (by first | omega | (simp; done) | (simp; omega))))))) hgr4 hN2.less_own (by first | omega | (simp; done) | (simp only [List.length_cons, List.length_nil, List.length_append]; omega) | (simp; omega)); have v2 := FF.out.2.2 ⟨w4, hb4⟩; have hT4 := (hT2.ext (w' := w2.alloc (.cells #[.string (bs s.name)] 9)) (by (repeat (first | with_reducible assumption | with_reducible exact Below.refl _ _ | with_reducible refine Below.setCell ?_ (by first | omega | (simp; done) | (simp; omega)) _ | with_reducible refine Below.alloc ?_ (by first | omega | (simp; done) | (simp; omega)) _ | with_reducible refine below_drewN ?_ _ | with_reducible refine Below.drew ?_)))).grown hgr4 (by rcases hq : u4.ownBlock with _ | q; exact .inl rfl; exact .inr (fun e => HK.out.2.2.2 q e.symm hq)))
              | (at_builtin; refine aps_plain (by rfl) (.tmp 40) (.tmp 46) (by rfl) W.heap.size u4 types (by rfl) (hT4.ext (by (repeat (first | with_reducible assumption | with_reducible exact Below.refl _ _ | with_reducible refine Below.setCell ?_ (by first | omega | (simp; done) | (simp; omega)) _ | with_reducible refine Below.alloc ?_ (by first | omega | (simp; done) | (simp; omega)) _ | with_reducible refine below_drewN ?_ _ | with_reducible refine Below.drew ?_)))) ⟨w4.heap.size, 0, none⟩ 1 [s.typ] (by rfl) (World.news_of_block (heap_alloc_new w4 _)) (Nat.succ_pos 0) (by first | omega | (simp; done) | (simp only [List.length_cons, List.length_nil, List.length_append]; omega) | (simp; omega)) (by first | omega | (simp; done) | (simp only [List.length_cons, List.length_nil, List.length_append]; omega) | (simp; omega)) ?_; intro gb capb w5 hG5 hgr5 hat5)
              | fail)
            have hD4 : DJ (.slice (some ⟨ga, 0, none⟩) (names.length + [s.name].length) capa) u4 := DJ.first HK.out.2.2.2 (hT2.ext (w' := w2.alloc (.cells #[.string (bs s.name)] 9)) (by (repeat (first | with_reducible assumption | with_reducible exact Below.refl _ _ | with_reducible refine Below.setCell ?_ (by first | omega | (simp; done) | (simp; omega)) _ | with_reducible refine Below.alloc ?_ (by first | omega | (simp; done) | (simp; omega)) _ | with_reducible refine below_drewN ?_ _ | with_reducible refine Below.drew ?_)))) hat4
            have hG4' := hG4.ext (w' := w4.alloc (.cells #[.string (bs s.typ)] 9)) (by (repeat (first | with_reducible assumption | with_reducible exact Below.refl _ _ | with_reducible refine Below.setCell ?_ (by first | omega | (simp; done) | (simp; omega)) _ | with_reducible refine Below.alloc ?_ (by first | omega | (simp; done) | (simp; omega)) _ | with_reducible refine below_drewN ?_ _ | with_reducible refine Below.drew ?_)))
            have hD5 : DJ (.slice (some ⟨ga, 0, none⟩) (names.length + [s.name].length) capa) (.slice (some ⟨gb, 0, none⟩) (types.length + [s.typ].length) capb) := hD4.second hG4' hat5
            have hG5n := hG4'.grown hgr5 (.inr (by simp only [Value.ownBlock]; intro e; exact hD4 ga rfl e.symm))
            have hb5 : Below W.heap.size W w5 := below_app (show Below W.heap.size W _ from (by (repeat (first | with_reducible assumption | with_reducible exact Below.refl _ _ | with_reducible refine Below.setCell ?_ (by first | omega | (simp; done) | (simp; omega)) _ | with_reducible refine Below.alloc ?_ (by first | omega | (simp; done) | (simp; omega)) _ | with_reducible refine below_drewN ?_ _ | with_reducible refine Below.drew ?_ | with_reducible refine Below.trans ?_ (Below.mono hb4 (by first | omega | (simp; done) | (simp; omega))))))) hgr5 hT4.less_own (by first | omega | (simp; done) | (simp only [List.length_cons, List.length_nil, List.length_append]; omega) | (simp; omega))
            have HQ := Lib.hid (And.intro hD5 (And.intro hG5n hG5))
            clear hD4 hD5 hG5n hG5 hG4 hG4' hT4
            go_roundg (l.length - (j + 1))
            case measure => have := HK.out.1; omega
            case rel =>
              obtain ⟨hD5, hG5n, hG5⟩ := HQ.out
              have e1 : letN s = [s.name] := by unfold letN; rw [if_pos HKD.out]
              have e2 : letT s = [s.typ] := by unfold letT; rw [if_pos HKD.out]
              exact ⟨j + 1, names ++ [s.name], types ++ [s.typ], rfl, by omega, by go_num, hG5n, hG5, hD5, by have := HK.out.2.2.1; simp only [List.length_append, List.length_singleton]; omega, by simp only [List.length_append, List.length_singleton]; omega, by rw [HK.out.2.1, prT_yes HG.out HX.out, e1, e2], hb5⟩
      · obtain rfl : j = l.length := by omega
        clear hk hpr hlen hD
        go_wp2_with fail
        go_ret
        exact ⟨ret_int (by rw [HO.out, HK.out.2.1, List.drop_length]; rfl), hbl⟩
end Go.Proofs.YtdobcfekjmobhaaGreatDoor
