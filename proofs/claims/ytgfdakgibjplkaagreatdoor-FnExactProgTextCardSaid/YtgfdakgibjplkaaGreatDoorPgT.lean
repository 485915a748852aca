
/- Programs: the program's and the reference's text. -/
import Derived.Test.YtgfdakgibjplkaaGreatDoorPgOk
import Derived.Test.YtgfdakgibjplkaaGreatDoorTJoin
import Derived.Test.YtgfdakgibjplkaaGreatDoorLawSt
namespace Go.Proofs.YtgfdakgibjplkaaGreatDoor
set_option maxRecDepth 100000
open Go.RowKit
attribute [local go_sem] bs_toList bs_get bs_size

theorem joinN_le (k : Nat) : ∀ l : List Bytes, (∀ w ∈ l, w.length ≤ k) → (joinN l).length ≤ l.length * (k + 1)
  | [], _ => by simp [joinN]
  | [w], h => by have := h w (by simp); simp only [joinN, List.length_cons, List.length_nil]; omega
  | w :: v :: l, h => by
    have h1 := h w (by simp)
    have h2 := joinN_le k (v :: l) (fun x hx => h x (by simp [hx]))
    rw [joinN, List.length_append, List.length_cons, List.length_cons, Nat.add_mul]
    omega
theorem smTxt_len (s : Sm) : (smTxt s).length ≤ 116 := by
  unfold smTxt
  by_cases h : smOkB s = true
  · rw [if_pos h]
    rw [smOkB_form, Bool.and_eq_true, decide_eq_true_eq] at h
    exact h.2
  · rw [if_neg h]; simp
noncomputable def prJoin (l : List Sm) : Bytes := joinN (l.map smTxt)
noncomputable def prTxt (l : List Sm) : Bytes := if progOkB l then prJoin l else []
theorem prJoin_len {l : List Sm} (h : l.length ≤ 16) : (prJoin l).length ≤ 2000 := by
  have := joinN_le 116 (l.map smTxt) (fun w hw => by obtain ⟨s, _, rfl⟩ := List.mem_map.1 hw; exact smTxt_len s)
  rw [List.length_map] at this
  unfold prJoin
  omega
theorem prOk_len {l : List Sm} (h : progOkB l = true) : l.length ≤ 16 := by
  simp only [progOkB, Bool.and_eq_true, decide_eq_true_eq] at h; exact h.2
theorem prOk_all {l : List Sm} (h : progOkB l = true) {i : Nat} {s : Sm} (hs : l[i]? = some s) : smOkB s = true := by
  simp only [progOkB, Bool.and_eq_true, List.all_eq_true] at h; exact h.1.1 s (List.mem_of_getElem? hs)
theorem take_map {l : List Sm} {j : Nat} {s : Sm} (h : l[j]? = some s) : (l.take (j + 1)).map smTxt = (l.take j).map smTxt ++ [smTxt s] := by
  have hi := (List.getElem?_eq_some_iff.1 h).1
  have he : l[j] = s := by rw [List.getElem?_eq_getElem hi] at h; exact Option.some.inj h
  rw [List.take_succ_eq_append_getElem hi, List.map_append, he]
  rfl
theorem spProgText_any (l : List Sm) (v : Value) (W : World) (hv : SmS W W.heap.size v l) : Calls Tryz.prog 14 #[v] W fun r w' => r = .returned (.string (bs (prTxt l))) ∧ Below W.heap.size W w' := by
  have C1 := Lib.hid (spProgOk_any l v W hv)
  obtain ⟨A, c, rfl, hc, hm⟩ := hv.val
  by_cases hok : progOkB l = true
  rotate_left
  · have hok2 : progOkB l = false := by simpa using hok
    rw [hok2] at C1
    have HO := Lib.hid hok2
    clear hok hok2
    go_enter Tryz.func14, Tryz.ntmps14
    go_wp2_with fail
    refine C1.out.mono ?_
    rintro r w1 ⟨rfl, hb1⟩
    go_wp2_with fail
    go_ret
    exact ⟨ret_bs (a := []) (by unfold prTxt; rw [HO.out]; rfl), hb1⟩
  · rw [hok] at C1
    have HO := Lib.hid hok
    have hl16 := prOk_len hok
    clear hok
    go_enter Tryz.func14, Tryz.ntmps14
    go_wp2_with fail
    refine C1.out.mono ?_
    rintro r w1 ⟨rfl, hb1⟩
    have hz1 := hb1.size
    go_wp2_with fail
    go_loopg [3, 4] l.length (fun k o i wr => ∃ (j g cap : Nat), k = l.length - j ∧ j ≤ l.length ∧ i = .int .i64 j ∧ o = .slice (some ⟨g, 0, none⟩) j cap ∧ GtS W.heap.size wr o ((l.take j).map smTxt) ∧ Below W.heap.size W wr)
    case atStart => exact ⟨0, w1.heap.size, 0, by omega, by omega, rfl, rfl, gt_empty strRow 1 9 w1 _ hz1 (by rw [← World.size_alloc w1 (.cells #[] 9)]; exact Below.refl _ _), by (repeat (first | with_reducible assumption | with_reducible exact Below.refl _ _ | with_reducible refine Below.setCell ?_ (by first | omega | (simp; done) | (simp; omega)) _ | with_reducible refine Below.alloc ?_ (by first | omega | (simp; done) | (simp; omega)) _ | with_reducible refine below_drewN ?_ _ | with_reducible refine Below.drew ?_ | with_reducible refine Below.trans ?_ (Below.mono hb1 (by first | omega | (simp; done) | (simp; omega)))))⟩
    case round =>
      obtain ⟨j, g, cap, hk, hj, rfl, rfl, hG, hbl⟩ := hrel
      have HK := Lib.hid hk
      clear hk
      have hz := hbl.size
      by_cases hlt : j < l.length
      · obtain ⟨b, o, s, A1, A2, c1, c2, rfl, hb, hg, hS, f0, f1, f2, f3, f4, f5, f6, f7, f8, f9, f10⟩ := sm_at2 hv hlt
        have g0 := f0 ⟨wr, hbl⟩; have g1 := f1 ⟨wr, hbl⟩; have g2 := f2 ⟨wr, hbl⟩; have g3 := f3 ⟨wr, hbl⟩; have g4 := f4 ⟨wr, hbl⟩; have g5 := f5 ⟨wr, hbl⟩; have g6 := f6 ⟨wr, hbl⟩; have g7 := f7 ⟨wr, hbl⟩; have g8 := f8 ⟨wr, hbl⟩; have g9 := f9 ⟨wr, hbl⟩; have g10 := f10 ⟨wr, hbl⟩
        have HG := Lib.hid hg
        have HC := Lib.hid (spTxt_any s _ wr ((hS.keep hbl (Nat.le_refl _)).more hbl.size))
        clear f0 f1 f2 f3 f4 f5 f6 f7 f8 f9 f10 hg hS
        go_wp2_with fail
        refine HC.out.mono ?_
        rintro r w2 ⟨rfl, hb2⟩
        have hz2 := hb2.size
        have hG2 := hG.ext hb2
        go_wp2_with (first | (at_builtin; refine aps_plain (by rfl) (.tmp 15) (.tmp 21) (by rfl) W.heap.size (.slice (some ⟨g, 0, none⟩) j cap) ((l.take j).map smTxt) (by rfl) (hG2.ext (by (repeat (first | with_reducible assumption | with_reducible exact Below.refl _ _ | with_reducible refine Below.setCell ?_ (by first | omega | (simp; done) | (simp; omega)) _ | with_reducible refine Below.alloc ?_ (by first | omega | (simp; done) | (simp; omega)) _ | with_reducible refine below_drewN ?_ _ | with_reducible refine Below.drew ?_)))) ⟨w2.heap.size, 0, none⟩ 1 [smTxt s] (by rfl) (World.news_of_block (heap_alloc_new w2 _)) (Nat.succ_pos 0) (by rw [List.length_map, List.length_take]; simp; omega) (by first | omega | (simp; done) | (simp only [List.length_cons, List.length_nil, List.length_append]; omega) | (simp; omega)) ?_; intro g3 cap3 w3 hG3 hgr3 hat3) | fail)
        have hlen : ((l.take j).map smTxt).length + [smTxt s].length = j + 1 := by rw [List.length_map, List.length_take]; simp; omega
        have hge : W.heap.size ≤ g := (hG2.lt (b := g) rfl).1
        have HL := Lib.hid (And.intro hlen hge)
        clear hlen hge
        go_roundg (l.length - (j + 1))
        case measure => have := HK.out; omega
        case rel => exact ⟨j + 1, g3, cap3, rfl, by omega, by go_num, congrArg (fun n => Value.slice (some ⟨g3, 0, none⟩) n cap3) (by simp), hG3.len (by have := HL.out.1; simpa using this) (take_map HG.out).symm, by have hge := HL.out.2; (repeat (first | with_reducible assumption | with_reducible exact Below.refl _ _ | with_reducible refine Below.setCell ?_ (by first | omega | (simp; done) | (simp; omega)) _ | with_reducible refine Below.alloc ?_ (by first | omega | (simp; done) | (simp; omega)) _ | with_reducible refine below_drewN ?_ _ | with_reducible refine Below.drew ?_ | with_reducible refine Below.trans ?_ (Below.mono hb2 (by first | omega | (simp; done) | (simp; omega))) | with_reducible refine Below.trans ?_ (Below.mono hbl (by first | omega | (simp; done) | (simp; omega))) | with_reducible refine below_app ?_ hgr3 (by intro q hq; simp [Value.ownBlock] at hq; omega) (by first | omega | (simp; done) | (simp; omega))))⟩
      · obtain rfl : j = l.length := by omega
        have hsl := hG.sl (fun _ => rfl)
        rw [List.take_length] at hsl
        go_wp2_with fail
        refine (spTextJoin_any (l.map smTxt) _ wr hsl (by have := prJoin_len hl16; unfold prJoin at this; omega)).mono ?_
        rintro r _ ⟨rfl, rfl⟩
        go_wp2_with fail
        go_ret
        exact ⟨ret_bs (by unfold prTxt prJoin; rw [HO.out]; simp), hbl⟩
theorem imProgText_any (l : List Sm) (v : Value) (W : World) (hv : SmS W W.heap.size v l) (hE : Env W) : Calls Tryz.prog 15 #[v] W fun r w' => r = .returned (.string (bs (prTxt l))) ∧ Below W.heap.size W w' := by
  have C1 := Lib.hid (imProgOk_any l v W hv hE)
  obtain ⟨A, c, rfl, hc, hm⟩ := hv.val
  by_cases hok : progOkB l = true
  rotate_left
  · have hok2 : progOkB l = false := by simpa using hok
    rw [hok2] at C1
    have HO := Lib.hid hok2
    clear hok hok2 hE
    go_enter Tryz.func15, Tryz.ntmps15
    go_wp2_with fail
    refine C1.out.mono ?_
    rintro r w1 ⟨rfl, hb1⟩
    go_wp2_with fail
    go_ret
    exact ⟨ret_bs (a := []) (by unfold prTxt; rw [HO.out]; rfl), hb1⟩
  · rw [hok] at C1
    have HO := Lib.hid hok
    have hl16 := prOk_len hok
    have EV := Lib.hid (fun (w' : World) (h : Below W.heap.size W w') => hE.ext h)
    obtain ⟨i0, hi, hz0, hz1, hz2⟩ := info_parts infoStr
    have hmk := fun W => run_make_rowN (P := Tryz.prog) 48 9 i0 _ Tryz.underlying48 hi hz0 .i64 .i64 l.length l.length (Nat.le_refl _) (by rw [hz2]; omega) (by omega) W
    rw [hz1] at hmk
    clear hi hz0 hz1 hz2 hok hE
    go_enter Tryz.func15, Tryz.ntmps15
    go_wp2_with fail
    refine C1.out.mono ?_
    rintro r w1 ⟨rfl, hb1⟩
    have hz1 := hb1.size
    go_wp2_with fail
    go_loopg [14] l.length (fun k p wr => ∃ (j : Nat) (cur : Array Value), k = l.length - j ∧ j ≤ l.length ∧ p = .int .i64 j ∧ Blk wr w1.heap.size 9 cur ∧ cur.size = l.length ∧ (∀ t x, t < j → l[t]? = some x → cur[t]? = some (.string (bs (smTxt x)))) ∧ Below W.heap.size W wr)
    case atStart => exact ⟨0, _, by omega, by omega, rfl, Blk.new _ _ _, by simp [size_madeCells], fun t x h => by omega, by (repeat (first | with_reducible assumption | with_reducible exact Below.refl _ _ | with_reducible refine Below.setCell ?_ (by first | omega | (simp; done) | (simp; omega)) _ | with_reducible refine Below.alloc ?_ (by first | omega | (simp; done) | (simp; omega)) _ | with_reducible refine below_drewN ?_ _ | with_reducible refine Below.drew ?_ | with_reducible refine Below.trans ?_ (Below.mono hb1 (by first | omega | (simp; done) | (simp; omega)))))⟩
    case round =>
      obtain ⟨j, cur, hk, hj, rfl, hB, hsz, ha, hbl⟩ := hrel
      have HK := Lib.hid (And.intro hk (And.intro hsz ha))
      clear hk hsz ha
      have hbz := hB.lt
      by_cases hlt : j < l.length
      · obtain ⟨b, o, s, A1, A2, c1, c2, rfl, hb, hg, hS, f0, f1, f2, f3, f4, f5, f6, f7, f8, f9, f10⟩ := sm_at2 hv hlt
        have g0 := f0 ⟨wr, hbl⟩; have g1 := f1 ⟨wr, hbl⟩; have g2 := f2 ⟨wr, hbl⟩; have g3 := f3 ⟨wr, hbl⟩; have g4 := f4 ⟨wr, hbl⟩; have g5 := f5 ⟨wr, hbl⟩; have g6 := f6 ⟨wr, hbl⟩; have g7 := f7 ⟨wr, hbl⟩; have g8 := f8 ⟨wr, hbl⟩; have g9 := f9 ⟨wr, hbl⟩; have g10 := f10 ⟨wr, hbl⟩
        have HG := Lib.hid hg
        have hso := prOk_all HO.out hg
        have hfs : formSB s = true := by rw [smOkB_form, Bool.and_eq_true] at hso; exact hso.1
        have htx : smText s = smTxt s := by unfold smTxt; rw [if_pos hso]
        have HC := Lib.hid (fun (w' : World) (h : Below wr.heap.size wr w') => imSText_any s _ w' hfs ((hS.keep (hbl.ext h) (Nat.le_refl _)).more (hbl.ext h).size) (EV.out _ (hbl.ext h)))
        rw [htx] at HC
        clear f0 f1 f2 f3 f4 f5 f6 f7 f8 f9 f10 hg hS hso hfs htx
        obtain ⟨tx, htxe⟩ : ∃ x, smTxt s = x := ⟨_, rfl⟩
        rw [htxe] at HC
        have HTX := Lib.hid htxe
        clear htxe
        go_wp2_with fail
        refine (HC.out _ (by (repeat (first | with_reducible assumption | with_reducible exact Below.refl _ _ | with_reducible refine Below.setCell ?_ (by first | omega | (simp; done) | (simp; omega)) _ | with_reducible refine Below.alloc ?_ (by first | omega | (simp; done) | (simp; omega)) _ | with_reducible refine below_drewN ?_ _ | with_reducible refine Below.drew ?_)))).mono ?_
        rintro r w2 ⟨rfl, hb2⟩
        have hz2 := hb2.size
        (try simp at hz2)
        have hB2 := (hB.alloc (.cells #[.int .i64 s.kind, .string (bs s.name), .string (bs s.typ), .int .i64 s.ex.kind, .int .i64 s.ex.n, .string (bs s.ex.s), .slice A1 s.ex.kids.length c1, .int .i64 s.th.kind, .int .i64 s.th.n, .string (bs s.th.s), .slice A2 s.th.kids.length c2] 51)).below hb2 (by simp; omega)
        obtain ⟨y0, hy0⟩ : ∃ y, w2.cell? ⟨w1.heap.size, j, none⟩ = some y := ⟨_, (hB2.cell _).trans (Array.getElem?_eq_getElem (by have := HK.out.2.1; omega))⟩
        have hfz := hB2.frozen j
        go_wp2_with fail
        go_roundg (l.length - (j + 1))
        case measure => have := HK.out.1; omega
        case rel =>
          refine ⟨j + 1, cur.setIfInBounds j (.string (bs tx)), rfl, by omega, by go_num, hB2.set_ j _, by simp [HK.out.2.1], fun t x ht hx => ?_, by (repeat (first | with_reducible assumption | with_reducible exact Below.refl _ _ | with_reducible refine Below.setCell ?_ (by first | omega | (simp; done) | (simp; omega)) _ | with_reducible refine Below.alloc ?_ (by first | omega | (simp; done) | (simp; omega)) _ | with_reducible refine below_drewN ?_ _ | with_reducible refine Below.drew ?_ | with_reducible refine Below.trans ?_ (Below.mono hb2 (by first | omega | (simp; done) | (simp; omega))) | with_reducible refine Below.trans ?_ (Below.mono hbl (by first | omega | (simp; done) | (simp; omega)))))⟩
          by_cases e : t = j
          · subst e
            rw [HG.out] at hx
            obtain rfl := Option.some.inj hx
            rw [Array.getElem?_setIfInBounds_self_of_lt (by have := HK.out.2.1; omega), HTX.out]
          · rw [Array.getElem?_setIfInBounds_ne (fun h => e h.symm)]
            exact HK.out.2.2 t x (by omega) hx
      · obtain rfl : j = l.length := by omega
        have hsl : SlB wr wr.heap.size (.slice (some ⟨w1.heap.size, 0, none⟩) l.length l.length) (l.map smTxt) := by
          refine ⟨some ⟨w1.heap.size, 0, none⟩, l.length, by rw [List.length_map], by rw [List.length_map]; exact Nat.le_refl _, by unfold maxLen; omega, fun h0 => ⟨_, 0, rfl, hbz, fun i s hs jj x hx => ?_⟩⟩
          rw [List.getElem?_map, Option.map_eq_some_iff] at hs
          obtain ⟨y, hy, rfl⟩ := hs
          have hj0 : jj = 0 := by have := (List.getElem?_eq_some_iff.1 hx).1; simp [strRow] at this; omega
          subst hj0
          simp [strRow] at hx
          subst hx
          rw [Nat.zero_add, Nat.mul_one, Nat.add_zero, hB.cell]
          exact HK.out.2.2 i y (List.getElem?_eq_some_iff.1 hy).1 hy
        go_wp2_with fail
        refine (imTextJoin_any (l.map smTxt) _ wr hsl (by have := prJoin_len hl16; unfold prJoin at this; omega) (by rw [List.length_map]; omega)).mono ?_
        rintro r w3 ⟨rfl, hb3⟩
        go_wp2_with fail
        go_ret
        exact ⟨ret_bs (by unfold prTxt prJoin; rw [HO.out]; simp), hbl.ext hb3⟩
end Go.Proofs.YtgfdakgibjplkaaGreatDoor
