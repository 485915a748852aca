
/- The reference's reader: a number, a name, what is in brackets, types behind. -/
import Derived.Test.YtgakjhaepdigpaaGreatDoorRdPQ
import Derived.Deep.CutBlock
namespace Go.Proofs.YtgakjhaepdigpaaGreatDoor
set_option maxRecDepth 100000
set_option linter.unusedSimpArgs false
set_option linter.unusedVariables false
open Go.RowKit
attribute [local go_sem] bs_toList bs_get bs_size

/-- the answer, once what stands ahead of the types was read -/
def AsS (M : PR) (ws : List Bytes) (i : Nat) (x : Ex) (j n : Nat) : Prop := i < j ∧ j ≤ ws.length ∧ (ws.drop j).length ≤ n ∧ M = asW true n x (ws.drop j)
def AtMid (M : PR) (ws : List Bytes) (i : Nat) (w : World) (s : Value) (wx : World) : Prop :=
  ∃ (x : Ex) (A : Option Addr) (c j n : Nat), s = .int .i64 (j : Int) ∧ Blk wx w.heap.size 24 zX ∧ Blk wx (w.heap.size + 1) 24 (bxE x A c) ∧ x.s.length ≤ 9223372036854775807 ∧
    TrN (w.heap.size + 1) (w.heap.size + 1) wx.heap.size wx (.agg (bxE x A c)) x ∧ Below w.heap.size w wx ∧ AsS M ws i x j n
theorem TrN.leaf' (b lo hi : Nat) (w : World) (k n : Int) (s : Bytes) (hs : s.length ≤ 9223372036854775807) : TrN b lo hi w (.agg (bxE (.mk k n s []) none 0)) (.mk k n s []) :=
  ⟨_, [], rfl, hs, .nil none 0 (by unfold maxLen; omega), Own.nil _ _, by simp⟩
/-- a part was put under a type: the box after it -/
theorem one_end {w w3 : World} {b lo : Nat} {x : Ex} {A : Option Addr} {c : Nat} {s : Bytes} (hT : TrN b lo w3.heap.size w3 (.agg (bxE x A c)) x) (hs : s.length ≤ 100000000)
    (hB4 : Blk w3 w.heap.size 24 zX) (hB5 : Blk w3 b 24 (bxE x A c)) (hbw : Below w.heap.size w w3) (hlo : lo ≤ w3.heap.size) (hb : w.heap.size < b) (hbm : b < w3.heap.size) (W' : World)
    (hW : W' = (((((w3.setCell ⟨b, 0, none⟩ (.int .i64 4)).setCell ⟨b, 1, none⟩ (.int .i64 0)).setCell ⟨b, 2, none⟩ (.string (bs s))).setCell ⟨b, 3, none⟩ (.slice (some ⟨w3.heap.size, 0, none⟩) 1 1)).alloc (.cells (bxE x A c) 24)).drew) :
    Blk W' w.heap.size 24 zX ∧ Blk W' b 24 (bxE (.mk 4 0 s [x]) (some ⟨w3.heap.size, 0, none⟩) 1) ∧ W'.heap.size = w3.heap.size + 1 ∧ TrN b lo W'.heap.size W' (.agg (bxE (.mk 4 0 s [x]) (some ⟨w3.heap.size, 0, none⟩) 1)) (.mk 4 0 s [x]) ∧ Below w.heap.size w W' := by
  have hTa := (((hT.set_ (i := 0) (u := .int .i64 4)).set_ (i := 1) (u := .int .i64 0)).set_ (i := 2) (u := .string (bs s))).set_ (i := 3) (u := .slice (some ⟨w3.heap.size, 0, none⟩) 1 1)
  have h4 := (((hB4.far (p := ⟨b, 0, none⟩) (by simp; omega) (.int .i64 4)).far (p := ⟨b, 1, none⟩) (by simp; omega) (.int .i64 0)).far (p := ⟨b, 2, none⟩) (by simp; omega) (.string (bs s))).far (p := ⟨b, 3, none⟩) (by simp; omega) (.slice (some ⟨w3.heap.size, 0, none⟩) 1 1)
  have h5 := (((hB5.set_ 0 (.int .i64 4)).set_ 1 (.int .i64 0)).set_ 2 (.string (bs s))).set_ 3 (.slice (some ⟨w3.heap.size, 0, none⟩) 1 1)
  have hbe : Below w.heap.size w ((((w3.setCell ⟨b, 0, none⟩ (.int .i64 4)).setCell ⟨b, 1, none⟩ (.int .i64 0)).setCell ⟨b, 2, none⟩ (.string (bs s))).setCell ⟨b, 3, none⟩ (.slice (some ⟨w3.heap.size, 0, none⟩) 1 1)) := by (repeat (first | with_reducible assumption | with_reducible exact Below.refl _ _ | with_reducible refine Below.setCell ?_ (by first | omega | (simp; done) | (simp; omega)) _ | with_reducible refine Below.alloc ?_ (by first | omega | (simp; done) | (simp; omega)) _ | with_reducible refine below_drewN ?_ _ | with_reducible refine Below.drew ?_ | with_reducible refine Below.trans ?_ (Below.mono hbw (by first | omega | (simp; done) | (simp; omega)))))
  have h5 : Blk ((((w3.setCell ⟨b, 0, none⟩ (.int .i64 4)).setCell ⟨b, 1, none⟩ (.int .i64 0)).setCell ⟨b, 2, none⟩ (.string (bs s))).setCell ⟨b, 3, none⟩ (.slice (some ⟨w3.heap.size, 0, none⟩) 1 1)) b 24 (bxE (.mk 4 0 s [x]) (some ⟨w3.heap.size, 0, none⟩) 1) := by simpa [bxE, Ex.kind, Ex.n, Ex.s, Ex.kids] using h5
  have hsz : ((((w3.setCell ⟨b, 0, none⟩ (.int .i64 4)).setCell ⟨b, 1, none⟩ (.int .i64 0)).setCell ⟨b, 2, none⟩ (.string (bs s))).setCell ⟨b, 3, none⟩ (.slice (some ⟨w3.heap.size, 0, none⟩) 1 1)).heap.size = w3.heap.size := by simp
  generalize ((((w3.setCell ⟨b, 0, none⟩ (.int .i64 4)).setCell ⟨b, 1, none⟩ (.int .i64 0)).setCell ⟨b, 2, none⟩ (.string (bs s))).setCell ⟨b, 3, none⟩ (.slice (some ⟨w3.heap.size, 0, none⟩) 1 1)) = V at *
  subst hW
  have hbk := Blk.newAt (w := V) (t := 24) (cs := bxE x A c) hsz
  have h2 := (hTa.alloc (.cells (bxE x A c) 24)).one (k := 4) (n := 0) (s := s) (hi' := w3.heap.size + 1) (by omega) hbk (Nat.le_refl _) hlo (by omega) (by omega)
  exact ⟨(h4.alloc _).drew, (h5.alloc _).drew, by rw [World.size_drew, World.size_alloc, hsz], (h2.widen (Nat.le_refl _) (by rw [World.size_drew, World.size_alloc, hsz]; exact Nat.le_refl _)).drew, (hbe.alloc hbe.size _).drew⟩
theorem AsS.stop {M : PR} {ws : List Bytes} {i j n : Nat} {x : Ex} (h : AsS M ws i x j n) (hs : (ws[j]?).getD [] ≠ cAs) : (M = none ∧ (j : Int) = -1) ∨ ∃ j' : Nat, (j : Int) = j' ∧ i < j' ∧ j' ≤ ws.length ∧ M = some (x, ws.drop j') := by
  obtain ⟨h1, h2, h3, h4⟩ := h
  refine .inr ⟨j, rfl, h1, h2, ?_⟩
  rw [h4]
  refine asW_stop ?_
  intro w r e
  have : ws[j]? = some w := by
    have := congrArg (fun l : List Bytes => l[0]?) e
    simpa [List.getElem?_drop] using this
  rw [this] at hs
  exact hs
theorem AsS.drop2 {ws : List Bytes} {j : Nat} (hs : (ws[j]?).getD [] = cAs) : j < ws.length ∧ ws.drop j = cAs :: ws.drop (j + 1) := by
  have hlt : j < ws.length := by
    refine Decidable.byContradiction fun h => ?_
    rw [List.getElem?_eq_none (by omega)] at hs
    cases hs
  exact ⟨hlt, by rw [drop_at hlt, hs]⟩
theorem AsS.bad {M : PR} {ws : List Bytes} {i j n : Nat} {x : Ex} (h : AsS M ws i x j n) (hs : (ws[j]?).getD [] = cAs) (ht : typeB ((ws[j + 1]?).getD []) = false) : M = none := by
  obtain ⟨h1, h2, h3, h4⟩ := h
  obtain ⟨hlt, hd⟩ := AsS.drop2 hs
  rw [hd, List.length_cons] at h3
  obtain ⟨m, rfl⟩ : ∃ m, n = m + 1 := ⟨n - 1, by omega⟩
  rw [h4, hd]
  by_cases hl2 : j + 1 < ws.length
  · rw [drop_at hl2]
    simp [asW, ht]
  · rw [List.drop_of_length_le (by omega)]
    simp [asW]
theorem AsS.step {M : PR} {ws : List Bytes} {i j n : Nat} {x : Ex} (h : AsS M ws i x j n) (hs : (ws[j]?).getD [] = cAs) (ht : typeB ((ws[j + 1]?).getD []) = true) : ∃ m, AsS M ws i (.mk 4 0 ((ws[j + 1]?).getD []) [x]) (j + 2) m ∧ m < n := by
  obtain ⟨h1, h2, h3, h4⟩ := h
  obtain ⟨hlt, hd⟩ := AsS.drop2 hs
  have hl2 : j + 1 < ws.length := by
    refine Decidable.byContradiction fun h => ?_
    rw [List.getElem?_eq_none (by omega)] at ht
    revert ht
    decide
  rw [hd, drop_at hl2] at h3 h4
  simp only [List.length_cons] at h3
  obtain ⟨m, rfl⟩ : ∃ m, n = m + 1 := ⟨n - 1, by omega⟩
  refine ⟨m, ⟨by omega, by omega, by show (ws.drop (j + 1 + 1)).length ≤ m; omega, ?_⟩, by omega⟩
  rw [h4]
  simp [asW, ht]
theorem leaf_mid {M : PR} {ws : List Bytes} {i : Nat} {w : World} {k n : Int} {s : Bytes} (hs : s.length ≤ 100000000) (hlt : i < ws.length) (hM : M = asW true (ws.drop (i + 1)).length (.mk k n s []) (ws.drop (i + 1))) :
    AtMid M ws i w (.int .i64 ((i : Int) + 1)) ((w.alloc (.cells zX 24)).alloc (.cells (bxE (.mk k n s []) none 0) 24)) := by
  refine ⟨.mk k n s [], none, 0, i + 1, _, by go_num, (Blk.new w _ _).alloc _, Blk.newAt (by simp), by show s.length ≤ _; omega, TrN.leaf' _ _ _ _ _ _ _ (by omega), by (repeat (first | with_reducible assumption | with_reducible exact Below.refl _ _ | with_reducible refine Below.setCell ?_ (by first | omega | (simp; done) | (simp; omega)) _ | with_reducible refine Below.alloc ?_ (by first | omega | (simp; done) | (simp; omega)) _ | with_reducible refine below_drewN ?_ _ | with_reducible refine Below.drew ?_)), by omega, by omega, Nat.le_refl _, hM⟩
theorem default_end {M : PR} {ws : List Bytes} {i : Nat} {w w' : World} (hb : Below w.heap.size w w') (hM : M = none) : SpP M ws i w (.returned (.tuple #[.agg #[.int .i64 0, .int .i64 0, .string ⟨#[]⟩, .slice none 0 0], .int .i64 (-1)])) w' :=
  ⟨Ex.none, _, -1, rfl, TrM.leaf _ _ _ 0 0 [] (by simp), hb, .inl ⟨hM, rfl⟩⟩
theorem shutW_no {st : Bool} {ws : List Bytes} {j : Nat} {x : Ex} (h : (ws[j]?).getD [] ≠ [41]) : shutW st (some (x, ws.drop j)) = none := by
  by_cases hlt : j < ws.length
  · rw [drop_at hlt]
    simp only [shutW]
    rw [if_neg h]
  · rw [List.drop_of_length_le (by omega)]
    rfl
theorem shutW_yes {st : Bool} {ws : List Bytes} {j : Nat} {x : Ex} (h : (ws[j]?).getD [] = [41]) : j < ws.length ∧ shutW st (some (x, ws.drop j)) = asW st (ws.drop (j + 1)).length x (ws.drop (j + 1)) := by
  have hlt : j < ws.length := by
    refine Decidable.byContradiction fun h2 => ?_
    rw [List.getElem?_eq_none (by omega)] at h
    cases h
  refine ⟨hlt, ?_⟩
  rw [drop_at hlt, h]
  simp [shutW]
set_option maxHeartbeats 4000000 in
theorem atomS_step (ws : List Bytes) (D : Nat) (hD : D ≤ 100) (h40 : ws.length ≤ 40) (hsl : ∀ s ∈ ws, s.length ≤ 100000000) (LV : ∀ D', D = D' + 1 → Lv1S ws D' (lv1 true (atomW true D'))) : AtomS ws D (atomW true D) := by
  intro i w v hi hv
  have HV := Lib.hid (fun (w' : World) (h : Below w.heap.size w w') => (hv.below h (Nat.le_refl _)).more h.size)
  have HL := Lib.hid (fun (D' : Nat) (e : D = D' + 1) (i' : Nat) (w' : World) (hi' : i' ≤ ws.length) (h : Below w.heap.size w w') => LV D' e i' w' v hi' (HV.out w' h))
  have hsi : ((ws[i]?).getD []).length ≤ 100000000 := by
    by_cases hlt : i < ws.length
    · rw [List.getElem?_eq_getElem hlt]
      exact hsl _ (List.getElem_mem hlt)
    · rw [List.getElem?_eq_none (by omega)]
      simp
  have HSL := Lib.hid (And.intro hsl (And.intro h40 hi))
  have AT := Lib.hid (fun (j : Nat) (w' : World) (h : Below w.heap.size w w') => spAt_any ws j v w' (HV.out w' h))
  have hdr : ∀ s, (ws[i]?).getD [] = s → s ≠ [] → i < ws.length ∧ ws.drop i = s :: ws.drop (i + 1) := by
    intro s h1 h2
    have hlt : i < ws.length := by
      refine Decidable.byContradiction fun h => ?_
      rw [List.getElem?_eq_none (by omega)] at h1
      exact h2 h1.symm
    exact ⟨hlt, by rw [drop_at hlt, h1]⟩
  have hn0 : (ws[i]?).getD [] = [] → atomW true D (ws.drop i) = none := by
    intro h1
    by_cases hlt : i < ws.length
    · rw [drop_at hlt, h1, atomW_leaf (by simp)]
      rfl
    · rw [List.drop_of_length_le (by omega)]
      cases D <;> rfl
  have HDR := Lib.hid (And.intro hdr hn0)
  have hwi : IntKind.i64.wrap ((i : Int) + 1) = (i : Int) + 1 := wrap_small (by omega)
  obtain ⟨Aw, cw, rfl, hcw, hmw⟩ := hv.val
  clear hv LV hdr hn0 hsl
  generalize hgs : (ws[i]?).getD [] = s at *
  have HGS := Lib.hid hgs
  have AT0 := Lib.hid (AT.out i (w.alloc (.cells zX 24)) (by (repeat (first | with_reducible assumption | with_reducible exact Below.refl _ _ | with_reducible refine Below.setCell ?_ (by first | omega | (simp; done) | (simp; omega)) _ | with_reducible refine Below.alloc ?_ (by first | omega | (simp; done) | (simp; omega)) _ | with_reducible refine below_drewN ?_ _ | with_reducible refine Below.drew ?_))))
  rw [hgs] at AT0
  clear hgs
  go_enter Tryz.func192, Tryz.ntmps192
  go_wp2_with fail
  refine AT0.out.mono ?_
  rintro e _ ⟨rfl, rfl⟩
  go_upto_block 0 with fail
  go_cut [8, 10, 17] (fun _ s10 _ wx => AtMid (atomW true D (ws.drop i)) ws i w s10 wx)
  case first =>
    have L3 := Lib.hid (fun w' => spL3Num_any s w' hsi)
    cases hnb : numB s
    · rw [hnb] at L3
      have NM := Lib.hid (fun w' => spName_any s w' (by omega))
      cases hnm : nameB s
      · rw [hnm] at NM
        by_cases hbr : s = [40] ∧ 0 < D
        · obtain ⟨rfl, hD0⟩ := hbr
          obtain ⟨D', rfl⟩ : ∃ D', D = D' + 1 := ⟨D - 1, by omega⟩
          obtain ⟨hlt, hd⟩ := HDR.out.1 [40] rfl (by simp)
          have HM := Lib.hid (show atomW true (D' + 1) (ws.drop i) = shutW true (lv1 true (atomW true D') (ws.drop (i + 1))) by rw [hd]; simp [atomW])
          have CL := Lib.hid (HL.out D' rfl (i + 1) ((w.alloc (.cells zX 24)).alloc (.cells zX 24)) (by omega) (by (repeat (first | with_reducible assumption | with_reducible exact Below.refl _ _ | with_reducible refine Below.setCell ?_ (by first | omega | (simp; done) | (simp; omega)) _ | with_reducible refine Below.alloc ?_ (by first | omega | (simp; done) | (simp; omega)) _ | with_reducible refine below_drewN ?_ _ | with_reducible refine Below.drew ?_))))
          rw [show ((i + 1 : Nat) : Int) = (i : Int) + 1 by omega] at CL
          have hwd : IntKind.i64.wrap (((D' + 1 : Nat) : Int) - 1) = (D' : Int) := by rw [IntKind.wrap_i64]; omega
          have hdd : (0 : Int) < ((D' + 1 : Nat) : Int) := by omega
          generalize ((D' + 1 : Nat) : Int) = dd at *
          clear hd hnb hnm hD0 hD hlt
          go_wp2_with fail
          refine (L3.out _).mono ?_
          rintro e _ ⟨rfl, rfl⟩
          go_wp2_with fail
          refine (NM.out _).mono ?_
          rintro e _ ⟨rfl, rfl⟩
          go_wp2_with fail
          refine CL.out.mono ?_
          rintro e w3 ⟨x3, v3, k3, rfl, hT3, hb3, hm3⟩
          obtain ⟨A3, c3, rfl, hs3x⟩ := hT3.form3
          have hB6 := ((Blk.new w 24 zX).alloc (.cells zX 24)).below hb3 (by simp; omega)
          have hB9 := (Blk.newAt (w := w.alloc (.cells zX 24)) (n := w.heap.size + 1) (t := 24) (cs := zX) (by simp)).below hb3 (by simp)
          have hbw3 : Below w.heap.size w w3 := by (repeat (first | with_reducible assumption | with_reducible exact Below.refl _ _ | with_reducible refine Below.setCell ?_ (by first | omega | (simp; done) | (simp; omega)) _ | with_reducible refine Below.alloc ?_ (by first | omega | (simp; done) | (simp; omega)) _ | with_reducible refine below_drewN ?_ _ | with_reducible refine Below.drew ?_ | with_reducible refine Below.trans ?_ (Below.mono hb3 (by first | omega | (simp; done) | (simp; omega)))))
          have hza : w.heap.size < w3.heap.size := hB6.lt
          have hzb : w.heap.size + 1 < w3.heap.size := hB9.lt
          have hT3 := hT3.widen (lo' := w.heap.size + 2) (by simp) (Nat.le_refl _)
          have HY := Lib.hid (And.intro hT3 (And.intro hbw3 (And.intro hB6 (And.intro hB9 hm3))))
          have z0 := hB6.frozen 0; have z1 := hB6.frozen 1; have z2 := hB6.frozen 2; have z3 := hB6.frozen 3
          have y0 := hB6.cell 0; have y1 := hB6.cell 1; have y2 := hB6.cell 2; have y3 := hB6.cell 3
          have u0 := hB9.frozen 0; have u1 := hB9.frozen 1; have u2 := hB9.frozen 2; have u3 := hB9.frozen 3
          have q0 := hB9.cell 0; have q1 := hB9.cell 1; have q2 := hB9.cell 2; have q3 := hB9.cell 3
          simp [zX] at y0 y1 y2 y3 q0 q1 q2 q3
          clear hT3 hb3 hB6 hB9 CL
          rcases hm3 with ⟨h5, rfl⟩ | ⟨j3, rfl, h6, h7, h5⟩
          · have HM5 := Lib.hid (show atomW true (D' + 1) (ws.drop i) = none by rw [HM.out, h5]; rfl)
            clear h5 hbw3
            go_wp2_with fail
            refine bodyPost_ret (v := .tuple #[vX x3.kind x3.n x3.s (.slice A3 x3.kids.length c3), .int .i64 (-1)]) (by simp [results, Tryz.results192, go_sem, vX, y0, y1, y2, y3, hza]) rfl ?_
            obtain ⟨hT, hbw, _, _, _⟩ := HY.out
            exact ⟨x3, _, _, rfl, (((((hT.setN (b := w.heap.size) (by omega) 0 _).setN (b := w.heap.size) (by omega) 1 _).setN (b := w.heap.size) (by omega) 2 _).setN (b := w.heap.size) (by omega) 3 _).alloc _).widen (by omega) (by simp), by (repeat (first | with_reducible assumption | with_reducible exact Below.refl _ _ | with_reducible refine Below.setCell ?_ (by first | omega | (simp; done) | (simp; omega)) _ | with_reducible refine Below.alloc ?_ (by first | omega | (simp; done) | (simp; omega)) _ | with_reducible refine below_drewN ?_ _ | with_reducible refine Below.drew ?_ | with_reducible refine Below.trans ?_ (Below.mono hbw (by first | omega | (simp; done) | (simp; omega))))), .inl ⟨HM5.out, rfl⟩⟩
          · have hj40 : (j3 : Int) ≤ 40 := by omega
            have AT3 := Lib.hid (AT.out j3 (w3.alloc (.cells (bxE x3 A3 c3) 24)) (by (repeat (first | with_reducible assumption | with_reducible exact Below.refl _ _ | with_reducible refine Below.setCell ?_ (by first | omega | (simp; done) | (simp; omega)) _ | with_reducible refine Below.alloc ?_ (by first | omega | (simp; done) | (simp; omega)) _ | with_reducible refine below_drewN ?_ _ | with_reducible refine Below.drew ?_ | with_reducible refine Below.trans ?_ (Below.mono hbw3 (by first | omega | (simp; done) | (simp; omega)))))))
            have HJ := Lib.hid (And.intro h6 h7)
            by_cases hc : (ws[j3]?).getD [] = [41]
            · obtain ⟨hl3, hsh⟩ := shutW_yes (st := true) (x := x3) hc
              have HM5 := Lib.hid (And.intro (show atomW true (D' + 1) (ws.drop i) = _ from (HM.out.trans (by rw [h5])).trans hsh) hl3)
              rw [hc] at AT3
              have hwj : IntKind.i64.wrap ((j3 : Int) + 1) = (j3 : Int) + 1 := wrap_small (by omega)
              clear h5 hbw3 hc hsh hl3 h6 h7
              go_wp2_with fail
              refine AT3.out.mono ?_
              rintro e _ ⟨rfl, rfl⟩
              go_wp2_with fail
              go_meet
              obtain ⟨hT, hbw, hB6, hB9, _⟩ := HY.out
              have hB9z := (((hB9.set_ 0 (.int .i64 x3.kind)).set_ 1 (.int .i64 x3.n)).set_ 2 (.string (bs x3.s))).set_ 3 (.slice A3 x3.kids.length c3)
              refine ⟨x3, A3, c3, j3 + 1, _, by go_num, ((((hB6.far (p := ⟨w.heap.size + 1, 0, none⟩) (by simp) _).far (p := ⟨w.heap.size + 1, 1, none⟩) (by simp) _).far (p := ⟨w.heap.size + 1, 2, none⟩) (by simp) _).far (p := ⟨w.heap.size + 1, 3, none⟩) (by simp) _).alloc _, Blk.alloc (by simpa [bxE] using hB9z) _, hs3x, ?_, by (repeat (first | with_reducible assumption | with_reducible exact Below.refl _ _ | with_reducible refine Below.setCell ?_ (by first | omega | (simp; done) | (simp; omega)) _ | with_reducible refine Below.alloc ?_ (by first | omega | (simp; done) | (simp; omega)) _ | with_reducible refine below_drewN ?_ _ | with_reducible refine Below.drew ?_ | with_reducible refine Below.trans ?_ (Below.mono hbw (by first | omega | (simp; done) | (simp; omega))))), by have := HJ.out; omega, by have := HM5.out.2; omega, Nat.le_refl _, HM5.out.1⟩
              exact ((((((hT.avoid (b := w.heap.size + 1) (.inl (by omega))).set_ (i := 0)).set_ (i := 1)).set_ (i := 2)).set_ (i := 3)).alloc _).widen (by omega) (by simp)
            · have HM5 := Lib.hid (show atomW true (D' + 1) (ws.drop i) = none by rw [HM.out, h5]; exact shutW_no hc)
              have hd : (((ws[j3]?).getD []) == [41]) = false := by simpa using hc
              generalize (ws[j3]?).getD [] = s3 at *
              clear h5 hbw3 hc h6 h7
              go_wp2_with fail
              refine AT3.out.mono ?_
              rintro e _ ⟨rfl, rfl⟩
              go_wp2_with fail
              refine bodyPost_ret (v := .tuple #[vX x3.kind x3.n x3.s (.slice A3 x3.kids.length c3), .int .i64 (-1)]) (by simp [results, Tryz.results192, go_sem, vX, y0, y1, y2, y3, hza]) rfl ?_
              obtain ⟨hT, hbw, _, _, _⟩ := HY.out
              exact ⟨x3, _, _, rfl, (((((hT.setN (b := w.heap.size) (by omega) 0 _).setN (b := w.heap.size) (by omega) 1 _).setN (b := w.heap.size) (by omega) 2 _).setN (b := w.heap.size) (by omega) 3 _).alloc _).widen (by omega) (by simp), by (repeat (first | with_reducible assumption | with_reducible exact Below.refl _ _ | with_reducible refine Below.setCell ?_ (by first | omega | (simp; done) | (simp; omega)) _ | with_reducible refine Below.alloc ?_ (by first | omega | (simp; done) | (simp; omega)) _ | with_reducible refine below_drewN ?_ _ | with_reducible refine Below.drew ?_ | with_reducible refine Below.trans ?_ (Below.mono hbw (by first | omega | (simp; done) | (simp; omega))))), .inl ⟨HM5.out, rfl⟩⟩
        · have hM : atomW true D (ws.drop i) = none := by
            by_cases hs0 : s = []
            · exact HDR.out.2 hs0
            · obtain ⟨hlt, hd⟩ := HDR.out.1 s rfl hs0
              rw [hd]
              by_cases h4 : s = [40]
              · subst h4
                obtain rfl : D = 0 := by
                  refine Decidable.byContradiction fun h => hbr ⟨rfl, by omega⟩
                simp [atomW]
              · rw [atomW_leaf h4, leafW, hnb, hnm]
                rfl
          have HM := Lib.hid hM
          by_cases h4 : s = [40]
          · subst h4
            obtain rfl : D = 0 := by
              refine Decidable.byContradiction fun h => hbr ⟨rfl, by omega⟩
            clear hM hbr hnb hnm
            go_wp2_with fail
            refine (L3.out _).mono ?_
            rintro e _ ⟨rfl, rfl⟩
            go_wp2_with fail
            refine (NM.out _).mono ?_
            rintro e _ ⟨rfl, rfl⟩
            go_wp2_with fail
            refine bodyPost_ret (v := .tuple #[.agg #[.int .i64 0, .int .i64 0, .string ⟨#[]⟩, .slice none 0 0], .int .i64 (-1)]) (by simp [results, Tryz.results192, go_sem]) rfl ?_
            exact default_end (by (repeat (first | with_reducible assumption | with_reducible exact Below.refl _ _ | with_reducible refine Below.setCell ?_ (by first | omega | (simp; done) | (simp; omega)) _ | with_reducible refine Below.alloc ?_ (by first | omega | (simp; done) | (simp; omega)) _ | with_reducible refine below_drewN ?_ _ | with_reducible refine Below.drew ?_))) HM.out
          · have hd4 : (s == [40]) = false := by simpa using h4
            clear hM hbr hnb hnm h4
            go_wp2_with fail
            refine (L3.out _).mono ?_
            rintro e _ ⟨rfl, rfl⟩
            go_wp2_with fail
            refine (NM.out _).mono ?_
            rintro e _ ⟨rfl, rfl⟩
            go_wp2_with fail
            refine bodyPost_ret (v := .tuple #[.agg #[.int .i64 0, .int .i64 0, .string ⟨#[]⟩, .slice none 0 0], .int .i64 (-1)]) (by simp [results, Tryz.results192, go_sem]) rfl ?_
            exact default_end (by (repeat (first | with_reducible assumption | with_reducible exact Below.refl _ _ | with_reducible refine Below.setCell ?_ (by first | omega | (simp; done) | (simp; omega)) _ | with_reducible refine Below.alloc ?_ (by first | omega | (simp; done) | (simp; omega)) _ | with_reducible refine below_drewN ?_ _ | with_reducible refine Below.drew ?_))) HM.out
      · rw [hnm] at NM
        obtain ⟨hlt, hd⟩ := HDR.out.1 s rfl (by rintro rfl; exact absurd hnm (by decide))
        have hne : s ≠ [40] := by rintro rfl; exact absurd hnm (by decide)
        have HM := Lib.hid (show atomW true D (ws.drop i) = asW true (ws.drop (i + 1)).length (.mk 2 0 s []) (ws.drop (i + 1)) by
          rw [hd, atomW_leaf hne, leafW, hnb, hnm]
          rfl)
        have HLT := Lib.hid hlt
        clear hnb hnm hd hne hlt
        go_wp2_with fail
        refine (L3.out _).mono ?_
        rintro e _ ⟨rfl, rfl⟩
        go_wp2_with fail
        refine (NM.out _).mono ?_
        rintro e _ ⟨rfl, rfl⟩
        go_wp2_with fail
        go_meet
        exact leaf_mid hsi HLT.out HM.out
    · rw [hnb] at L3
      have L12 := Lib.hid (fun w' => spNumS_any s w' hsi)
      obtain ⟨hlt, hd⟩ := HDR.out.1 s rfl (by rintro rfl; exact absurd hnb (by decide))
      have hne : s ≠ [40] := by rintro rfl; exact absurd hnb (by decide)
      have HM := Lib.hid (show atomW true D (ws.drop i) = asW true (ws.drop (i + 1)).length (.mk 1 (digVal s) [] []) (ws.drop (i + 1)) by
        rw [hd, atomW_leaf hne, leafW, if_pos hnb])
      have HNB := Lib.hid hnb
      have HLT := Lib.hid hlt
      clear hnb hd hne hlt
      go_wp2_with fail
      refine (L3.out _).mono ?_
      rintro e _ ⟨rfl, rfl⟩
      go_wp2_with fail
      refine (L12.out _).mono ?_
      rintro e _ ⟨n, ok, rfl, _, hnn, rfl⟩
      obtain ⟨rfl, rfl⟩ := hnn HNB.out
      clear hnn
      go_wp2_with fail
      go_meet
      exact leaf_mid (s := []) (by simp) HLT.out HM.out
  case rest =>
    obtain ⟨x0, A0, c0, j0, n0, rfl, hcut⟩ := hcut
    have HC := Lib.hid hcut
    clear hcut HDR AT0 HL hwi hsi
    generalize atomW true D (ws.drop i) = M at *
    go_wp2_with fail
    go_loopg [10] n0 (fun n s10 wr => ∃ (x : Ex) (A : Option Addr) (c j : Nat), s10 = .int .i64 (j : Int) ∧ Blk wr w.heap.size 24 zX ∧ Blk wr (w.heap.size + 1) 24 (bxE x A c) ∧ x.s.length ≤ 9223372036854775807 ∧
      TrN (w.heap.size + 1) (w.heap.size + 1) wr.heap.size wr (.agg (bxE x A c)) x ∧ Below w.heap.size w wr ∧ AsS M ws i x j n)
    case atStart => exact ⟨x0, A0, c0, j0, rfl, HC.out⟩
    case round =>
      clear HC
      obtain ⟨x, A, c, j, rfl, hB6, hB9, hsx, hT, hbw, hA⟩ := hrel
      have hza : w.heap.size < wr.heap.size := hB6.lt
      have hzb : w.heap.size + 1 < wr.heap.size := hB9.lt
      have HX := Lib.hid (And.intro hT (And.intro hbw (And.intro hA (And.intro hB6 hB9))))
      have z0 := hB6.frozen 0; have z1 := hB6.frozen 1; have z2 := hB6.frozen 2; have z3 := hB6.frozen 3
      have y0 := hB6.cell 0; have y1 := hB6.cell 1; have y2 := hB6.cell 2; have y3 := hB6.cell 3
      have u0 := hB9.frozen 0; have u1 := hB9.frozen 1; have u2 := hB9.frozen 2; have u3 := hB9.frozen 3
      have q0 := hB9.cell 0; have q1 := hB9.cell 1; have q2 := hB9.cell 2; have q3 := hB9.cell 3
      simp [zX] at y0 y1 y2 y3 q0 q1 q2 q3
      have hj40 : (j : Int) ≤ 40 := by have := hA.2.1; omega
      have A1 := Lib.hid (AT.out j wr hbw)
      have A2 := Lib.hid (AT.out (j + 1) wr hbw)
      rw [show ((j + 1 : Nat) : Int) = (j : Int) + 1 by omega] at A2
      have hwj : IntKind.i64.wrap ((j : Int) + 1) = (j : Int) + 1 := wrap_small (by omega)
      clear hT hbw hA hB6 hB9
      by_cases hs : (ws[j]?).getD [] = cAs
      rotate_left
      · have HS := Lib.hid hs
        have hd : (((ws[j]?).getD []) == cAs) = false := by simpa using hs
        have hd2 : (((ws[j]?).getD []) == [97, 115]) = false := hd
        generalize hg1 : (ws[j]?).getD [] = s1 at *
        have HG1 := Lib.hid hg1
        clear hs hg1
        go_wp2_with fail
        refine A1.out.mono ?_
        rintro e _ ⟨rfl, rfl⟩
        go_wp2_with fail
        refine bodyPost_ret (v := .tuple #[vX x.kind x.n x.s (.slice A x.kids.length c), .int .i64 (j : Int)]) (by simp [results, Tryz.results192, go_sem, vX, y0, y1, y2, y3, hza]) rfl ?_
        obtain ⟨hT, hbw, hA, _, _⟩ := HX.out
        exact ⟨x, _, _, rfl, ((((hT.trm.setN (b := w.heap.size) (by omega) 0 _).setN (b := w.heap.size) (by omega) 1 _).setN (b := w.heap.size) (by omega) 2 _).setN (b := w.heap.size) (by omega) 3 _).widen (by omega) (by simp), by (repeat (first | with_reducible assumption | with_reducible exact Below.refl _ _ | with_reducible refine Below.setCell ?_ (by first | omega | (simp; done) | (simp; omega)) _ | with_reducible refine Below.alloc ?_ (by first | omega | (simp; done) | (simp; omega)) _ | with_reducible refine below_drewN ?_ _ | with_reducible refine Below.drew ?_ | with_reducible refine Below.trans ?_ (Below.mono hbw (by first | omega | (simp; done) | (simp; omega))))), hA.stop (by rw [HG1.out]; exact HS.out)⟩
      · rw [hs] at A1
        have HS := Lib.hid hs
        obtain ⟨hlt, _⟩ := AsS.drop2 hs
        have h2s : ((ws[j + 1]?).getD []).length ≤ 100000000 := by
          by_cases hl2 : j + 1 < ws.length
          · rw [List.getElem?_eq_getElem hl2]
            exact HSL.out.1 _ (List.getElem_mem hl2)
          · rw [List.getElem?_eq_none (by omega)]
            simp
        have hl2' : typeB ((ws[j + 1]?).getD []) = true → j + 1 < ws.length := by
          intro h
          refine Decidable.byContradiction fun h3 => ?_
          rw [List.getElem?_eq_none (by omega)] at h
          revert h
          decide
        have HL2 := Lib.hid hl2'
        have hel : ∀ (h : j + 1 < ws.length), ∃ b o, Aw = some ⟨b, o, none⟩ ∧ b < w.heap.size ∧ (∀ (w' : World), Below w.heap.size w w' → w'.cell? ⟨b, o + (j + 1), none⟩ = some (.string (bs ((ws[j + 1]?).getD [])))) := by
          intro h
          obtain ⟨b, o, sq, hA, hb, hg, f⟩ := str_at (HV.out w (Below.refl _ _)) h
          refine ⟨b, o, hA, hb, fun w' hw => ?_⟩
          rw [hg]
          exact (hw.cell (p := ⟨b, o + (j + 1), none⟩) hb).trans (f ⟨w, Below.refl _ _⟩)
        have HEL := Lib.hid hel
        clear hs hl2' hel
        generalize hg2 : (ws[j + 1]?).getD [] = s2 at *
        have HG2 := Lib.hid hg2
        clear hg2
        have TY := Lib.hid (fun w' => spType_any s2 w')
        cases hty : typeB s2
        · have HT := Lib.hid hty
          rw [hty] at TY
          clear hty
          go_wp2_with fail
          refine A1.out.mono ?_
          rintro e _ ⟨rfl, rfl⟩
          go_wp2_with fail
          refine A2.out.mono ?_
          rintro e _ ⟨rfl, rfl⟩
          go_wp2_with fail
          refine (TY.out _).mono ?_
          rintro e _ ⟨rfl, rfl⟩
          go_wp2_with fail
          refine bodyPost_ret (v := .tuple #[vX x.kind x.n x.s (.slice A x.kids.length c), .int .i64 (-1)]) (by simp [results, Tryz.results192, go_sem, vX, y0, y1, y2, y3, hza]) rfl ?_
          obtain ⟨hT, hbw, hA, _, _⟩ := HX.out
          exact ⟨x, _, _, rfl, ((((hT.trm.setN (b := w.heap.size) (by omega) 0 _).setN (b := w.heap.size) (by omega) 1 _).setN (b := w.heap.size) (by omega) 2 _).setN (b := w.heap.size) (by omega) 3 _).widen (by omega) (by simp), by (repeat (first | with_reducible assumption | with_reducible exact Below.refl _ _ | with_reducible refine Below.setCell ?_ (by first | omega | (simp; done) | (simp; omega)) _ | with_reducible refine Below.alloc ?_ (by first | omega | (simp; done) | (simp; omega)) _ | with_reducible refine below_drewN ?_ _ | with_reducible refine Below.drew ?_ | with_reducible refine Below.trans ?_ (Below.mono hbw (by first | omega | (simp; done) | (simp; omega))))), .inl ⟨hA.bad HS.out (by rw [HG2.out]; exact HT.out), rfl⟩⟩
        · have HT := Lib.hid hty
          rw [hty] at TY
          have hl2 := HL2.out hty
          obtain ⟨bq, oq, rfl, hbq, fq⟩ := HEL.out hl2
          have gq := fq wr HX.out.2.1
          have hbq3 : bq < wr.heap.size := by omega
          have hltn : (j : Int) + 1 < (ws.length : Int) := by omega
          have hw2 : IntKind.i64.wrap ((j : Int) + 2) = (j : Int) + 2 := by rw [IntKind.wrap_i64]; omega
          obtain ⟨n3, hA3, hn3⟩ := HX.out.2.2.1.step HS.out (by rw [HG2.out]; exact hty)
          have HA3 := Lib.hid (And.intro hA3 hn3)
          have hj01 : (0 : Int) ≤ (j : Int) + 1 := by omega
          clear hty hA3 hn3 fq hl2
          go_wp2_with fail
          refine A1.out.mono ?_
          rintro e _ ⟨rfl, rfl⟩
          go_wp2_with fail
          refine A2.out.mono ?_
          rintro e _ ⟨rfl, rfl⟩
          go_wp2_with fail
          refine (TY.out _).mono ?_
          rintro e _ ⟨rfl, rfl⟩
          go_wp2_with fail
          go_region_law (fail)
          all_goals
            go_wp2_with fail
            go_roundg n3
            case measure => exact HA3.out.2
            case rel =>
              obtain ⟨hT, hbw, _, hB6, hB9⟩ := HX.out
              obtain ⟨e1, e2, e3, e4, e5⟩ := one_end (w := w) (s := s2) hT h2s hB6 hB9 hbw (by omega) (by omega) (by omega) _ rfl
              exact ⟨_, _, _, j + 2, by go_num, e1, e2, by show s2.length ≤ _; omega, e4, e5, by rw [← HG2.out]; exact HA3.out.1⟩
end Go.Proofs.YtgakjhaepdigpaaGreatDoor
