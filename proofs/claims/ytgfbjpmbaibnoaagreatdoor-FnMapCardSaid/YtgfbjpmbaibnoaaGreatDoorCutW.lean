
/- A text is cut at a byte: the reference's walk; the library's. -/
import Derived.Test.YtgfbjpmbaibnoaaGreatDoorZm9
import Derived.Test.YtgfbjpmbaibnoaaGreatDoorBas
import Derived.Test.YtgfbjpmbaibnoaaGreatDoorZm11
import Derived.Test.YtgfbjpmbaibnoaaGreatDoorWds
import Derived.Test.YtgfbjpmbaibnoaaGreatDoorStSp
import Derived.Test.YtgfbjpmbaibnoaaGreatDoorShf
namespace Go.Proofs.YtgfbjpmbaibnoaaGreatDoor
set_option maxRecDepth 100000
set_option linter.unusedSimpArgs false
set_option linter.unusedVariables false
open Go.RowKit
attribute [local go_sem] bs_toList bs_get bs_size

theorem bs_extS (s : Bytes) (i j : Nat) : (bs s).extract i j = bs ((s.drop i).take (j - i)) := by
  apply ByteArray.ext
  rw [ByteArray.data_extract]
  simp [bs]
set_option maxHeartbeats 1000000 in
theorem spCut_text (s : Bytes) (c : UInt8) (w : World) (hs : s.length ≤ 100000) : Calls Tryz.prog 126 #[.string (bs s), .int .u8 (c.toNat : Int)] w fun e w' => ∃ u, e = .returned u ∧ GtS w.heap.size w' u (cutB c s) ∧ Below w.heap.size w w' := by
  go_enter Tryz.func126, Tryz.ntmps126
  go_wp2_with fail
  go_loopg [5, 6, 7] (s.length + 1) (fun n o f a wr => ∃ (fr i : Nat) (l0 : List Bytes), n = s.length + 1 - i ∧ i ≤ s.length + 1 ∧ a = .int .i64 (i : Int) ∧ f = .int .i64 (fr : Int) ∧ fr ≤ i ∧ GtS w.heap.size wr o l0 ∧ l0.length ≤ i ∧ Below w.heap.size w wr ∧ ((i ≤ s.length ∧ cutB c s = l0 ++ cutB c (s.drop fr) ∧ (∀ (t : Nat) (x : UInt8), fr ≤ t → t < i → s[t]? = some x → x ≠ c)) ∨ (i = s.length + 1 ∧ cutB c s = l0)))
  case atStart => exact ⟨0, 0, [], by omega, by omega, rfl, rfl, by omega, gt_empty strRow 1 9 w _ (Nat.le_refl _) (Below.refl _ _), by simp, by (repeat (first | with_reducible assumption | with_reducible exact Below.refl _ _ | with_reducible refine Below.setCell ?_ (by first | omega | (simp; done) | (simp; omega)) _ | with_reducible refine Below.alloc ?_ (by first | omega | (simp; done) | (simp; omega)) _ | with_reducible refine below_drewN ?_ _ | with_reducible refine Below.drew ?_)), .inl ⟨by omega, by simp, fun t x h1 h2 => by omega⟩⟩
  case round =>
    obtain ⟨fr, i, l0, hn, hi, rfl, rfl, hfi, hG, hl0, hbl, hor⟩ := hrel
    have HN := Lib.hid hn
    clear hn
    rcases hor with ⟨hle, hcut, hno⟩ | ⟨hend, hcut⟩
    · have HC := Lib.hid (And.intro hcut hno)
      clear hcut hno
      by_cases hlt : i < s.length
      · have hne : ((i : Int) == ((s.length : Nat) : Int)) = false := by rw [beq_eq_false_iff_ne]; omega
        have hne2 : ¬ i = s.length := by omega
        by_cases hc : s[i] = c
        · have hq : s[i].toNat = c.toNat := by rw [hc]
          have hq2 : ((s[i].toNat : Int) == (c.toNat : Int)) = true := by simp [hq]
          have HX := Lib.hid (cutB_at hfi (show s[i]? = some c by rw [List.getElem?_eq_getElem hlt, hc]) HC.out.2)
          have hx : (bs s).extract fr i = bs ((s.drop fr).take (i - fr)) := bs_extS s fr i
          generalize (s.drop fr).take (i - fr) = pc at *
          obtain ⟨Au, cu, rfl, _, _⟩ := hG.val
          have HG := Lib.hid hG
          have hz := hbl.size
          clear hc hG
          go_wp2_with (first | (at_builtin; refine app_plain rtStr (by rfl) (.tmp 26) (.tmp 31) (by rfl) w.heap.size (.slice Au l0.length cu) l0 (by rfl) (HG.out.ext (by (repeat (first | with_reducible assumption | with_reducible exact Below.refl _ _ | with_reducible refine Below.setCell ?_ (by first | omega | (simp; done) | (simp; omega)) _ | with_reducible refine Below.alloc ?_ (by first | omega | (simp; done) | (simp; omega)) _ | with_reducible refine below_drewN ?_ _ | with_reducible refine Below.drew ?_)))) ⟨wr.heap.size, 0, none⟩ 1 [pc] (by rfl) (World.news_of_block (heap_alloc_new wr _)) Nat.zero_lt_one (by simp; omega) (by simp; omega) ?_; intro g' cap' w3 hG3 hgr3 hat3) | fail)
          go_roundg (s.length + 1 - (i + 1))
          case measure => have := HN.out; omega
          case rel => exact ⟨i + 1, i + 1, _, rfl, by omega, by go_num, by go_num, by omega, hG3.len (by simp) rfl, by simp; omega, below_app (by (repeat (first | with_reducible assumption | with_reducible exact Below.refl _ _ | with_reducible refine Below.setCell ?_ (by first | omega | (simp; done) | (simp; omega)) _ | with_reducible refine Below.alloc ?_ (by first | omega | (simp; done) | (simp; omega)) _ | with_reducible refine below_drewN ?_ _ | with_reducible refine Below.drew ?_ | with_reducible refine Below.trans ?_ (Below.mono hbl (by first | omega | (simp; done) | (simp; omega)))))) hgr3 (fun q hq => (HG.out.lt hq).1) (by simp; omega), .inl ⟨by omega, by rw [HC.out.1, HX.out]; simp, fun t x h1 h2 => by omega⟩⟩
        · have HQ := Lib.hid hc
          have hq : ¬ s[i].toNat = c.toNat := fun h => hc (UInt8.toNat_inj.1 h)
          have hq2 : ((s[i].toNat : Int) == (c.toNat : Int)) = false := by simp; omega
          have HG := Lib.hid (And.intro hG hbl)
          clear hc hG hbl
          go_wp2_with fail
          go_roundg (s.length + 1 - (i + 1))
          case measure => have := HN.out; omega
          case rel => exact ⟨fr, i + 1, l0, rfl, by omega, by go_num, rfl, by omega, HG.out.1, by omega, HG.out.2, .inl ⟨by omega, HC.out.1, fun t x h1 h2 hx => by
            by_cases e : t = i
            · subst e
              rw [List.getElem?_eq_getElem hlt] at hx
              obtain rfl := Option.some.inj hx
              exact HQ.out
            · exact HC.out.2 t x h1 (by omega) hx⟩⟩
      · have hie : i = s.length := by omega
        have hne : ((i : Int) == ((s.length : Nat) : Int)) = true := by rw [beq_iff_eq]; omega
        have HX := Lib.hid (cutB_end (s := s) (c := c) (f := fr) (fun t x h1 h2 => HC.out.2 t x h1 (by omega)))
        have hx : (bs s).extract fr i = bs (s.drop fr) := by rw [bs_extS, List.take_of_length_le (by simp; omega)]
        generalize s.drop fr = pc at *
        obtain ⟨Au, cu, rfl, _, _⟩ := hG.val
        have HG := Lib.hid hG
        have hz := hbl.size
        have HI := Lib.hid hie
        clear hG hie
        go_wp2_with (first | (at_builtin; refine app_plain rtStr (by rfl) (.tmp 26) (.tmp 31) (by rfl) w.heap.size (.slice Au l0.length cu) l0 (by rfl) (HG.out.ext (by (repeat (first | with_reducible assumption | with_reducible exact Below.refl _ _ | with_reducible refine Below.setCell ?_ (by first | omega | (simp; done) | (simp; omega)) _ | with_reducible refine Below.alloc ?_ (by first | omega | (simp; done) | (simp; omega)) _ | with_reducible refine below_drewN ?_ _ | with_reducible refine Below.drew ?_)))) ⟨wr.heap.size, 0, none⟩ 1 [pc] (by rfl) (World.news_of_block (heap_alloc_new wr _)) Nat.zero_lt_one (by simp; omega) (by simp; omega) ?_; intro g' cap' w3 hG3 hgr3 hat3) | fail)
        go_roundg (s.length + 1 - (i + 1))
        case measure => have := HN.out; omega
        case rel => exact ⟨i + 1, i + 1, _, rfl, by omega, by go_num, by go_num, by omega, hG3.len (by simp) rfl, by simp; omega, below_app (by (repeat (first | with_reducible assumption | with_reducible exact Below.refl _ _ | with_reducible refine Below.setCell ?_ (by first | omega | (simp; done) | (simp; omega)) _ | with_reducible refine Below.alloc ?_ (by first | omega | (simp; done) | (simp; omega)) _ | with_reducible refine below_drewN ?_ _ | with_reducible refine Below.drew ?_ | with_reducible refine Below.trans ?_ (Below.mono hbl (by first | omega | (simp; done) | (simp; omega)))))) hgr3 (fun q hq => (HG.out.lt hq).1) (by simp; omega), .inr ⟨by have := HI.out; omega, by rw [HC.out.1, HX.out]⟩⟩
    · have HC := Lib.hid hcut
      have HI := Lib.hid hend
      have hgt : ¬ i ≤ s.length := by omega
      clear hcut hend
      go_wp2_with fail
      go_ret
      exact ⟨_, rfl, by rw [HC.out]; exact hG, hbl⟩
/-- the cell that the library reads ahead of a search -/
def MaxM (w : World) : Prop := ∃ m : Int, w.cell? ⟨1, 0, none⟩ = some (.int .i64 m)
theorem MaxM.keep {w w' : World} {B : Nat} (h : MaxM w) (hb : Below B w w') (hB : w.heap.size ≤ B) : MaxM w' := by
  obtain ⟨m, hm⟩ := h
  exact ⟨m, (hb.cell (p := ⟨_, 0, none⟩) (Nat.lt_of_lt_of_le (World.block_lt_of_cell? _ _ hm) hB)).trans hm⟩
theorem MaxM.ext {w w' : World} (h : MaxM w) (hb : Ext w w') : MaxM w' := h.keep hb (Nat.le_refl _)
theorem imSplit_any (s : Bytes) (c : UInt8) (w : World) (hs : s.length ≤ 100000000) (hm : MaxM w) : Calls Tryz.prog 119 #[.string (bs s), .string (bs [c])] w fun e w' => ∃ u, e = .returned u ∧ Fr strRow 1 9 w' w.heap.size u (cutB c s) ∧ Below w.heap.size w w' := by
  obtain ⟨m, hm⟩ := hm
  have h : Calls Tryz.prog 119 #[.string (bs s), .string (bs [c])] w fun e w' => e = .returned (.slice (some ⟨w.heap.size, 0, none⟩) (Lib.countB (bs s) (bs [c]) + 1) (Lib.countB (bs s) (bs [c]) + 1)) ∧ w' = w.alloc (.cells ((Lib.splitB (bs [c]) 0 (Lib.countB (bs s) (bs [c])) (bs s)).map Value.string).toArray 9) :=
    Any.strings_Split { Tryz.laysM146 with } Tryz.laysM146.i9 (bs s) (bs [c]) m w (by rw [bs_size]; omega) hm (by rw [bs_size]; simp)
  have e1 : Lib.countB (bs s) (bs [c]) = Lib.count s [c] := by
    show Lib.count (bs s).data.toList (bs [c]).data.toList = _
    rw [bs_data, bs_data]
  have e2 : (Lib.splitB (bs [c]) 0 (Lib.count s [c]) (bs s)).map (fun x => x.data.toList) = cutB c s := by
    rw [Lib.splitB_data, bs_data, bs_data, splitK_cut c s.length s (Nat.le_refl _)]
  have e3 : Lib.splitB (bs [c]) 0 (Lib.count s [c]) (bs s) = (cutB c s).map bs := by
    rw [← e2, List.map_map]
    conv => lhs; rw [← List.map_id (Lib.splitB (bs [c]) 0 (Lib.count s [c]) (bs s))]
    apply List.map_congr_left
    intro x _
    exact (bs_of x).symm
  have e4 : Lib.count s [c] + 1 = (cutB c s).length := by rw [Lib.count_one, cutB_len]
  have e5 : (cutB c s).length ≤ maxLen := by
    rw [← e4, Lib.count_one]
    have := List.count_le_length (a := c) (l := s)
    unfold maxLen
    omega
  rw [e1, e3, e4] at h
  refine h.mono ?_
  rintro e w' ⟨rfl, rfl⟩
  refine ⟨_, rfl, .inr ⟨w.heap.size, (cutB c s).length, _, rfl, Nat.le_refl _, Nat.le_refl _, e5, Blk.new _ _ _, fun i x hx j v hv => ?_⟩, (Below.refl _ _).alloc (Nat.le_refl _) _⟩
  have hj : j = 0 := by have := (List.getElem?_eq_some_iff.1 hv).1; simp [strRow] at this; omega
  subst hj
  simp [strRow] at hv
  subst hv
  simp [hx]
end Go.Proofs.YtgfbjpmbaibnoaaGreatDoor
