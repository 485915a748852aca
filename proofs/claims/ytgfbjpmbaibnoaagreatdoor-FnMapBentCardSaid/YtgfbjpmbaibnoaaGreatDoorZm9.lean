/- Plain Lean: how the text of a map ends, and what a map's text is read as. No program in sight, no condition. -/
import Derived.Test.YtgfbjpmbaibnoaaGreatDoorMapR
import Derived.Test.YtgfbjpmbaibnoaaGreatDoorZm10
import Derived.Test.YtgfbjpmbaibnoaaGreatDoorBas
import Derived.Test.YtgfbjpmbaibnoaaGreatDoorZm12
import Derived.Test.YtgfbjpmbaibnoaaGreatDoorWds
import Derived.Test.YtgfbjpmbaibnoaaGreatDoorStSp
import Derived.Test.YtgfbjpmbaibnoaaGreatDoorShf
namespace Go.Proofs.YtgfbjpmbaibnoaaGreatDoor
set_option maxRecDepth 100000
set_option linter.unusedSimpArgs false
set_option linter.unusedVariables false
open Go.RowKit

theorem digL_no3 : ∀ (n : Nat) (y : UInt8), y ∈ digL n → y ≠ 63 := by
  intro n
  induction n using Nat.strongRecOn with
  | _ n ih =>
    intro y hy
    by_cases h1 : n < 16
    · rw [digL_lt h1, List.mem_singleton] at hy
      subst hy
      intro e
      have := congrArg UInt8.toNat e
      rw [lo_toNat h1] at this
      simp at this
      omega
    · rw [digL_ge h1, List.mem_cons] at hy
      rcases hy with rfl | hy
      · intro e
        have := congrArg UInt8.toNat e
        rw [hi_toNat (Nat.mod_lt _ (by decide))] at this
        simp at this
        omega
      · exact ih (n / 16) (by omega) y hy
theorem textR_end : ∀ (l : List Sg) (first : Bool) (t : Sg), l ≠ [] → PosOk t.1 → PosOk t.2 → ChainOk t l → ∃ (x : Bytes) (n : Int), NumIn n ∧ textR first t l = x ++ numL n
  | [], _, _, h, _, _, _ => absurd rfl h
  | [s], first, t, _, h1, h2, hc => by
    obtain ⟨p1, p2, hle, _⟩ := hc
    unfold PosOk at h1 h2 p1 p2
    have n1 : NumIn (s.1.2 - (if t.1.1 < s.1.1 then 0 else t.1.2)) := by unfold NumIn; split <;> omega
    have n2 : NumIn (s.2.1 - t.2.1) := by unfold NumIn; omega
    have n3 : NumIn (s.2.2 - t.2.2) := by unfold NumIn; omega
    simp only [textR]
    unfold pieceL
    rw [nums3 n1 n2 n3, List.append_nil, ← List.append_assoc, ← List.append_assoc]
    exact ⟨_, _, n3, rfl⟩
  | s :: s' :: l, first, t, _, h1, h2, hc => by
    obtain ⟨p1, p2, hle, hc2⟩ := hc
    obtain ⟨x, n, hn, hx⟩ := textR_end (s' :: l) false s (by simp) p1 p2 hc2
    rw [textR, hx, ← List.append_assoc]
    exact ⟨_, _, hn, rfl⟩
theorem textL_noend {l : List Sg} (h : SegsOk l) {x : Bytes} {c : UInt8} (e : textL l = x ++ [c]) : c ≠ 61 ∧ c ≠ 44 ∧ c ≠ 63 := by
  obtain ⟨a1, a2, _⟩ := segsP_of h
  rw [textL_R] at e
  by_cases hl : l = []
  · subst hl
    simp [textR] at e
  obtain ⟨y, n, hn, hy⟩ := textR_end l true ((0, 0), (0, 0)) hl (by decide) (by decide) (chain_of l _ a1 (fun s hs => (a1 s hs).1.1) a2)
  rw [hy] at e
  rcases List.eq_nil_or_concat (numL n) with h0 | ⟨r, d, hr⟩
  · have := numL_pos hn
    rw [h0] at this
    simp at this
  · rw [hr, List.concat_eq_append, ← List.append_assoc] at e
    have hd : d = c := by have := List.append_inj_right' e rfl; simpa using this
    have hm : d ∈ numL n := by rw [hr, List.concat_eq_append]; simp
    have h3 := numL_no n d hm
    refine ⟨hd ▸ h3.1, hd ▸ h3.2, ?_⟩
    unfold numL at hm
    rw [if_pos hn] at hm
    exact hd ▸ digL_no3 _ _ hm
theorem rdMap_bent (s : Bytes) {c : UInt8} (hc : c = 61 ∨ c = 44 ∨ c = 63) : rdMap (s ++ [c]) = none := by
  cases hm : rdMap (s ++ [c]) with
  | none => rfl
  | some l =>
    obtain ⟨a, b, _⟩ := rdMap_iff.1 hm
    obtain ⟨h1, h2, h3⟩ := textL_noend a b
    rcases hc with rfl | rfl | rfl <;> contradiction
theorem rdMapB_bent (s : Bytes) {c : UInt8} (hc : c = 61 ∨ c = 44 ∨ c = 63) : rdMapB (s ++ [c]) = false := by unfold rdMapB; rw [rdMap_bent s hc]; rfl
theorem mapTextL_no {l : List Sg} (h : ¬ SegsOk l) : mapTextL l = [] := by unfold mapTextL; rw [segsOkB_no h]; rfl
theorem mapTextL_len (l : List Sg) : (mapTextL l).length ≤ 51200 := by
  by_cases h : SegsOk l
  · rw [mapTextL_yes h]
    have := textUp_len h l.length (Nat.le_refl _)
    have := h.2
    unfold textL
    omega
  · rw [mapTextL_no h]; simp
theorem rdMap_text {l : List Sg} (h : SegsOk l) (hl : (mapTextL l).length ≤ 20000) : rdMap (mapTextL l) = some l := by
  rw [mapTextL_yes h] at hl ⊢
  exact rdMap_yes hl h rfl
/-- what is read is right, and is written as the text -/
theorem rdMapB_text {s : Bytes} (h : rdMapB s = true) : SegsOk (rdMapL s) ∧ mapTextL (rdMapL s) = s := by
  unfold rdMapB at h
  unfold rdMapL
  cases hm : rdMap s with
  | none => rw [hm] at h; cases h
  | some l =>
    obtain ⟨a, b, _⟩ := rdMap_iff.1 hm
    exact ⟨a, by rw [Option.getD_some, mapTextL_yes a, b]⟩
theorem rdMapL_le (s : Bytes) : (rdMapL s).length ≤ 1280 := by
  unfold rdMapL
  cases h : rdMap s with
  | none => simp
  | some l => exact (rdMap_iff.1 h).1.2
end Go.Proofs.YtgfbjpmbaibnoaaGreatDoor


/- A text is cut at a byte: the reference's walk; the library's. -/
namespace Go.Proofs.YtgfbjpmbaibnoaaGreatDoor
set_option maxRecDepth 100000
set_option linter.unusedSimpArgs false
set_option linter.unusedVariables false
open Go.RowKit
attribute [local go_sem] bs_toList bs_get bs_size

theorem bs_extS (s : Bytes) (i j : Nat) : (bs s).extract i j = bs ((s.drop i).take (j - i)) := by
  apply ByteArray.ext
  rw [ByteArray.data_extract]
  simp [bs]
set_option maxHeartbeats 1000000 in
theorem spCut_text (s : Bytes) (c : UInt8) (w : World) (hs : s.length ≤ 100000) : Calls Tryz.prog 126 #[.string (bs s), .int .u8 (c.toNat : Int)] w fun e w' => ∃ u, e = .returned u ∧ GtS w.heap.size w' u (cutB c s) ∧ Below w.heap.size w w' := by
  go_enter Tryz.func126, Tryz.ntmps126
  go_wp2_with fail
  go_loopg [5, 6, 7] (s.length + 1) (fun n o f a wr => ∃ (fr i : Nat) (l0 : List Bytes), n = s.length + 1 - i ∧ i ≤ s.length + 1 ∧ a = .int .i64 (i : Int) ∧ f = .int .i64 (fr : Int) ∧ fr ≤ i ∧ GtS w.heap.size wr o l0 ∧ l0.length ≤ i ∧ Below w.heap.size w wr ∧ ((i ≤ s.length ∧ cutB c s = l0 ++ cutB c (s.drop fr) ∧ (∀ (t : Nat) (x : UInt8), fr ≤ t → t < i → s[t]? = some x → x ≠ c)) ∨ (i = s.length + 1 ∧ cutB c s = l0)))
  case atStart => exact ⟨0, 0, [], by omega, by omega, rfl, rfl, by omega, gt_empty strRow 1 9 w _ (Nat.le_refl _) (Below.refl _ _), by simp, by (repeat (first | with_reducible assumption | with_reducible exact Below.refl _ _ | with_reducible refine Below.setCell ?_ (by first | omega | (simp; done) | (simp; omega)) _ | with_reducible refine Below.alloc ?_ (by first | omega | (simp; done) | (simp; omega)) _ | with_reducible refine below_drewN ?_ _ | with_reducible refine Below.drew ?_)), .inl ⟨by omega, by simp, fun t x h1 h2 => by omega⟩⟩
  case round =>
    obtain ⟨fr, i, l0, hn, hi, rfl, rfl, hfi, hG, hl0, hbl, hor⟩ := hrel
    have HN := Lib.hid hn
    clear hn
    rcases hor with ⟨hle, hcut, hno⟩ | ⟨hend, hcut⟩
    · have HC := Lib.hid (And.intro hcut hno)
      clear hcut hno
      by_cases hlt : i < s.length
      · have hne : ((i : Int) == ((s.length : Nat) : Int)) = false := by rw [beq_eq_false_iff_ne]; omega
        have hne2 : ¬ i = s.length := by omega
        by_cases hc : s[i] = c
        · have hq : s[i].toNat = c.toNat := by rw [hc]
          have hq2 : ((s[i].toNat : Int) == (c.toNat : Int)) = true := by simp [hq]
          have HX := Lib.hid (cutB_at hfi (show s[i]? = some c by rw [List.getElem?_eq_getElem hlt, hc]) HC.out.2)
          have hx : (bs s).extract fr i = bs ((s.drop fr).take (i - fr)) := bs_extS s fr i
          generalize (s.drop fr).take (i - fr) = pc at *
          obtain ⟨Au, cu, rfl, _, _⟩ := hG.val
          have HG := Lib.hid hG
          have hz := hbl.size
          clear hc hG
          go_wp2_with (first | (at_builtin; refine app_plain rtStr (by rfl) (.tmp 26) (.tmp 31) (by rfl) w.heap.size (.slice Au l0.length cu) l0 (by rfl) (HG.out.ext (by (repeat (first | with_reducible assumption | with_reducible exact Below.refl _ _ | with_reducible refine Below.setCell ?_ (by first | omega | (simp; done) | (simp; omega)) _ | with_reducible refine Below.alloc ?_ (by first | omega | (simp; done) | (simp; omega)) _ | with_reducible refine below_drewN ?_ _ | with_reducible refine Below.drew ?_)))) ⟨wr.heap.size, 0, none⟩ 1 [pc] (by rfl) (World.news_of_block (heap_alloc_new wr _)) Nat.zero_lt_one (by simp; omega) (by simp; omega) ?_; intro g' cap' w3 hG3 hgr3 hat3) | fail)
          go_roundg (s.length + 1 - (i + 1))
          case measure => have := HN.out; omega
          case rel => exact ⟨i + 1, i + 1, _, rfl, by omega, by go_num, by go_num, by omega, hG3.len (by simp) rfl, by simp; omega, below_app (by (repeat (first | with_reducible assumption | with_reducible exact Below.refl _ _ | with_reducible refine Below.setCell ?_ (by first | omega | (simp; done) | (simp; omega)) _ | with_reducible refine Below.alloc ?_ (by first | omega | (simp; done) | (simp; omega)) _ | with_reducible refine below_drewN ?_ _ | with_reducible refine Below.drew ?_ | with_reducible refine Below.trans ?_ (Below.mono hbl (by first | omega | (simp; done) | (simp; omega)))))) hgr3 (fun q hq => (HG.out.lt hq).1) (by simp; omega), .inl ⟨by omega, by rw [HC.out.1, HX.out]; simp, fun t x h1 h2 => by omega⟩⟩
        · have HQ := Lib.hid hc
          have hq : ¬ s[i].toNat = c.toNat := fun h => hc (UInt8.toNat_inj.1 h)
          have hq2 : ((s[i].toNat : Int) == (c.toNat : Int)) = false := by simp; omega
          have HG := Lib.hid (And.intro hG hbl)
          clear hc hG hbl
          go_wp2_with fail
          go_roundg (s.length + 1 - (i + 1))
          case measure => have := HN.out; omega
          case rel => exact ⟨fr, i + 1, l0, rfl, by omega, by go_num, rfl, by omega, HG.out.1, by omega, HG.out.2, .inl ⟨by omega, HC.out.1, fun t x h1 h2 hx => by
            by_cases e : t = i
            · subst e
              rw [List.getElem?_eq_getElem hlt] at hx
              obtain rfl := Option.some.inj hx
              exact HQ.out
            · exact HC.out.2 t x h1 (by omega) hx⟩⟩
      · have hie : i = s.length := by omega
        have hne : ((i : Int) == ((s.length : Nat) : Int)) = true := by rw [beq_iff_eq]; omega
        have HX := Lib.hid (cutB_end (s := s) (c := c) (f := fr) (fun t x h1 h2 => HC.out.2 t x h1 (by omega)))
        have hx : (bs s).extract fr i = bs (s.drop fr) := by rw [bs_extS, List.take_of_length_le (by simp; omega)]
        generalize s.drop fr = pc at *
        obtain ⟨Au, cu, rfl, _, _⟩ := hG.val
        have HG := Lib.hid hG
        have hz := hbl.size
        have HI := Lib.hid hie
        clear hG hie
        go_wp2_with (first | (at_builtin; refine app_plain rtStr (by rfl) (.tmp 26) (.tmp 31) (by rfl) w.heap.size (.slice Au l0.length cu) l0 (by rfl) (HG.out.ext (by (repeat (first | with_reducible assumption | with_reducible exact Below.refl _ _ | with_reducible refine Below.setCell ?_ (by first | omega | (simp; done) | (simp; omega)) _ | with_reducible refine Below.alloc ?_ (by first | omega | (simp; done) | (simp; omega)) _ | with_reducible refine below_drewN ?_ _ | with_reducible refine Below.drew ?_)))) ⟨wr.heap.size, 0, none⟩ 1 [pc] (by rfl) (World.news_of_block (heap_alloc_new wr _)) Nat.zero_lt_one (by simp; omega) (by simp; omega) ?_; intro g' cap' w3 hG3 hgr3 hat3) | fail)
        go_roundg (s.length + 1 - (i + 1))
        case measure => have := HN.out; omega
        case rel => exact ⟨i + 1, i + 1, _, rfl, by omega, by go_num, by go_num, by omega, hG3.len (by simp) rfl, by simp; omega, below_app (by (repeat (first | with_reducible assumption | with_reducible exact Below.refl _ _ | with_reducible refine Below.setCell ?_ (by first | omega | (simp; done) | (simp; omega)) _ | with_reducible refine Below.alloc ?_ (by first | omega | (simp; done) | (simp; omega)) _ | with_reducible refine below_drewN ?_ _ | with_reducible refine Below.drew ?_ | with_reducible refine Below.trans ?_ (Below.mono hbl (by first | omega | (simp; done) | (simp; omega)))))) hgr3 (fun q hq => (HG.out.lt hq).1) (by simp; omega), .inr ⟨by have := HI.out; omega, by rw [HC.out.1, HX.out]⟩⟩
    · have HC := Lib.hid hcut
      have HI := Lib.hid hend
      have hgt : ¬ i ≤ s.length := by omega
      clear hcut hend
      go_wp2_with fail
      go_ret
      exact ⟨_, rfl, by rw [HC.out]; exact hG, hbl⟩
/-- the cell that the library reads ahead of a search -/
def MaxM (w : World) : Prop := ∃ m : Int, w.cell? ⟨1, 0, none⟩ = some (.int .i64 m)
theorem MaxM.keep {w w' : World} {B : Nat} (h : MaxM w) (hb : Below B w w') (hB : w.heap.size ≤ B) : MaxM w' := by
  obtain ⟨m, hm⟩ := h
  exact ⟨m, (hb.cell (p := ⟨_, 0, none⟩) (Nat.lt_of_lt_of_le (World.block_lt_of_cell? _ _ hm) hB)).trans hm⟩
theorem MaxM.ext {w w' : World} (h : MaxM w) (hb : Ext w w') : MaxM w' := h.keep hb (Nat.le_refl _)
theorem imSplit_any (s : Bytes) (c : UInt8) (w : World) (hs : s.length ≤ 100000000) (hm : MaxM w) : Calls Tryz.prog 119 #[.string (bs s), .string (bs [c])] w fun e w' => ∃ u, e = .returned u ∧ Fr strRow 1 9 w' w.heap.size u (cutB c s) ∧ Below w.heap.size w w' := by
  obtain ⟨m, hm⟩ := hm
  have h : Calls Tryz.prog 119 #[.string (bs s), .string (bs [c])] w fun e w' => e = .returned (.slice (some ⟨w.heap.size, 0, none⟩) (Lib.countB (bs s) (bs [c]) + 1) (Lib.countB (bs s) (bs [c]) + 1)) ∧ w' = w.alloc (.cells ((Lib.splitB (bs [c]) 0 (Lib.countB (bs s) (bs [c])) (bs s)).map Value.string).toArray 9) :=
    Any.strings_Split { Tryz.laysM146 with } Tryz.laysM146.i9 (bs s) (bs [c]) m w (by rw [bs_size]; omega) hm (by rw [bs_size]; simp)
  have e1 : Lib.countB (bs s) (bs [c]) = Lib.count s [c] := by
    show Lib.count (bs s).data.toList (bs [c]).data.toList = _
    rw [bs_data, bs_data]
  have e2 : (Lib.splitB (bs [c]) 0 (Lib.count s [c]) (bs s)).map (fun x => x.data.toList) = cutB c s := by
    rw [Lib.splitB_data, bs_data, bs_data, splitK_cut c s.length s (Nat.le_refl _)]
  have e3 : Lib.splitB (bs [c]) 0 (Lib.count s [c]) (bs s) = (cutB c s).map bs := by
    rw [← e2, List.map_map]
    conv => lhs; rw [← List.map_id (Lib.splitB (bs [c]) 0 (Lib.count s [c]) (bs s))]
    apply List.map_congr_left
    intro x _
    exact (bs_of x).symm
  have e4 : Lib.count s [c] + 1 = (cutB c s).length := by rw [Lib.count_one, cutB_len]
  have e5 : (cutB c s).length ≤ maxLen := by
    rw [← e4, Lib.count_one]
    have := List.count_le_length (a := c) (l := s)
    unfold maxLen
    omega
  rw [e1, e3, e4] at h
  refine h.mono ?_
  rintro e w' ⟨rfl, rfl⟩
  refine ⟨_, rfl, .inr ⟨w.heap.size, (cutB c s).length, _, rfl, Nat.le_refl _, Nat.le_refl _, e5, Blk.new _ _ _, fun i x hx j v hv => ?_⟩, (Below.refl _ _).alloc (Nat.le_refl _) _⟩
  have hj : j = 0 := by have := (List.getElem?_eq_some_iff.1 hv).1; simp [strRow] at this; omega
  subst hj
  simp [strRow] at hv
  subst hv
  simp [hx]
end Go.Proofs.YtgfbjpmbaibnoaaGreatDoor
