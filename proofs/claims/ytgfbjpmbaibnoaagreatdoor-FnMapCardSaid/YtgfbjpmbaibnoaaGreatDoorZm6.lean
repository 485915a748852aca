/- Plain Lean: how the text of a map ends, and what a map's text is read as. No program in sight, no condition. -/
import Derived.Test.YtgfbjpmbaibnoaaGreatDoorMapR
import Derived.Test.YtgfbjpmbaibnoaaGreatDoorZm9
import Derived.Test.YtgfbjpmbaibnoaaGreatDoorTxts
import Derived.Test.YtgfbjpmbaibnoaaGreatDoorTokQ
namespace Go.Proofs.YtgfbjpmbaibnoaaGreatDoor
set_option maxRecDepth 100000
set_option linter.unusedSimpArgs false
set_option linter.unusedVariables false
open Go.RowKit

theorem digL_no3 : ∀ (n : Nat) (y : UInt8), y ∈ digL n → y ≠ 63 := by
  intro n
  induction n using Nat.strongRecOn with
  | _ n ih =>
    intro y hy
    by_cases h1 : n < 16
    · rw [digL_lt h1, List.mem_singleton] at hy
      subst hy
      intro e
      have := congrArg UInt8.toNat e
      rw [lo_toNat h1] at this
      simp at this
      omega
    · rw [digL_ge h1, List.mem_cons] at hy
      rcases hy with rfl | hy
      · intro e
        have := congrArg UInt8.toNat e
        rw [hi_toNat (Nat.mod_lt _ (by decide))] at this
        simp at this
        omega
      · exact ih (n / 16) (by omega) y hy
theorem textR_end : ∀ (l : List Sg) (first : Bool) (t : Sg), l ≠ [] → PosOk t.1 → PosOk t.2 → ChainOk t l → ∃ (x : Bytes) (n : Int), NumIn n ∧ textR first t l = x ++ numL n
  | [], _, _, h, _, _, _ => absurd rfl h
  | [s], first, t, _, h1, h2, hc => by
    obtain ⟨p1, p2, hle, _⟩ := hc
    unfold PosOk at h1 h2 p1 p2
    have n1 : NumIn (s.1.2 - (if t.1.1 < s.1.1 then 0 else t.1.2)) := by unfold NumIn; split <;> omega
    have n2 : NumIn (s.2.1 - t.2.1) := by unfold NumIn; omega
    have n3 : NumIn (s.2.2 - t.2.2) := by unfold NumIn; omega
    simp only [textR]
    unfold pieceL
    rw [nums3 n1 n2 n3, List.append_nil, ← List.append_assoc, ← List.append_assoc]
    exact ⟨_, _, n3, rfl⟩
  | s :: s' :: l, first, t, _, h1, h2, hc => by
    obtain ⟨p1, p2, hle, hc2⟩ := hc
    obtain ⟨x, n, hn, hx⟩ := textR_end (s' :: l) false s (by simp) p1 p2 hc2
    rw [textR, hx, ← List.append_assoc]
    exact ⟨_, _, hn, rfl⟩
theorem textL_noend {l : List Sg} (h : SegsOk l) {x : Bytes} {c : UInt8} (e : textL l = x ++ [c]) : c ≠ 61 ∧ c ≠ 44 ∧ c ≠ 63 := by
  obtain ⟨a1, a2, _⟩ := segsP_of h
  rw [textL_R] at e
  by_cases hl : l = []
  · subst hl
    simp [textR] at e
  obtain ⟨y, n, hn, hy⟩ := textR_end l true ((0, 0), (0, 0)) hl (by decide) (by decide) (chain_of l _ a1 (fun s hs => (a1 s hs).1.1) a2)
  rw [hy] at e
  rcases List.eq_nil_or_concat (numL n) with h0 | ⟨r, d, hr⟩
  · have := numL_pos hn
    rw [h0] at this
    simp at this
  · rw [hr, List.concat_eq_append, ← List.append_assoc] at e
    have hd : d = c := by have := List.append_inj_right' e rfl; simpa using this
    have hm : d ∈ numL n := by rw [hr, List.concat_eq_append]; simp
    have h3 := numL_no n d hm
    refine ⟨hd ▸ h3.1, hd ▸ h3.2, ?_⟩
    unfold numL at hm
    rw [if_pos hn] at hm
    exact hd ▸ digL_no3 _ _ hm
theorem rdMap_bent (s : Bytes) {c : UInt8} (hc : c = 61 ∨ c = 44 ∨ c = 63) : rdMap (s ++ [c]) = none := by
  cases hm : rdMap (s ++ [c]) with
  | none => rfl
  | some l =>
    obtain ⟨a, b, _⟩ := rdMap_iff.1 hm
    obtain ⟨h1, h2, h3⟩ := textL_noend a b
    rcases hc with rfl | rfl | rfl <;> contradiction
theorem rdMapB_bent (s : Bytes) {c : UInt8} (hc : c = 61 ∨ c = 44 ∨ c = 63) : rdMapB (s ++ [c]) = false := by unfold rdMapB; rw [rdMap_bent s hc]; rfl
theorem mapTextL_no {l : List Sg} (h : ¬ SegsOk l) : mapTextL l = [] := by unfold mapTextL; rw [segsOkB_no h]; rfl
theorem mapTextL_len (l : List Sg) : (mapTextL l).length ≤ 51200 := by
  by_cases h : SegsOk l
  · rw [mapTextL_yes h]
    have := textUp_len h l.length (Nat.le_refl _)
    have := h.2
    unfold textL
    omega
  · rw [mapTextL_no h]; simp
theorem rdMap_text {l : List Sg} (h : SegsOk l) (hl : (mapTextL l).length ≤ 20000) : rdMap (mapTextL l) = some l := by
  rw [mapTextL_yes h] at hl ⊢
  exact rdMap_yes hl h rfl
/-- what is read is right, and is written as the text -/
theorem rdMapB_text {s : Bytes} (h : rdMapB s = true) : SegsOk (rdMapL s) ∧ mapTextL (rdMapL s) = s := by
  unfold rdMapB at h
  unfold rdMapL
  cases hm : rdMap s with
  | none => rw [hm] at h; cases h
  | some l =>
    obtain ⟨a, b, _⟩ := rdMap_iff.1 hm
    exact ⟨a, by rw [Option.getD_some, mapTextL_yes a, b]⟩
theorem rdMapL_le (s : Bytes) : (rdMapL s).length ≤ 1280 := by
  unfold rdMapL
  cases h : rdMap s with
  | none => simp
  | some l => exact (rdMap_iff.1 h).1.2
end Go.Proofs.YtgfbjpmbaibnoaaGreatDoor


/- Texts of maps that are drawn, one in two torn: the drawers. -/
namespace Go.Proofs.YtgfbjpmbaibnoaaGreatDoor
set_option maxRecDepth 100000
set_option linter.unusedSimpArgs false
set_option linter.unusedVariables false
open Go.RowKit
attribute [local go_sem] bs_toList bs_get bs_size

theorem drawMText_any (v : Value) (l : List Int) (w : World) (hv : CodeV w v l) : Calls Tryz.prog 50 #[v] w (DrewM w) := by
  have OP := Lib.hid (l12Open_any v l w hv)
  obtain ⟨A, c, rfl, hc, hm⟩ := hv.1.val
  clear hv
  go_enter Tryz.func50, Tryz.ntmps50
  go_wp2_with fail
  refine OP.out.mono ?_
  rintro r w1 ⟨rfl, hR, hb1⟩
  go_wp2_with fail
  refine (l8Bent_any _ _ _ hR (by omega)).mono ?_
  rintro r w2 ⟨u, m, p2, rfl, hG, hml, hR2, hp2, hg2⟩
  have hr1 := hR.lt
  have hz := hb1.size
  have HX := Lib.hid (And.intro hG (And.intro hb1 hg2))
  clear hG hR2 hg2 hb1 hR
  go_wp2_with fail
  go_ret
  exact ⟨_, m, rfl, HX.out.1.less hz, hml, HX.out.2.1.trans (below_of_grown HX.out.2.2 (Nat.le_refl _) hr1)⟩
def DrewT (w : World) (e : Ending) (w' : World) : Prop := ∃ s : Bytes, e = .returned (.string (bs s)) ∧ s.length ≤ 100000000 ∧ Below w.heap.size w w'
def tornL : List Bytes := [[], [97], [61], [44], [65], [99], [122], [97, 97, 97]]
def tornA : Array Value := #[.string ⟨#[]⟩, .string ⟨#[97]⟩, .string ⟨#[61]⟩, .string ⟨#[44]⟩, .string ⟨#[65]⟩, .string ⟨#[99]⟩, .string ⟨#[122]⟩, .string ⟨#[97, 97, 97]⟩]
theorem torn_of (rb p g : Nat) (w : World) (h : Rd w rb p) (hp : p ≤ 1000000) (hg : g ≠ rb) (hb : Blk w g 9 tornA) :
    Calls Tryz.prog 125 #[.pointer (some ⟨rb, 0, none⟩), .slice (some ⟨g, 0, none⟩) 8 8] w (PickedS rb p tornL w) := of_any rb p g tornL w h hp (by decide) (by decide) hg hb
theorem torn_len {s : Bytes} (h : s ∈ tornL) : s.length ≤ 3 := by simp [tornL] at h; rcases h with rfl | rfl | rfl | rfl | rfl | rfl | rfl | rfl <;> simp
theorem torn_form (tx s : Bytes) (i j k n : Nat) (h : tx.length ≤ 51200) (hs : s.length ≤ 3) : ∃ x : Bytes, (bs tx).extract i j ++ bs s ++ (bs tx).extract k n = bs x ∧ x.length ≤ 100000000 := by
  rw [bs_ext, bs_ext, bs_append, bs_append]
  refine ⟨_, rfl, ?_⟩
  simp only [List.length_append, List.length_take, List.length_drop]
  omega
set_option maxHeartbeats 2000000 in
theorem drawMRead_any (v : Value) (l : List Int) (w : World) (hv : CodeV w v l) : Calls Tryz.prog 53 #[v] w (DrewT w) := by
  have OP := Lib.hid (l12Open_any v l w hv)
  obtain ⟨A, c, rfl, hc, hm⟩ := hv.1.val
  clear hv
  go_enter Tryz.func53, Tryz.ntmps53
  go_wp2_with fail
  refine OP.out.mono ?_
  rintro r w1 ⟨rfl, hR, hb1⟩
  have hr1 := hR.lt
  have hz := hb1.size
  go_wp2_with fail
  refine (l8Bent_any _ _ _ hR (by omega)).mono ?_
  rintro r w2 ⟨u, m, p2, rfl, hG, hml, hR2, hp2, hg2⟩
  have hbw2 : Below w.heap.size w w2 := hb1.trans (below_of_grown hg2 (Nat.le_refl _) hr1)
  have TS := Lib.hid (spText_any _ m w2 (hG.sl (fun _ => rfl)))
  have htl := mapTextL_len m
  generalize mapTextL m = tx at *
  obtain ⟨Au, cu, rfl, _, _⟩ := hG.val
  clear hG hg2 hb1 hR
  go_wp2_with fail
  refine TS.out.mono ?_
  rintro r w3 ⟨rfl, hb3⟩
  have hR3 : Rd w3 w.heap.size p2 := hR2.grown (bl_grown hb3 none) (fun q e => by cases e)
  have hbw3 := hbw2.ext hb3
  clear hR2
  by_cases h0 : tx.length = 0
  · obtain rfl : tx = [] := List.length_eq_zero_iff.1 h0
    go_wp2_with fail
    go_ret
    exact ⟨[], rfl, by simp, hbw3⟩
  have hne0 : (((tx.length : Nat) : Int) == 0) = false := by rw [beq_eq_false_iff_ne]; omega
  go_wp2_with fail
  refine (pick_any _ _ 2 _ hR3 (by omega) (by omega) (by omega)).mono ?_
  rintro r w4 ⟨k4, rfl, hk4, hk4', hR4, hg4⟩
  have hbw4 : Below w.heap.size w w4 := hbw3.trans (below_of_grown hg4 (Nat.le_refl _) hR3.lt)
  clear hR3 hg4
  by_cases hk0 : k4 = 0
  · subst hk0
    go_wp2_with fail
    go_ret
    exact ⟨tx, rfl, by omega, hbw4⟩
  have hne4 : (k4 == 0) = false := by rw [beq_eq_false_iff_ne]; exact hk0
  go_wp2_with fail
  refine (pick_any _ _ tx.length _ hR4 (by omega) (by omega) (by omega)).mono ?_
  rintro r w5 ⟨k5, rfl, hk5, hk5', hR5, hg5⟩
  have hbw5 : Below w.heap.size w w5 := hbw4.trans (below_of_grown hg5 (Nat.le_refl _) hR4.lt)
  obtain ⟨k, rfl⟩ := Int.eq_ofNat_of_zero_le hk5
  have hr5 := hR5.lt
  have HX := Lib.hid (And.intro hbw5 hR5)
  clear hR4 hg5 hR5 hbw5 hk5 hbw4 hbw3 hbw2 hb3 hne4 hk0 hne0
  have hkn : k < tx.length := by omega
  have hkl : k ≤ tx.length := by omega
  have d1 : decide (0 ≤ (k : Int)) = true := by simp
  have d2 : decide ((k : Int) ≤ (tx.length : Int)) = true := by rw [decide_eq_true_eq]; omega
  go_upto_region 6 with fail
  go_region_law
    (first
      | (go_simp; go_at_call 125; refine (torn_of w.heap.size _ w5.heap.size (w5.alloc (.cells tornA 9)) (HX.out.2.alloc _) (by omega) (by omega) (Blk.new _ _ _)).mono ?_; rintro r w6 ⟨s6, rfl, hs6, hR6, hg6⟩; have h56 : w5.grownBy w6 (some w.heap.size) := (by (repeat (first | with_reducible assumption | with_reducible exact grown_rfl _ _ | with_reducible refine grown_al ?_ _ | with_reducible refine grown_sn ?_ (by first | omega | (simp; done) | (simp; omega)) _ _ | with_reducible refine grown_dr ?_ | with_reducible refine grown_tr ?_ hg6))); have hs6l := torn_len hs6; have hz6 : ¬ 9223372036854775807 < k + s6.length := (by omega))
      | (go_simp; go_at_call 125; refine (torn_of w.heap.size _ w5.heap.size (w5.alloc (.cells tornA 9)).drew (HX.out.2.alloc _).drew (by omega) (by omega) (Blk.new _ _ _).drew).mono ?_; rintro r w6 ⟨s6, rfl, hs6, hR6, hg6⟩; have h56 : w5.grownBy w6 (some w.heap.size) := (by (repeat (first | with_reducible assumption | with_reducible exact grown_rfl _ _ | with_reducible refine grown_al ?_ _ | with_reducible refine grown_sn ?_ (by first | omega | (simp; done) | (simp; omega)) _ _ | with_reducible refine grown_dr ?_ | with_reducible refine grown_tr ?_ hg6))); have hs6l := torn_len hs6; have hz6 : ¬ 9223372036854775807 < k + s6.length := (by omega))
      | (go_simp; go_at_call 125; refine (torn_of w.heap.size _ w5.heap.size (w5.drew.alloc (.cells tornA 9)) (HX.out.2.drew.alloc _) (by omega) (by omega) (Blk.new _ _ _)).mono ?_; rintro r w6 ⟨s6, rfl, hs6, hR6, hg6⟩; have h56 : w5.grownBy w6 (some w.heap.size) := (by (repeat (first | with_reducible assumption | with_reducible exact grown_rfl _ _ | with_reducible refine grown_al ?_ _ | with_reducible refine grown_sn ?_ (by first | omega | (simp; done) | (simp; omega)) _ _ | with_reducible refine grown_dr ?_ | with_reducible refine grown_tr ?_ hg6))); have hs6l := torn_len hs6; have hz6 : ¬ 9223372036854775807 < k + s6.length := (by omega))
      | (go_simp; go_at_call 110; refine (pick_any w.heap.size _ 2 w6 hR6 (by omega) (by omega) (by omega)).mono ?_; rintro r w7 ⟨k7, rfl, hk7, hk7', hR7, hg7⟩; obtain ⟨j, rfl⟩ := Int.eq_ofNat_of_zero_le hk7; have e1 : IntKind.i64.wrap ((k : Int) + (j : Int)) = ((k + j : Nat) : Int) := (by rw [IntKind.wrap_i64] <;> omega); have e2 : decide (((k + j : Nat) : Int) ≤ (tx.length : Int)) = true := (by rw [decide_eq_true_eq]; omega); have e4 : k + j ≤ tx.length := (by omega); have e3 : decide ((0 : Int) ≤ ((k + j : Nat) : Int)) = true := (by rw [decide_eq_true_eq]; omega); have hz7 : ¬ 9223372036854775807 < k + s6.length + (tx.length - (k + j)) := (by omega); have e5 : (0 : Int) ≤ (k : Int) + (j : Int) := (by omega); have e6 : (k : Int) + (j : Int) ≤ (tx.length : Int) := (by omega); have e7 : ((k : Int) + (j : Int)).toNat = k + j := (by omega); have HH := Lib.hid (And.intro hs6 (grown_tr h56 hg7)); clear hs6 hR6 hg6 h56 hR7 hg7)
      | fail)
  all_goals
    obtain ⟨x, hx, hxl⟩ := torn_form tx s6 0 k (k + j) tx.length htl hs6l
    rw [hx]
    go_wp2_with fail
    go_ret
    exact ⟨x, rfl, hxl, HX.out.1.trans (below_of_grown HH.out.2 (Nat.le_refl _) hr5)⟩
end Go.Proofs.YtgfbjpmbaibnoaaGreatDoor
