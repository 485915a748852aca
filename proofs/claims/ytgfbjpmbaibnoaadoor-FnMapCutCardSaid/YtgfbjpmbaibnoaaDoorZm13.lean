/- Plain Lean: how the text of a map ends, and what a map's text is read as. No program in sight, no condition. -/
import Derived.Test.YtgfbjpmbaibnoaaDoorMapR
import Derived.Test.YtgfbjpmbaibnoaaDoorMaps
namespace Go.Proofs.YtgfbjpmbaibnoaaDoor
set_option maxRecDepth 100000
set_option linter.unusedSimpArgs false
set_option linter.unusedVariables false
open Go.RowKit

theorem digL_no3 : ∀ (n : Nat) (y : UInt8), y ∈ digL n → y ≠ 63 := by
  intro n
  induction n using Nat.strongRecOn with
  | _ n ih =>
    intro y hy
    by_cases h1 : n < 16
    · rw [digL_lt h1, List.mem_singleton] at hy
      subst hy
      intro e
      have := congrArg UInt8.toNat e
      rw [lo_toNat h1] at this
      simp at this
      omega
    · rw [digL_ge h1, List.mem_cons] at hy
      rcases hy with rfl | hy
      · intro e
        have := congrArg UInt8.toNat e
        rw [hi_toNat (Nat.mod_lt _ (by decide))] at this
        simp at this
        omega
      · exact ih (n / 16) (by omega) y hy
theorem textR_end : ∀ (l : List Sg) (first : Bool) (t : Sg), l ≠ [] → PosOk t.1 → PosOk t.2 → ChainOk t l → ∃ (x : Bytes) (n : Int), NumIn n ∧ textR first t l = x ++ numL n
  | [], _, _, h, _, _, _ => absurd rfl h
  | [s], first, t, _, h1, h2, hc => by
    obtain ⟨p1, p2, hle, _⟩ := hc
    unfold PosOk at h1 h2 p1 p2
    have n1 : NumIn (s.1.2 - (if t.1.1 < s.1.1 then 0 else t.1.2)) := by unfold NumIn; split <;> omega
    have n2 : NumIn (s.2.1 - t.2.1) := by unfold NumIn; omega
    have n3 : NumIn (s.2.2 - t.2.2) := by unfold NumIn; omega
    simp only [textR]
    unfold pieceL
    rw [nums3 n1 n2 n3, List.append_nil, ← List.append_assoc, ← List.append_assoc]
    exact ⟨_, _, n3, rfl⟩
  | s :: s' :: l, first, t, _, h1, h2, hc => by
    obtain ⟨p1, p2, hle, hc2⟩ := hc
    obtain ⟨x, n, hn, hx⟩ := textR_end (s' :: l) false s (by simp) p1 p2 hc2
    rw [textR, hx, ← List.append_assoc]
    exact ⟨_, _, hn, rfl⟩
theorem textL_noend {l : List Sg} (h : SegsOk l) {x : Bytes} {c : UInt8} (e : textL l = x ++ [c]) : c ≠ 61 ∧ c ≠ 44 ∧ c ≠ 63 := by
  obtain ⟨a1, a2, _⟩ := segsP_of h
  rw [textL_R] at e
  by_cases hl : l = []
  · subst hl
    simp [textR] at e
  obtain ⟨y, n, hn, hy⟩ := textR_end l true ((0, 0), (0, 0)) hl (by decide) (by decide) (chain_of l _ a1 (fun s hs => (a1 s hs).1.1) a2)
  rw [hy] at e
  rcases List.eq_nil_or_concat (numL n) with h0 | ⟨r, d, hr⟩
  · have := numL_pos hn
    rw [h0] at this
    simp at this
  · rw [hr, List.concat_eq_append, ← List.append_assoc] at e
    have hd : d = c := by have := List.append_inj_right' e rfl; simpa using this
    have hm : d ∈ numL n := by rw [hr, List.concat_eq_append]; simp
    have h3 := numL_no n d hm
    refine ⟨hd ▸ h3.1, hd ▸ h3.2, ?_⟩
    unfold numL at hm
    rw [if_pos hn] at hm
    exact hd ▸ digL_no3 _ _ hm
theorem rdMap_bent (s : Bytes) {c : UInt8} (hc : c = 61 ∨ c = 44 ∨ c = 63) : rdMap (s ++ [c]) = none := by
  cases hm : rdMap (s ++ [c]) with
  | none => rfl
  | some l =>
    obtain ⟨a, b, _⟩ := rdMap_iff.1 hm
    obtain ⟨h1, h2, h3⟩ := textL_noend a b
    rcases hc with rfl | rfl | rfl <;> contradiction
theorem rdMapB_bent (s : Bytes) {c : UInt8} (hc : c = 61 ∨ c = 44 ∨ c = 63) : rdMapB (s ++ [c]) = false := by unfold rdMapB; rw [rdMap_bent s hc]; rfl
theorem mapTextL_no {l : List Sg} (h : ¬ SegsOk l) : mapTextL l = [] := by unfold mapTextL; rw [segsOkB_no h]; rfl
theorem mapTextL_len (l : List Sg) : (mapTextL l).length ≤ 51200 := by
  by_cases h : SegsOk l
  · rw [mapTextL_yes h]
    have := textUp_len h l.length (Nat.le_refl _)
    have := h.2
    unfold textL
    omega
  · rw [mapTextL_no h]; simp
theorem rdMap_text {l : List Sg} (h : SegsOk l) (hl : (mapTextL l).length ≤ 20000) : rdMap (mapTextL l) = some l := by
  rw [mapTextL_yes h] at hl ⊢
  exact rdMap_yes hl h rfl
/-- what is read is right, and is written as the text -/
theorem rdMapB_text {s : Bytes} (h : rdMapB s = true) : SegsOk (rdMapL s) ∧ mapTextL (rdMapL s) = s := by
  unfold rdMapB at h
  unfold rdMapL
  cases hm : rdMap s with
  | none => rw [hm] at h; cases h
  | some l =>
    obtain ⟨a, b, _⟩ := rdMap_iff.1 hm
    exact ⟨a, by rw [Option.getD_some, mapTextL_yes a, b]⟩
theorem rdMapL_le (s : Bytes) : (rdMapL s).length ≤ 1280 := by
  unfold rdMapL
  cases h : rdMap s with
  | none => simp
  | some l => exact (rdMap_iff.1 h).1.2
end Go.Proofs.YtgfbjpmbaibnoaaDoor


/- Plain Lean: the head of a map, by lines. No program in sight, no condition. -/
namespace Go.Proofs.YtgfbjpmbaibnoaaDoor
set_option maxRecDepth 100000
set_option linter.unusedSimpArgs false
set_option linter.unusedVariables false
open Go.RowKit

def firstM (m : List Sg) (a : Int) : List Sg := m.filter (fun s => decide (s.1.1 ≤ a))
theorem firstM_ok {m : List Sg} (h : SegsOk m) (a : Int) : SegsOk (firstM m a) := by
  obtain ⟨a1, a2, a3⟩ := segsP_of h
  refine SegsP.ok ⟨fun s hs => a1 s ((List.mem_filter.1 hs).1), a2.sublist List.filter_sublist, ?_⟩
  have := List.length_filter_le (fun s : Sg => decide (s.1.1 ≤ a)) m
  unfold firstM
  omega
theorem firstM_look (m : List Sg) (a b : Int) : lookL (firstM m a) (a, b) = lookL m (a, b) := by
  unfold lookL firstM
  rw [← List.filter_reverse, List.find?_filter]
  congr 2
  funext s
  by_cases h : Fits (a, b) s
  · have : s.1.1 ≤ a := by have := h.1; simp only at this; omega
    simp [h, this]
  · simp [h]
theorem firstM_head : ∀ (m : List Sg) (a : Int), m.Pairwise (fun s t => Less s.1 t.1) → ∃ r, m = firstM m a ++ r
  | [], _, _ => ⟨[], rfl⟩
  | s :: m, a, h => by
    rw [List.pairwise_cons] at h
    unfold firstM
    by_cases hs : s.1.1 ≤ a
    · obtain ⟨r, hr⟩ := firstM_head m a h.2
      refine ⟨r, ?_⟩
      rw [List.filter_cons_of_pos (by simpa using hs), List.cons_append]
      congr 1
    · refine ⟨s :: m, ?_⟩
      rw [List.filter_cons_of_neg (by simpa using hs), List.filter_eq_nil_iff.2 (fun t ht => ?_)]
      · rfl
      · have := h.1 t ht
        unfold Less at this
        simp
        omega
theorem textR_app : ∀ (l r : List Sg) (first : Bool) (t : Sg), ∃ z, textR first t (l ++ r) = textR first t l ++ z
  | [], r, first, t => ⟨textR first t r, rfl⟩
  | s :: l, r, first, t => by
    obtain ⟨z, hz⟩ := textR_app l r false s
    exact ⟨z, by rw [List.cons_append, textR, textR, hz, List.append_assoc]⟩
theorem firstM_text {m : List Sg} (h : SegsOk m) (a : Int) : ∃ z, mapTextL m = mapTextL (firstM m a) ++ z := by
  rw [mapTextL_yes h, mapTextL_yes (firstM_ok h a), textL_R, textL_R]
  obtain ⟨_, a2, _⟩ := segsP_of h
  obtain ⟨r, hr⟩ := firstM_head m a a2
  obtain ⟨z, hz⟩ := textR_app (firstM m a) r true ((0, 0), (0, 0))
  exact ⟨z, by rw [← hz, ← hr]⟩
theorem numL_small {n : Int} (h1 : -120 < n) (h2 : n < 120) : (numL n).length ≤ 2 := by
  unfold numL
  split
  · exact digL_len 1 _ (by unfold zig; split <;> omega)
  · simp
theorem textR_few : ∀ (l : List Sg) (first : Bool) (t : Sg), PosOk t.1 → PosOk t.2 → ChainOk t l → ((textR first t l).length : Int) ≤ 7 * l.length + (15 - t.1.1)
  | [], first, t, h1, _, _ => by unfold PosOk at h1; simp [textR]; omega
  | s :: l, first, t, h1, h2, hc => by
    obtain ⟨p1, p2, hle, hc2⟩ := hc
    have ih := textR_few l false s p1 p2 hc2
    unfold PosOk at h1 h2 p1 p2
    have n1 : NumIn (s.1.2 - (if t.1.1 < s.1.1 then 0 else t.1.2)) := by unfold NumIn; split <;> omega
    have n2 : NumIn (s.2.1 - t.2.1) := by unfold NumIn; omega
    have n3 : NumIn (s.2.2 - t.2.2) := by unfold NumIn; omega
    have k1 : (numL (s.1.2 - (if t.1.1 < s.1.1 then 0 else t.1.2))).length ≤ 2 := numL_small (by split <;> omega) (by split <;> omega)
    have k2 : (numL (s.2.1 - t.2.1)).length ≤ 2 := numL_small (by omega) (by omega)
    have k3 : (numL (s.2.2 - t.2.2)).length ≤ 2 := numL_small (by omega) (by omega)
    rw [textR]
    unfold pieceL
    rw [nums3 n1 n2 n3]
    simp only [List.length_append, List.length_cons]
    have k4 : ((if t.1.1 < s.1.1 then List.replicate (s.1.1 - t.1.1).toNat (61 : UInt8) else if first then [] else [44]).length : Int) ≤ 1 + (s.1.1 - t.1.1) := by
      split
      · rw [List.length_replicate]; omega
      · split <;> simp <;> omega
    omega
theorem mapTextL_few (l : List Sg) : (mapTextL l).length ≤ 20000 := by
  by_cases h : SegsOk l
  · rw [mapTextL_yes h, textL_R]
    obtain ⟨a1, a2, a3⟩ := segsP_of h
    have := textR_few l true ((0, 0), (0, 0)) (by decide) (by decide) (chain_of l _ a1 (fun s hs => (a1 s hs).1.1) a2)
    simp only at this
    omega
  · rw [mapTextL_no h]; simp
/-- what the cut map's text is read as -/
theorem firstM_read {m : List Sg} (h : SegsOk m) (a : Int) : rdMapL (mapTextL (firstM m a)) = firstM m a ∧ rdMapB (mapTextL (firstM m a)) = true := by
  have := rdMap_text (firstM_ok h a) (mapTextL_few _)
  unfold rdMapL rdMapB
  rw [this]
  exact ⟨rfl, rfl⟩
theorem firstM_take {m : List Sg} {a : Int} {i : Nat} {s : Sg} (h : m[i]? = some s) : firstM (m.take (i + 1)) a = firstM (m.take i) a ++ (if s.1.1 ≤ a then [s] else []) := by
  unfold firstM
  rw [List.take_add_one, h, List.filter_append]
  congr 1
  simp only [Option.toList_some]
  split
  · rename_i hs
    rw [List.filter_cons_of_pos (by simpa using hs)]
    rfl
  · rename_i hs
    rw [List.filter_cons_of_neg (by simpa using hs)]
    rfl
end Go.Proofs.YtgfbjpmbaibnoaaDoor
