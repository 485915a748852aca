
/- Plain Lean: the text of a map tells the map. No program in sight, no condition. -/
import Derived.Test.YtgfbjpmbaibnoaaGreatDoorTexti
import Derived.Test.YtgfbjpmbaibnoaaGreatDoorMaps
namespace Go.Proofs.YtgfbjpmbaibnoaaGreatDoor
set_option maxRecDepth 100000
set_option linter.unusedSimpArgs false
set_option linter.unusedVariables false
open Go.RowKit

theorem lo_toNat {k : Nat} (h : k < 16) : (lo k).toNat = 97 + k := by unfold lo; simp; omega
theorem hi_toNat {k : Nat} (h : k < 16) : (hi k).toNat = 65 + k := by unfold hi; simp; omega
/-- letters of a number: one number alone is read -/
theorem digL_inj : ∀ (n m : Nat) (r r' : Bytes), digL n ++ r = digL m ++ r' → n = m ∧ r = r' := by
  intro n
  induction n using Nat.strongRecOn with
  | _ n ih =>
    intro m r r' h
    by_cases h1 : n < 16
    · rw [digL_lt h1] at h
      by_cases h2 : m < 16
      · rw [digL_lt h2] at h
        simp only [List.singleton_append, List.cons.injEq] at h
        have := congrArg UInt8.toNat h.1
        rw [lo_toNat h1, lo_toNat h2] at this
        exact ⟨by omega, h.2⟩
      · rw [digL_ge h2] at h
        simp only [List.singleton_append, List.cons_append, List.cons.injEq] at h
        have := congrArg UInt8.toNat h.1
        rw [lo_toNat h1, hi_toNat (Nat.mod_lt _ (by decide))] at this
        omega
    · rw [digL_ge h1] at h
      by_cases h2 : m < 16
      · rw [digL_lt h2] at h
        simp only [List.singleton_append, List.cons_append, List.cons.injEq] at h
        have := congrArg UInt8.toNat h.1
        rw [lo_toNat h2, hi_toNat (Nat.mod_lt _ (by decide))] at this
        omega
      · rw [digL_ge h2] at h
        simp only [List.cons_append, List.cons.injEq] at h
        have h3 := congrArg UInt8.toNat h.1
        rw [hi_toNat (Nat.mod_lt _ (by decide)), hi_toNat (Nat.mod_lt _ (by decide))] at h3
        obtain ⟨h4, h5⟩ := ih (n / 16) (by omega) (m / 16) r r' h.2
        exact ⟨by omega, h5⟩
theorem zig_inj {a b : Int} (h : zig a = zig b) : a = b := by unfold zig at h; split at h <;> split at h <;> omega
theorem numL_inj {a b : Int} (ha : NumIn a) (hb : NumIn b) {r r' : Bytes} (h : numL a ++ r = numL b ++ r') : a = b ∧ r = r' := by
  unfold numL at h
  rw [if_pos ha, if_pos hb] at h
  obtain ⟨h1, h2⟩ := digL_inj _ _ _ _ h
  exact ⟨zig_inj h1, h2⟩
theorem nums3 {a b c : Int} (ha : NumIn a) (hb : NumIn b) (hc : NumIn c) : numsL [a, b, c] = numL a ++ (numL b ++ numL c) := by
  unfold numsL
  rw [if_pos (by intro n hn; simp at hn; rcases hn with rfl | rfl | rfl <;> assumption)]
  simp
/-- a number's letters do not begin with the mark of a line, or of a place -/
theorem digL_head (n : Nat) : ∃ c r, digL n = c :: r ∧ c ≠ 61 ∧ c ≠ 44 := by
  by_cases h1 : n < 16
  · rw [digL_lt h1]
    refine ⟨_, _, rfl, ?_, ?_⟩ <;> intro e <;> have := congrArg UInt8.toNat e <;> rw [lo_toNat h1] at this <;> simp at this <;> omega
  · rw [digL_ge h1]
    refine ⟨_, _, rfl, ?_, ?_⟩ <;> intro e <;> have := congrArg UInt8.toNat e <;> rw [hi_toNat (Nat.mod_lt _ (by decide))] at this <;> simp at this <;> omega
theorem numL_head {a : Int} (ha : NumIn a) : ∃ c r, numL a = c :: r ∧ c ≠ 61 ∧ c ≠ 44 := by unfold numL; rw [if_pos ha]; exact digL_head _
/-- marks of lines -/
theorem marks_inj : ∀ (d e : Nat) {x y : Bytes}, (∀ r, x ≠ 61 :: r) → (∀ r, y ≠ 61 :: r) → List.replicate d (61 : UInt8) ++ x = List.replicate e 61 ++ y → d = e ∧ x = y
  | 0, 0, x, y, _, _, h => ⟨rfl, by simpa using h⟩
  | 0, e + 1, x, y, hx, _, h => by simp [List.replicate_succ] at h; exact absurd h (hx _)
  | d + 1, 0, x, y, _, hy, h => by simp [List.replicate_succ] at h; exact absurd h.symm (hy _)
  | d + 1, e + 1, x, y, hx, hy, h => by
    simp only [List.replicate_succ, List.cons_append, List.cons.injEq, true_and] at h
    obtain ⟨h1, h2⟩ := marks_inj d e hx hy h
    exact ⟨by omega, h2⟩
def textR (first : Bool) (t : Sg) : List Sg → Bytes
  | [] => []
  | s :: l => pieceL first t s ++ textR false s l
theorem textUp_R (l : List Sg) : ∀ (d i : Nat), i + d = l.length → textL l = textUp l i ++ textR (decide (i = 0)) (stAt l i) (l.drop i)
  | 0, i, h => by
    have : i = l.length := by omega
    subst this
    rw [List.drop_length]
    unfold textL textR
    simp
  | d + 1, i, h => by
    have hi : i < l.length := by omega
    have hg : l[i]? = some l[i] := List.getElem?_eq_getElem hi
    rw [textUp_R l d (i + 1) (by omega), textUp_step hg, stAt_succ hg, List.drop_eq_getElem_cons hi]
    simp [textR]
theorem textL_R (l : List Sg) : textL l = textR true ((0, 0), (0, 0)) l := by
  have := textUp_R l l.length 0 (by omega)
  simpa [textUp, stAt] using this
def ChainOk (t : Sg) : List Sg → Prop
  | [] => True
  | s :: l => PosOk s.1 ∧ PosOk s.2 ∧ t.1.1 ≤ s.1.1 ∧ ChainOk s l
theorem piece_inj {first : Bool} {t s s' : Sg} {x y : Bytes} (ht1 : PosOk t.1) (ht2 : PosOk t.2) (h1 : PosOk s.1) (h2 : PosOk s.2) (h1' : PosOk s'.1) (h2' : PosOk s'.2) (hl : t.1.1 ≤ s.1.1) (hl' : t.1.1 ≤ s'.1.1)
    (h : pieceL first t s ++ x = pieceL first t s' ++ y) : s = s' ∧ x = y := by
  obtain ⟨⟨a, b⟩, ⟨c, d⟩⟩ := s
  obtain ⟨⟨a', b'⟩, ⟨c', d'⟩⟩ := s'
  obtain ⟨⟨u, v⟩, ⟨p, q⟩⟩ := t
  simp only at ht1 ht2 h1 h2 h1' h2' hl hl'
  unfold PosOk at *
  simp only at ht1 ht2 h1 h2 h1' h2'
  have key : ∀ (A B C D : Int), 0 ≤ A ∧ A < 16 ∧ 0 ≤ B ∧ B < 120 → 0 ≤ C ∧ C < 16 ∧ 0 ≤ D ∧ D < 120 → u ≤ A → ∃ e : Bytes, (∀ r, e ≠ 61 :: r) ∧ ∀ z, pieceL first ((u, v), (p, q)) ((A, B), (C, D)) ++ z = List.replicate (A - u).toNat 61 ++ (e ++ z) ∧ e ++ z = (if u < A then [] else if first then [] else [44]) ++ (numL (B - (if u < A then 0 else v)) ++ (numL (C - p) ++ (numL (D - q) ++ z))) := by
    intro A B C D hA hC hu
    have n1 : NumIn (B - (if u < A then 0 else v)) := by unfold NumIn; split <;> omega
    have n2 : NumIn (C - p) := by unfold NumIn; omega
    have n3 : NumIn (D - q) := by unfold NumIn; omega
    obtain ⟨k, r, hk, hk1, hk2⟩ := numL_head n1
    refine ⟨(if u < A then [] else if first then [] else [44]) ++ (numL (B - (if u < A then 0 else v)) ++ (numL (C - p) ++ numL (D - q))), ?_, fun z => ⟨?_, by simp⟩⟩
    · intro r' e
      rw [hk] at e
      split at e
      · simp at e; exact hk1 e.1
      · split at e
        · simp at e; exact hk1 e.1
        · simp at e
    · unfold pieceL
      simp only
      rw [nums3 n1 n2 n3]
      by_cases hlt : u < A
      · simp [hlt]
      · have : (A - u).toNat = 0 := by omega
        simp [hlt, this]
  obtain ⟨e1, g1, k1⟩ := key a b c d h1 h2 hl
  obtain ⟨e2, g2, k2⟩ := key a' b' c' d' h1' h2' hl'
  rw [(k1 x).1, (k2 y).1] at h
  have nz : ∀ {e : Bytes} {z : Bytes} {A B C D : Int}, (∀ r, e ≠ 61 :: r) → e ++ z = (if u < A then [] else if first then [] else [44]) ++ (numL (B - (if u < A then 0 else v)) ++ (numL (C - p) ++ (numL (D - q) ++ z))) → NumIn (B - (if u < A then 0 else v)) → ∀ r, e ++ z ≠ 61 :: r := by
    intro e z A B C D _ he hn r hr
    rw [he] at hr
    obtain ⟨k, r', hk, hk1, _⟩ := numL_head hn
    rw [hk] at hr
    split at hr
    · simp at hr; exact hk1 hr.1
    · split at hr
      · simp at hr; exact hk1 hr.1
      · simp at hr
  have m1 : NumIn (b - (if u < a then 0 else v)) := by unfold NumIn; split <;> omega
  have m2 : NumIn (b' - (if u < a' then 0 else v)) := by unfold NumIn; split <;> omega
  obtain ⟨hd, hr⟩ := marks_inj _ _ (nz g1 (k1 x).2 m1) (nz g2 (k2 y).2 m2) h
  have haa : a = a' := by omega
  subst haa
  rw [(k1 x).2, (k2 y).2] at hr
  have hr2 := List.append_cancel_left hr
  obtain ⟨b1, b2⟩ := numL_inj m1 m2 hr2
  obtain ⟨c1, c2⟩ := numL_inj (by unfold NumIn; omega) (by unfold NumIn; omega) b2
  obtain ⟨d1, d2⟩ := numL_inj (by unfold NumIn; omega) (by unfold NumIn; omega) c2
  refine ⟨?_, d2⟩
  have e1 : b = b' := by omega
  have e2 : c = c' := by omega
  have e3 : d = d' := by omega
  rw [e1, e2, e3]
theorem piece_pos {first : Bool} {t s : Sg} (ht1 : PosOk t.1) (ht2 : PosOk t.2) (h1 : PosOk s.1) (h2 : PosOk s.2) (x : Bytes) : pieceL first t s ++ x ≠ [] := by
  intro h
  have h3 := congrArg List.length h
  unfold PosOk at *
  unfold pieceL at h3
  have n1 : NumIn (s.1.2 - (if t.1.1 < s.1.1 then 0 else t.1.2)) := by unfold NumIn; split <;> omega
  rw [nums3 n1 (by unfold NumIn; omega) (by unfold NumIn; omega)] at h3
  obtain ⟨k, r, hk, _⟩ := numL_head n1
  rw [hk] at h3
  simp at h3
theorem textR_inj : ∀ (l m : List Sg) (first : Bool) (t : Sg), PosOk t.1 → PosOk t.2 → ChainOk t l → ChainOk t m → textR first t l = textR first t m → l = m
  | [], [], _, _, _, _, _, _, _ => rfl
  | [], s :: m, first, t, h1, h2, _, hm, h => by
    simp only [textR] at h
    exact absurd h.symm (piece_pos h1 h2 hm.1 hm.2.1 _)
  | s :: l, [], first, t, h1, h2, hl, _, h => by
    simp only [textR] at h
    exact absurd h (piece_pos h1 h2 hl.1 hl.2.1 _)
  | s :: l, s' :: m, first, t, h1, h2, hl, hm, h => by
    simp only [textR] at h
    obtain ⟨a1, a2, a3, a4⟩ := hl
    obtain ⟨b1, b2, b3, b4⟩ := hm
    obtain ⟨rfl, hr⟩ := piece_inj h1 h2 a1 a2 b1 b2 a3 b3 h
    rw [textR_inj l m false s a1 a2 a4 b4 hr]
theorem chain_of : ∀ (l : List Sg) (t : Sg), (∀ s ∈ l, PosOk s.1 ∧ PosOk s.2) → (∀ s ∈ l, t.1.1 ≤ s.1.1) → l.Pairwise (fun s t => Less s.1 t.1) → ChainOk t l
  | [], _, _, _, _ => trivial
  | s :: l, t, h1, h2, h3 => by
    obtain ⟨p1, p2⟩ := h1 s (List.mem_cons_self ..)
    rw [List.pairwise_cons] at h3
    exact ⟨p1, p2, h2 s (List.mem_cons_self ..), chain_of l s (fun x hx => h1 x (List.mem_cons_of_mem _ hx)) (fun x hx => by
      have := h3.1 x hx
      unfold Less at this
      omega) h3.2⟩
/-- the text of a map that is right tells the map -/
theorem textL_inj {l m : List Sg} (hl : SegsOk l) (hm : SegsOk m) (h : textL l = textL m) : l = m := by
  rw [textL_R, textL_R] at h
  obtain ⟨a1, a2, _⟩ := segsP_of hl
  obtain ⟨b1, b2, _⟩ := segsP_of hm
  exact textR_inj l m true _ (by decide) (by decide) (chain_of l _ a1 (fun s hs => (a1 s hs).1.1) a2) (chain_of m _ b1 (fun s hs => (b1 s hs).1.1) b2) h
theorem mapTextL_yes {l : List Sg} (h : SegsOk l) : mapTextL l = textL l := by unfold mapTextL; rw [segsOkB_yes h]; rfl
theorem take_ok {l : List Sg} (h : SegsOk l) (n : Nat) : SegsOk (l.take n) := by
  obtain ⟨a1, a2, a3⟩ := segsP_of h
  exact SegsP.ok ⟨fun s hs => a1 s (List.mem_of_mem_take hs), a2.sublist (List.take_sublist _ _), by have := List.length_take_le n l; simp at this ⊢; omega⟩
end Go.Proofs.YtgfbjpmbaibnoaaGreatDoor
