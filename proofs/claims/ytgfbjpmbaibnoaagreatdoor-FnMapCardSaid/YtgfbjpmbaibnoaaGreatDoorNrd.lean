
/- Plain Lean: the numbers that stand in letters, read back. No program in sight, no condition. -/
import Derived.Test.YtgfbjpmbaibnoaaGreatDoorMapS
import Derived.Test.YtgfbjpmbaibnoaaGreatDoorZm9
namespace Go.Proofs.YtgfbjpmbaibnoaaGreatDoor
set_option maxRecDepth 100000
set_option linter.unusedSimpArgs false
set_option linter.unusedVariables false
open Go.RowKit

def letL : Bytes := [97, 98, 99, 100, 101, 102, 103, 104, 105, 106, 107, 108, 109, 110, 111, 112, 65, 66, 67, 68, 69, 70, 71, 72, 73, 74, 75, 76, 77, 78, 79, 80]
/-- the digit of a letter, or -1 -/
def dgL (c : UInt8) : Int := Lib.indexByte letL c
theorem dg_lo : ∀ k : Nat, k < 16 → dgL (lo k) = (k : Int) := by decide +kernel
theorem dg_hi : ∀ k : Nat, k < 16 → dgL (hi k) = ((16 + k : Nat) : Int) := by decide +kernel
theorem dg_lt (c : UInt8) : -1 ≤ dgL c ∧ dgL c < 32 := by
  refine ⟨Lib.indexByte_ge _ _, ?_⟩
  by_cases h : dgL c < 0
  · omega
  · obtain ⟨o, ho⟩ : ∃ o : Nat, dgL c = o := ⟨(dgL c).toNat, by omega⟩
    have h1 := (Lib.indexByte_some (show Lib.indexByte letL c = o from ho)).1
    have h2 := (List.getElem?_eq_some_iff.1 h1).1
    have h3 : letL.length = 32 := rfl
    omega
/-- digits, the lowest first: what they come to, and how many there are -/
def numM : Nat → Nat → Nat → Bytes → Option (Nat × Nat)
  | 0, _, _, _ => none
  | _ + 1, _, _, [] => none
  | f + 1, v, u, c :: r => if dgL c < 0 then none else if 16 ≤ dgL c then (numM f (v + (dgL c).toNat % 16 * u) (u * 16) r).map (fun p => (p.1, p.2 + 1)) else some (v + (dgL c).toNat % 16 * u, 1)
theorem numM_dig : ∀ (m f v u : Nat) (r : Bytes), (digL m).length ≤ f → numM f v u (digL m ++ r) = some (v + m * u, (digL m).length) := by
  intro m
  induction m using Nat.strongRecOn with
  | _ m ih =>
    intro f v u r hf
    by_cases h1 : m < 16
    · rw [digL_lt h1] at hf ⊢
      obtain ⟨f, rfl⟩ : ∃ g, f = g + 1 := ⟨f - 1, by simp at hf; omega⟩
      rw [List.singleton_append, numM, dg_lo m h1, if_neg (by omega), if_neg (by omega), Int.toNat_natCast, Nat.mod_eq_of_lt h1]
      rfl
    · rw [digL_ge h1] at hf ⊢
      obtain ⟨f, rfl⟩ : ∃ g, f = g + 1 := ⟨f - 1, by simp at hf; omega⟩
      have hm := Nat.mod_lt m (show 16 > 0 by decide)
      rw [List.cons_append, numM, dg_hi _ hm, if_neg (by omega), if_pos (by omega), Int.toNat_natCast, ih (m / 16) (by omega) f _ _ r (by simpa using hf)]
      rw [Option.map_some, List.length_cons, show (16 + m % 16) % 16 = m % 16 by omega]
      have h2 : m % 16 * u + m / 16 * (u * 16) = m * u := by
        rw [Nat.mul_comm u 16, ← Nat.mul_assoc, ← Nat.add_mul]
        congr 1
        omega
      rw [Nat.add_assoc, h2]
theorem numM_pos : ∀ (f v u : Nat) (s : Bytes) (x k : Nat), numM f v u s = some (x, k) → 1 ≤ k ∧ k ≤ s.length
  | 0, _, _, _, _, _, h => by cases h
  | _ + 1, _, _, [], _, _, h => by cases h
  | f + 1, v, u, c :: r, x, k, h => by
    unfold numM at h
    split at h
    · cases h
    · split at h
      · rw [Option.map_eq_some_iff] at h
        obtain ⟨⟨x', k'⟩, h1, h2⟩ := h
        have := numM_pos f _ _ r x' k' h1
        have hk : k' + 1 = k := congrArg Prod.snd h2
        simp only [List.length_cons]
        omega
      · have hk := congrArg Prod.snd (Option.some.inj h)
        simp only at hk
        simp only [List.length_cons]
        omega
def unz (v : Nat) : Int := if v % 2 = 1 then -((v / 2 : Nat) : Int) else ((v / 2 : Nat) : Int)
theorem unz_zig (n : Int) : unz (zig n) = n := by unfold unz zig; split <;> split <;> omega
/-- the number whose letters stand at the head, and how many these are -/
def rdNf (f : Nat) (s : Bytes) : Option (Int × Nat) := match numM f 0 1 s with
  | none => none
  | some (v, k) => if numL (unz v) = s.take k then some (unz v, k) else none
theorem rdNf_iff {f : Nat} (hf : 6 ≤ f) {s : Bytes} {n : Int} {k : Nat} : rdNf f s = some (n, k) ↔ NumIn n ∧ k = (numL n).length ∧ s.take k = numL n := by
  constructor
  · intro h
    unfold rdNf at h
    cases hm : numM f 0 1 s with
    | none => rw [hm] at h; cases h
    | some p =>
      obtain ⟨v, k'⟩ := p
      rw [hm] at h
      simp only at h
      have hp := numM_pos _ _ _ _ _ _ hm
      split at h
      · next he =>
        have h1 := Option.some.inj h
        obtain ⟨rfl, rfl⟩ : unz v = n ∧ k' = k := ⟨congrArg Prod.fst h1, congrArg Prod.snd h1⟩
        have hl : (numL (unz v)).length = k' := by rw [he, List.length_take]; omega
        refine ⟨?_, hl.symm, he.symm⟩
        by_cases hn : NumIn (unz v)
        · exact hn
        · unfold numL at hl
          rw [if_neg hn] at hl
          simp at hl
          omega
      · cases h
  · rintro ⟨h1, rfl, h3⟩
    have hs : s = numL n ++ s.drop (numL n).length := by
      conv => lhs; rw [← List.take_append_drop (numL n).length s]
      rw [h3]
    have hd : numL n = digL (zig n) := by unfold numL; rw [if_pos h1]
    have h6 := numL_len n
    have hm : numM f 0 1 s = some (zig n, (numL n).length) := by
      conv => lhs; rw [hs]
      rw [hd, numM_dig _ _ _ _ _ (by rw [← hd]; omega)]
      simp
    unfold rdNf
    rw [hm]
    simp only
    rw [unz_zig, if_pos h3.symm]
abbrev rdN (s : Bytes) : Option (Int × Nat) := rdNf 8 s
theorem rdN_seven (s : Bytes) : rdNf 7 s = rdN s := by
  apply Option.ext
  rintro ⟨n, k⟩
  show rdNf 7 s = some (n, k) ↔ rdNf 8 s = some (n, k)
  rw [rdNf_iff (by decide), rdNf_iff (by decide)]
theorem numL_pos {n : Int} (h : NumIn n) : 0 < (numL n).length := by unfold numL; rw [if_pos h]; exact digL_pos _
theorem flat_inj : ∀ (l m : List Int), (∀ n ∈ l, NumIn n) → (∀ n ∈ m, NumIn n) → l.flatMap numL = m.flatMap numL → l = m
  | [], [], _, _, _ => rfl
  | [], b :: m, _, hm, h => by
    have h1 := congrArg List.length h
    have := numL_pos (hm b (List.mem_cons_self ..))
    simp at h1
    omega
  | a :: l, [], hl, _, h => by
    have h1 := congrArg List.length h
    have := numL_pos (hl a (List.mem_cons_self ..))
    rw [List.flatMap_cons, List.length_append] at h1
    simp only [List.flatMap_nil, List.length_nil] at h1
    omega
  | a :: l, b :: m, hl, hm, h => by
    rw [List.flatMap_cons, List.flatMap_cons] at h
    obtain ⟨rfl, h2⟩ := numL_inj (hl a (List.mem_cons_self ..)) (hm b (List.mem_cons_self ..)) h
    rw [flat_inj l m (fun n hn => hl n (List.mem_cons_of_mem _ hn)) (fun n hn => hm n (List.mem_cons_of_mem _ hn)) h2]
open Classical in
/-- the numbers of letters -/
noncomputable def rdNs (s : Bytes) : Option (List Int) := if h : ∃ l : List Int, (∀ n ∈ l, NumIn n) ∧ l.flatMap numL = s then some h.choose else none
theorem rdNs_iff {s : Bytes} {l : List Int} : rdNs s = some l ↔ (∀ n ∈ l, NumIn n) ∧ l.flatMap numL = s := by
  unfold rdNs
  constructor
  · intro h
    split at h
    · rename_i hx
      obtain rfl := Option.some.inj h
      exact hx.choose_spec
    · cases h
  · rintro ⟨h1, rfl⟩
    have hx : ∃ m : List Int, (∀ n ∈ m, NumIn n) ∧ m.flatMap numL = l.flatMap numL := ⟨l, h1, rfl⟩
    rw [dif_pos hx]
    exact congrArg some (flat_inj _ _ hx.choose_spec.1 h1 hx.choose_spec.2)
theorem rdNs_nil : rdNs [] = some [] := rdNs_iff.2 ⟨fun n hn => (by cases hn), rfl⟩
theorem rdNs_bad {s : Bytes} (h0 : s ≠ []) (h : rdN s = none) : rdNs s = none := by
  cases hl : rdNs s with
  | none => rfl
  | some l =>
    obtain ⟨h1, h2⟩ := rdNs_iff.1 hl
    cases l with
    | nil => exact absurd h2.symm h0
    | cons n l =>
      have hn := h1 n (List.mem_cons_self ..)
      have : rdN s = some (n, (numL n).length) := (rdNf_iff (by decide)).2 ⟨hn, rfl, by rw [← h2, List.flatMap_cons, List.take_left]⟩
      rw [h] at this
      cases this
theorem rdNs_more {s : Bytes} {n : Int} {k : Nat} (h : rdN s = some (n, k)) : rdNs s = (rdNs (s.drop k)).map (fun l => n :: l) := by
  obtain ⟨h1, h2, h3⟩ := (rdNf_iff (by decide)).1 h
  have hs : s = numL n ++ s.drop k := by
    conv => lhs; rw [← List.take_append_drop k s]
    rw [h3]
  have hpos := numL_pos h1
  apply Option.ext
  intro l
  rw [Option.map_eq_some_iff]
  constructor
  · intro hl
    obtain ⟨a1, a2⟩ := rdNs_iff.1 hl
    cases l with
    | nil =>
      have h9 := congrArg List.length (a2.trans hs)
      rw [List.length_append] at h9
      simp only [List.flatMap_nil, List.length_nil] at h9
      omega
    | cons m l =>
      rw [List.flatMap_cons] at a2
      rw [hs] at a2
      obtain ⟨rfl, h5⟩ := numL_inj (a1 m (List.mem_cons_self ..)) h1 a2
      exact ⟨l, rdNs_iff.2 ⟨fun x hx => a1 x (List.mem_cons_of_mem _ hx), h5⟩, rfl⟩
  · rintro ⟨m, hm, rfl⟩
    obtain ⟨a1, a2⟩ := rdNs_iff.1 hm
    refine rdNs_iff.2 ⟨fun x hx => ?_, ?_⟩
    · rw [List.mem_cons] at hx
      rcases hx with rfl | hx
      · exact h1
      · exact a1 x hx
    · rw [List.flatMap_cons, a2]
      exact hs.symm
theorem rdN_len {s : Bytes} {n : Int} {k : Nat} (h : rdN s = some (n, k)) : 1 ≤ k ∧ k ≤ s.length ∧ k ≤ 6 ∧ NumIn n := by
  obtain ⟨h1, rfl, h3⟩ := (rdNf_iff (by decide)).1 h
  have h4 := congrArg List.length h3
  rw [List.length_take] at h4
  exact ⟨numL_pos h1, by omega, numL_len n, h1⟩
/-- how many numbers there are at most -/
theorem rdNs_len {s : Bytes} {l : List Int} (h : rdNs s = some l) : l.length ≤ s.length := by
  obtain ⟨h1, rfl⟩ := rdNs_iff.1 h
  clear h
  induction l with
  | nil => simp
  | cons a l ih =>
    have := numL_pos (h1 a (List.mem_cons_self ..))
    have := ih (fun n hn => h1 n (List.mem_cons_of_mem _ hn))
    rw [List.flatMap_cons, List.length_append, List.length_cons]
    omega
end Go.Proofs.YtgfbjpmbaibnoaaGreatDoor
