
/- Plain Lean: a text is cut at a byte. No program in sight, no condition. -/
import Derived.Test.YtgfbjpmbaibnoaaDoorBas
import Derived.Lib.SplitLaws
import Derived.Lib.IndexBytes
import Derived.Lib.IndexLaws
namespace Go.Proofs.YtgfbjpmbaibnoaaDoor
set_option maxRecDepth 100000
set_option linter.unusedSimpArgs false
set_option linter.unusedVariables false
open Go.RowKit

/-- the pieces between bytes c -/
def cutB (c : UInt8) : Bytes → List Bytes
  | [] => [[]]
  | x :: s => if x = c then [] :: cutB c s else match cutB c s with | [] => [[x]] | r :: rs => (x :: r) :: rs
theorem cutB_ne (c : UInt8) (s : Bytes) : cutB c s ≠ [] := by
  cases s with
  | nil => simp [cutB]
  | cons x s =>
    unfold cutB
    split
    · simp
    · split <;> simp
theorem cutB_ex (c : UInt8) (s : Bytes) : ∃ r rs, cutB c s = r :: rs := by
  cases h : cutB c s with
  | nil => exact absurd h (cutB_ne c s)
  | cons r rs => exact ⟨r, rs, rfl⟩
theorem cutB_self (c : UInt8) (s : Bytes) : cutB c (c :: s) = [] :: cutB c s := by simp [cutB]
theorem cutB_app {c : UInt8} {s : Bytes} {r : Bytes} {rs : List Bytes} (h : cutB c s = r :: rs) : ∀ (x : Bytes), (∀ y ∈ x, y ≠ c) → cutB c (x ++ s) = (x ++ r) :: rs
  | [], _ => h
  | y :: x, hx => by
    have ih := cutB_app h x (fun z hz => hx z (List.mem_cons_of_mem _ hz))
    rw [List.cons_append, cutB, if_neg (hx y (List.mem_cons_self ..)), ih]
    rfl
theorem cutB_none {c : UInt8} {x : Bytes} (hx : ∀ y ∈ x, y ≠ c) : cutB c x = [x] := by
  have := cutB_app (show cutB c [] = [[]] from rfl) x hx
  simpa using this
theorem mem_take_ne {s : Bytes} {c : UInt8} {f i : Nat} (h : ∀ (t : Nat) (x : UInt8), f ≤ t → t < i → s[t]? = some x → x ≠ c) : ∀ y ∈ (s.drop f).take (i - f), y ≠ c := by
  intro y hy
  obtain ⟨k, hk, rfl⟩ := List.mem_iff_getElem.1 hy
  have hk2 := hk
  rw [List.length_take, List.length_drop] at hk2
  refine h (f + k) _ (by omega) (by omega) ?_
  rw [List.getElem_take, List.getElem_drop]
  exact List.getElem?_eq_getElem _
theorem cutB_at {s : Bytes} {c : UInt8} {f i : Nat} (hf : f ≤ i) (hc : s[i]? = some c) (h : ∀ (t : Nat) (x : UInt8), f ≤ t → t < i → s[t]? = some x → x ≠ c) : cutB c (s.drop f) = (s.drop f).take (i - f) :: cutB c (s.drop (i + 1)) := by
  obtain ⟨hi, hg⟩ := List.getElem?_eq_some_iff.1 hc
  have h1 : s.drop f = (s.drop f).take (i - f) ++ c :: s.drop (i + 1) := by
    conv => lhs; rw [← List.take_append_drop (i - f) (s.drop f)]
    rw [List.drop_drop, show f + (i - f) = i by omega, List.drop_eq_getElem_cons hi, hg]
  conv => lhs; rw [h1]
  rw [cutB_app (cutB_self c _) _ (mem_take_ne h)]
  simp
theorem cutB_end {s : Bytes} {c : UInt8} {f : Nat} (h : ∀ (t : Nat) (x : UInt8), f ≤ t → t < s.length → s[t]? = some x → x ≠ c) : cutB c (s.drop f) = [s.drop f] := by
  refine cutB_none ?_
  have := mem_take_ne (f := f) (i := s.length) h
  rw [List.take_of_length_le (by simp)] at this
  exact this
/-- how many pieces -/
theorem cutB_len (c : UInt8) : ∀ s : Bytes, (cutB c s).length = s.count c + 1
  | [] => rfl
  | x :: s => by
    have ih := cutB_len c s
    unfold cutB
    split
    · next h => subst h; simp [ih]
    · next h =>
      obtain ⟨r, rs, e⟩ := cutB_ex c s
      rw [e] at ih ⊢
      simp only [List.length_cons] at ih ⊢
      rw [List.count_cons_of_ne (by simpa using h)]
      exact ih
theorem cutB_mem_len {c : UInt8} : ∀ (s : Bytes) (r : Bytes), r ∈ cutB c s → r.length ≤ s.length
  | [], r, h => by simp [cutB] at h; simp [h]
  | x :: s, r, h => by
    unfold cutB at h
    split at h
    · rw [List.mem_cons] at h
      rcases h with rfl | h
      · simp
      · have := cutB_mem_len s r h
        simp; omega
    · obtain ⟨r0, rs, e⟩ := cutB_ex c s
      rw [e, List.mem_cons] at h
      rcases h with rfl | h
      · have := cutB_mem_len s r0 (by rw [e]; exact List.mem_cons_self ..)
        simp; omega
      · have := cutB_mem_len s r (by rw [e]; exact List.mem_cons_of_mem _ h)
        simp; omega
theorem cutB_no (c : UInt8) : ∀ (s : Bytes) (r : Bytes), r ∈ cutB c s → ∀ y ∈ r, y ≠ c
  | [], r, h, y, hy => by simp [cutB] at h; subst h; simp at hy
  | x :: s, r, h, y, hy => by
    unfold cutB at h
    split at h
    · rw [List.mem_cons] at h
      rcases h with rfl | h
      · simp at hy
      · exact cutB_no c s r h y hy
    · next hx =>
      obtain ⟨r0, rs, e⟩ := cutB_ex c s
      rw [e, List.mem_cons] at h
      rcases h with rfl | h
      · rw [List.mem_cons] at hy
        rcases hy with rfl | hy
        · exact hx
        · exact cutB_no c s r0 (by rw [e]; exact List.mem_cons_self ..) y hy
      · exact cutB_no c s r (by rw [e]; exact List.mem_cons_of_mem _ h) y hy
/-- how much the first pieces hold -/
def sumR (rows : List Bytes) (i : Nat) : Nat := ((rows.take i).map (fun r => r.length + 1)).sum
theorem sumR_zero (rows : List Bytes) : sumR rows 0 = 0 := rfl
theorem sumR_succ {rows : List Bytes} {i : Nat} {r : Bytes} (h : rows[i]? = some r) : sumR rows (i + 1) = sumR rows i + (r.length + 1) := by
  obtain ⟨hi, rfl⟩ := List.getElem?_eq_some_iff.1 h
  unfold sumR
  rw [List.take_succ_eq_append_getElem hi, List.map_append, List.sum_append]
  simp only [List.map_cons, List.map_nil, List.sum_cons, List.sum_nil]
  omega
theorem sumR_le (rows : List Bytes) (i : Nat) : sumR rows i ≤ (rows.map (fun r => r.length + 1)).sum := by
  unfold sumR
  conv => rhs; rw [← List.take_append_drop i rows]
  rw [List.map_append, List.sum_append]
  omega
theorem cutB_sum (c : UInt8) : ∀ s : Bytes, ((cutB c s).map (fun r => r.length + 1)).sum = s.length + 1
  | [] => rfl
  | x :: s => by
    have ih := cutB_sum c s
    unfold cutB
    split
    · simp only [List.map_cons, List.sum_cons, List.length_nil, List.length_cons]; omega
    · obtain ⟨r, rs, e⟩ := cutB_ex c s
      rw [e] at ih ⊢
      simp only [List.map_cons, List.sum_cons, List.length_cons] at ih ⊢
      omega
theorem cutB_sumR (c : UInt8) (s : Bytes) (i : Nat) : sumR (cutB c s) i ≤ s.length + 1 := by
  have := sumR_le (cutB c s) i
  rw [cutB_sum] at this
  exact this
theorem sumR_take (rows : List Bytes) (n i : Nat) (h : i ≤ n) : sumR (rows.take n) i = sumR rows i := by
  unfold sumR
  rw [List.take_take, Nat.min_eq_left h]
/-- the library's pieces are these -/
theorem splitK_cut (c : UInt8) : ∀ (n : Nat) (s : Bytes), s.length ≤ n → Lib.splitK [c] 0 (Lib.count s [c]) s = cutB c s := by
  intro n
  induction n with
  | zero =>
    intro s hs
    obtain rfl : s = [] := by cases s; rfl; simp at hs
    rw [Lib.count_one]
    rfl
  | succ n ih =>
    intro s hs
    rw [Lib.count_one]
    by_cases hm : Lib.indexByte s c = -1
    · have h0 : ∀ y ∈ s, y ≠ c := by
        intro y hy e
        subst e
        obtain ⟨k, hk, rfl⟩ := List.mem_iff_getElem.1 hy
        exact Lib.indexByte_none hm k (List.getElem?_eq_getElem hk)
      rw [cutB_none h0, List.count_eq_zero.2 (fun h => h0 c h rfl)]
      rfl
    · have hge := Lib.indexByte_ge s c
      obtain ⟨i, hi⟩ : ∃ i : Nat, Lib.indexByte s c = i := ⟨(Lib.indexByte s c).toNat, by omega⟩
      obtain ⟨h1, h2⟩ := Lib.indexByte_some hi
      obtain ⟨hil, hg⟩ := List.getElem?_eq_some_iff.1 h1
      have hcut := cutB_at (s := s) (f := 0) (i := i) (Nat.zero_le _) h1 (fun t x _ ht hx e => h2 t ht (by rw [hx, e]))
      rw [List.drop_zero, Nat.sub_zero] at hcut
      have hcnt : s.count c = (s.drop (i + 1)).count c + 1 := by
        have h3 := cutB_len c s
        rw [hcut, List.length_cons, cutB_len] at h3
        omega
      have hd : (s.drop (i + 1)).length ≤ n := by rw [List.length_drop]; omega
      have ih2 := ih (s.drop (i + 1)) hd
      rw [Lib.count_one] at ih2
      rw [hcnt, hcut, ← ih2]
      have hx : Lib.index s [c] = (i : Int) := by rw [Lib.index_one, hi]
      rw [Lib.splitK, hx, if_neg (by simp)]
      simp
end Go.Proofs.YtgfbjpmbaibnoaaDoor
