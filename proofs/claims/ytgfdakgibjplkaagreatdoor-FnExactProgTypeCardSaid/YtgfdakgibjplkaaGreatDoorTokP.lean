
/- Plain Lean of words in a line: what a word is, how a line is cut into words, and that words with a space between are read back. No program in sight, no condition. -/
import Derived.Test.YtgfdakgibjplkaaGreatDoorE
namespace Go.Proofs.YtgfdakgibjplkaaGreatDoor
set_option maxRecDepth 100000
open Go.RowKit

/-- the number that stands in decimals, without needless zeros, up to a million -/
def digVal (s : Bytes) : Nat := s.foldl (fun a c => a * 10 + (c.toNat - 48)) 0
def numB (s : Bytes) : Bool := s.all isDig && decide (1 ≤ s.length) && decide (s.length ≤ 17) && (s.length == 1 || !(s.take 1 == [48])) && decide (digVal s ≤ 1000000)
def markB (s : Bytes) : Bool := s.length == 1 && ([43, 45, 42, 60, 40, 41, 58, 61] : Bytes).any (fun c => s == [c])
def okB (k : Int) (s : Bytes) : Bool := if k = 1 then wordB s else if k = 2 then numB s else if k = 3 then markB s else false
def kindL (s : Bytes) : Nat := if wordB s then 1 else if numB s then 2 else if markB s then 3 else 0

theorem decL_dig : ∀ (n : Nat), ∀ c ∈ decL n, isDig c = true := by
  intro n
  induction n using Nat.strongRecOn with
  | _ n ih =>
    intro c hc
    by_cases h : n < 10
    · rw [decL_lt h, List.mem_singleton] at hc
      subst hc
      simp only [isDig, Bool.and_eq_true, decide_eq_true_eq, UInt8.toNat_ofNat']
      omega
    · rw [decL_ge h, List.mem_append, List.mem_singleton] at hc
      rcases hc with hc | rfl
      · exact ih _ (by omega) c hc
      · simp only [isDig, Bool.and_eq_true, decide_eq_true_eq, UInt8.toNat_ofNat']
        omega
theorem digVal_snoc (s : Bytes) (c : UInt8) : digVal (s ++ [c]) = digVal s * 10 + (c.toNat - 48) := by simp [digVal, List.foldl_append]
theorem digVal_dec (n : Nat) : digVal (decL n) = n := by
  induction n using Nat.strongRecOn with
  | _ n ih =>
    by_cases h : n < 10
    · rw [decL_lt h]
      simp only [digVal, List.foldl_cons, List.foldl_nil, UInt8.toNat_ofNat']
      omega
    · rw [decL_ge h, digVal_snoc, ih _ (by omega)]
      simp only [UInt8.toNat_ofNat']
      omega
theorem decL_head : ∀ n : Nat, 0 < n → ∃ c l, decL n = c :: l ∧ c ≠ 48 := by
  intro n
  induction n using Nat.strongRecOn with
  | _ n ih =>
    intro hn
    by_cases h : n < 10
    · refine ⟨_, [], decL_lt h, fun e => ?_⟩
      have := congrArg UInt8.toNat e
      simp only [UInt8.toNat_ofNat'] at this
      have h2 : (48 : UInt8).toNat = 48 := rfl
      omega
    · obtain ⟨c, l, e, hc⟩ := ih (n / 10) (by omega) (by omega)
      exact ⟨c, _, by rw [decL_ge h, e]; rfl, hc⟩
/-- what reads as a number was written so -/
theorem dec_of_dig : ∀ (s : Bytes), (∀ c ∈ s, isDig c = true) → 1 ≤ s.length → (s.length = 1 ∨ s.take 1 ≠ [48]) → decL (digVal s) = s := by
  intro s
  induction h : s.length using Nat.strongRecOn generalizing s with
  | _ m ih =>
    intro hd h1 h0
    subst h
    obtain ⟨t, c, rfl⟩ : ∃ t c, s = t ++ [c] := by
      refine ⟨s.dropLast, s.getLast (by intro e; subst e; simp at h1), ?_⟩
      rw [List.dropLast_concat_getLast]
    have hc := hd c (by simp)
    simp only [isDig, Bool.and_eq_true, decide_eq_true_eq] at hc
    have e0 : UInt8.ofNat (48 + (c.toNat - 48)) = c := by
      rw [show 48 + (c.toNat - 48) = c.toNat from by omega]
      exact UInt8.ofNat_toNat
    rw [digVal_snoc]
    by_cases ht : t = []
    · subst ht
      have : digVal ([] : Bytes) = 0 := rfl
      rw [this, Nat.zero_mul, Nat.zero_add, decL_lt (by omega), e0]
      rfl
    · have htl : 1 ≤ t.length := by cases t with | nil => exact absurd rfl ht | cons a b => simp
      have ht0 : t.take 1 ≠ [48] := by
        rcases h0 with h0 | h0
        · rw [List.length_append, List.length_singleton] at h0; omega
        · rwa [List.take_append_of_le_length htl] at h0
      have h2 := ih t.length (by rw [List.length_append, List.length_singleton]; omega) t rfl (fun c hc => hd c (by simp [hc])) htl (.inr ht0)
      have h3 : 0 < digVal t := by
        rcases Nat.eq_zero_or_pos (digVal t) with e | e
        · rw [e, decL_lt (by omega)] at h2
          rw [← h2] at ht0
          exact absurd rfl ht0
        · exact e
      have h4 : ¬ digVal t * 10 + (c.toNat - 48) < 10 := by omega
      rw [decL_ge h4, show (digVal t * 10 + (c.toNat - 48)) / 10 = digVal t from by omega, h2, show (digVal t * 10 + (c.toNat - 48)) % 10 = c.toNat - 48 from by omega, e0]
theorem numB_iff {s : Bytes} : numB s = true ↔ ∃ n : Nat, n ≤ 1000000 ∧ s = decL n := by
  constructor
  · intro h
    simp only [numB, Bool.and_eq_true, List.all_eq_true, decide_eq_true_eq, Bool.or_eq_true, beq_iff_eq, Bool.not_eq_true', beq_eq_false_iff_ne] at h
    obtain ⟨⟨⟨⟨h1, h2⟩, h3⟩, h4⟩, h5⟩ := h
    exact ⟨digVal s, h5, (dec_of_dig s h1 h2 h4).symm⟩
  · rintro ⟨n, hn, rfl⟩
    simp only [numB, Bool.and_eq_true, List.all_eq_true, decide_eq_true_eq, Bool.or_eq_true, beq_iff_eq, Bool.not_eq_true', beq_eq_false_iff_ne]
    refine ⟨⟨⟨⟨decL_dig n, decL_pos n⟩, Nat.le_trans (decL_len 6 n (by omega)) (by omega)⟩, ?_⟩, by rw [digVal_dec]; exact hn⟩
    rcases Nat.eq_zero_or_pos n with rfl | h
    · left; rw [decL_lt (by omega)]; rfl
    · right
      obtain ⟨c, l, e, hc⟩ := decL_head n h
      rw [e]
      simpa using hc
theorem decL_inj {n m : Nat} (h : decL n = decL m) : n = m := by rw [← digVal_dec n, h, digVal_dec]

/-! ### a line's words -/
/-- how many bytes at the front are of a sort -/
def runL (p : UInt8 → Bool) (s : Bytes) : Nat := (s.takeWhile p).length
theorem runL_le (p : UInt8 → Bool) (s : Bytes) : runL p s ≤ s.length := by unfold runL; exact (List.takeWhile_sublist p).length_le
structure Tk where
  kind : Int
  s : Bytes
  col : Int
def tkRow (t : Tk) : List Value := [.int .i64 t.kind, .string (bs t.s), .int .i64 t.col]
abbrev SlT := Sl tkRow 3
def wlen (s : Bytes) : Nat := max 1 (max (runL isLet s) (runL isDig s))
def tokL (at_ : Nat) (s : Bytes) : Option (List Tk) :=
  match s with
  | [] => some []
  | c :: r => if c = 32 then tokL (at_ + 1) r
    else if kindL ((c :: r).take (wlen (c :: r))) = 0 then none
    else (tokL (at_ + wlen (c :: r)) ((c :: r).drop (wlen (c :: r)))).map (fun l => ⟨kindL ((c :: r).take (wlen (c :: r))), (c :: r).take (wlen (c :: r)), at_⟩ :: l)
termination_by s.length
decreasing_by
  · simp
  · have : 1 ≤ wlen (c :: r) := by unfold wlen; omega
    simp only [List.length_drop, List.length_cons]
    omega
theorem tokL_nil (a : Nat) : tokL a [] = some [] := by rw [tokL]
theorem tokL_space (a : Nat) (r : Bytes) : tokL a (32 :: r) = tokL (a + 1) r := by rw [tokL, if_pos rfl]
theorem tokL_word {a : Nat} {s : Bytes} (h0 : s ≠ []) (h1 : s.take 1 ≠ [32]) (hk : kindL (s.take (wlen s)) ≠ 0) : tokL a s = (tokL (a + wlen s) (s.drop (wlen s))).map (fun l => ⟨kindL (s.take (wlen s)), s.take (wlen s), a⟩ :: l) := by
  cases s with
  | nil => exact absurd rfl h0
  | cons c r => rw [tokL, if_neg (by simpa using h1), if_neg hk]
theorem tokL_bad {a : Nat} {s : Bytes} (h0 : s ≠ []) (h1 : s.take 1 ≠ [32]) (hk : kindL (s.take (wlen s)) = 0) : tokL a s = none := by
  cases s with
  | nil => exact absurd rfl h0
  | cons c r => rw [tokL, if_neg (by simpa using h1), if_pos hk]

/-- words with one space between -/
def joinL : List Bytes → Bytes
  | [] => []
  | [w] => w
  | w :: v :: l => w ++ 32 :: joinL (v :: l)
theorem joinL_cons (w : Bytes) (l : List Bytes) : joinL (w :: l) = w ++ (match l with | [] => [] | v :: l' => 32 :: joinL (v :: l')) := by cases l <;> simp [joinL]
theorem joinL_snoc {l : List Bytes} (w : Bytes) (h : l ≠ []) : joinL (l ++ [w]) = joinL l ++ 32 :: w := by
  induction l with
  | nil => exact absurd rfl h
  | cons a l ih =>
    cases l with
    | nil => rfl
    | cons b l =>
      have := ih (by simp)
      simp only [List.cons_append, joinL] at this ⊢
      rw [this]
      simp
/-- where each begins -/
def colsL (at_ : Nat) : List Bytes → List Nat
  | [] => []
  | w :: l => at_ :: colsL (at_ + w.length + 1) l
theorem colsL_len (a : Nat) (l : List Bytes) : (colsL a l).length = l.length := by
  induction l generalizing a with
  | nil => rfl
  | cons w l ih => simp [colsL, ih]
def toksL (at_ : Nat) : List Bytes → List Tk
  | [] => []
  | w :: l => ⟨kindL w, w, at_⟩ :: toksL (at_ + w.length + 1) l
theorem toksL_len (a : Nat) (l : List Bytes) : (toksL a l).length = l.length := by
  induction l generalizing a with
  | nil => rfl
  | cons w l ih => simp [toksL, ih]

theorem runL_stop {p : UInt8 → Bool} {w r : Bytes} (hw : ∀ c ∈ w, p c = true) (hr : r = [] ∨ ∃ c r', r = c :: r' ∧ p c = false) : runL p (w ++ r) = w.length := by
  unfold runL
  induction w with
  | nil =>
    rcases hr with rfl | ⟨c, r', rfl, hc⟩
    · rfl
    · simp [hc]
  | cons a w ih =>
    rw [List.cons_append, List.takeWhile_cons, hw a (by simp)]
    simp [ih (fun c hc => hw c (by simp [hc]))]
theorem runL_zero {p : UInt8 → Bool} {c : UInt8} {r : Bytes} (h : p c = false) : runL p (c :: r) = 0 := by simp [runL, h]
theorem let_not_dig {c : UInt8} (h : isLet c = true) : isDig c = false := by
  simp only [isLet, Bool.and_eq_true, decide_eq_true_eq] at h
  simp only [isDig, Bool.and_eq_false_iff, decide_eq_false_iff_not]
  omega
theorem dig_not_let {c : UInt8} (h : isDig c = true) : isLet c = false := by
  simp only [isDig, Bool.and_eq_true, decide_eq_true_eq] at h
  simp only [isLet, Bool.and_eq_false_iff, decide_eq_false_iff_not]
  omega
theorem markB_iff {s : Bytes} : markB s = true ↔ ∃ c ∈ ([43, 45, 42, 60, 40, 41, 58, 61] : Bytes), s = [c] := by
  simp only [markB, Bool.and_eq_true, beq_iff_eq, List.any_eq_true]
  constructor
  · rintro ⟨_, h⟩; exact h
  · rintro ⟨c, hc, rfl⟩; exact ⟨rfl, c, hc, rfl⟩
/-- a word of some kind is cut off whole, if a space or nothing follows -/
theorem wlen_word {w r : Bytes} (hk : kindL w ≠ 0) (hr : r = [] ∨ ∃ r', r = 32 :: r') : wlen (w ++ r) = w.length ∧ w ≠ [] ∧ w.take 1 ≠ [32] := by
  have hr1 : r = [] ∨ ∃ c r', r = c :: r' ∧ isLet c = false := by
    rcases hr with h | ⟨r', h⟩
    · exact .inl h
    · exact .inr ⟨_, r', h, by decide⟩
  have hr2 : r = [] ∨ ∃ c r', r = c :: r' ∧ isDig c = false := by
    rcases hr with h | ⟨r', h⟩
    · exact .inl h
    · exact .inr ⟨_, r', h, by decide⟩
  unfold kindL at hk
  by_cases h1 : wordB w = true
  · simp only [wordB, Bool.and_eq_true, List.all_eq_true, decide_eq_true_eq] at h1
    obtain ⟨⟨ha, hl⟩, hm⟩ := h1
    cases w with
    | nil => simp at hl
    | cons c w' =>
      have hc := ha c (by simp)
      refine ⟨?_, by simp, ?_⟩
      · unfold wlen
        rw [runL_stop ha hr1, List.cons_append, runL_zero (let_not_dig hc)]
        simp only [List.length_cons]
        omega
      · intro e
        simp at e
        subst e
        revert hc; decide
  · rw [if_neg h1] at hk
    by_cases h2 : numB w = true
    · simp only [numB, Bool.and_eq_true, List.all_eq_true, decide_eq_true_eq] at h2
      obtain ⟨⟨⟨⟨ha, hl⟩, _⟩, _⟩, _⟩ := h2
      cases w with
      | nil => simp at hl
      | cons c w' =>
        have hc := ha c (by simp)
        refine ⟨?_, by simp, ?_⟩
        · unfold wlen
          rw [runL_stop ha hr2, List.cons_append, runL_zero (dig_not_let hc)]
          simp only [List.length_cons]
          omega
        · intro e
          simp at e
          subst e
          revert hc; decide
    · rw [if_neg h2] at hk
      by_cases h3 : markB w = true
      · obtain ⟨c, hc, rfl⟩ := markB_iff.1 h3
        refine ⟨?_, by simp, ?_⟩
        · unfold wlen
          have e1 : isLet c = false := by
            simp only [List.mem_cons, List.not_mem_nil, or_false] at hc
            rcases hc with rfl | rfl | rfl | rfl | rfl | rfl | rfl | rfl <;> decide
          have e2 : isDig c = false := by
            simp only [List.mem_cons, List.not_mem_nil, or_false] at hc
            rcases hc with rfl | rfl | rfl | rfl | rfl | rfl | rfl | rfl <;> decide
          rw [List.cons_append, List.nil_append, runL_zero e1, runL_zero e2]
          rfl
        · intro e
          simp at e
          subst e
          revert hc; decide
      · rw [if_neg h3] at hk
        exact absurd rfl hk
/-- words with a space between are read back -/
theorem tok_join : ∀ (l : List Bytes) (a : Nat), (∀ w ∈ l, kindL w ≠ 0) → tokL a (joinL l) = some (toksL a l)
  | [], a, _ => by simp [joinL, toksL, tokL_nil]
  | [w], a, h => by
    obtain ⟨h1, h2, h3⟩ := wlen_word (h w (by simp)) (.inl rfl)
    rw [List.append_nil] at h1
    have hk : kindL (w.take (wlen w)) ≠ 0 := by rw [h1, List.take_length]; exact h w (by simp)
    rw [joinL, tokL_word h2 h3 hk, h1, List.take_length, List.drop_length, tokL_nil]
    rfl
  | w :: v :: l, a, h => by
    obtain ⟨h1, h2, h3⟩ := wlen_word (r := 32 :: joinL (v :: l)) (h w (by simp)) (.inr ⟨_, rfl⟩)
    have hl : 1 ≤ w.length := by cases w with | nil => exact absurd rfl h2 | cons a b => simp
    have hk : kindL ((w ++ 32 :: joinL (v :: l)).take (wlen (w ++ 32 :: joinL (v :: l)))) ≠ 0 := by rw [h1, List.take_left]; exact h w (by simp)
    rw [joinL, tokL_word (by simp [h2]) (by rwa [List.take_append_of_le_length hl]) hk, h1, List.take_left, List.drop_left, tokL_space, tok_join (v :: l) _ (fun x hx => h x (by simp [hx]))]
    rfl
end Go.Proofs.YtgfdakgibjplkaaGreatDoor
