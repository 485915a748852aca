/- What the package variables hold, and the library's contracts in this proof's words. -/
import Derived.Test.YtgfbjpmbaibnoaaDoorRows
import Derived.Test.YtgfbjpmbaibnoaaDoorShf
import Derived.Test.YtgfbjpmbaibnoaaDoorBas
import Derived.Lib.SmallJoins
import Derived.Lib.AppendIntMem
import Derived.Deep.Light
namespace Go.Proofs.YtgfbjpmbaibnoaaDoor
set_option maxRecDepth 100000
set_option linter.unusedSimpArgs false
set_option linter.unusedVariables false
open Go.RowKit
attribute [local go_sem] bs_toList bs_get bs_size

def ownList : List Bytes := [cLet, cSay, cWhen, cAs, cPrint, cIf, cInt, cBool]
theorem decDigits_eq (n : Nat) : Lib.decDigits n = decL n := by
  induction n using Nat.strongRecOn with
  | _ n ih =>
    rw [Lib.decDigits]
    split
    · next h => rw [decL_lt h]
    · next h => rw [decL_ge h, ih _ (by omega)]
theorem libJoin (l : List Bytes) : Lib.join l [32] = joinL l := by
  match l with
  | [] => rfl
  | [w] => rw [Lib.join_one]; rfl
  | w :: v :: l =>
    rw [Lib.join_cons, joinL, ← libJoin (v :: l), Lib.join_cons]
    simp [Lib.joinTail]
end Go.Proofs.YtgfbjpmbaibnoaaDoor


/- The program's tests on words, as plain functions. -/
namespace Go.Proofs.YtgfbjpmbaibnoaaDoor
set_option maxRecDepth 100000
set_option linter.unusedSimpArgs false
set_option linter.unusedVariables false
open Go.RowKit
attribute [local go_sem] bs_toList bs_get bs_size

theorem inB_any (n lo hi : Int) (w : World) : Calls Tryd.prog 54 #[.int .i64 n, .int .i64 lo, .int .i64 hi] w fun e w' => e = .returned (.bool (decide (lo ≤ n) && decide (n ≤ hi))) ∧ w = w' := by
  go_enter Tryd.func54, Tryd.ntmps54
  go_wp2_with fail
  all_goals (try (go_ret; refine ⟨ret_bool ?_, rfl⟩; go_light; first | (simp_all [Bool.and_eq_true]; done) | (simp_all [Bool.and_eq_true]; omega) | (rw [Bool.eq_iff_iff]; simp [Bool.and_eq_true]; omega)))
/-- how tight a mark holds -/
def tgt (s : Bytes) : Nat := if s = [60] then 1 else if s = [43] ∨ s = [45] then 2 else if s = [42] then 3 else 0
theorem runL_at {p : UInt8 → Bool} {s : Bytes} {j : Nat} (h : ∀ t c, t < j → s[t]? = some c → p c = true) (hj : j ≤ s.length) (he : s.length ≤ j ∨ ∃ c, s[j]? = some c ∧ p c = false) : runL p s = j := by
  have e : s = s.take j ++ s.drop j := (List.take_append_drop j s).symm
  have h1 : ∀ c ∈ s.take j, p c = true := by
    intro c hc
    obtain ⟨i, hi⟩ := List.mem_iff_getElem?.1 hc
    rw [List.getElem?_take] at hi
    split at hi
    · next hij => exact h i c hij hi
    · cases hi
  have h2 : s.drop j = [] ∨ ∃ c r', s.drop j = c :: r' ∧ p c = false := by
    rcases he with he | ⟨c, hc, hp⟩
    · left; exact List.drop_eq_nil_iff.2 he
    · right
      have hl := (List.getElem?_eq_some_iff.1 hc).1
      refine ⟨c, s.drop (j + 1), ?_, hp⟩
      rw [List.drop_eq_getElem_cons hl]
      rw [List.getElem?_eq_getElem hl] at hc
      rw [Option.some.inj hc]
  have := runL_stop h1 h2
  rw [← e] at this
  rw [this, List.length_take]
  omega
theorem tw_mem {p : UInt8 → Bool} : ∀ {l : Bytes} {c : UInt8}, c ∈ l.takeWhile p → p c = true
  | [], c, h => by simp at h
  | a :: l, c, h => by
    by_cases ha : p a = true
    · rw [List.takeWhile_cons, if_pos ha, List.mem_cons] at h
      rcases h with rfl | h
      · exact ha
      · exact tw_mem h
    · rw [List.takeWhile_cons, if_neg ha] at h
      simp at h
theorem wordB_run (s : Bytes) : wordB s = (decide (1 ≤ s.length) && decide (s.length ≤ 8) && decide (runL isLet s = s.length)) := by
  have h : s.all isLet = decide (runL isLet s = s.length) := by
    rw [Bool.eq_iff_iff, decide_eq_true_eq, List.all_eq_true]
    constructor
    · intro h
      have := runL_stop (r := []) h (.inl rfl)
      rwa [List.append_nil] at this
    · intro h c hc
      unfold runL at h
      have h2 : s.takeWhile isLet = s := (List.takeWhile_sublist isLet).eq_of_length h
      rw [← h2] at hc
      exact tw_mem hc
  unfold wordB
  rw [h]
  cases decide (1 ≤ s.length) <;> cases decide (s.length ≤ 8) <;> cases decide (runL isLet s = s.length) <;> rfl
/-- the place of the first that is s, from i on, or -1 -/
def idxL (s : Bytes) (l : List Bytes) : Int := match l.findIdx? (fun x => x == s) with | some i => i | none => -1
theorem idxL_none {s : Bytes} {l : List Bytes} (h : ∀ t x, t < l.length → l[t]? = some x → x ≠ s) : idxL s l = -1 := by
  unfold idxL
  rw [List.findIdx?_eq_none_iff.2]
  intro x hx
  obtain ⟨t, ht⟩ := List.mem_iff_getElem?.1 hx
  simpa using h t x (List.getElem?_eq_some_iff.1 ht).1 ht
theorem idxL_some {s : Bytes} {l : List Bytes} {j : Nat} (h : ∀ t x, t < j → l[t]? = some x → x ≠ s) (hj : l[j]? = some s) : idxL s l = j := by
  unfold idxL
  have hl := (List.getElem?_eq_some_iff.1 hj)
  obtain ⟨hl, he⟩ := hl
  rw [List.findIdx?_eq_some_iff_getElem.2 ⟨hl, by simp [he], fun t ht => by
    have := h t l[t] ht (List.getElem?_eq_getElem _)
    simpa using this⟩]
theorem idxL_ge (s : Bytes) (l : List Bytes) : (decide (0 ≤ idxL s l)) = l.contains s := by
  rw [Bool.eq_iff_iff, decide_eq_true_eq, List.contains_iff_mem]
  constructor
  · intro h
    unfold idxL at h
    split at h
    · next i hi =>
      obtain ⟨hl, he, _⟩ := List.findIdx?_eq_some_iff_getElem.1 hi
      have : l[i] = s := by simpa using he
      rw [← this]; exact List.getElem_mem hl
    · omega
  · intro h
    by_cases h2 : 0 ≤ idxL s l
    · exact h2
    · exfalso
      unfold idxL at h2
      split at h2
      · omega
      · next hn => exact absurd (List.findIdx?_eq_none_iff.1 hn s h) (by simp)
theorem own_held (s : Bytes) : ownList.contains s = heldB s := by
  rw [Bool.eq_iff_iff, List.contains_iff_mem]
  simp only [ownList, heldB, typeB, List.mem_cons, List.not_mem_nil, or_false, Bool.or_eq_true, beq_iff_eq]
  simp only [or_assoc]
end Go.Proofs.YtgfbjpmbaibnoaaDoor
