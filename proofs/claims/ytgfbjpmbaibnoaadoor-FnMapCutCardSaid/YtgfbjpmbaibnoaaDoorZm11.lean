/- The program's tests on words, as plain functions. -/
import Derived.Test.YtgfbjpmbaibnoaaDoorZm10
import Derived.Test.YtgfbjpmbaibnoaaDoorBas
import Derived.Deep.AppendLies
namespace Go.Proofs.YtgfbjpmbaibnoaaDoor
set_option maxRecDepth 100000
set_option linter.unusedSimpArgs false
set_option linter.unusedVariables false
open Go.RowKit
attribute [local go_sem] bs_toList bs_get bs_size

theorem inB_any (n lo hi : Int) (w : World) : Calls Tryd.prog 54 #[.int .i64 n, .int .i64 lo, .int .i64 hi] w fun e w' => e = .returned (.bool (decide (lo ≤ n) && decide (n ≤ hi))) ∧ w = w' := by
  go_enter Tryd.func54, Tryd.ntmps54
  go_wp2_with fail
  all_goals (try (go_ret; refine ⟨ret_bool ?_, rfl⟩; go_light; first | (simp_all [Bool.and_eq_true]; done) | (simp_all [Bool.and_eq_true]; omega) | (rw [Bool.eq_iff_iff]; simp [Bool.and_eq_true]; omega)))
/-- how tight a mark holds -/
def tgt (s : Bytes) : Nat := if s = [60] then 1 else if s = [43] ∨ s = [45] then 2 else if s = [42] then 3 else 0
theorem runL_at {p : UInt8 → Bool} {s : Bytes} {j : Nat} (h : ∀ t c, t < j → s[t]? = some c → p c = true) (hj : j ≤ s.length) (he : s.length ≤ j ∨ ∃ c, s[j]? = some c ∧ p c = false) : runL p s = j := by
  have e : s = s.take j ++ s.drop j := (List.take_append_drop j s).symm
  have h1 : ∀ c ∈ s.take j, p c = true := by
    intro c hc
    obtain ⟨i, hi⟩ := List.mem_iff_getElem?.1 hc
    rw [List.getElem?_take] at hi
    split at hi
    · next hij => exact h i c hij hi
    · cases hi
  have h2 : s.drop j = [] ∨ ∃ c r', s.drop j = c :: r' ∧ p c = false := by
    rcases he with he | ⟨c, hc, hp⟩
    · left; exact List.drop_eq_nil_iff.2 he
    · right
      have hl := (List.getElem?_eq_some_iff.1 hc).1
      refine ⟨c, s.drop (j + 1), ?_, hp⟩
      rw [List.drop_eq_getElem_cons hl]
      rw [List.getElem?_eq_getElem hl] at hc
      rw [Option.some.inj hc]
  have := runL_stop h1 h2
  rw [← e] at this
  rw [this, List.length_take]
  omega
theorem tw_mem {p : UInt8 → Bool} : ∀ {l : Bytes} {c : UInt8}, c ∈ l.takeWhile p → p c = true
  | [], c, h => by simp at h
  | a :: l, c, h => by
    by_cases ha : p a = true
    · rw [List.takeWhile_cons, if_pos ha, List.mem_cons] at h
      rcases h with rfl | h
      · exact ha
      · exact tw_mem h
    · rw [List.takeWhile_cons, if_neg ha] at h
      simp at h
theorem wordB_run (s : Bytes) : wordB s = (decide (1 ≤ s.length) && decide (s.length ≤ 8) && decide (runL isLet s = s.length)) := by
  have h : s.all isLet = decide (runL isLet s = s.length) := by
    rw [Bool.eq_iff_iff, decide_eq_true_eq, List.all_eq_true]
    constructor
    · intro h
      have := runL_stop (r := []) h (.inl rfl)
      rwa [List.append_nil] at this
    · intro h c hc
      unfold runL at h
      have h2 : s.takeWhile isLet = s := (List.takeWhile_sublist isLet).eq_of_length h
      rw [← h2] at hc
      exact tw_mem hc
  unfold wordB
  rw [h]
  cases decide (1 ≤ s.length) <;> cases decide (s.length ≤ 8) <;> cases decide (runL isLet s = s.length) <;> rfl
/-- the place of the first that is s, from i on, or -1 -/
def idxL (s : Bytes) (l : List Bytes) : Int := match l.findIdx? (fun x => x == s) with | some i => i | none => -1
theorem idxL_none {s : Bytes} {l : List Bytes} (h : ∀ t x, t < l.length → l[t]? = some x → x ≠ s) : idxL s l = -1 := by
  unfold idxL
  rw [List.findIdx?_eq_none_iff.2]
  intro x hx
  obtain ⟨t, ht⟩ := List.mem_iff_getElem?.1 hx
  simpa using h t x (List.getElem?_eq_some_iff.1 ht).1 ht
theorem idxL_some {s : Bytes} {l : List Bytes} {j : Nat} (h : ∀ t x, t < j → l[t]? = some x → x ≠ s) (hj : l[j]? = some s) : idxL s l = j := by
  unfold idxL
  have hl := (List.getElem?_eq_some_iff.1 hj)
  obtain ⟨hl, he⟩ := hl
  rw [List.findIdx?_eq_some_iff_getElem.2 ⟨hl, by simp [he], fun t ht => by
    have := h t l[t] ht (List.getElem?_eq_getElem _)
    simpa using this⟩]
theorem idxL_ge (s : Bytes) (l : List Bytes) : (decide (0 ≤ idxL s l)) = l.contains s := by
  rw [Bool.eq_iff_iff, decide_eq_true_eq, List.contains_iff_mem]
  constructor
  · intro h
    unfold idxL at h
    split at h
    · next i hi =>
      obtain ⟨hl, he, _⟩ := List.findIdx?_eq_some_iff_getElem.1 hi
      have : l[i] = s := by simpa using he
      rw [← this]; exact List.getElem_mem hl
    · omega
  · intro h
    by_cases h2 : 0 ≤ idxL s l
    · exact h2
    · exfalso
      unfold idxL at h2
      split at h2
      · omega
      · next hn => exact absurd (List.findIdx?_eq_none_iff.1 hn s h) (by simp)
theorem own_held (s : Bytes) : ownList.contains s = heldB s := by
  rw [Bool.eq_iff_iff, List.contains_iff_mem]
  simp only [ownList, heldB, typeB, List.mem_cons, List.not_mem_nil, or_false, Bool.or_eq_true, beq_iff_eq]
  simp only [or_assoc]
end Go.Proofs.YtgfbjpmbaibnoaaDoor


/- The program's test on trees: parts are counted in a cell of the caller's. -/
namespace Go.Proofs.YtgfbjpmbaibnoaaDoor
set_option maxRecDepth 100000
set_option linter.unusedSimpArgs false
set_option linter.unusedVariables false
open Go.RowKit
attribute [local go_sem] bs_toList bs_get bs_size

theorem below_of_grown {w w' : World} {p B : Nat} (hg : w.grownBy w' (some p)) (hB : B ≤ p) (hp : p < w.heap.size) : Below B w w' :=
  ⟨hg.os, hg.tape, hg.output, hg.size, fun k hk => hg.block k (by omega) (fun e => by have := Option.some.inj e; omega)⟩
theorem grown_tr {a w w' : World} {row : Option Nat} (h : a.grownBy w row) (k : w.grownBy w' row) : a.grownBy w' row :=
  ⟨k.os.trans h.os, k.tape.trans h.tape, k.output.trans h.output, Nat.le_trans h.size k.size, fun i hi hr => (k.block i (Nat.lt_of_lt_of_le hi h.size) hr).trans (h.block i hi hr)⟩
theorem grown_bel {a w w' : World} {row : Option Nat} (h : a.grownBy w row) (hb : Below w.heap.size w w') : a.grownBy w' row :=
  grown_tr h ⟨hb.os, hb.tape, hb.output, hb.size, fun i hi _ => hb.block i hi⟩
theorem bel_grown {a w w' : World} {p : Nat} (hb : Below a.heap.size a w) (h : w.grownBy w' (some p)) : a.grownBy w' (some p) :=
  grown_tr ⟨hb.os, hb.tape, hb.output, hb.size, fun i hi _ => hb.block i hi⟩ h
theorem grown_rfl (w : World) (row : Option Nat) : w.grownBy w row := ⟨rfl, rfl, rfl, Nat.le_refl _, fun _ _ _ => rfl⟩
theorem grown_st {a w : World} {b : Nat} (h : a.grownBy w (some b)) (i : Nat) (v : Value) : a.grownBy (w.setCell ⟨b, i, none⟩ v) (some b) :=
  grown_tr h ⟨rfl, rfl, rfl, by simp [World.setCell], fun k hk hr => Below.heap_setCell w ⟨b, i, none⟩ v k (fun e => hr (by rw [e]))⟩
theorem grown_keepc {w w' : World} {p b o : Nat} {x : Value} (hg : w.grownBy w' (some p)) (h : w.cell? ⟨b, o, none⟩ = some x) (hne : b ≠ p) : w'.cell? ⟨b, o, none⟩ = some x :=
  hg.cell h (fun e => hne (by simpa using e))

def manyS (d : Nat) (l : List Ex) (j : Nat) : Nat := ((l.take j).map (manyN d)).sum
theorem manyS_zero (d : Nat) (l : List Ex) : manyS d l 0 = 0 := by simp [manyS]
theorem manyS_succ {d : Nat} {l : List Ex} {i : Nat} {e : Ex} (h : l[i]? = some e) : manyS d l (i + 1) = manyS d l i + manyN d e := by
  have hi := (List.getElem?_eq_some_iff.1 h).1
  have he : l[i] = e := by rw [List.getElem?_eq_getElem hi] at h; exact Option.some.inj h
  unfold manyS
  rw [List.take_succ_eq_append_getElem hi, List.map_append, List.sum_append, he]
  simp
theorem manyS_all (d : Nat) (l : List Ex) : manyS d l l.length = (l.map (manyN d)).sum := by simp [manyS]
theorem manyS_le (d : Nat) (l : List Ex) (j : Nat) : manyS d l j ≤ (l.map (manyN d)).sum := by
  have h : (l.take j ++ l.drop j) = l := List.take_append_drop j l
  have h2 := congrArg (fun l => (l.map (manyN d)).sum) h
  simp only [List.map_append, List.sum_append] at h2
  unfold manyS
  omega
/-- what walk tells, and what it leaves in the cell -/
def WalkPost (d : Nat) (e : Ex) (n : Nat) (p : Nat) (w : World) (b : Bool) (w' : World) : Prop :=
  ∃ n' : Int, w.grownBy w' (some p) ∧ Blk w' p 3 #[.int .i64 n'] ∧ (b = true → formB d e = true ∧ n' = n + manyN d e ∧ n + manyN d e ≤ 12) ∧ (b = false → ¬ (formB d e = true ∧ n + manyN d e ≤ 12))
def IdxPost (d : Nat) (l : List Ex) (n : Nat) (p : Nat) (w : World) (i : Int) (w' : World) : Prop :=
  ∃ n' : Int, w.grownBy w' (some p) ∧ Blk w' p 3 #[.int .i64 n'] ∧ ((i = -1 ∧ (∀ x ∈ l, formB d x = true) ∧ n' = n + (l.map (manyN d)).sum ∧ n + (l.map (manyN d)).sum ≤ 12) ∨ (0 ≤ i ∧ ¬ ((∀ x ∈ l, formB d x = true) ∧ n + (l.map (manyN d)).sum ≤ 12)))
def RetB (Q : Bool → World → Prop) (e : Ending) (w : World) : Prop := ∃ b : Bool, e = .returned (.bool b) ∧ Q b w
def RetI (Q : Int → World → Prop) (e : Ending) (w : World) : Prop := ∃ i : Int, e = .returned (.int .i64 i) ∧ Q i w

theorem tgt_pos (s : Bytes) : decide (0 < tgt s) = opB s := by
  unfold tgt opB
  by_cases h1 : s = [60]
  · simp [h1]
  by_cases h2 : s = [43]
  · simp [h2]
  by_cases h3 : s = [45]
  · simp [h3]
  by_cases h4 : s = [42]
  · simp [h4]
  simp [h1, h2, h3, h4]
end Go.Proofs.YtgfbjpmbaibnoaaDoor
