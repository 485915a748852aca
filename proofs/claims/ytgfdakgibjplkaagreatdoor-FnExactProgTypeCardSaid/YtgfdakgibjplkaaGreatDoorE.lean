
/- Plain Lean of what is ok to be reckoned: expressions as a type of their own, their words, types, values. No program in sight, no condition. -/
import Derived.Test.YtgfdakgibjplkaaGreatDoorEx
namespace Go.Proofs.YtgfdakgibjplkaaGreatDoor
set_option maxRecDepth 100000
open Go.RowKit

inductive Op2 where | lt | add | sub | mul
deriving DecidableEq
namespace Op2
def b : Op2 → Bytes | lt => [60] | add => [43] | sub => [45] | mul => [42]
def lv : Op2 → Nat | lt => 1 | add => 2 | sub => 2 | mul => 3
theorem of_opB {s : Bytes} (h : opB s = true) : ∃ o : Op2, s = o.b := by
  simp only [opB, Bool.or_eq_true, beq_iff_eq] at h
  rcases h with ((h | h) | h) | h
  · exact ⟨add, h⟩
  · exact ⟨sub, h⟩
  · exact ⟨mul, h⟩
  · exact ⟨lt, h⟩
theorem opB_b (o : Op2) : opB o.b = true := by cases o <;> decide
theorem b_inj {o p : Op2} (h : o.b = p.b) : o = p := by cases o <;> cases p <;> first | rfl | (simp [b] at h)
theorem b_len (o : Op2) : o.b.length = 1 := by cases o <;> rfl
end Op2
def tyB (t : Bool) : Bytes := if t then cInt else cBool
theorem typeB_ty (t : Bool) : typeB (tyB t) = true := by cases t <;> decide
theorem of_typeB {s : Bytes} (h : typeB s = true) : ∃ t, s = tyB t := by
  simp only [typeB, Bool.or_eq_true, beq_iff_eq] at h
  rcases h with h | h
  · exact ⟨true, h⟩
  · exact ⟨false, h⟩
theorem tyB_inj {a b : Bool} (h : tyB a = tyB b) : a = b := by cases a <;> cases b <;> first | rfl | (simp [tyB, cInt, cBool] at h)

/-- what is ok, part by part -/
inductive E where
  | num (n : Nat)
  | nam (s : Bytes)
  | two (o : Op2) (a b : E)
  | cast (t : Bool) (a : E)
namespace E
def ex : E → Ex
  | num n => .mk 1 n [] []
  | nam s => .mk 2 0 s []
  | two o a b => .mk 3 0 o.b [a.ex, b.ex]
  | cast t a => .mk 4 0 (tyB t) [a.ex]
def ok : E → Prop
  | num n => n ≤ 1000000
  | nam s => nameB s = true
  | two _ a b => a.ok ∧ b.ok
  | cast _ a => a.ok
def ht : E → Nat
  | num _ => 1
  | nam _ => 1
  | two _ a b => 1 + max a.ht b.ht
  | cast _ a => 1 + a.ht
def cnt : E → Nat
  | num _ => 1
  | nam _ => 1
  | two _ a b => 1 + (a.cnt + b.cnt)
  | cast _ a => 1 + a.cnt
theorem cnt_pos (e : E) : 1 ≤ e.cnt := by cases e <;> simp only [cnt] <;> omega
theorem ht_pos (e : E) : 1 ≤ e.ht := by cases e <;> simp only [ht] <;> omega
theorem ex_inj : ∀ {a b : E}, a.ex = b.ex → a = b
  | num n, num m, h => by simp only [ex, Ex.mk.injEq] at h; have := h.2.1; congr 1; omega
  | nam s, nam t, h => by simp only [ex, Ex.mk.injEq] at h; rw [h.2.2.1]
  | two o a b, two p c d, h => by
    simp only [ex, Ex.mk.injEq, List.cons.injEq] at h
    rw [Op2.b_inj h.2.2.1, ex_inj h.2.2.2.1, ex_inj h.2.2.2.2.1]
  | cast t a, cast u c, h => by
    simp only [ex, Ex.mk.injEq, List.cons.injEq] at h
    rw [tyB_inj h.2.2.1, ex_inj h.2.2.2.1]
  | num _, nam _, h => by simp [ex] at h
  | num _, two _ _ _, h => by simp [ex] at h
  | num _, cast _ _, h => by simp [ex] at h
  | nam _, num _, h => by simp [ex] at h
  | nam _, two _ _ _, h => by simp [ex] at h
  | nam _, cast _ _, h => by simp [ex] at h
  | two _ _ _, num _, h => by simp [ex] at h
  | two _ _ _, nam _, h => by simp [ex] at h
  | two _ _ _, cast _ _, h => by simp [ex] at h
  | cast _ _, num _, h => by simp [ex] at h
  | cast _ _, nam _, h => by simp [ex] at h
  | cast _ _, two _ _ _, h => by simp [ex] at h
theorem many_ex : ∀ (d : Nat) (e : E), e.ht ≤ d → manyN d e.ex = e.cnt
  | 0, e, h => by have := e.ht_pos; omega
  | d + 1, num _, _ => by simp [ex, manyN, cnt]
  | d + 1, nam _, _ => by simp [ex, manyN, cnt]
  | d + 1, two o a b, h => by
    simp only [ht] at h
    simp [ex, manyN, cnt, many_ex d a (by omega), many_ex d b (by omega)]
  | d + 1, cast t a, h => by
    simp only [ht] at h
    simp [ex, manyN, cnt, many_ex d a (by omega)]
theorem form_ex : ∀ (d : Nat) (e : E), e.ok → e.ht ≤ d → formB d e.ex = true
  | 0, e, _, h => by have := e.ht_pos; omega
  | d + 1, num n, h, _ => by simp only [ok] at h; simp [ex, formB, headB]; omega
  | d + 1, nam s, h, _ => by simp only [ok] at h; simp [ex, formB, headB, h]
  | d + 1, two o a b, h, hh => by
    simp only [ok] at h
    simp only [ht] at hh
    simp [ex, formB, headB, Op2.opB_b, form_ex d a h.1 (by omega), form_ex d b h.2 (by omega)]
  | d + 1, cast t a, h, hh => by
    simp only [ok] at h
    simp only [ht] at hh
    simp [ex, formB, headB, typeB_ty, form_ex d a h (by omega)]
theorem of_form : ∀ (d : Nat) (x : Ex), formB d x = true → ∃ e : E, x = e.ex ∧ e.ok ∧ e.ht ≤ d
  | 0, x, h => by simp [formB] at h
  | d + 1, .mk k n s kids, h => by
    simp only [formB, Bool.and_eq_true, List.all_eq_true] at h
    obtain ⟨h1, h2⟩ := h
    unfold headB at h1
    by_cases e1 : k = 1
    · rw [if_pos e1] at h1
      simp only [Bool.and_eq_true, decide_eq_true_eq, beq_iff_eq, List.length_eq_zero_iff] at h1
      obtain ⟨⟨⟨a, b⟩, rfl⟩, rfl⟩ := h1
      exact ⟨num n.toNat, by simp [ex, e1]; omega, by simp only [ok]; omega, by simp [ht]⟩
    rw [if_neg e1] at h1
    by_cases e2 : k = 2
    · rw [if_pos e2] at h1
      simp only [Bool.and_eq_true, decide_eq_true_eq, beq_iff_eq, List.length_eq_zero_iff] at h1
      obtain ⟨⟨rfl, b⟩, rfl⟩ := h1
      exact ⟨nam s, by simp [ex, e2], b, by simp [ht]⟩
    rw [if_neg e2] at h1
    by_cases e3 : k = 3
    · rw [if_pos e3] at h1
      simp only [Bool.and_eq_true, decide_eq_true_eq, beq_iff_eq] at h1
      obtain ⟨⟨rfl, b⟩, hl⟩ := h1
      obtain ⟨o, rfl⟩ := Op2.of_opB b
      match kids, hl with
      | [x, y], _ =>
        obtain ⟨a, rfl, oa, ha⟩ := of_form d x (h2 _ (by simp))
        obtain ⟨c, rfl, oc, hc⟩ := of_form d y (h2 _ (by simp))
        exact ⟨two o a c, by simp [ex, e3], ⟨oa, oc⟩, by simp only [ht]; omega⟩
    rw [if_neg e3] at h1
    by_cases e4 : k = 4
    · rw [if_pos e4] at h1
      simp only [Bool.and_eq_true, decide_eq_true_eq, beq_iff_eq] at h1
      obtain ⟨⟨rfl, b⟩, hl⟩ := h1
      obtain ⟨t, rfl⟩ := of_typeB b
      match kids, hl with
      | [x], _ =>
        obtain ⟨a, rfl, oa, ha⟩ := of_form d x (h2 _ (by simp))
        exact ⟨cast t a, by simp [ex, e4], oa, by simp only [ht]; omega⟩
    rw [if_neg e4] at h1
    cases h1
/-- ok as a whole -/
def Ok (e : E) : Prop := e.ok ∧ e.ht ≤ 5 ∧ e.cnt ≤ 12
theorem ok_iff {x : Ex} : exOkB x = true ↔ ∃ e : E, x = e.ex ∧ e.Ok := by
  unfold exOkB
  rw [Bool.and_eq_true, decide_eq_true_eq]
  constructor
  · rintro ⟨h1, h2⟩
    obtain ⟨e, rfl, a, b⟩ := of_form 5 x h1
    exact ⟨e, rfl, a, b, by rwa [many_ex 5 e b] at h2⟩
  · rintro ⟨e, rfl, a, b, c⟩
    exact ⟨form_ex 5 e a b, by rwa [many_ex 5 e b]⟩
end E

/-! ### numbers in decimals -/
def decL (n : Nat) : Bytes := if n < 10 then [UInt8.ofNat (48 + n)] else decL (n / 10) ++ [UInt8.ofNat (48 + n % 10)]
termination_by n
decreasing_by omega
theorem decL_lt {n : Nat} (h : n < 10) : decL n = [UInt8.ofNat (48 + n)] := by rw [decL, if_pos h]
theorem decL_ge {n : Nat} (h : ¬ n < 10) : decL n = decL (n / 10) ++ [UInt8.ofNat (48 + n % 10)] := by rw [decL, if_neg h]
theorem decL_len : ∀ (k n : Nat), n < 10 ^ (k + 1) → (decL n).length ≤ k + 1
  | 0, n, h => by rw [decL_lt (by simpa using h)]; simp
  | k + 1, n, h => by
    by_cases h1 : n < 10
    · rw [decL_lt h1]; simp
    · rw [decL_ge h1, List.length_append]
      have h2 : n / 10 < 10 ^ (k + 1) := Nat.div_lt_of_lt_mul (by rw [Nat.pow_succ] at h; omega)
      have := decL_len k _ h2
      simp only [List.length_singleton]
      omega
theorem decL_pos (n : Nat) : 0 < (decL n).length := by
  by_cases h1 : n < 10
  · rw [decL_lt h1]; simp
  · rw [decL_ge h1]; simp

/-! ### words -/
namespace E
def lv : E → Nat | two o _ _ => o.lv | _ => 4
def words : E → Nat → List Bytes
  | num n, _ => [decL n]
  | nam s, _ => [s]
  | two o a b, t => if o.lv < t then [40] :: (a.words (max o.lv 2) ++ o.b :: b.words (o.lv + 1)) ++ [[41]] else a.words (max o.lv 2) ++ o.b :: b.words (o.lv + 1)
  | cast ty a, _ => a.words 4 ++ [cAs, tyB ty]
theorem words_len : ∀ (e : E) (t : Nat), (e.words t).length + 2 ≤ 5 * e.cnt
  | num _, _ => by simp [words, cnt]
  | nam _, _ => by simp [words, cnt]
  | two o a b, t => by
    have h1 := words_len a (max o.lv 2)
    have h2 := words_len b (o.lv + 1)
    simp only [words, cnt]
    split <;> simp only [List.length_append, List.length_cons, List.length_nil] <;> omega
  | cast ty a, _ => by
    have h1 := words_len a 4
    simp only [words, cnt, List.length_append, List.length_cons, List.length_nil]
    omega
theorem words_pos : ∀ (e : E) (t : Nat), 1 ≤ (e.words t).length
  | num _, _ => by simp [words]
  | nam _, _ => by simp [words]
  | two o a b, t => by
    simp only [words]
    split <;> simp only [List.length_append, List.length_cons, List.length_nil] <;> omega
  | cast ty a, _ => by
    simp only [words, List.length_append, List.length_cons, List.length_nil]
    omega
/-- each word is short -/
theorem words_short : ∀ (e : E) (t : Nat), e.ok → ∀ w ∈ e.words t, 1 ≤ w.length ∧ w.length ≤ 8
  | num n, _, h, w, hw => by
    simp only [ok] at h
    simp only [words, List.mem_singleton] at hw
    subst hw
    exact ⟨decL_pos n, Nat.le_trans (decL_len 6 n (by omega)) (by omega)⟩
  | nam s, _, h, w, hw => by
    simp only [ok, nameB, wordB, Bool.and_eq_true, decide_eq_true_eq] at h
    simp only [words, List.mem_singleton] at hw
    subst hw
    exact ⟨h.1.1.2, h.1.2⟩
  | two o a b, t, h, w, hw => by
    simp only [ok] at h
    have h1 := words_short a (max o.lv 2) h.1
    have h2 := words_short b (o.lv + 1) h.2
    have key : ∀ w ∈ a.words (max o.lv 2) ++ o.b :: b.words (o.lv + 1), 1 ≤ w.length ∧ w.length ≤ 8 := by
      intro w hw
      rw [List.mem_append, List.mem_cons] at hw
      rcases hw with hw | rfl | hw
      · exact h1 w hw
      · rw [Op2.b_len]; omega
      · exact h2 w hw
    simp only [words] at hw
    split at hw
    · rw [List.mem_append, List.mem_cons, List.mem_singleton] at hw
      rcases hw with (rfl | hw) | rfl
      · simp
      · exact key w hw
      · simp
    · exact key w hw
  | cast ty a, _, h, w, hw => by
    simp only [ok] at h
    have h1 := words_short a 4 h
    simp only [words, List.mem_append, List.mem_cons, List.not_mem_nil, or_false] at hw
    rcases hw with hw | rfl | rfl
    · exact h1 w hw
    · decide
    · cases ty <;> decide
end E

/-! ### without types -/
namespace E
def bare : E → E
  | num n => num n
  | nam s => nam s
  | two o a b => two o a.bare b.bare
  | cast _ a => a.bare
theorem bare_ok : ∀ e : E, e.ok → e.bare.ok
  | num _, h => h
  | nam _, h => h
  | two _ a b, h => ⟨bare_ok a h.1, bare_ok b h.2⟩
  | cast _ a, h => bare_ok a h
theorem bare_ht : ∀ e : E, e.bare.ht ≤ e.ht
  | num _ => Nat.le_refl _
  | nam _ => Nat.le_refl _
  | two _ a b => by have := bare_ht a; have := bare_ht b; simp only [bare, ht]; omega
  | cast _ a => by have := bare_ht a; simp only [bare, ht]; omega
theorem bare_cnt : ∀ e : E, e.bare.cnt ≤ e.cnt
  | num _ => Nat.le_refl _
  | nam _ => Nat.le_refl _
  | two _ a b => by have := bare_cnt a; have := bare_cnt b; simp only [bare, cnt]; omega
  | cast _ a => by have := bare_cnt a; simp only [bare, cnt]; omega
theorem bare_Ok {e : E} (h : e.Ok) : e.bare.Ok := ⟨bare_ok e h.1, Nat.le_trans (bare_ht e) h.2.1, Nat.le_trans (bare_cnt e) h.2.2⟩
theorem bare_bare : ∀ e : E, e.bare.bare = e.bare
  | num _ => rfl
  | nam _ => rfl
  | two _ a b => by simp only [bare]; rw [bare_bare a, bare_bare b]
  | cast _ a => bare_bare a
end E

/-! ### types and values -/
/-- the last place of a name -/
def lastAt (names : List Bytes) (s : Bytes) : Option Nat := (List.range names.length).reverse.find? (fun i => decide (names[i]? = some s))
def clampI (n : Int) : Int := max (-1000000) (min 1000000 n)
namespace E
def typ (names types : List Bytes) : E → Bytes
  | num _ => cInt
  | nam s => match lastAt names s with | some i => (types[i]?).getD [] | none => []
  | cast t a => if a.typ names types = [] then [] else tyB t
  | two o a b => if a.typ names types = cInt ∧ b.typ names types = cInt then (if o = .lt then cBool else cInt) else []
def val (names : List Bytes) (nums : List Int) : E → Option Int
  | num n => some n
  | nam s => match lastAt names s with | some i => some (clampI ((nums[i]?).getD 0)) | none => none
  | cast _ a => a.val names nums
  | two o a b => match a.val names nums, b.val names nums with
    | some x, some y => some (match o with | .add => clampI (x + y) | .sub => clampI (x - y) | .mul => clampI (x * y) | .lt => if x < y then 1 else 0)
    | _, _ => none
theorem clampI_bd (n : Int) : -1000000 ≤ clampI n ∧ clampI n ≤ 1000000 := by unfold clampI; omega
theorem val_bd {names : List Bytes} {nums : List Int} : ∀ {e : E} {n : Int}, e.ok → e.val names nums = some n → -1000000 ≤ n ∧ n ≤ 1000000
  | num m, n, h, hv => by simp only [ok] at h; simp only [val, Option.some.injEq] at hv; omega
  | nam s, n, h, hv => by
    simp only [val] at hv
    split at hv
    · obtain rfl := Option.some.inj hv; exact clampI_bd _
    · cases hv
  | cast _ a, n, h, hv => val_bd (e := a) h hv
  | two o a b, n, h, hv => by
    simp only [val] at hv
    split at hv
    · obtain rfl := Option.some.inj hv
      cases o <;> simp only <;> first | exact clampI_bd _ | (split <;> omega)
    · cases hv
theorem val_bare {names : List Bytes} {nums : List Int} : ∀ e : E, e.bare.val names nums = e.val names nums
  | num _ => rfl
  | nam _ => rfl
  | cast _ a => val_bare a
  | two o a b => by simp only [bare, val]; rw [val_bare a, val_bare b]
end E
end Go.Proofs.YtgfdakgibjplkaaGreatDoor
