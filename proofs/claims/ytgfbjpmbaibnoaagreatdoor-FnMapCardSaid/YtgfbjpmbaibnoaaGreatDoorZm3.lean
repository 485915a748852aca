/- What is reckoned comes to: the reference's and the program's. -/
import Derived.Test.YtgfbjpmbaibnoaaGreatDoorZm7
import Derived.Test.YtgfbjpmbaibnoaaGreatDoorBas
namespace Go.Proofs.YtgfbjpmbaibnoaaGreatDoor
set_option maxRecDepth 100000
set_option linter.unusedSimpArgs false
set_option linter.unusedVariables false
open Go.RowKit
attribute [local go_sem] bs_toList bs_get bs_size

def intRow (n : Int) : List Value := [.int .i64 n]
abbrev SlN := Sl intRow 1
theorem num_at {W : World} {B n c : Nat} {A : Option Addr} {l : List Int} {i : Nat} (h : SlN W B (.slice A n c) l) (hi : i < l.length) :
    ∃ b o x, A = some ⟨b, o, none⟩ ∧ b < B ∧ l[i]? = some x ∧ (∀ y : Later B W, y.w'.cell? ⟨b, o + i, none⟩ = some (.int .i64 x)) := by
  obtain ⟨A', c', hv, hc, hm, hh⟩ := h
  obtain ⟨rfl, _, rfl⟩ : A = A' ∧ n = l.length ∧ c = c' := by injection hv; exact ⟨‹_›, ‹_›, ‹_›⟩
  obtain ⟨b, o, rfl, hb, hcell⟩ := hh (by omega)
  have hg : l[i]? = some l[i] := List.getElem?_eq_getElem hi
  refine ⟨b, o, l[i], rfl, hb, hg, fun y => ?_⟩
  have := (y.ok.cell (p := ⟨b, o + i * 1 + 0, none⟩) (by simpa using hb)).trans (hcell i _ hg 0 _ rfl)
  simpa using this
def op2 (o : Op2) (x y : Int) : Int := match o with | .add => clampI (x + y) | .sub => clampI (x - y) | .mul => clampI (x * y) | .lt => if x < y then 1 else 0
namespace E
def va (names : List Bytes) (nums : List Int) : E → Option Int
  | num n => some n
  | nam s => match lastF s names 0 with | some i => some (clampI ((nums[i]?).getD 0)) | none => none
  | cast _ a => a.va names nums
  | two o a b => match a.va names nums, b.va names nums with | some x, some y => some (op2 o x y) | _, _ => none
end E
theorem op2_lt1 {x y : Int} (h : x < y) : op2 .lt x y = 1 := if_pos h
theorem op2_lt0 {x y : Int} (h : y ≤ x) : op2 .lt x y = 0 := if_neg (Int.not_lt.2 h)
theorem op2_bd (o : Op2) (x y : Int) : -1000000 ≤ op2 o x y ∧ op2 o x y ≤ 1000000 := by
  cases o <;> simp only [op2] <;> first | exact E.clampI_bd _ | (split <;> omega)
theorem va_bd {names : List Bytes} {nums : List Int} : ∀ {e : E} {n : Int}, e.ok → e.va names nums = some n → -1000000 ≤ n ∧ n ≤ 1000000
  | .num m, n, h, hv => by simp only [E.ok] at h; simp only [E.va, Option.some.injEq] at hv; omega
  | .nam s, n, h, hv => by
    simp only [E.va] at hv
    split at hv
    · obtain rfl := Option.some.inj hv; exact E.clampI_bd _
    · cases hv
  | .cast _ a, n, h, hv => va_bd (e := a) h hv
  | .two o a b, n, h, hv => by
    simp only [E.va] at hv
    split at hv
    · obtain rfl := Option.some.inj hv; exact op2_bd _ _ _
    · cases hv
theorem mul_bd {x y : Int} (hx : -1000000 ≤ x ∧ x ≤ 1000000) (hy : -1000000 ≤ y ∧ y ≤ 1000000) : -1000000000000 ≤ x * y ∧ x * y ≤ 1000000000000 := by
  have h1 : (x * y).natAbs = x.natAbs * y.natAbs := Int.natAbs_mul x y
  have h2 : x.natAbs * y.natAbs ≤ 1000000 * 1000000 := Nat.mul_le_mul (by omega) (by omega)
  omega
def ofVal (r : Option Int) : Value := match r with | some n => .tuple #[.int .i64 n, .bool true] | none => .tuple #[.int .i64 0, .bool false]
end Go.Proofs.YtgfbjpmbaibnoaaGreatDoor


/- Plain Lean: another part in the place of a name; what is reckoned without types has no word of types. No program in sight, no condition. -/
namespace Go.Proofs.YtgfbjpmbaibnoaaGreatDoor
set_option maxRecDepth 100000
set_option linter.unusedSimpArgs false
set_option linter.unusedVariables false
open Go.RowKit

namespace E
def put (x : Bytes) (r : E) : E → E
  | num n => num n
  | nam s => if s = x then r else nam s
  | two o a b => two o (put x r a) (put x r b)
  | cast t a => cast t (put x r a)
theorem put_ok {x : Bytes} {r : E} (hr : r.ok) : ∀ e : E, e.ok → (put x r e).ok
  | num _, h => h
  | nam s, h => by simp only [put]; split; exact hr; exact h
  | two _ a b, h => ⟨put_ok hr a h.1, put_ok hr b h.2⟩
  | cast _ a, h => put_ok hr a h
theorem put_ht {x : Bytes} {r : E} (hr : r.ht = 1) : ∀ e : E, (put x r e).ht = e.ht
  | num _ => rfl
  | nam s => by simp only [put]; split; rw [hr]; rfl; rfl
  | two _ a b => by simp only [put, ht]; rw [put_ht hr a, put_ht hr b]
  | cast _ a => by simp only [put, ht]; rw [put_ht hr a]
theorem put_cnt {x : Bytes} {r : E} (hr : r.cnt = 1) : ∀ e : E, (put x r e).cnt = e.cnt
  | num _ => rfl
  | nam s => by simp only [put]; split; rw [hr]; rfl; rfl
  | two _ a b => by simp only [put, cnt]; rw [put_cnt hr a, put_cnt hr b]
  | cast _ a => by simp only [put, cnt]; rw [put_cnt hr a]
theorem put_Ok {x : Bytes} {r : E} (h1 : r.ok) (h2 : r.ht = 1) (h3 : r.cnt = 1) {e : E} (h : e.Ok) : (put x r e).Ok := ⟨put_ok h1 e h.1, by rw [put_ht h2]; exact h.2.1, by rw [put_cnt h3]; exact h.2.2⟩
theorem put_bare {x : Bytes} {r : E} (hr : r.bare = r) : ∀ e : E, (put x r e).bare = put x r e.bare
  | num _ => rfl
  | nam s => by simp only [put, bare]; split; exact hr; rfl
  | two _ a b => by simp only [put, bare]; rw [put_bare hr a, put_bare hr b]
  | cast _ a => put_bare hr a
theorem va_bare {names : List Bytes} {nums : List Int} : ∀ e : E, e.bare.va names nums = e.va names nums
  | num _ => rfl
  | nam _ => rfl
  | cast _ a => va_bare a
  | two o a b => by simp only [bare, va]; rw [va_bare a, va_bare b]
end E
theorem lastF_snocP {s x : Bytes} : ∀ (l : List Bytes) (i : Nat), lastF s (l ++ [x]) i = if x = s then some (i + l.length) else lastF s l i
  | [], i => by simp [lastF]
  | y :: l, i => by
    rw [List.cons_append, lastF, lastF_snocP l (i + 1), lastF]
    by_cases h : x = s
    · simp [h]; omega
    · simp [h]
namespace E
theorem va_put {x : Bytes} {v : Nat} (hv : v ≤ 1000000) {names : List Bytes} {nums : List Int} (hl : names.length = nums.length) : ∀ e : E, (put x (num v) e).va names nums = e.va (names ++ [x]) (nums ++ [(v : Int)])
  | num _ => rfl
  | nam s => by
    simp only [put, va]
    rw [lastF_snocP]
    by_cases h : s = x
    · subst h
      simp only [if_true, va, Nat.zero_add]
      rw [hl, List.getElem?_append_right (Nat.le_refl _), Nat.sub_self]
      simp only [List.getElem?_cons_zero, Option.getD_some]
      unfold clampI
      congr 1
      omega
    · rw [if_neg h, if_neg (fun e => h e.symm)]
      simp only [va]
      cases hf : lastF s names 0 with
      | none => rfl
      | some i =>
        have := lastF_lt hf
        simp only
        rw [List.getElem?_append_left (by omega)]
  | cast _ a => va_put hv hl a
  | two o a b => by simp only [put, va]; rw [va_put hv hl a, va_put hv hl b]
theorem words_four : ∀ (e : E) (t : Nat), (e.words t).length ≤ (e.words 4).length
  | num _, _ => by simp [words]
  | nam _, _ => by simp [words]
  | two o a b, t => by
    have h : o.lv < 4 := by cases o <;> decide
    simp only [words, if_pos h]
    split
    · exact Nat.le_refl _
    · simp only [List.length_append, List.length_cons, List.length_nil]
      omega
  | cast _ _, _ => by simp [words]
theorem bare_words_len : ∀ (e : E) (t : Nat), (e.bare.words t).length ≤ (e.words t).length
  | num _, _ => Nat.le_refl _
  | nam _, _ => Nat.le_refl _
  | two o a b, t => by
    have h1 := bare_words_len a (max o.lv 2)
    have h2 := bare_words_len b (o.lv + 1)
    simp only [bare, words]
    split <;> simp only [List.length_append, List.length_cons, List.length_nil] <;> omega
  | cast ty a, t => by
    have h1 := words_four a.bare t
    have h2 := bare_words_len a 4
    simp only [bare, words, List.length_append, List.length_cons, List.length_nil]
    omega
theorem bare_words_no : ∀ (e : E) (t : Nat), e.ok → ∀ w ∈ e.bare.words t, w ≠ cAs ∧ w ≠ cInt ∧ w ≠ cBool
  | num n, _, _, w, hw => by
    simp only [bare, words, List.mem_singleton] at hw
    subst hw
    have hd := decL_dig n
    refine ⟨fun e => ?_, fun e => ?_, fun e => ?_⟩
    · exact absurd (hd 97 (by rw [e]; simp [cAs])) (by decide)
    · exact absurd (hd 105 (by rw [e]; simp [cInt])) (by decide)
    · exact absurd (hd 98 (by rw [e]; simp [cBool])) (by decide)
  | nam s, _, h, w, hw => by
    simp only [ok, nameB, Bool.and_eq_true] at h
    simp only [bare, words, List.mem_singleton] at hw
    subst hw
    refine ⟨fun e => ?_, fun e => ?_, fun e => ?_⟩
    · rw [e] at h; exact absurd h.2 (by decide)
    · rw [e] at h; exact absurd h.2 (by decide)
    · rw [e] at h; exact absurd h.2 (by decide)
  | two o a b, t, h, w, hw => by
    have h1 := bare_words_no a (max o.lv 2) h.1
    have h2 := bare_words_no b (o.lv + 1) h.2
    have key : ∀ w ∈ a.bare.words (max o.lv 2) ++ o.b :: b.bare.words (o.lv + 1), w ≠ cAs ∧ w ≠ cInt ∧ w ≠ cBool := by
      intro w hw
      rw [List.mem_append, List.mem_cons] at hw
      rcases hw with hw | rfl | hw
      · exact h1 w hw
      · cases o <;> decide
      · exact h2 w hw
    simp only [bare, words] at hw
    split at hw
    · rw [List.mem_append, List.mem_cons, List.mem_singleton] at hw
      rcases hw with (rfl | hw) | rfl
      · decide
      · exact key w hw
      · decide
    · exact key w hw
  | cast _ a, t, h, w, hw => bare_words_no a t h w hw
end E
end Go.Proofs.YtgfbjpmbaibnoaaGreatDoor
