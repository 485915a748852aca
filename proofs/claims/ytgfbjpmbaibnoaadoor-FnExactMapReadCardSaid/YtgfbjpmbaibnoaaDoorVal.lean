
/- What is reckoned comes to: the reference's and the program's. -/
import Derived.Test.YtgfbjpmbaibnoaaDoorLasts
namespace Go.Proofs.YtgfbjpmbaibnoaaDoor
set_option maxRecDepth 100000
set_option linter.unusedSimpArgs false
set_option linter.unusedVariables false
open Go.RowKit
attribute [local go_sem] bs_toList bs_get bs_size

def intRow (n : Int) : List Value := [.int .i64 n]
abbrev SlN := Sl intRow 1
theorem num_at {W : World} {B n c : Nat} {A : Option Addr} {l : List Int} {i : Nat} (h : SlN W B (.slice A n c) l) (hi : i < l.length) :
    ∃ b o x, A = some ⟨b, o, none⟩ ∧ b < B ∧ l[i]? = some x ∧ (∀ y : Later B W, y.w'.cell? ⟨b, o + i, none⟩ = some (.int .i64 x)) := by
  obtain ⟨A', c', hv, hc, hm, hh⟩ := h
  obtain ⟨rfl, _, rfl⟩ : A = A' ∧ n = l.length ∧ c = c' := by injection hv; exact ⟨‹_›, ‹_›, ‹_›⟩
  obtain ⟨b, o, rfl, hb, hcell⟩ := hh (by omega)
  have hg : l[i]? = some l[i] := List.getElem?_eq_getElem hi
  refine ⟨b, o, l[i], rfl, hb, hg, fun y => ?_⟩
  have := (y.ok.cell (p := ⟨b, o + i * 1 + 0, none⟩) (by simpa using hb)).trans (hcell i _ hg 0 _ rfl)
  simpa using this
def op2 (o : Op2) (x y : Int) : Int := match o with | .add => clampI (x + y) | .sub => clampI (x - y) | .mul => clampI (x * y) | .lt => if x < y then 1 else 0
namespace E
def va (names : List Bytes) (nums : List Int) : E → Option Int
  | num n => some n
  | nam s => match lastF s names 0 with | some i => some (clampI ((nums[i]?).getD 0)) | none => none
  | cast _ a => a.va names nums
  | two o a b => match a.va names nums, b.va names nums with | some x, some y => some (op2 o x y) | _, _ => none
end E
theorem op2_lt1 {x y : Int} (h : x < y) : op2 .lt x y = 1 := if_pos h
theorem op2_lt0 {x y : Int} (h : y ≤ x) : op2 .lt x y = 0 := if_neg (Int.not_lt.2 h)
theorem op2_bd (o : Op2) (x y : Int) : -1000000 ≤ op2 o x y ∧ op2 o x y ≤ 1000000 := by
  cases o <;> simp only [op2] <;> first | exact E.clampI_bd _ | (split <;> omega)
theorem va_bd {names : List Bytes} {nums : List Int} : ∀ {e : E} {n : Int}, e.ok → e.va names nums = some n → -1000000 ≤ n ∧ n ≤ 1000000
  | .num m, n, h, hv => by simp only [E.ok] at h; simp only [E.va, Option.some.injEq] at hv; omega
  | .nam s, n, h, hv => by
    simp only [E.va] at hv
    split at hv
    · obtain rfl := Option.some.inj hv; exact E.clampI_bd _
    · cases hv
  | .cast _ a, n, h, hv => va_bd (e := a) h hv
  | .two o a b, n, h, hv => by
    simp only [E.va] at hv
    split at hv
    · obtain rfl := Option.some.inj hv; exact op2_bd _ _ _
    · cases hv
theorem mul_bd {x y : Int} (hx : -1000000 ≤ x ∧ x ≤ 1000000) (hy : -1000000 ≤ y ∧ y ≤ 1000000) : -1000000000000 ≤ x * y ∧ x * y ≤ 1000000000000 := by
  have h1 : (x * y).natAbs = x.natAbs * y.natAbs := Int.natAbs_mul x y
  have h2 : x.natAbs * y.natAbs ≤ 1000000 * 1000000 := Nat.mul_le_mul (by omega) (by omega)
  omega
def ofVal (r : Option Int) : Value := match r with | some n => .tuple #[.int .i64 n, .bool true] | none => .tuple #[.int .i64 0, .bool false]
end Go.Proofs.YtgfbjpmbaibnoaaDoor
