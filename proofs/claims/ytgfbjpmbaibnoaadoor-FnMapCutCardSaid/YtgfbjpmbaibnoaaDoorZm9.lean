/- Words with a space between: the reference's TokText. -/
import Derived.Test.YtgfbjpmbaibnoaaDoorBas
import Derived.Test.YtgfbjpmbaibnoaaDoorRows
import Derived.Deep.Light
namespace Go.Proofs.YtgfbjpmbaibnoaaDoor
set_option maxRecDepth 100000
set_option linter.unusedSimpArgs false
set_option linter.unusedVariables false
open Go.RowKit
attribute [local go_sem] bs_toList bs_get bs_size

/-- what has been joined of the first i words -/
def joinTo (l : List Bytes) (i : Nat) : Bytes := joinL (l.take i)
theorem joinTo_succ {l : List Bytes} {i : Nat} {s : Bytes} (h : l[i]? = some s) : joinTo l (i + 1) = (if 0 < i then joinTo l i ++ [32] else joinTo l i) ++ s := by
  have hi := (List.getElem?_eq_some_iff.1 h).1
  have he : l[i] = s := by rw [List.getElem?_eq_getElem hi] at h; exact Option.some.inj h
  unfold joinTo
  rw [List.take_succ_eq_append_getElem hi, he]
  by_cases h0 : 0 < i
  · rw [if_pos h0, joinL_snoc s (by intro e; have := congrArg List.length e; rw [List.length_take] at this; simp only [List.length_nil] at this; omega)]
    simp
  · obtain rfl : i = 0 := by omega
    simp [joinL]
theorem joinL_take_le (l : List Bytes) : ∀ i, (joinTo l i).length ≤ (joinL l).length := by
  have key : ∀ (l : List Bytes) (i : Nat), (joinL (l.take i)).length ≤ (joinL l).length := by
    intro l
    induction l with
    | nil => intro i; simp
    | cons w l ih =>
      intro i
      cases i with
      | zero => simp [joinL]
      | succ i =>
        rw [List.take_succ_cons, joinL_cons, joinL_cons]
        cases l with
        | nil => simp
        | cons v l =>
          cases i with
          | zero => simp
          | succ i =>
            have := ih (i + 1)
            rw [List.take_succ_cons] at this ⊢
            simp only [List.length_append, List.length_cons] at this ⊢
            omega
  exact key l
theorem spTokText_any (l : List Bytes) (v : Value) (w : World) (hv : SlB w w.heap.size v l) (hl : (joinL l).length ≤ 100000000) :
    Calls Tryd.prog 91 #[v] w fun e w' => e = .returned (.string (bs (joinL l))) ∧ w = w' := by
  obtain ⟨A, c, rfl, hc, hm⟩ := hv.val
  go_enter Tryd.func91, Tryd.ntmps91
  go_wp2_with fail
  go_loopg [3, 4] l.length (fun k o i wr => ∃ j : Nat, k = l.length - j ∧ j ≤ l.length ∧ i = .int .i64 j ∧ o = .string (bs (joinTo l j)) ∧ wr = w)
  case atStart => exact ⟨0, by omega, by omega, rfl, by simp [joinTo, joinL, bs], rfl⟩
  case round =>
    obtain ⟨j, hk, hj, rfl, rfl, rfl⟩ := hrel
    have HK := Lib.hid hk
    clear hk
    by_cases hlt : j < l.length
    · obtain ⟨b, o, x, rfl, hb, hg, f0⟩ := str_at hv hlt
      have g0 := f0 ⟨wr, Below.refl _ _⟩
      have hs := joinTo_succ hg
      have hle := joinL_take_le l (j + 1)
      have HS := Lib.hid hs
      clear f0 hg
      by_cases h0 : 0 < j
      · rw [if_pos h0] at hs HS
        have hlen := congrArg List.length hs
        simp only [List.length_append, List.length_singleton] at hlen
        have d1 : decide ((0 : Int) < (j : Int)) = true := by simp; omega
        have d2 : decide (0 < j) = true := by simp; omega
        have hcat : ¬ 9223372036854775807 < (joinTo l j).length + 1 := by omega
        have hcat2 : ¬ 9223372036854775807 < (joinTo l j).length + 1 + x.length := by omega
        clear hs hlen hle
        go_wp2_with fail
        go_roundg (l.length - (j + 1))
        case measure => have := HK.out; omega
        case rel => exact ⟨j + 1, rfl, by omega, by go_num, by rw [HS.out, ← bs_append, ← bs_append]; rfl, rfl⟩
      · rw [if_neg h0] at hs HS
        have hlen := congrArg List.length hs
        simp only [List.length_append] at hlen
        have d1 : decide ((0 : Int) < (j : Int)) = false := by simp; omega
        have d2 : decide (0 < j) = false := by simp; omega
        have hcat : ¬ 9223372036854775807 < (joinTo l j).length + x.length := by omega
        clear hs hlen hle h0
        go_wp2_with fail
        go_roundg (l.length - (j + 1))
        case measure => have := HK.out; omega
        case rel => exact ⟨j + 1, rfl, by omega, by go_num, by rw [HS.out, ← bs_append], rfl⟩
    · obtain rfl : j = l.length := by omega
      go_wp2_with fail
      go_ret
      exact ⟨ret_bs (by simp [joinTo]), rfl⟩
end Go.Proofs.YtgfbjpmbaibnoaaDoor


/- Trees in the laws' own hands: how much they hold, their copies, their equality. -/
namespace Go.Proofs.YtgfbjpmbaibnoaaDoor
set_option maxRecDepth 100000
set_option linter.unusedSimpArgs false
set_option linter.unusedVariables false
open Go.RowKit
attribute [local go_sem] bs_toList bs_get bs_size

theorem szOut_sub {n : Int} {a b : Nat} (h : 0 ≤ n - a) : szOut (n - a) b = szOut n (a + b) := by unfold szOut; split <;> split <;> omega
end Go.Proofs.YtgfbjpmbaibnoaaDoor


/- Trees in the laws' own hands: their equality, their copies. -/
namespace Go.Proofs.YtgfbjpmbaibnoaaDoor
set_option maxRecDepth 100000
set_option linter.unusedSimpArgs false
set_option linter.unusedVariables false
open Go.RowKit
attribute [local go_sem] bs_toList bs_get bs_size

theorem later_call' {P : Program} {f : FuncId} {args : Array Value} {W : World} {x : Later W.heap.size W} {v : Value}
    (h : ∀ y : Later W.heap.size W, Calls P f args y.w' fun e w' => e = .returned v ∧ Below y.w'.heap.size y.w' w') : Calls P f args x.w' fun e w'' => e = .returned v ∧ ∃ y : Later W.heap.size W, w'' = y.w' :=
  later_call (Nat.le_refl _) (h x)
theorem ExV.later {W : World} {v : Value} {e : Ex} (h : ExV W W.heap.size v e) (y : Later W.heap.size W) : ExV y.w' y.w'.heap.size v e := h.ext y.ok

theorem infoExpr : (Tryd.prog.info? 91).map (fun i => (i.zero, i.size, i.bytes)) = some (some (.agg #[.int .i64 0, .int .i64 0, .string ⟨#[]⟩, .slice none 0 0]), 4, 56) := by kernel_rfl
end Go.Proofs.YtgfbjpmbaibnoaaDoor


/- Statements in the laws' own hands: how much they hold, their copies, their equality. -/
namespace Go.Proofs.YtgfbjpmbaibnoaaDoor
set_option maxRecDepth 100000
set_option linter.unusedSimpArgs false
set_option linter.unusedVariables false
open Go.RowKit
attribute [local go_sem] bs_toList bs_get bs_size

/-- how much a statement holds -/
def Sm.wt (s : Sm) : Nat := s.name.length + s.typ.length + s.ex.wt + s.th.wt
/-- a statement of the call's own: its trees lie in the blocks bl -/
def SmOV (t : TypeId) (w : World) (v : Value) (s : Sm) (bl : List Nat) : Prop := ∃ (A1 A2 : Option Addr) (c1 c2 : Nat) (b1 b2 : List Nat), v = .agg #[.int .i64 s.kind, .string (bs s.name), .string (bs s.typ), .int .i64 s.ex.kind, .int .i64 s.ex.n, .string (bs s.ex.s), .slice A1 s.ex.kids.length c1, .int .i64 s.th.kind, .int .i64 s.th.n, .string (bs s.th.s), .slice A2 s.th.kids.length c2] ∧
  s.name.length ≤ 9223372036854775807 ∧ s.typ.length ≤ 9223372036854775807 ∧ s.ex.s.length ≤ 9223372036854775807 ∧ s.th.s.length ≤ 9223372036854775807 ∧ ExO t w (.slice A1 s.ex.kids.length c1) s.ex.kids b1 ∧ ExO t w (.slice A2 s.th.kids.length c2) s.th.kids b2 ∧ bl = b1 ++ b2
theorem SmOV.smv {t : TypeId} {w : World} {v : Value} {s : Sm} {bl : List Nat} (h : SmOV t w v s bl) : SmV w w.heap.size v s := by
  obtain ⟨A1, A2, c1, c2, b1, b2, rfl, h1, h2, h3, h4, h5, h6, rfl⟩ := h
  exact ⟨⟨s.kind, s.name, s.typ, s.ex.kind, s.ex.n, s.ex.s, _, s.th.kind, s.th.n, s.th.s, _⟩, rfl, rfl, rfl, rfl, rfl, rfl, rfl, rfl, rfl, rfl, by rw [bs_size]; exact h1, by rw [bs_size]; exact h2, by rw [bs_size]; exact h3, by rw [bs_size]; exact h4, h5.exs, h6.exs⟩
end Go.Proofs.YtgfbjpmbaibnoaaDoor
