
/- Statements that are drawn. -/
import Derived.Test.YtojoknalnmmpeaaGreatDoorDwEB
namespace Go.Proofs.YtojoknalnmmpeaaGreatDoor
set_option maxRecDepth 100000
set_option linter.unusedSimpArgs false
set_option linter.unusedVariables false
open Go.RowKit
attribute [local go_sem] bs_toList bs_get bs_size

theorem bs_nil : bs [] = ⟨#[]⟩ := rfl
def cNew : Bytes := [110, 101, 119]
/-- a drawn name: short, and not the one that is new -/
abbrev NwOk (s : Bytes) : Prop := s ≠ cNew ∧ s.length ≤ 100
def DrewS (rb p q : Nat) (w : World) (e : Ending) (w' : World) : Prop := ∃ (v : Value) (s : Sm) (p' : Nat), e = .returned v ∧ DrV w.heap.size w' v s ∧ NwOk s.name ∧ Rd w' rb p' ∧ p' ≤ p + q ∧ w.grownBy w' (some rb)
theorem ne_new {l : List Bytes} {s : Bytes} (h : s ∈ l) (hl : l.all (fun x => decide (NwOk x)) = true) : NwOk s := by
  rw [List.all_eq_true] at hl
  simpa using hl s h
def zS : Array Value := #[.int .i64 0, .string (bs []), .string (bs []), .int .i64 0, .int .i64 0, .string (bs []), .slice none 0 0, .int .i64 0, .int .i64 0, .string (bs []), .slice none 0 0]
/-- the cells of a statement -/
def cS (k : Int) (nm ty : Bytes) (k1 n1 : Int) (s1 : Bytes) (v1 : Value) (k2 n2 : Int) (s2 : Bytes) (v2 : Value) : Array Value := #[.int .i64 k, .string (bs nm), .string (bs ty), .int .i64 k1, .int .i64 n1, .string (bs s1), v1, .int .i64 k2, .int .i64 n2, .string (bs s2), v2]
theorem DrV.of {lo : Nat} {w : World} {k k1 n1 k2 n2 : Int} {nm ty s1 s2 : Bytes} {v1 v2 : Value} {a b : Ex} (h1 : DrE lo w (.agg #[.int .i64 k1, .int .i64 n1, .string (bs s1), v1]) a) (h2 : DrE lo w (.agg #[.int .i64 k2, .int .i64 n2, .string (bs s2), v2]) b) (hn : nm.length ≤ 9223372036854775807) (ht : ty.length ≤ 9223372036854775807) :
    DrV lo w (.agg (cS k nm ty k1 n1 s1 v1 k2 n2 s2 v2)) ⟨k, nm, ty, a, b⟩ := by
  obtain ⟨kv, he, hs, hk⟩ := h1
  obtain ⟨kv', he', hs', hk'⟩ := h2
  simp at he he'
  obtain ⟨rfl, rfl, hss, rfl⟩ := he
  obtain ⟨rfl, rfl, hss', rfl⟩ := he'
  have e1 := bs_inj hss
  have e2 := bs_inj hss'
  subst e1 e2
  exact ⟨⟨k, nm, ty, a.kind, a.n, a.s, v1, b.kind, b.n, b.s, v2⟩, rfl, rfl, rfl, rfl, rfl, rfl, rfl, rfl, rfl, rfl, ⟨hn, ht, hs, hs'⟩, hk, hk'⟩
theorem DrE.none (lo : Nat) (w : World) : DrE lo w (.agg #[.int .i64 0, .int .i64 0, .string (bs []), .slice .none 0 0]) Ex.none := DrE.of (by simp) (DrK.nil _ _)
theorem DrV.form {lo : Nat} {w : World} {v : Value} {s : Sm} (h : DrV lo w v s) : ∃ (k : Int) (nm ty : Bytes) (k1 n1 : Int) (s1 : Bytes) (A1 : Option Addr) (m1 c1 : Nat) (k2 n2 : Int) (s2 : Bytes) (A2 : Option Addr) (m2 c2 : Nat) (a b : Ex),
    v = .agg #[.int .i64 k, .string (bs nm), .string (bs ty), .int .i64 k1, .int .i64 n1, .string (bs s1), .slice A1 m1 c1, .int .i64 k2, .int .i64 n2, .string (bs s2), .slice A2 m2 c2] ∧ s = ⟨k, nm, ty, a, b⟩ ∧
      DrE lo w (.agg #[.int .i64 k1, .int .i64 n1, .string (bs s1), .slice A1 m1 c1]) a ∧ DrE lo w (.agg #[.int .i64 k2, .int .i64 n2, .string (bs s2), .slice A2 m2 c2]) b ∧ nm.length ≤ 9223372036854775807 ∧ ty.length ≤ 9223372036854775807 := by
  obtain ⟨⟨k, nm, ty, k1, n1, s1, v1, k2, n2, s2, v2⟩, rfl, h1, h2, h3, h4, h5, h6, h7, h8, h9, ⟨g1, g2, g3, g4⟩, x1, x2⟩ := h
  obtain ⟨k', nm', ty', a, b⟩ := s
  simp only at h1 h2 h3 h4 h5 h6 h7 h8 h9 x1 x2 g1 g2 g3 g4
  subst h1 h2 h3 h4 h5 h6 h7 h8 h9
  obtain ⟨A1, c1, rfl, _, _⟩ := x1.val
  obtain ⟨A2, c2, rfl, _, _⟩ := x2.val
  exact ⟨k, nm, ty, _, _, _, A1, _, c1, _, _, _, A2, _, c2, a, b, rfl, rfl, ⟨_, rfl, g3, x1⟩, ⟨_, rfl, g4, x2⟩, g1, g2⟩
end Go.Proofs.YtojoknalnmmpeaaGreatDoor
