/- The words of what is reckoned: the program's, of two parts. -/
import Derived.Test.YtgfbjpmbaibnoaaDoorImW
import Derived.Test.YtgfbjpmbaibnoaaDoorStOk
import Derived.Test.YtgfbjpmbaibnoaaDoorZm10
import Derived.Test.YtgfbjpmbaibnoaaDoorBas
namespace Go.Proofs.YtgfbjpmbaibnoaaDoor
set_option maxRecDepth 100000
set_option linter.unusedSimpArgs false
set_option linter.unusedVariables false
open Go.RowKit
attribute [local go_sem] bs_toList bs_get bs_size

end Go.Proofs.YtgfbjpmbaibnoaaDoor


/- The words of statements: the program's. -/
namespace Go.Proofs.YtgfbjpmbaibnoaaDoor
set_option maxRecDepth 100000
set_option linter.unusedSimpArgs false
set_option linter.unusedVariables false
open Go.RowKit
attribute [local go_sem] bs_toList bs_get bs_size

theorem tgt_b (op : Op2) : tgt op.b = op.lv := by cases op <;> decide
end Go.Proofs.YtgfbjpmbaibnoaaDoor


/- Statements: the program's words. -/
namespace Go.Proofs.YtgfbjpmbaibnoaaDoor
set_option maxRecDepth 100000
set_option linter.unusedSimpArgs false
set_option linter.unusedVariables false
open Go.RowKit
attribute [local go_sem] bs_toList bs_get bs_size

/-- what the program's words of a line tells -/
def SWP (wd : List Bytes) (w : World) (r : Ending) (w' : World) : Prop := ∃ u m, r = .returned u ∧ SlC w' w'.heap.size u m ∧ m.map (·.1) = wd ∧ m.length ≤ 1000 ∧ Below w.heap.size w w'
end Go.Proofs.YtgfbjpmbaibnoaaDoor


/- Statements: the program's test and text. -/
namespace Go.Proofs.YtgfbjpmbaibnoaaDoor
set_option maxRecDepth 100000
set_option linter.unusedSimpArgs false
set_option linter.unusedVariables false
open Go.RowKit
attribute [local go_sem] bs_toList bs_get bs_size

end Go.Proofs.YtgfbjpmbaibnoaaDoor


/- Whether a line has the types that it must have: plain Lean, and the reference's and the program's. -/
namespace Go.Proofs.YtgfbjpmbaibnoaaDoor
set_option maxRecDepth 100000
set_option linter.unusedSimpArgs false
set_option linter.unusedVariables false
open Go.RowKit
attribute [local go_sem] bs_toList bs_get bs_size

def fitsE (names types : List Bytes) : SE → Bool
  | .none => true
  | .slet _ t e => e.ty names types == tyB t
  | .say e => !(e.ty names types == [])
  | .when a b => a.ty names types == cBool && !(b.ty names types == [])
open Classical in
noncomputable def smFits (s : Sm) (names types : List Bytes) : Bool := if h : ∃ t : SE, s = t.sm ∧ t.form then fitsE names types h.choose else false
theorem smFits_se {t : SE} (h : t.form) (names types : List Bytes) : smFits t.sm names types = fitsE names types t := by
  have hx : ∃ u : SE, t.sm = u.sm ∧ u.form := ⟨t, rfl, h⟩
  unfold smFits
  rw [dif_pos hx]
  exact congrArg (fitsE names types) (SE.sm_inj hx.choose_spec.1).symm
def letN (s : Sm) : List Bytes := if s.kind = 1 then [s.name] else []
def letT (s : Sm) : List Bytes := if s.kind = 1 then [s.typ] else []
/-- the first line that is not as it must be -/
noncomputable def prT : List Sm → Nat → List Bytes → List Bytes → Int
  | [], _, _, _ => -1
  | s :: r, i, names, types => if smFits s names types then prT r (i + 1) (names ++ letN s) (types ++ letT s) else i
theorem prT_no {l : List Sm} {j : Nat} {s : Sm} {names types : List Bytes} (h : l[j]? = some s) (hf : smFits s names types = false) : prT (l.drop j) j names types = j := by
  have hi := (List.getElem?_eq_some_iff.1 h).1
  have he : l[j] = s := by rw [List.getElem?_eq_getElem hi] at h; exact Option.some.inj h
  rw [List.drop_eq_getElem_cons hi, he, prT, hf]
  rfl
theorem prT_yes {l : List Sm} {j : Nat} {s : Sm} {names types : List Bytes} (h : l[j]? = some s) (hf : smFits s names types = true) : prT (l.drop j) j names types = prT (l.drop (j + 1)) (j + 1) (names ++ letN s) (types ++ letT s) := by
  have hi := (List.getElem?_eq_some_iff.1 h).1
  have he : l[j] = s := by rw [List.getElem?_eq_getElem hi] at h; exact Option.some.inj h
  rw [List.drop_eq_getElem_cons hi, he, prT, hf]
  rfl
/-! ### the program's -/
theorem E.ex_ne (e : E) : e.ex ≠ Ex.none := by cases e <;> simp [E.ex, Ex.none]
end Go.Proofs.YtgfbjpmbaibnoaaDoor


/- A statement in a slice of statements: its eleven cells, in every later world. No condition. -/
namespace Go.Proofs.YtgfbjpmbaibnoaaDoor
set_option maxRecDepth 100000
set_option linter.unusedSimpArgs false
set_option linter.unusedVariables false
open Go.RowKit

theorem sm_at2 {W : World} {B n c : Nat} {A : Option Addr} {l : List Sm} {i : Nat} (h : SmS W B (.slice A n c) l) (hi : i < l.length) :
    ∃ (b o : Nat) (s : Sm) (A1 A2 : Option Addr) (c1 c2 : Nat), A = some ⟨b, o, none⟩ ∧ b < B ∧ l[i]? = some s ∧ SmV W B (.agg #[.int .i64 s.kind, .string (bs s.name), .string (bs s.typ), .int .i64 s.ex.kind, .int .i64 s.ex.n, .string (bs s.ex.s), .slice A1 s.ex.kids.length c1, .int .i64 s.th.kind, .int .i64 s.th.n, .string (bs s.th.s), .slice A2 s.th.kids.length c2]) s ∧
      (∀ x : Later B W, x.w'.cell? ⟨b, o + i * 11, none⟩ = some (.int .i64 s.kind)) ∧ (∀ x : Later B W, x.w'.cell? ⟨b, o + i * 11 + 1, none⟩ = some (.string (bs s.name))) ∧ (∀ x : Later B W, x.w'.cell? ⟨b, o + i * 11 + 2, none⟩ = some (.string (bs s.typ))) ∧
      (∀ x : Later B W, x.w'.cell? ⟨b, o + i * 11 + 3, none⟩ = some (.int .i64 s.ex.kind)) ∧ (∀ x : Later B W, x.w'.cell? ⟨b, o + i * 11 + 4, none⟩ = some (.int .i64 s.ex.n)) ∧ (∀ x : Later B W, x.w'.cell? ⟨b, o + i * 11 + 5, none⟩ = some (.string (bs s.ex.s))) ∧
      (∀ x : Later B W, x.w'.cell? ⟨b, o + i * 11 + 6, none⟩ = some (.slice A1 s.ex.kids.length c1)) ∧ (∀ x : Later B W, x.w'.cell? ⟨b, o + i * 11 + 7, none⟩ = some (.int .i64 s.th.kind)) ∧ (∀ x : Later B W, x.w'.cell? ⟨b, o + i * 11 + 8, none⟩ = some (.int .i64 s.th.n)) ∧
      (∀ x : Later B W, x.w'.cell? ⟨b, o + i * 11 + 9, none⟩ = some (.string (bs s.th.s))) ∧ (∀ x : Later B W, x.w'.cell? ⟨b, o + i * 11 + 10, none⟩ = some (.slice A2 s.th.kids.length c2)) := by
  obtain ⟨b, o, f, s, hA, hb, hg, hF, hc⟩ := sm_at h hi
  obtain ⟨h1, h2, h3, h4, h5, h6, h7, h8, h9, h10, h11, h12, h13, h14, h15⟩ := hF
  obtain ⟨A1, c1, e1, _, _⟩ := h14.val
  obtain ⟨A2, c2, e2, _, _⟩ := h15.val
  have hrow : fsRow f = [.int .i64 s.kind, .string (bs s.name), .string (bs s.typ), .int .i64 s.ex.kind, .int .i64 s.ex.n, .string (bs s.ex.s), .slice A1 s.ex.kids.length c1, .int .i64 s.th.kind, .int .i64 s.th.n, .string (bs s.th.s), .slice A2 s.th.kids.length c2] := by
    simp only [fsRow, h1, h2, h3, h4, h5, h6, h7, h8, h9, e1, e2]
  rw [hrow] at hc
  exact ⟨b, o, s, A1, A2, c1, c2, hA, hb, hg, ⟨f, by rw [hrow], h1, h2, h3, h4, h5, h6, h7, h8, h9, h10, h11, h12, h13, h14, h15⟩,
    hc 0 _ rfl, hc 1 _ rfl, hc 2 _ rfl, hc 3 _ rfl, hc 4 _ rfl, hc 5 _ rfl, hc 6 _ rfl, hc 7 _ rfl, hc 8 _ rfl, hc 9 _ rfl, hc 10 _ rfl⟩
/-- lines that are a program -/
noncomputable def progOkB (l : List Sm) : Bool := l.all smOkB && decide (1 ≤ l.length) && decide (l.length ≤ 16)
end Go.Proofs.YtgfbjpmbaibnoaaDoor
