
/- Append to a row of the call's own what another row holds, be it nothing. A row's element, a row's cells. No condition. -/
import Derived.Test.YtgfbjpmbaibnoaaDoorApp
import Derived.Test.YtgfbjpmbaibnoaaDoorStSp
import Derived.Deep.Upon
namespace Go.Proofs.YtgfbjpmbaibnoaaDoor
set_option maxRecDepth 100000
set_option linter.unusedSimpArgs false
set_option linter.unusedVariables false
open Go.RowKit

theorem app_gt {α : Type} {row : α → List Value} {k : Nat} {t tS : TypeId} {ops : Array Oper} {rest : List Oper} {o : Oper} {a : Act} {Q : Exit → Act → World → Prop} {w : World} (R : RowTy row k t tS) (hgd : o.guard = none) (s x : Operand) (ho : o.op = .call { callee := .builtin .append, args := #[s, x], argTypes := #[tS, tS] })
    (B : Nat) (v : Value) (l : List α) (hs : a.eval s = v) (hv : Gt row k t B w v l) (B2 : Nat) (u : Value) (l2 : List α) (hx : a.eval x = u) (hu : Gt row k t B2 w u l2) (hl : l.length + l2.length ≤ 1000000) (hB : B ≤ w.heap.size)
    (h : ∀ u' w', Gt row k t B w' u' (l ++ l2) → w.grownBy w' v.ownBlock → wpList Tryd.prog ops Q rest (a.put o.dst u') w') : wpList Tryd.prog ops Q (o :: rest) a w := by
  have key : ∀ {u0 : Value}, _root_.Go.Src Tryd.prog k tS u0 0 [] w → a.eval x = u0 → l2 = [] → wpList Tryd.prog ops Q (o :: rest) a w := by
    intro u0 hsrc hx hl2
    subst hl2
    rw [List.append_nil] at h
    have hq := h v w hv ⟨rfl, rfl, rfl, Nat.le_refl _, fun _ _ _ => rfl⟩
    obtain ⟨A, c, rfl, hc, hm⟩ := hv.val
    obtain ⟨i0, z, b, hi, hz0, hz1, hz2, hb, hzs⟩ := R.info
    have hrun := run_append_nothing (P := Tryd.prog) w tS tS o.type t i0 R.und hi A l.length c hc u0 (by rw [hz1]; exact hsrc)
    refine wpList_plain hgd fun _ hK => ?_
    unfold Oper.wp
    simp [execOp, ho, resolve, invoke, builtin, hs, hx, hrun, Result.andThen]
    exact hK _ _ hq
  rcases hu.2 with ⟨rfl, h0⟩ | ⟨g, cap, cur, rfl, hlo, hbk, hc, hm, hsz, ht⟩
  · exact key (_root_.Go.Src.ofNil w R.und 0) hx (List.length_eq_zero_iff.1 h0)
  · by_cases h0 : l2.length = 0
    · rw [h0] at hx
      exact key (_root_.Go.Src.ofSlice w R.und ⟨g, 0, none⟩ 0 cap [] (by simp) (fun j u h => by simp at h) (fun u h => by cases h)) hx (List.length_eq_zero_iff.1 h0)
    · exact app_plain R hgd s x ho B v l hs hv ⟨g, 0, none⟩ cap l2 hx hu.cells (by omega) hl hB (fun g' cap' w' h1 h2 _ => h _ w' (by
        have e : l.length + l2.length = (l ++ l2).length := by simp
        exact h1) h2)
/-- an element of a slice: its cells, in every later world -/
theorem sl_at {α : Type} {row : α → List Value} {k B n c : Nat} {W : World} {A : Option Addr} {l : List α} {i : Nat} (h : Sl row k W B (.slice A n c) l) (hi : i < l.length) :
    ∃ b o s, A = some ⟨b, o, none⟩ ∧ b < B ∧ l[i]? = some s ∧ ∀ (x : Later B W) (j : Nat) (v : Value), (row s)[j]? = some v → x.w'.cell? ⟨b, o + i * k + j, none⟩ = some v := by
  obtain ⟨A', c', hv, hc, hm, hh⟩ := h
  obtain ⟨rfl, _, rfl⟩ : A = A' ∧ n = l.length ∧ c = c' := by injection hv; exact ⟨‹_›, ‹_›, ‹_›⟩
  obtain ⟨b, o, rfl, hb, hcell⟩ := hh (by omega)
  have hg : l[i]? = some l[i] := List.getElem?_eq_getElem hi
  exact ⟨b, o, l[i], rfl, hb, hg, fun x j v hx => (x.ok.cell (p := ⟨b, o + i * k + j, none⟩) (by simpa using hb)).trans (hcell i _ hg j v hx)⟩
end Go.Proofs.YtgfbjpmbaibnoaaDoor
