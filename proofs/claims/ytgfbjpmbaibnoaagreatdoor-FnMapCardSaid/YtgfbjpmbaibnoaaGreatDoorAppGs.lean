/- Append to a row of the call's own what another row holds, be it nothing. A row's element, a row's cells. No condition. -/
import Derived.Test.YtgfbjpmbaibnoaaGreatDoorZm11
import Derived.Test.YtgfbjpmbaibnoaaGreatDoorStSp
import Derived.Deep.Upon
import Derived.Test.YtgfbjpmbaibnoaaGreatDoorGot
namespace Go.Proofs.YtgfbjpmbaibnoaaGreatDoor
set_option maxRecDepth 100000
set_option linter.unusedSimpArgs false
set_option linter.unusedVariables false
open Go.RowKit

theorem app_gt {α : Type} {row : α → List Value} {k : Nat} {t tS : TypeId} {ops : Array Oper} {rest : List Oper} {o : Oper} {a : Act} {Q : Exit → Act → World → Prop} {w : World} (R : RowTy row k t tS) (hgd : o.guard = none) (s x : Operand) (ho : o.op = .call { callee := .builtin .append, args := #[s, x], argTypes := #[tS, tS] })
    (B : Nat) (v : Value) (l : List α) (hs : a.eval s = v) (hv : Gt row k t B w v l) (B2 : Nat) (u : Value) (l2 : List α) (hx : a.eval x = u) (hu : Gt row k t B2 w u l2) (hl : l.length + l2.length ≤ 1000000) (hB : B ≤ w.heap.size)
    (h : ∀ u' w', Gt row k t B w' u' (l ++ l2) → w.grownBy w' v.ownBlock → wpList Tryz.prog ops Q rest (a.put o.dst u') w') : wpList Tryz.prog ops Q (o :: rest) a w := by
  have key : ∀ {u0 : Value}, _root_.Go.Src Tryz.prog k tS u0 0 [] w → a.eval x = u0 → l2 = [] → wpList Tryz.prog ops Q (o :: rest) a w := by
    intro u0 hsrc hx hl2
    subst hl2
    rw [List.append_nil] at h
    have hq := h v w hv ⟨rfl, rfl, rfl, Nat.le_refl _, fun _ _ _ => rfl⟩
    obtain ⟨A, c, rfl, hc, hm⟩ := hv.val
    obtain ⟨i0, z, b, hi, hz0, hz1, hz2, hb, hzs⟩ := R.info
    have hrun := run_append_nothing (P := Tryz.prog) w tS tS o.type t i0 R.und hi A l.length c hc u0 (by rw [hz1]; exact hsrc)
    refine wpList_plain hgd fun _ hK => ?_
    unfold Oper.wp
    simp [execOp, ho, resolve, invoke, builtin, hs, hx, hrun, Result.andThen]
    exact hK _ _ hq
  rcases hu.2 with ⟨rfl, h0⟩ | ⟨g, cap, cur, rfl, hlo, hbk, hc, hm, hsz, ht⟩
  · exact key (_root_.Go.Src.ofNil w R.und 0) hx (List.length_eq_zero_iff.1 h0)
  · by_cases h0 : l2.length = 0
    · rw [h0] at hx
      exact key (_root_.Go.Src.ofSlice w R.und ⟨g, 0, none⟩ 0 cap [] (by simp) (fun j u h => by simp at h) (fun u h => by cases h)) hx (List.length_eq_zero_iff.1 h0)
    · exact app_plain R hgd s x ho B v l hs hv ⟨g, 0, none⟩ cap l2 hx hu.cells (by omega) hl hB (fun g' cap' w' h1 h2 _ => h _ w' (by
        have e : l.length + l2.length = (l ++ l2).length := by simp
        exact h1) h2)
/-- an element of a slice: its cells, in every later world -/
theorem sl_at {α : Type} {row : α → List Value} {k B n c : Nat} {W : World} {A : Option Addr} {l : List α} {i : Nat} (h : Sl row k W B (.slice A n c) l) (hi : i < l.length) :
    ∃ b o s, A = some ⟨b, o, none⟩ ∧ b < B ∧ l[i]? = some s ∧ ∀ (x : Later B W) (j : Nat) (v : Value), (row s)[j]? = some v → x.w'.cell? ⟨b, o + i * k + j, none⟩ = some v := by
  obtain ⟨A', c', hv, hc, hm, hh⟩ := h
  obtain ⟨rfl, _, rfl⟩ : A = A' ∧ n = l.length ∧ c = c' := by injection hv; exact ⟨‹_›, ‹_›, ‹_›⟩
  obtain ⟨b, o, rfl, hb, hcell⟩ := hh (by omega)
  have hg : l[i]? = some l[i] := List.getElem?_eq_getElem hi
  exact ⟨b, o, l[i], rfl, hb, hg, fun x j v hx => (x.ok.cell (p := ⟨b, o + i * k + j, none⟩) (by simpa using hb)).trans (hcell i _ hg j v hx)⟩
end Go.Proofs.YtgfbjpmbaibnoaaGreatDoor


/- Rows of the call's own: a cell stored. No condition. -/
namespace Go.Proofs.YtgfbjpmbaibnoaaGreatDoor
set_option maxRecDepth 100000
set_option linter.unusedSimpArgs false
set_option linter.unusedVariables false
open Go.RowKit

theorem flat_set {α : Type} {row : α → List Value} {k : Nat} (hk : ∀ s, (row s).length = k) {s' : α} {x : Value} {j : Nat} (hj : j < k) : ∀ (l : List α) (i : Nat) (s : α), l[i]? = some s → row s' = (row s).set j x → (l.set i s').flatMap row = (l.flatMap row).set (i * k + j) x
  | [], i, s, h, _ => by simp at h
  | a :: l, 0, s, h, hs => by
    simp at h
    subst h
    simp only [List.set_cons_zero, List.flatMap_cons, Nat.zero_mul, Nat.zero_add]
    rw [List.set_append_left _ _ (by rw [hk]; exact hj), hs]
  | a :: l, i + 1, s, h, hs => by
    simp at h
    simp only [List.set_cons_succ, List.flatMap_cons]
    rw [flat_set hk hj l i s h hs, List.set_append_right _ _ (by rw [hk, Nat.add_mul]; omega), hk]
    congr 2
    rw [Nat.add_mul]
    omega
theorem Gt.set {α : Type} {row : α → List Value} {k B : Nat} {t : TypeId} {w : World} {g n cap : Nat} {m : List α} (hk : ∀ s, (row s).length = k) (h : Gt row k t B w (.slice (some ⟨g, 0, none⟩) n cap) m) (hn : n = m.length) {i j o : Nat} {s s' : α} {x : Value}
    (hi : m[i]? = some s) (hj : j < k) (hs : row s' = (row s).set j x) (ho : o = i * k + j) : Gt row k t B (w.setCell ⟨g, o, none⟩ x) (.slice (some ⟨g, 0, none⟩) n cap) (m.set i s') := by
  subst ho hn
  obtain ⟨h1, h2⟩ := h
  have hl : (m.set i s').length = m.length := List.length_set ..
  unfold Gt
  rw [hl, flat_set hk hj m i s hi hs]
  refine ⟨by rw [List.length_set]; exact h1, ?_⟩
  rcases h2 with ⟨e, _⟩ | ⟨g', cap', cur, e, hlo, hbk, hc, hm, hsz, ht⟩
  · simp at e
  · simp at e
    obtain ⟨rfl, rfl⟩ := e
    refine .inr ⟨g, cap, _, rfl, hlo, Blk.set_ (show Blk w g t cur from hbk) (i * k + j) x, hc, hm, by simpa using hsz, ?_⟩
    rw [Array.toList_setIfInBounds, List.take_set, ht]
theorem Gt.frozen {α : Type} {row : α → List Value} {k B : Nat} {t : TypeId} {w : World} {g n cap : Nat} {m : List α} (h : Gt row k t B w (.slice (some ⟨g, 0, none⟩) n cap) m) (o : Nat) : w.frozen? ⟨g, o, none⟩ = false := by
  rcases h.2 with ⟨e, _⟩ | ⟨g', cap', cur, e, hlo, hbk, _⟩
  · simp at e
  · simp at e
    obtain ⟨rfl, _⟩ := e
    exact Blk.frozen (show Blk w g t cur from hbk) o
end Go.Proofs.YtgfbjpmbaibnoaaGreatDoor
