
/- A region that draws its order, by an invariant: each operation is shown once, for whatever has come up before it. -/
import Derived.Test.YtojoknalnmmpeaaGreatDoorLib
namespace Go.Proofs.YtojoknalnmmpeaaGreatDoor
set_option maxRecDepth 100000
set_option linter.unusedSimpArgs false
set_option linter.unusedVariables false
open Go.RowKit

/-- each operation waits only for some that stand ahead of it in the text -/
def aheadB (ops : Array Oper) : Bool := (List.range ops.size).all fun i => match ops[i]? with
  | none => true
  | some o => o.after.all fun e => !Region.binds .any e || decide (e.on < i)
theorem all_listed {ops : Array Oper} (hB : aheadB ops = true) {listed : Array Bool} (h : Region.ready .any ops listed = []) : ∀ n i : Nat, i < n → i < ops.size → listed.getD i true = true
  | 0, _, hi, _ => by omega
  | n + 1, i, hi, hn => by
    cases hl : listed.getD i true with
    | true => rfl
    | false =>
      exfalso
      have hm : i ∈ Region.ready .any ops listed := by
        refine mem_ready.2 ⟨hl, ops[i], Array.getElem?_eq_getElem hn, fun e he hb => ?_⟩
        have h1 := List.all_eq_true.1 hB i (List.mem_range.2 hn)
        rw [Array.getElem?_eq_getElem hn] at h1
        have h2 := Array.all_eq_true'.1 h1 e he
        simp only [hb, Bool.not_true, Bool.false_or, decide_eq_true_eq] at h2
        have h3 := all_listed hB h n e.on (by omega) (by omega)
        have hs : e.on < listed.size := by
          have : i < listed.size := by
            rcases Nat.lt_or_ge i listed.size with q | q
            · exact q
            · simp [Array.getD, Nat.not_lt.2 q] at hl
          omega
        simp [Array.getD, hs] at h3 ⊢
        exact h3
      rw [h] at hm
      cases hm
theorem getD_any {l : Array Bool} {i : Nat} (hi : i < l.size) (h : l.getD i true = true) : l.getD i false = true := by simpa [Array.getD, hi] using h
theorem getD_no {l : Array Bool} {i : Nat} (h : l.getD i true = false) : l.getD i false = false := by
  rcases Nat.lt_or_ge i l.size with q | q
  · simpa [Array.getD, q] using h
  · simp [Array.getD, Nat.not_lt.2 q]
theorem getD_set_yes {l : Array Bool} {i : Nat} (h : l.getD i true = false) : (l.setIfInBounds i true).getD i false = true := by
  rcases Nat.lt_or_ge i l.size with q | q
  · simp [Array.getD, q]
  · simp [Array.getD, Nat.not_lt.2 q] at h
section
variable {P : Program} {ops : Array Oper} {Q : Exit → Act → World → Prop} {I : Array Bool → Act → World → Prop}
theorem wpAny_inv (hB : aheadB ops = true)
    (hs : ∀ (listed : Array Bool) (a : Act) (w : World) (i : Nat) (o : Oper), ops[i]? = some o → listed.getD i true = false → (∀ e ∈ o.after, Region.binds .any e = true → listed.getD e.on false = true) → I listed a w → wpOp P ops Q i (I (listed.setIfInBounds i true)) a w)
    (hd : ∀ (listed : Array Bool) (a : Act) (w : World), (∀ i < ops.size, listed.getD i false = true) → I listed a w → Q .normal a w) :
    ∀ (fuel : Nat) (listed : Array Bool) (a : Act) (w : World), listed.size = ops.size → listed.toList.count false ≤ fuel → I listed a w → wpAny P .any ops Q fuel listed a w
  | 0, listed, a, w, hz, hc, h => by
    have hall : ∀ i, listed.getD i true = true := fun i => by
      rcases Nat.lt_or_ge i listed.size with q | q
      · have := List.count_eq_zero.1 (Nat.le_zero.1 hc)
        have hm : listed[i] ∈ listed.toList := by simp
        cases hb : listed[i] with
        | true => simp [Array.getD, q, hb]
        | false => rw [hb] at hm; exact absurd hm this
      · simp [Array.getD, Nat.not_lt.2 q]
    refine ⟨?_, hd listed a w (fun i hi => getD_any (by omega) (hall i)) h⟩
    rw [List.eq_nil_iff_forall_not_mem]
    intro i hi
    have := (mem_ready.1 hi).1
    rw [hall] at this
    cases this
  | fuel + 1, listed, a, w, hz, hc, h => by
    refine ⟨fun hr => hd listed a w (fun i hi => getD_any (by omega) (all_listed hB hr (i + 1) i (by omega) hi)) h, fun i hi => ?_⟩
    obtain ⟨h1, o, ho, h2⟩ := mem_ready.1 hi
    refine wpOp_mono (fun a' w' h' => wpAny_inv hB hs hd fuel _ a' w' (by simp [hz]) ?_ h') (hs listed a w i o ho h1 h2 h)
    have hlt : i < listed.size := by
      rcases Nat.lt_or_ge i listed.size with q | q
      · exact q
      · simp [Array.getD, Nat.not_lt.2 q] at h1
    have hf : listed.toList[i]'(by simpa using hlt) = false := by simpa [Array.getD, hlt] using h1
    rw [Array.toList_setIfInBounds, List.count_set (by simpa using hlt), hf]
    simp at hc ⊢
    omega
theorem wp_region_inv {id : Nat} {a : Act} {w : World} (hm : P.follows .mixedOrders = true) (hB : aheadB ops = true) (I : Array Bool → Act → World → Prop) (h0 : I (Array.replicate ops.size false) a w.drew)
    (hs : ∀ (listed : Array Bool) (a : Act) (w : World) (i : Nat) (o : Oper), ops[i]? = some o → listed.getD i true = false → (∀ e ∈ o.after, Region.binds .any e = true → listed.getD e.on false = true) → I listed a w → wpOp P ops Q i (I (listed.setIfInBounds i true)) a w)
    (hd : ∀ (listed : Array Bool) (a : Act) (w : World), (∀ i < ops.size, listed.getD i false = true) → I listed a w → Q .normal a w) : (Code.region id ops true).wp P Q a w :=
  wp_region_any hm (wpAny_inv hB hs hd _ _ a w.drew (by simp) (by simp) h0)
theorem getD_upd {l : Array Bool} {i : Nat} (h : l.getD i true = false) (j : Nat) : (l.setIfInBounds i true).getD j false = (decide (j = i) || l.getD j false) := by
  by_cases e : j = i
  · subst e
    rw [getD_set_yes h]
    simp
  · rw [getD_set_ne false (fun q => e q.symm)]
    simp [e]
/-- the same, what has come up being told by a function -/
theorem wp_region_invB {id : Nat} {a : Act} {w : World} (hm : P.follows .mixedOrders = true) (hB : aheadB ops = true) (I : (Nat → Bool) → Act → World → Prop) (h0 : I (fun _ => false) a w.drew)
    (hs : ∀ (b : Nat → Bool) (a : Act) (w : World) (i : Nat) (o : Oper), ops[i]? = some o → b i = false → (∀ e ∈ o.after, Region.binds .any e = true → b e.on = true) → I b a w → wpOp P ops Q i (I (fun j => decide (j = i) || b j)) a w)
    (hd : ∀ (b : Nat → Bool) (a : Act) (w : World), (∀ i < ops.size, b i = true) → I b a w → Q .normal a w) : (Code.region id ops true).wp P Q a w :=
  wp_region_inv hm hB (fun l => I (fun j => l.getD j false))
    (by rw [show (fun j => (Array.replicate ops.size false).getD j false) = (fun _ => false) from funext fun j => by by_cases h : j < ops.size <;> simp [Array.getD, h]]; exact h0)
    (fun l a w i o ho hl hdep h => by
      show wpOp P ops Q i (I (fun j => (l.setIfInBounds i true).getD j false)) a w
      rw [show (fun j => (l.setIfInBounds i true).getD j false) = (fun j => decide (j = i) || l.getD j false) from funext fun j => getD_upd hl j]
      exact hs _ a w i o ho (getD_no hl) hdep h)
    (fun l a w hall h => hd _ a w hall h)
end
end Go.Proofs.YtojoknalnmmpeaaGreatDoor
