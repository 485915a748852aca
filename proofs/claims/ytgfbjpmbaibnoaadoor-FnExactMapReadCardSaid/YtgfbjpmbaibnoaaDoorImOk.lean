
/- The program's test on trees: parts are counted in a cell of the caller's. -/
import Derived.Test.YtgfbjpmbaibnoaaDoorZm6
import Derived.Test.YtgfbjpmbaibnoaaDoorBas
import Derived.Deep.AppendLies
namespace Go.Proofs.YtgfbjpmbaibnoaaDoor
set_option maxRecDepth 100000
set_option linter.unusedSimpArgs false
set_option linter.unusedVariables false
open Go.RowKit
attribute [local go_sem] bs_toList bs_get bs_size

theorem below_of_grown {w w' : World} {p B : Nat} (hg : w.grownBy w' (some p)) (hB : B ≤ p) (hp : p < w.heap.size) : Below B w w' :=
  ⟨hg.os, hg.tape, hg.output, hg.size, fun k hk => hg.block k (by omega) (fun e => by have := Option.some.inj e; omega)⟩
theorem grown_tr {a w w' : World} {row : Option Nat} (h : a.grownBy w row) (k : w.grownBy w' row) : a.grownBy w' row :=
  ⟨k.os.trans h.os, k.tape.trans h.tape, k.output.trans h.output, Nat.le_trans h.size k.size, fun i hi hr => (k.block i (Nat.lt_of_lt_of_le hi h.size) hr).trans (h.block i hi hr)⟩
theorem grown_bel {a w w' : World} {row : Option Nat} (h : a.grownBy w row) (hb : Below w.heap.size w w') : a.grownBy w' row :=
  grown_tr h ⟨hb.os, hb.tape, hb.output, hb.size, fun i hi _ => hb.block i hi⟩
theorem bel_grown {a w w' : World} {p : Nat} (hb : Below a.heap.size a w) (h : w.grownBy w' (some p)) : a.grownBy w' (some p) :=
  grown_tr ⟨hb.os, hb.tape, hb.output, hb.size, fun i hi _ => hb.block i hi⟩ h
theorem grown_rfl (w : World) (row : Option Nat) : w.grownBy w row := ⟨rfl, rfl, rfl, Nat.le_refl _, fun _ _ _ => rfl⟩
theorem grown_st {a w : World} {b : Nat} (h : a.grownBy w (some b)) (i : Nat) (v : Value) : a.grownBy (w.setCell ⟨b, i, none⟩ v) (some b) :=
  grown_tr h ⟨rfl, rfl, rfl, by simp [World.setCell], fun k hk hr => Below.heap_setCell w ⟨b, i, none⟩ v k (fun e => hr (by rw [e]))⟩
theorem grown_keepc {w w' : World} {p b o : Nat} {x : Value} (hg : w.grownBy w' (some p)) (h : w.cell? ⟨b, o, none⟩ = some x) (hne : b ≠ p) : w'.cell? ⟨b, o, none⟩ = some x :=
  hg.cell h (fun e => hne (by simpa using e))

def manyS (d : Nat) (l : List Ex) (j : Nat) : Nat := ((l.take j).map (manyN d)).sum
theorem manyS_zero (d : Nat) (l : List Ex) : manyS d l 0 = 0 := by simp [manyS]
theorem manyS_succ {d : Nat} {l : List Ex} {i : Nat} {e : Ex} (h : l[i]? = some e) : manyS d l (i + 1) = manyS d l i + manyN d e := by
  have hi := (List.getElem?_eq_some_iff.1 h).1
  have he : l[i] = e := by rw [List.getElem?_eq_getElem hi] at h; exact Option.some.inj h
  unfold manyS
  rw [List.take_succ_eq_append_getElem hi, List.map_append, List.sum_append, he]
  simp
theorem manyS_all (d : Nat) (l : List Ex) : manyS d l l.length = (l.map (manyN d)).sum := by simp [manyS]
theorem manyS_le (d : Nat) (l : List Ex) (j : Nat) : manyS d l j ≤ (l.map (manyN d)).sum := by
  have h : (l.take j ++ l.drop j) = l := List.take_append_drop j l
  have h2 := congrArg (fun l => (l.map (manyN d)).sum) h
  simp only [List.map_append, List.sum_append] at h2
  unfold manyS
  omega
/-- what walk tells, and what it leaves in the cell -/
def WalkPost (d : Nat) (e : Ex) (n : Nat) (p : Nat) (w : World) (b : Bool) (w' : World) : Prop :=
  ∃ n' : Int, w.grownBy w' (some p) ∧ Blk w' p 3 #[.int .i64 n'] ∧ (b = true → formB d e = true ∧ n' = n + manyN d e ∧ n + manyN d e ≤ 12) ∧ (b = false → ¬ (formB d e = true ∧ n + manyN d e ≤ 12))
def IdxPost (d : Nat) (l : List Ex) (n : Nat) (p : Nat) (w : World) (i : Int) (w' : World) : Prop :=
  ∃ n' : Int, w.grownBy w' (some p) ∧ Blk w' p 3 #[.int .i64 n'] ∧ ((i = -1 ∧ (∀ x ∈ l, formB d x = true) ∧ n' = n + (l.map (manyN d)).sum ∧ n + (l.map (manyN d)).sum ≤ 12) ∨ (0 ≤ i ∧ ¬ ((∀ x ∈ l, formB d x = true) ∧ n + (l.map (manyN d)).sum ≤ 12)))
def RetB (Q : Bool → World → Prop) (e : Ending) (w : World) : Prop := ∃ b : Bool, e = .returned (.bool b) ∧ Q b w
def RetI (Q : Int → World → Prop) (e : Ending) (w : World) : Prop := ∃ i : Int, e = .returned (.int .i64 i) ∧ Q i w

theorem tgt_pos (s : Bytes) : decide (0 < tgt s) = opB s := by
  unfold tgt opB
  by_cases h1 : s = [60]
  · simp [h1]
  by_cases h2 : s = [43]
  · simp [h2]
  by_cases h3 : s = [45]
  · simp [h3]
  by_cases h4 : s = [42]
  · simp [h4]
  simp [h1, h2, h3, h4]
end Go.Proofs.YtgfbjpmbaibnoaaDoor
