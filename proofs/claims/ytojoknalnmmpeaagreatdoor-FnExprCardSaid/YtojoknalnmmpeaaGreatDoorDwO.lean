
/- What is drawn to be told: a tree, names, and what they stand for. -/
import Derived.Test.YtojoknalnmmpeaaGreatDoorDwEB
import Derived.Test.YtojoknalnmmpeaaGreatDoorDwPQ
import Derived.Test.YtojoknalnmmpeaaGreatDoorLawBr
import Derived.Test.YtojoknalnmmpeaaGreatDoorAny
namespace Go.Proofs.YtojoknalnmmpeaaGreatDoor
set_option maxRecDepth 100000
set_option linter.unusedSimpArgs false
set_option linter.unusedVariables false
open Go.RowKit
attribute [local go_sem] bs_toList bs_get bs_size

theorem slb_blk {w : World} {g : Nat} {l : List Bytes} (hl : l.length ≤ 1000) (hg : Blk w g 9 (l.map (fun s => Value.string (bs s))).toArray) : SlB w w.heap.size (.slice (some ⟨g, 0, none⟩) l.length l.length) l := ⟨_, _, rfl, Nat.le_refl _, by unfold maxLen; omega, fun _ => ⟨g, 0, rfl, hg.lt, fun i t ht j x hj => by
  have hj0 : j = 0 := by have := (List.getElem?_eq_some_iff.1 hj).1; simp [strRow] at this; omega
  subst hj0
  simp [strRow] at hj
  subst hj
  have := hg.cell i
  simp [ht] at this
  simpa using this⟩⟩
theorem sln_blk {w : World} {g : Nat} {l : List Int} (hl : l.length ≤ 1000) (hg : Blk w g 3 (l.map (fun s => Value.int .i64 s)).toArray) : SlN w w.heap.size (.slice (some ⟨g, 0, none⟩) l.length l.length) l := ⟨_, _, rfl, Nat.le_refl _, by unfold maxLen; omega, fun _ => ⟨g, 0, rfl, hg.lt, fun i t ht j x hj => by
  have hj0 : j = 0 := by have := (List.getElem?_eq_some_iff.1 hj).1; simp [intRow] at this; omega
  subst hj0
  simp [intRow] at hj
  subst hj
  have := hg.cell i
  simp [ht] at this
  simpa using this⟩⟩
/-- no cell of it is a byte -/
def NoY (cs : Array Value) : Prop := ∀ (i : Nat) (x : Int), cs[i]? ≠ some (.int .u8 x)
theorem noy_ex (k n : Int) (s : Bytes) (A : Option Addr) (m c : Nat) : NoY #[.int .i64 k, .int .i64 n, .string (bs s), .slice A m c] := by
  intro i x h
  rcases i with _ | _ | _ | _ | i <;> simp at h
/-- a block that holds no bytes is none of a reader's code -/
theorem Rd.other {w w' : World} {rb p g : Nat} {t : TypeId} {cs : Array Value} (h : Rd w rb p) (hb : Blk w g t cs) (hn : NoY cs) (hg : w.grownBy w' (some g)) (hne : g ≠ rb) : Rd w' rb p := by
  obtain ⟨A, c, l, h1, h2, h3, h4⟩ := h
  refine ⟨A, c, l, blk_gr h1 hg (fun e => hne e.symm), h2, h3, ?_⟩
  obtain ⟨A', c', hv, hc, hm, hh⟩ := h4
  refine ⟨A', c', hv, hc, hm, fun h0 => ?_⟩
  obtain ⟨b, o, hA, hlt, hx⟩ := hh h0
  refine ⟨b, o, hA, hlt, fun i s hs j x hj => hg.cell (hx i s hs j x hj) (fun e => ?_)⟩
  have e' : b = g := by have := Option.some.inj e; simpa using this
  subst e'
  have hc1 := hx i s hs j x hj
  have hj0 : j = 0 := by have := (List.getElem?_eq_some_iff.1 hj).1; simp [byRow] at this; omega
  subst hj0
  simp [byRow] at hj
  subst hj
  have := hb.cell (o + i * 1 + 0)
  rw [hc1] at this
  exact hn _ _ this.symm
/-- what is drawn -/
def DrewO (w : World) (e : Ending) (w' : World) : Prop := ∃ (v : Value) (x : Ex) (vn vm : Value) (names : List Bytes) (nums : List Int), e = .returned (.tuple #[v, vn, vm]) ∧ ExV w' w'.heap.size v x ∧ SlB w' w'.heap.size vn names ∧ SlN w' w'.heap.size vm nums ∧ names.length ≤ 4 ∧ (1 ≤ names.length ∧ 1 ≤ nums.length ∧ nums.length ≤ 4) ∧ Below w.heap.size w w'
/-- what each operation of the last region has laid into its slot -/
structure OfG (ls : Array Bool) (lo : Nat) (wx : World) (X R : Value) (s3 s4 v23 v24 v25 v26 v27 v28 v29 v30 v31 v32 v33 v34 : Value) : Prop where
  f0 : ls.getD 0 false = true → v23 = X
  f1 : ls.getD 1 false = true → ∃ g, v24 = .slice (some ⟨g, 0, none⟩) 4 4 ∧ lo < g ∧ Blk wx g 9 (([[120], [121], [122], [120]] : List Bytes).map (fun s => Value.string (bs s))).toArray
  f2 : ls.getD 2 false = true → v25 = R
  f3 : ls.getD 3 false = true → ∃ g, v26 = .slice (some ⟨g, 0, none⟩) 3 3 ∧ lo < g ∧ Blk wx g 3 (([0, 1, -5] : List Int).map (fun s => Value.int .i64 s)).toArray
  f4 : ls.getD 4 false = true → ∃ n, v27 = .int .i64 n
  f5 : ls.getD 5 false = true → v28 = R
  f6 : ls.getD 6 false = true → ∃ g, v29 = .slice (some ⟨g, 0, none⟩) 2 2 ∧ lo < g ∧ Blk wx g 3 (([2, 1000] : List Int).map (fun s => Value.int .i64 s)).toArray
  f7 : ls.getD 7 false = true → ∃ n, v30 = .int .i64 n
  f8 : ls.getD 8 false = true → v31 = R
  f9 : ls.getD 9 false = true → ∃ g, v32 = .slice (some ⟨g, 0, none⟩) 3 3 ∧ lo < g ∧ Blk wx g 3 (([1, 4, 9999999] : List Int).map (fun s => Value.int .i64 s)).toArray
  f10 : ls.getD 10 false = true → ∃ n, v33 = .int .i64 n
  f11 : ls.getD 11 false = true → ∃ (g : Nat) (l : List Int), l.length = 4 ∧ v34 = .slice (some ⟨g, 0, none⟩) 4 4 ∧ lo < g ∧ Blk wx g 3 (l.map (fun s => Value.int .i64 s)).toArray
  f13 : ls.getD 13 false = true → ∃ g, s3 = .slice (some ⟨g, 0, none⟩) 4 4 ∧ lo < g ∧ Blk wx g 9 (([[120], [121], [122], [120]] : List Bytes).map (fun s => Value.string (bs s))).toArray
  f14 : ls.getD 14 false = true → ∃ (g : Nat) (l : List Int), l.length = 4 ∧ s4 = .slice (some ⟨g, 0, none⟩) 4 4 ∧ lo < g ∧ Blk wx g 3 (l.map (fun s => Value.int .i64 s)).toArray
theorem OfG.step {ls : Array Bool} {lo : Nat} {wx wy : World} {X R s3 s4 v23 v24 v25 v26 v27 v28 v29 v30 v31 v32 v33 v34 : Value} (h : OfG ls lo wx X R s3 s4 v23 v24 v25 v26 v27 v28 v29 v30 v31 v32 v33 v34) (hs : ∀ g t cs, lo < g → Blk wx g t cs → Blk wy g t cs) : OfG ls lo wy X R s3 s4 v23 v24 v25 v26 v27 v28 v29 v30 v31 v32 v33 v34 where
  f0 := h.f0
  f1 := fun q => by obtain ⟨g, h1, h2, h3⟩ := h.f1 q; exact ⟨g, h1, h2, hs _ _ _ h2 h3⟩
  f2 := h.f2
  f3 := fun q => by obtain ⟨g, h1, h2, h3⟩ := h.f3 q; exact ⟨g, h1, h2, hs _ _ _ h2 h3⟩
  f4 := h.f4
  f5 := h.f5
  f6 := fun q => by obtain ⟨g, h1, h2, h3⟩ := h.f6 q; exact ⟨g, h1, h2, hs _ _ _ h2 h3⟩
  f7 := h.f7
  f8 := h.f8
  f9 := fun q => by obtain ⟨g, h1, h2, h3⟩ := h.f9 q; exact ⟨g, h1, h2, hs _ _ _ h2 h3⟩
  f10 := h.f10
  f11 := fun q => by obtain ⟨g, l, h0, h1, h2, h3⟩ := h.f11 q; exact ⟨g, l, h0, h1, h2, hs _ _ _ h2 h3⟩
  f13 := fun q => by obtain ⟨g, h1, h2, h3⟩ := h.f13 q; exact ⟨g, h1, h2, hs _ _ _ h2 h3⟩
  f14 := fun q => by obtain ⟨g, l, h0, h1, h2, h3⟩ := h.f14 q; exact ⟨g, l, h0, h1, h2, hs _ _ _ h2 h3⟩
end Go.Proofs.YtojoknalnmmpeaaGreatDoor
