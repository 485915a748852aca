
/- A drawn list that is copied, with lines behind it: where the order is the text's. -/
import Derived.Test.YtdobcfekjmobhaaGreatDoorDwC
namespace Go.Proofs.YtdobcfekjmobhaaGreatDoor
set_option maxRecDepth 100000
set_option linter.unusedSimpArgs false
set_option linter.unusedVariables false
open Go.RowKit
attribute [local go_sem] bs_toList bs_get bs_size

section
variable {ops : Array Oper} {rest : List Oper} {o : Oper} {a : Act} {Q : Exit → Act → World → Prop} {w : World}
theorem app_plainL (hgd : o.guard = none) (s x : Operand) (ho : o.op = .call { callee := .builtin .append, args := #[s, x], argTypes := #[32, 32] })
    (B : Nat) (g5 n cap5 : Nat) (l : List FS) (hs : a.eval s = .slice (some ⟨g5, 0, none⟩) n cap5) (hv : GtF B w (.slice (some ⟨g5, 0, none⟩) n cap5) l) (hn : l.length = n) (l2 : List FS) (n2 : Nat) (hn2 : l2.length = n2) (hone : ∀ f ∈ l2, ∀ u ∈ fsRow f, u.oneCell' = true) (g0 c0 : Nat) (hx : a.eval x = .slice (some ⟨g0, 0, none⟩) n2 c0)
    (hc : ∀ (j : Nat) (u : Value), (l2.flatMap fsRow)[j]? = some u → w.cell? ((⟨g0, 0, none⟩ : Addr).add j) = some u) (hm : 0 < n2) (hl : n + n2 ≤ 1000000) (hB : B ≤ w.heap.size)
    (h : ∀ g cap w', GtF B w' (.slice (some ⟨g, 0, none⟩) (n + n2) cap) (l ++ l2) → w.grownBy w' (some g5) → (some g5 = some g ∨ g = w.heap.size) → wpList Tryz.prog ops Q rest (a.put o.dst (.slice (some ⟨g, 0, none⟩) (n + n2) cap)) w') : wpList Tryz.prog ops Q (o :: rest) a w := by
  subst hn hn2
  exact app_plain1 (row := fsRow) (k := 11) (t := 27) (tS := 32) (l2 := l2) (fun _ => rfl) (by decide) Tryz.underlying32 infoSt (by decide) rfl hgd s x ho B _ l hs hv ⟨g0, 0, none⟩ c0 hone hx hc hm hl hB h
theorem app_copyP (hgd : o.guard = none) (s x : Operand) (ho : o.op = .call { callee := .builtin .append, args := #[s, x], argTypes := #[32, 32] })
    (B g0 : Nat) (hs : a.eval s = .slice (some ⟨g0, 0, none⟩) 0 0) (hv : GtF B w (.slice (some ⟨g0, 0, none⟩) 0 0) []) (fl : List FS) (n : Nat) (hn : fl.length = n) (hone : ∀ f ∈ fl, ∀ u ∈ fsRow f, u.oneCell' = true) (gp cp : Nat) (hx : a.eval x = .slice (some ⟨gp, 0, none⟩) n cp)
    (hc : ∀ (j : Nat) (u : Value), (fl.flatMap fsRow)[j]? = some u → w.cell? ((⟨gp, 0, none⟩ : Addr).add j) = some u) (hm : 0 < n) (hl : n ≤ 1000) (hB : B ≤ w.heap.size)
    (h : ∀ g cap w', GtF B w' (.slice (some ⟨g, 0, none⟩) n cap) fl → w.grownBy w' (some g0) → (some g0 = some g ∨ g = w.heap.size) → wpList Tryz.prog ops Q rest (a.put o.dst (.slice (some ⟨g, 0, none⟩) n cap)) w') : wpList Tryz.prog ops Q (o :: rest) a w := by
  subst hn
  refine app_plain1 (row := fsRow) (k := 11) (t := 27) (tS := 32) (l2 := fl) (fun _ => rfl) (by decide) Tryz.underlying32 infoSt (by decide) rfl hgd s x ho B _ [] hs hv ⟨gp, 0, none⟩ cp hone hx hc hm (by simp; omega) hB ?_
  intro g cap w' h1 h2 h3
  have e : ([] : List FS).length + fl.length = fl.length := by simp
  rw [e] at h1 ⊢
  exact h g cap w' (by simpa using h1) h2 h3
end
/-- a row of lines laid at once -/
theorem gt_laid {w w' : World} {n m : Nat} (l : List FS) (hn : w.heap.size = n) (hm : l.length = m) (h0 : 0 < m) (hm2 : m ≤ 1000) (hb : Below (n + 1) (w.alloc (.cells (l.flatMap fsRow).toArray 27)) w') : GtF n w' (.slice (some ⟨n, 0, none⟩) m m) l := by
  subst hn hm
  have h1 : Blk w' w.heap.size 27 (l.flatMap fsRow).toArray := (Blk.new w 27 (l.flatMap fsRow).toArray).below hb (Nat.lt_succ_self _)
  exact Gt.built (w' := w) l h0 (fun _ => rfl) (by omega) h1 (Nat.le_refl _)
end Go.Proofs.YtdobcfekjmobhaaGreatDoor
