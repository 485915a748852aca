
/- A drawn list that is copied, with lines behind it. -/
import Derived.Test.YtdobcfekjmobhaaGreatDoorDwPQ
namespace Go.Proofs.YtdobcfekjmobhaaGreatDoor
set_option maxRecDepth 100000
set_option linter.unusedSimpArgs false
set_option linter.unusedVariables false
open Go.RowKit
attribute [local go_sem] bs_toList bs_get bs_size

/-! ### a list copied, with lines behind -/
section
variable {ops : Array Oper} {rest : List Oper} {o : Oper} {a : Act} {Q : Exit → Act → World → Prop} {w : World}
theorem app_copyF {K : Act → World → Prop} {E : Prop} (hgd : o.guard = none) (s x : Operand) (ho : o.op = .call { callee := .builtin .append, args := #[s, x], argTypes := #[32, 32] })
    (B g0 : Nat) (hs : a.eval s = .slice (some ⟨g0, 0, none⟩) 0 0) (hv : GtF B w (.slice (some ⟨g0, 0, none⟩) 0 0) []) (fl : List FS) (n : Nat) (hn : fl.length = n) (hone : ∀ f ∈ fl, ∀ u ∈ fsRow f, u.oneCell' = true) (gp cp : Nat) (hx : a.eval x = .slice (some ⟨gp, 0, none⟩) n cp)
    (hc : ∀ (j : Nat) (u : Value), (fl.flatMap fsRow)[j]? = some u → w.cell? ((⟨gp, 0, none⟩ : Addr).add j) = some u) (hm : 0 < n) (hl : n ≤ 1000) (hB : B ≤ w.heap.size)
    (h : ∀ g cap w', GtF B w' (.slice (some ⟨g, 0, none⟩) n cap) fl → w.grownBy w' (some g0) → (some g0 = some g ∨ g = w.heap.size) → K (a.put o.dst (.slice (some ⟨g, 0, none⟩) n cap)) w') :
    if Region.wanted o (yielded ops a.tmps) = true then Oper.wp Tryz.prog o a w K Q else E := by
  subst hn
  refine app_step1 (row := fsRow) (k := 11) (t := 27) (tS := 32) (l2 := fl) (fun _ => rfl) (by decide) Tryz.underlying32 infoSt (by decide) rfl hgd s x ho B _ [] hs hv ⟨gp, 0, none⟩ cp hone hx hc hm (by simp; omega) hB ?_
  intro g cap w' h1 h2 h3
  have e : ([] : List FS).length + fl.length = fl.length := by simp
  rw [e] at h1 ⊢
  exact h g cap w' (by simpa using h1) h2 h3
theorem app_stepL {K : Act → World → Prop} {E : Prop} (hgd : o.guard = none) (s x : Operand) (ho : o.op = .call { callee := .builtin .append, args := #[s, x], argTypes := #[32, 32] })
    (B : Nat) (g5 n cap5 : Nat) (l : List FS) (hs : a.eval s = .slice (some ⟨g5, 0, none⟩) n cap5) (hv : GtF B w (.slice (some ⟨g5, 0, none⟩) n cap5) l) (hn : l.length = n) (l2 : List FS) (n2 : Nat) (hn2 : l2.length = n2) (hone : ∀ f ∈ l2, ∀ u ∈ fsRow f, u.oneCell' = true) (g0 c0 : Nat) (hx : a.eval x = .slice (some ⟨g0, 0, none⟩) n2 c0)
    (hc : ∀ (j : Nat) (u : Value), (l2.flatMap fsRow)[j]? = some u → w.cell? ((⟨g0, 0, none⟩ : Addr).add j) = some u) (hm : 0 < n2) (hl : n + n2 ≤ 1000000) (hB : B ≤ w.heap.size)
    (h : ∀ g cap w', GtF B w' (.slice (some ⟨g, 0, none⟩) (n + n2) cap) (l ++ l2) → w.grownBy w' (some g5) → (some g5 = some g ∨ g = w.heap.size) → K (a.put o.dst (.slice (some ⟨g, 0, none⟩) (n + n2) cap)) w') :
    if Region.wanted o (yielded ops a.tmps) = true then Oper.wp Tryz.prog o a w K Q else E := by
  subst hn hn2
  exact app_step1 (row := fsRow) (k := 11) (t := 27) (tS := 32) (l2 := l2) (fun _ => rfl) (by decide) Tryz.underlying32 infoSt (by decide) rfl hgd s x ho B _ l hs hv ⟨g0, 0, none⟩ c0 hone hx hc hm hl hB h
end
theorem DrS.both {lo : Nat} {w : World} {u : Value} {fl fl2 : List FS} {l l2 : List Sm} (hG : GtF lo w u (fl ++ fl2)) (h2 : fl.length = l.length) (h3 : ∀ (i : Nat) (f : FS) (s : Sm), fl[i]? = some f → l[i]? = some s → DrF lo w f s) (g2 : fl2.length = l2.length) (h4 : ∀ (i : Nat) (f : FS) (s : Sm), fl2[i]? = some f → l2[i]? = some s → DrF lo w f s) : DrS lo w u (l ++ l2) := by
  refine ⟨fl ++ fl2, hG, by rw [List.length_append, List.length_append, h2, g2], fun i f s hf hs => ?_⟩
  by_cases hi : i < fl.length
  · rw [List.getElem?_append_left hi] at hf
    rw [List.getElem?_append_left (by omega)] at hs
    exact h3 i f s hf hs
  · rw [List.getElem?_append_right (by omega)] at hf
    rw [List.getElem?_append_right (by omega)] at hs
    exact h4 _ f s hf (by rw [h2]; exact hs)
theorem DrF.ext {lo : Nat} {w w' : World} {f : FS} {s : Sm} (h : DrF lo w f s) (hb : Below w.heap.size w w') : DrF lo w' f s :=
  h.grown (r := none) ⟨hb.os, hb.tape, hb.output, hb.size, fun k hk _ => hb.block k hk⟩ (fun q e => by cases e)
theorem Blk.newc {w : World} {n : Nat} {t : TypeId} {cs cs' : Array Value} (h : w.heap.size = n) (e : cs = cs') : Blk (w.alloc (.cells cs t)) n t cs' := by subst h e; exact Blk.new w t cs
theorem gt_empty' {B n : Nat} (w w' : World) (hn : w.heap.size = n) (hB : B ≤ n) (hb : Below (n + 1) (w.alloc (.cells #[] 27)) w') : GtF B w' (.slice (some ⟨n, 0, none⟩) 0 0) [] := by
  subst hn; exact gt_empty fsRow 11 27 w w' hB hb
/-- a drawn list that is not empty: where it lies -/
theorem DrS.at {lo : Nat} {w : World} {u : Value} {l : List Sm} (h : DrS lo w u l) (h0 : 0 < l.length) : ∃ (gp cp : Nat) (fl : List FS), u = .slice (some ⟨gp, 0, none⟩) l.length cp ∧ l.length ≤ cp ∧ cp ≤ 9223372036854775807 ∧ gp < w.heap.size ∧ fl.length = l.length ∧ (∀ f ∈ fl, ∀ x ∈ fsRow f, x.oneCell' = true) ∧ ∀ w', Below w.heap.size w w' → (∀ (j : Nat) (x : Value), (fl.flatMap fsRow)[j]? = some x → w'.cell? ((⟨gp, 0, none⟩ : Addr).add j) = some x) ∧ ∀ (i : Nat) (f : FS) (s : Sm), fl[i]? = some f → l[i]? = some s → DrF lo w' f s := by
  obtain ⟨fl, h1, h2, h3⟩ := h
  obtain ⟨gp, cp, rfl, hlo, hlt, hc⟩ := h1.src (by omega)
  obtain ⟨A, c, e, hc1, hm1⟩ := h1.val
  obtain ⟨rfl, rfl⟩ : some (⟨gp, 0, none⟩ : Addr) = A ∧ cp = c := by injection e; exact ⟨‹_›, ‹_›⟩
  refine ⟨gp, cp, fl, by rw [h2], by omega, hm1, hlt, h2, fs_all h2 h3, fun w' hb => ⟨?_, fun i f s a b => (h3 i f s a b).ext hb⟩⟩
  exact (h1.ext hb).cells
end Go.Proofs.YtdobcfekjmobhaaGreatDoor
