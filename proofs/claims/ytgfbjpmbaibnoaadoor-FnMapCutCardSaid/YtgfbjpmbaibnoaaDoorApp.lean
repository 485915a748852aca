
/- Append to rows of the call's own, of any kind of row. No condition. -/
import Derived.Test.YtgfbjpmbaibnoaaDoorGot
namespace Go.Proofs.YtgfbjpmbaibnoaaDoor
set_option maxRecDepth 100000
set_option linter.unusedSimpArgs false
set_option linter.unusedVariables false
open Go.RowKit

/-- a kind of row: its cells, its type, the type of its slices -/
structure RowTy {α : Type} (row : α → List Value) (k : Nat) (t tS : TypeId) : Prop where
  len : ∀ s, (row s).length = k
  one : ∀ s, ∀ u ∈ row s, u.oneCell' = true
  pos : 0 < k
  und : Tryd.prog.underlying tS = some (.slice t)
  info : ∃ (i : TypeInfo) (z : Value) (b : Nat), Tryd.prog.info? t = some i ∧ i.zero = some z ∧ i.size = k ∧ i.bytes = b ∧ b ≤ 1000 ∧ z.cells.size = k
theorem RowTy.of_info {α : Type} {row : α → List Value} {k : Nat} {t tS : TypeId} {z : Value} {b : Nat} (h1 : ∀ s, (row s).length = k) (h2 : ∀ s, ∀ u ∈ row s, u.oneCell' = true) (h3 : 0 < k) (h4 : Tryd.prog.underlying tS = some (.slice t))
    (h5 : (Tryd.prog.info? t).map (fun i => (i.zero, i.size, i.bytes)) = some (some z, k, b)) (h6 : b ≤ 1000) (h7 : z.cells.size = k) : RowTy row k t tS := by
  obtain ⟨i0, hi, hz0, hz1, hz2⟩ := info_parts h5
  exact ⟨h1, h2, h3, h4, i0, z, b, hi, hz0, hz1, hz2, h6, h7⟩
theorem flat_len {α : Type} {row : α → List Value} {k : Nat} (hk : ∀ s, (row s).length = k) : ∀ l : List α, (l.flatMap row).length = l.length * k
  | [] => by simp
  | a :: l => by rw [List.flatMap_cons, List.length_append, hk, flat_len hk l, List.length_cons, Nat.add_mul]; omega
section
variable {α : Type} {row : α → List Value} {k : Nat} {t tS : TypeId} {ops : Array Oper} {rest : List Oper} {o : Oper} {a : Act} {Q : Exit → Act → World → Prop} {K : Act → World → Prop} {E : Prop} {w : World}
theorem app_plain (R : RowTy row k t tS) (hgd : o.guard = none) (s x : Operand) (ho : o.op = .call { callee := .builtin .append, args := #[s, x], argTypes := #[tS, tS] })
    (B : Nat) (v : Value) (l : List α) (hs : a.eval s = v) (hv : Gt row k t B w v l) (ad : Addr) (c : Nat) (l2 : List α) (hx : a.eval x = .slice (some ad) l2.length c)
    (hc : ∀ (j : Nat) (u : Value), (l2.flatMap row)[j]? = some u → w.cell? (ad.add j) = some u) (hm : 0 < l2.length) (hl : l.length + l2.length ≤ 1000000) (hB : B ≤ w.heap.size)
    (h : ∀ g cap w', Gt row k t B w' (.slice (some ⟨g, 0, none⟩) (l.length + l2.length) cap) (l ++ l2) → w.grownBy w' v.ownBlock → (v.ownBlock = some g ∨ g = w.heap.size) → wpList Tryd.prog ops Q rest (a.put o.dst (.slice (some ⟨g, 0, none⟩) (l.length + l2.length) cap)) w') : wpList Tryd.prog ops Q (o :: rest) a w := by
  obtain ⟨i0, z, b, hi, hz0, hz1, hz2, hb, hzs⟩ := R.info
  refine wpList_append_lies w hgd s x tS ho B t i0 z k b R.und hi hz0 hz1 hz2 hzs R.pos v l.length _ hs hv ad l2.length c (l2.flatMap row) hx (flat_len R.len l2) hc (fun u hu => by obtain ⟨s, _, h⟩ := List.mem_flatMap.1 hu; exact R.one s u h) hm (by unfold maxLen; omega) (Nat.le_trans (Nat.mul_le_mul hl hb) (by decide)) hB _ rfl ?_
  intro g cap w' h1 h2 h3 h4
  refine h g cap w' ?_ h2 h3
  unfold Gt
  rw [List.length_append, List.flatMap_append]
  exact h1
theorem app_step (R : RowTy row k t tS) (hgd : o.guard = none) (s x : Operand) (ho : o.op = .call { callee := .builtin .append, args := #[s, x], argTypes := #[tS, tS] })
    (B : Nat) (v : Value) (l : List α) (hs : a.eval s = v) (hv : Gt row k t B w v l) (ad : Addr) (c : Nat) (l2 : List α) (hx : a.eval x = .slice (some ad) l2.length c)
    (hc : ∀ (j : Nat) (u : Value), (l2.flatMap row)[j]? = some u → w.cell? (ad.add j) = some u) (hm : 0 < l2.length) (hl : l.length + l2.length ≤ 1000000) (hB : B ≤ w.heap.size)
    (h : ∀ g cap w', Gt row k t B w' (.slice (some ⟨g, 0, none⟩) (l.length + l2.length) cap) (l ++ l2) → w.grownBy w' v.ownBlock → (v.ownBlock = some g ∨ g = w.heap.size) → K (a.put o.dst (.slice (some ⟨g, 0, none⟩) (l.length + l2.length) cap)) w') :
    if Region.wanted o (yielded ops a.tmps) = true then Oper.wp Tryd.prog o a w K Q else E := by
  obtain ⟨i0, z, b, hi, hz0, hz1, hz2, hb, hzs⟩ := R.info
  refine step_append_lies w hgd s x tS ho B t i0 z k b R.und hi hz0 hz1 hz2 hzs R.pos v l.length _ hs hv ad l2.length c (l2.flatMap row) hx (flat_len R.len l2) hc (fun u hu => by obtain ⟨s, _, h⟩ := List.mem_flatMap.1 hu; exact R.one s u h) hm (by unfold maxLen; omega) (Nat.le_trans (Nat.mul_le_mul hl hb) (by decide)) hB _ rfl ?_
  intro g cap w' h1 h2 h3 h4
  refine h g cap w' ?_ h2 h3
  unfold Gt
  rw [List.length_append, List.flatMap_append]
  exact h1
end
theorem rtStr : RowTy strRow 1 9 40 := .of_info (fun _ => rfl) (fun s u hu => by simp [strRow] at hu; subst hu; rfl) (by decide) Tryd.underlying40 infoStr (by decide) rfl

/-- a word with the number of the part from which it is -/
abbrev Src := Bytes × Int
def srcRow (s : Src) : List Value := [.string (bs s.1), .int .i64 s.2]
abbrev SlC := Sl srcRow 2
theorem src_at {W : World} {B n c : Nat} {A : Option Addr} {l : List Src} {i : Nat} (h : SlC W B (.slice A n c) l) (hi : i < l.length) :
    ∃ b o s m, A = some ⟨b, o, none⟩ ∧ b < B ∧ l[i]? = some (s, m) ∧ (∀ y : Later B W, y.w'.cell? ⟨b, o + i * 2, none⟩ = some (.string (bs s))) ∧ (∀ y : Later B W, y.w'.cell? ⟨b, o + i * 2 + 1, none⟩ = some (.int .i64 m)) := by
  obtain ⟨A', c', hv, hc, hm, hh⟩ := h
  obtain ⟨rfl, _, rfl⟩ : A = A' ∧ n = l.length ∧ c = c' := by injection hv; exact ⟨‹_›, ‹_›, ‹_›⟩
  obtain ⟨b, o, rfl, hb, hcell⟩ := hh (by omega)
  have hg : l[i]? = some l[i] := List.getElem?_eq_getElem hi
  have hk := fun (j : Nat) (v : Value) (hx : (srcRow l[i])[j]? = some v) (x : Later B W) => (x.ok.cell (p := ⟨b, o + i * 2 + j, none⟩) (by simpa using hb)).trans (hcell i _ hg j v hx)
  exact ⟨b, o, l[i].1, l[i].2, rfl, hb, hg, hk 0 _ rfl, hk 1 _ rfl⟩
end Go.Proofs.YtgfbjpmbaibnoaaDoor
