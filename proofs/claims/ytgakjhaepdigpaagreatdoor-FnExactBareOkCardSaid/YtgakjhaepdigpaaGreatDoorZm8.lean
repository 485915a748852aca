/- Rows of the call's own: what is gathered by append. No condition. -/
import Derived.Test.YtgakjhaepdigpaaGreatDoorRows
import Derived.Test.YtgakjhaepdigpaaGreatDoorBas
import Derived.Deep.AppendLies
namespace Go.Proofs.YtgakjhaepdigpaaGreatDoor
set_option maxRecDepth 100000
set_option linter.unusedSimpArgs false
set_option linter.unusedVariables false
open Go.RowKit

/-- the slice value u is a row of the call's own, from block B on, that holds m -/
def Gt {α : Type} (row : α → List Value) (k : Nat) (t : TypeId) (B : Nat) (w : World) (u : Value) (m : List α) : Prop := w.ownsRow B t k u m.length (m.flatMap row)
section
variable {α : Type} {row : α → List Value} {k B : Nat} {t : TypeId} {w w' : World} {u : Value} {m : List α}
theorem Gt.ext (h : Gt row k t B w u m) (hb : Below w.heap.size w w') : Gt row k t B w' u m :=
  h.kept (row := none) ⟨hb.os, hb.tape, hb.output, hb.size, fun k hk _ => hb.block k hk⟩ (by cases u.ownBlock <;> simp)
theorem Gt.less {B' : Nat} (h : Gt row k t B w u m) (hB : B' ≤ B) : Gt row k t B' w u m := by
  obtain ⟨h1, h2⟩ := h
  refine ⟨h1, ?_⟩
  rcases h2 with h2 | ⟨g, cap, cur, a, b, c⟩
  · exact .inl h2
  · exact .inr ⟨g, cap, cur, a, Nat.le_trans hB b, c⟩
theorem Gt.grown {r : Option Nat} (h : Gt row k t B w u m) (hg : w.grownBy w' r) (hr : u.ownBlock = none ∨ u.ownBlock ≠ r) : Gt row k t B w' u m := by
  refine h.kept hg ?_
  rcases hr with hr | hr
  · left; exact hr
  · exact .inr hr
theorem Gt.lt (h : Gt row k t B w u m) {b : Nat} (hb : u.ownBlock = some b) : B ≤ b ∧ b < w.heap.size := by
  rcases h.2 with ⟨rfl, _⟩ | ⟨g, cap, cur, rfl, hlo, hbk, _⟩
  · simp [Value.ownBlock] at hb
  · simp [Value.ownBlock] at hb
    subst hb
    refine ⟨hlo, ?_⟩
    rcases Nat.lt_or_ge g w.heap.size with h | h
    · exact h
    · rw [Array.getElem?_eq_none h] at hbk; cases hbk
theorem Gt.nil (row : α → List Value) (k : Nat) (t : TypeId) (B : Nat) (w : World) : Gt row k t B w (.slice none 0 0) [] := ⟨by simp, .inl ⟨rfl, rfl⟩⟩
theorem Gt.val (h : Gt row k t B w u m) : ∃ A c, u = .slice A m.length c ∧ m.length ≤ c ∧ c ≤ 9223372036854775807 := by
  rcases h.2 with ⟨rfl, h0⟩ | ⟨g, cap, cur, rfl, hlo, hbk, hc, hm, _⟩
  · exact ⟨none, 0, by rw [h0], by omega, by omega⟩
  · exact ⟨_, cap, rfl, hc, by unfold maxLen at hm; omega⟩
theorem Gt.src (h : Gt row k t B w u m) (h0 : 0 < m.length) : ∃ g cap, u = .slice (some ⟨g, 0, none⟩) m.length cap ∧ B ≤ g ∧ g < w.heap.size ∧ ∀ (j : Nat) (x : Value), (m.flatMap row)[j]? = some x → w.cell? ((⟨g, 0, none⟩ : Addr).add j) = some x := by
  rcases h.2 with ⟨_, h1⟩ | ⟨g, cap, cur, rfl, hlo, hbk, hc, hm, hsz, ht⟩
  · omega
  · have hlt := (h.lt (b := g) rfl).2
    refine ⟨g, cap, rfl, hlo, hlt, fun j x hx => ?_⟩
    have hadd : (⟨g, 0, none⟩ : Addr).add j = ⟨g, j, none⟩ := by unfold Addr.add; split <;> simp_all
    rw [hadd, cell_of_row w g j cur t (0, 0) hbk]
    rw [← ht, List.getElem?_take] at hx
    split at hx
    · simpa using hx
    · cases hx
theorem Gt.block (h : Gt row k t B w u m) (h0 : 0 < m.length) : ∃ g cap, u = .slice (some ⟨g, 0, none⟩) m.length cap ∧ B ≤ g ∧ g < w.heap.size := by
  obtain ⟨g, cap, h1, h2, h3, _⟩ := h.src h0
  exact ⟨g, cap, h1, h2, h3⟩
theorem flat_at' (hk : ∀ s, (row s).length = k) : ∀ (l : List α) (i : Nat) (s : α), l[i]? = some s → ∀ (j : Nat) (x : Value), (row s)[j]? = some x → (l.flatMap row)[i * k + j]? = some x
  | [], i, s, h, _, _, _ => by simp at h
  | a :: l, 0, s, h, j, x, hx => by
    simp at h
    subst h
    have hj : j < (row a).length := (List.getElem?_eq_some_iff.1 hx).1
    rw [List.flatMap_cons, Nat.zero_mul, Nat.zero_add, List.getElem?_append_left hj]
    exact hx
  | a :: l, i + 1, s, h, j, x, hx => by
    simp at h
    have e : (i + 1) * k + j = (row a).length + (i * k + j) := by rw [hk, Nat.add_mul]; omega
    rw [List.flatMap_cons, e, List.getElem?_append_right (by omega), Nat.add_sub_cancel_left]
    exact flat_at' hk l i s h j x hx
theorem Gt.sl (h : Gt row k t B w u m) (hk : ∀ s, (row s).length = k) : Sl row k w w.heap.size u m := by
  rcases h.2 with ⟨rfl, h0⟩ | ⟨g, cap, cur, rfl, hlo, hbk, hc, hm, hsz, ht⟩
  · exact ⟨none, 0, by rw [h0], by omega, by unfold maxLen; omega, fun h => by omega⟩
  · have hlt := (h.lt (b := g) rfl).2
    refine ⟨_, cap, rfl, hc, hm, fun h0 => ⟨g, 0, rfl, hlt, fun i s hs j x hj => ?_⟩⟩
    rw [Nat.zero_add, cell_of_row w g _ cur t (0, 0) hbk]
    have hx := flat_at' hk m i s hs j x hj
    rw [← ht, List.getElem?_take] at hx
    split at hx
    · simpa using hx
    · cases hx
/-- a row laid at once -/
theorem Gt.built {w : World} (l : List α) (hl : 0 < l.length) (hk : ∀ s, (row s).length = k) (hm : l.length ≤ 1000000) (hb : w.heap[w'.heap.size]? = some (.cells (l.flatMap row).toArray t (0, 0))) (hB : B ≤ w'.heap.size) : Gt row k t B w (.slice (some ⟨w'.heap.size, 0, none⟩) l.length l.length) l := by
  have hlen : (l.flatMap row).length = l.length * k := by
    clear hb hl hm
    induction l with
    | nil => simp
    | cons a l ih => rw [List.flatMap_cons, List.length_append, hk, ih, List.length_cons, Nat.add_mul]; omega
  refine ⟨hlen, .inr ⟨_, _, _, rfl, hB, hb, Nat.le_refl _, by unfold maxLen; omega, by simpa using hlen, ?_⟩⟩
  simp only [List.toList_toArray]
  exact List.take_of_length_le (by omega)
end
theorem below_app {B : Nat} {a b c : World} {r : Option Nat} (h : Below B a b) (hg : b.grownBy c r) (hr : ∀ k, r = some k → B ≤ k) (hB : B ≤ b.heap.size) : Below B a c :=
  h.trans ⟨hg.os, hg.tape, hg.output, hg.size, fun k hk => hg.block k (by omega) (fun e => by have := hr k e.symm; omega)⟩
theorem Gt.cells {α : Type} {row : α → List Value} {k B : Nat} {t : TypeId} {w : World} {g n c : Nat} {m : List α} (h : Gt row k t B w (.slice (some ⟨g, 0, none⟩) n c) m) : ∀ (j : Nat) (x : Value), (m.flatMap row)[j]? = some x → w.cell? ((⟨g, 0, none⟩ : Addr).add j) = some x := by
  intro j x hx
  have h0 : 0 < m.length := by
    rcases Nat.eq_zero_or_pos m.length with h0 | h0
    · rw [List.length_eq_zero_iff.1 h0] at hx; simp at hx
    · exact h0
  obtain ⟨g', cap, e, _, _, hc⟩ := h.src h0
  injection e with e1
  obtain rfl : g = g' := by simpa using e1
  exact hc j x hx
abbrev GtS := Gt strRow 1 9
theorem infoStr : (Tryz.prog.info? 9).map (fun i => (i.zero, i.size, i.bytes)) = some (some (.string ⟨#[]⟩), 1, 16) := by kernel_rfl
theorem flat_str (l : List Bytes) : l.flatMap strRow = l.map (fun s => Value.string (bs s)) := by
  induction l with
  | nil => rfl
  | cons a l ih => rw [List.flatMap_cons, ih]; rfl
section
variable {ops : Array Oper} {rest : List Oper} {o : Oper} {a : Act} {Q : Exit → Act → World → Prop} {K : Act → World → Prop} {E : Prop} {w : World}
theorem aps_plain (hgd : o.guard = none) (s x : Operand) (ho : o.op = .call { callee := .builtin .append, args := #[s, x], argTypes := #[45, 45] })
    (B : Nat) (v : Value) (l : List Bytes) (hs : a.eval s = v) (hv : GtS B w v l) (ad : Addr) (c : Nat) (l2 : List Bytes) (hx : a.eval x = .slice (some ad) l2.length c)
    (hc : ∀ (j : Nat) (u : Value), (l2.flatMap strRow)[j]? = some u → w.cell? (ad.add j) = some u) (hm : 0 < l2.length) (hl : l.length + l2.length ≤ 1000000) (hB : B ≤ w.heap.size)
    (h : ∀ g cap w', GtS B w' (.slice (some ⟨g, 0, none⟩) (l.length + l2.length) cap) (l ++ l2) → w.grownBy w' v.ownBlock → (v.ownBlock = some g ∨ g = w.heap.size) → wpList Tryz.prog ops Q rest (a.put o.dst (.slice (some ⟨g, 0, none⟩) (l.length + l2.length) cap)) w') : wpList Tryz.prog ops Q (o :: rest) a w := by
  obtain ⟨i0, hi, hz0, hz1, hz2⟩ := info_parts infoStr
  refine wpList_append_lies w hgd s x 45 ho B 9 i0 _ 1 16 Tryz.underlying45 hi hz0 hz1 hz2 rfl (by decide) v l.length _ hs hv ad l2.length c (l2.flatMap strRow) hx (by rw [flat_str]; simp) hc (by rw [flat_str]; intro u hu; simp at hu; obtain ⟨s, _, rfl⟩ := hu; rfl) hm (by unfold maxLen; omega) (by omega) hB _ rfl ?_
  intro g cap w' h1 h2 h3 h4
  refine h g cap w' ?_ h2 h3
  unfold GtS Gt
  rw [List.length_append, List.flatMap_append]
  exact h1
theorem aps_step (hgd : o.guard = none) (s x : Operand) (ho : o.op = .call { callee := .builtin .append, args := #[s, x], argTypes := #[45, 45] })
    (B : Nat) (v : Value) (l : List Bytes) (hs : a.eval s = v) (hv : GtS B w v l) (ad : Addr) (c : Nat) (l2 : List Bytes) (hx : a.eval x = .slice (some ad) l2.length c)
    (hc : ∀ (j : Nat) (u : Value), (l2.flatMap strRow)[j]? = some u → w.cell? (ad.add j) = some u) (hm : 0 < l2.length) (hl : l.length + l2.length ≤ 1000000) (hB : B ≤ w.heap.size)
    (h : ∀ g cap w', GtS B w' (.slice (some ⟨g, 0, none⟩) (l.length + l2.length) cap) (l ++ l2) → w.grownBy w' v.ownBlock → (v.ownBlock = some g ∨ g = w.heap.size) → K (a.put o.dst (.slice (some ⟨g, 0, none⟩) (l.length + l2.length) cap)) w') :
    if Region.wanted o (yielded ops a.tmps) = true then Oper.wp Tryz.prog o a w K Q else E := by
  obtain ⟨i0, hi, hz0, hz1, hz2⟩ := info_parts infoStr
  refine step_append_lies w hgd s x 45 ho B 9 i0 _ 1 16 Tryz.underlying45 hi hz0 hz1 hz2 rfl (by decide) v l.length _ hs hv ad l2.length c (l2.flatMap strRow) hx (by rw [flat_str]; simp) hc (by rw [flat_str]; intro u hu; simp at hu; obtain ⟨s, _, rfl⟩ := hu; rfl) hm (by unfold maxLen; omega) (by omega) hB _ rfl ?_
  intro g cap w' h1 h2 h3 h4
  refine h g cap w' ?_ h2 h3
  unfold GtS Gt
  rw [List.length_append, List.flatMap_append]
  exact h1
theorem aps0_plain (hgd : o.guard = none) (s x : Operand) (ho : o.op = .call { callee := .builtin .append, args := #[s, x], argTypes := #[45, 45] })
    (B : Nat) (v : Value) (hs : a.eval s = v) (hv : GtS B w v []) (ad : Addr) (c : Nat) (l2 : List Bytes) (hx : a.eval x = .slice (some ad) l2.length c)
    (hc : ∀ (j : Nat) (u : Value), (l2.flatMap strRow)[j]? = some u → w.cell? (ad.add j) = some u) (hm : 0 < l2.length) (hl : l2.length ≤ 1000000) (hB : B ≤ w.heap.size)
    (h : ∀ g cap w', GtS B w' (.slice (some ⟨g, 0, none⟩) l2.length cap) l2 → w.grownBy w' v.ownBlock → (v.ownBlock = some g ∨ g = w.heap.size) → wpList Tryz.prog ops Q rest (a.put o.dst (.slice (some ⟨g, 0, none⟩) l2.length cap)) w') : wpList Tryz.prog ops Q (o :: rest) a w :=
  aps_plain hgd s x ho B v [] hs hv ad c l2 hx hc hm (by simpa using hl) hB (fun g cap w' h1 h2 h3 => by
    have h4 := h g cap w' (by simpa using h1) h2 h3
    simpa using h4)
theorem aps0_step (hgd : o.guard = none) (s x : Operand) (ho : o.op = .call { callee := .builtin .append, args := #[s, x], argTypes := #[45, 45] })
    (B : Nat) (v : Value) (hs : a.eval s = v) (hv : GtS B w v []) (ad : Addr) (c : Nat) (l2 : List Bytes) (hx : a.eval x = .slice (some ad) l2.length c)
    (hc : ∀ (j : Nat) (u : Value), (l2.flatMap strRow)[j]? = some u → w.cell? (ad.add j) = some u) (hm : 0 < l2.length) (hl : l2.length ≤ 1000000) (hB : B ≤ w.heap.size)
    (h : ∀ g cap w', GtS B w' (.slice (some ⟨g, 0, none⟩) l2.length cap) l2 → w.grownBy w' v.ownBlock → (v.ownBlock = some g ∨ g = w.heap.size) → K (a.put o.dst (.slice (some ⟨g, 0, none⟩) l2.length cap)) w') :
    if Region.wanted o (yielded ops a.tmps) = true then Oper.wp Tryz.prog o a w K Q else E :=
  aps_step hgd s x ho B v [] hs hv ad c l2 hx hc hm (by simpa using hl) hB (fun g cap w' h1 h2 h3 => by
    have h4 := h g cap w' (by simpa using h1) h2 h3
    simpa using h4)
end
end Go.Proofs.YtgakjhaepdigpaaGreatDoor


/- Append to rows of the call's own, of any kind of row. No condition. -/
namespace Go.Proofs.YtgakjhaepdigpaaGreatDoor
set_option maxRecDepth 100000
set_option linter.unusedSimpArgs false
set_option linter.unusedVariables false
open Go.RowKit

/-- a kind of row: its cells, its type, the type of its slices -/
structure RowTy {α : Type} (row : α → List Value) (k : Nat) (t tS : TypeId) : Prop where
  len : ∀ s, (row s).length = k
  one : ∀ s, ∀ u ∈ row s, u.oneCell' = true
  pos : 0 < k
  und : Tryz.prog.underlying tS = some (.slice t)
  info : ∃ (i : TypeInfo) (z : Value) (b : Nat), Tryz.prog.info? t = some i ∧ i.zero = some z ∧ i.size = k ∧ i.bytes = b ∧ b ≤ 1000 ∧ z.cells.size = k
theorem RowTy.of_info {α : Type} {row : α → List Value} {k : Nat} {t tS : TypeId} {z : Value} {b : Nat} (h1 : ∀ s, (row s).length = k) (h2 : ∀ s, ∀ u ∈ row s, u.oneCell' = true) (h3 : 0 < k) (h4 : Tryz.prog.underlying tS = some (.slice t))
    (h5 : (Tryz.prog.info? t).map (fun i => (i.zero, i.size, i.bytes)) = some (some z, k, b)) (h6 : b ≤ 1000) (h7 : z.cells.size = k) : RowTy row k t tS := by
  obtain ⟨i0, hi, hz0, hz1, hz2⟩ := info_parts h5
  exact ⟨h1, h2, h3, h4, i0, z, b, hi, hz0, hz1, hz2, h6, h7⟩
theorem flat_len {α : Type} {row : α → List Value} {k : Nat} (hk : ∀ s, (row s).length = k) : ∀ l : List α, (l.flatMap row).length = l.length * k
  | [] => by simp
  | a :: l => by rw [List.flatMap_cons, List.length_append, hk, flat_len hk l, List.length_cons, Nat.add_mul]; omega
section
variable {α : Type} {row : α → List Value} {k : Nat} {t tS : TypeId} {ops : Array Oper} {rest : List Oper} {o : Oper} {a : Act} {Q : Exit → Act → World → Prop} {K : Act → World → Prop} {E : Prop} {w : World}
theorem app_plain (R : RowTy row k t tS) (hgd : o.guard = none) (s x : Operand) (ho : o.op = .call { callee := .builtin .append, args := #[s, x], argTypes := #[tS, tS] })
    (B : Nat) (v : Value) (l : List α) (hs : a.eval s = v) (hv : Gt row k t B w v l) (ad : Addr) (c : Nat) (l2 : List α) (hx : a.eval x = .slice (some ad) l2.length c)
    (hc : ∀ (j : Nat) (u : Value), (l2.flatMap row)[j]? = some u → w.cell? (ad.add j) = some u) (hm : 0 < l2.length) (hl : l.length + l2.length ≤ 1000000) (hB : B ≤ w.heap.size)
    (h : ∀ g cap w', Gt row k t B w' (.slice (some ⟨g, 0, none⟩) (l.length + l2.length) cap) (l ++ l2) → w.grownBy w' v.ownBlock → (v.ownBlock = some g ∨ g = w.heap.size) → wpList Tryz.prog ops Q rest (a.put o.dst (.slice (some ⟨g, 0, none⟩) (l.length + l2.length) cap)) w') : wpList Tryz.prog ops Q (o :: rest) a w := by
  obtain ⟨i0, z, b, hi, hz0, hz1, hz2, hb, hzs⟩ := R.info
  refine wpList_append_lies w hgd s x tS ho B t i0 z k b R.und hi hz0 hz1 hz2 hzs R.pos v l.length _ hs hv ad l2.length c (l2.flatMap row) hx (flat_len R.len l2) hc (fun u hu => by obtain ⟨s, _, h⟩ := List.mem_flatMap.1 hu; exact R.one s u h) hm (by unfold maxLen; omega) (Nat.le_trans (Nat.mul_le_mul hl hb) (by decide)) hB _ rfl ?_
  intro g cap w' h1 h2 h3 h4
  refine h g cap w' ?_ h2 h3
  unfold Gt
  rw [List.length_append, List.flatMap_append]
  exact h1
theorem app_step (R : RowTy row k t tS) (hgd : o.guard = none) (s x : Operand) (ho : o.op = .call { callee := .builtin .append, args := #[s, x], argTypes := #[tS, tS] })
    (B : Nat) (v : Value) (l : List α) (hs : a.eval s = v) (hv : Gt row k t B w v l) (ad : Addr) (c : Nat) (l2 : List α) (hx : a.eval x = .slice (some ad) l2.length c)
    (hc : ∀ (j : Nat) (u : Value), (l2.flatMap row)[j]? = some u → w.cell? (ad.add j) = some u) (hm : 0 < l2.length) (hl : l.length + l2.length ≤ 1000000) (hB : B ≤ w.heap.size)
    (h : ∀ g cap w', Gt row k t B w' (.slice (some ⟨g, 0, none⟩) (l.length + l2.length) cap) (l ++ l2) → w.grownBy w' v.ownBlock → (v.ownBlock = some g ∨ g = w.heap.size) → K (a.put o.dst (.slice (some ⟨g, 0, none⟩) (l.length + l2.length) cap)) w') :
    if Region.wanted o (yielded ops a.tmps) = true then Oper.wp Tryz.prog o a w K Q else E := by
  obtain ⟨i0, z, b, hi, hz0, hz1, hz2, hb, hzs⟩ := R.info
  refine step_append_lies w hgd s x tS ho B t i0 z k b R.und hi hz0 hz1 hz2 hzs R.pos v l.length _ hs hv ad l2.length c (l2.flatMap row) hx (flat_len R.len l2) hc (fun u hu => by obtain ⟨s, _, h⟩ := List.mem_flatMap.1 hu; exact R.one s u h) hm (by unfold maxLen; omega) (Nat.le_trans (Nat.mul_le_mul hl hb) (by decide)) hB _ rfl ?_
  intro g cap w' h1 h2 h3 h4
  refine h g cap w' ?_ h2 h3
  unfold Gt
  rw [List.length_append, List.flatMap_append]
  exact h1
end
theorem rtStr : RowTy strRow 1 9 45 := .of_info (fun _ => rfl) (fun s u hu => by simp [strRow] at hu; subst hu; rfl) (by decide) Tryz.underlying45 infoStr (by decide) rfl

/-- a word with the number of the part from which it is -/
abbrev Src := Bytes × Int
def srcRow (s : Src) : List Value := [.string (bs s.1), .int .i64 s.2]
theorem infoSrc : (Tryz.prog.info? 144).map (fun i => (i.zero, i.size, i.bytes)) = some (some (.agg #[.string ⟨#[]⟩, .int .i64 0]), 2, 24) := by kernel_rfl
theorem rtSrc : RowTy srcRow 2 144 99 := .of_info (fun _ => rfl) (fun s u hu => by simp [srcRow] at hu; rcases hu with rfl | rfl <;> rfl) (by decide) Tryz.underlying99 infoSrc (by decide) rfl
abbrev GtC := Gt srcRow 2 144
abbrev SlC := Sl srcRow 2
theorem src_at {W : World} {B n c : Nat} {A : Option Addr} {l : List Src} {i : Nat} (h : SlC W B (.slice A n c) l) (hi : i < l.length) :
    ∃ b o s m, A = some ⟨b, o, none⟩ ∧ b < B ∧ l[i]? = some (s, m) ∧ (∀ y : Later B W, y.w'.cell? ⟨b, o + i * 2, none⟩ = some (.string (bs s))) ∧ (∀ y : Later B W, y.w'.cell? ⟨b, o + i * 2 + 1, none⟩ = some (.int .i64 m)) := by
  obtain ⟨A', c', hv, hc, hm, hh⟩ := h
  obtain ⟨rfl, _, rfl⟩ : A = A' ∧ n = l.length ∧ c = c' := by injection hv; exact ⟨‹_›, ‹_›, ‹_›⟩
  obtain ⟨b, o, rfl, hb, hcell⟩ := hh (by omega)
  have hg : l[i]? = some l[i] := List.getElem?_eq_getElem hi
  have hk := fun (j : Nat) (v : Value) (hx : (srcRow l[i])[j]? = some v) (x : Later B W) => (x.ok.cell (p := ⟨b, o + i * 2 + j, none⟩) (by simpa using hb)).trans (hcell i _ hg j v hx)
  exact ⟨b, o, l[i].1, l[i].2, rfl, hb, hg, hk 0 _ rfl, hk 1 _ rfl⟩
end Go.Proofs.YtgakjhaepdigpaaGreatDoor
