/- Segments: equality of two lists, as the laws, the reference and the library ask it. -/
import Derived.Test.YtgfbjpmbaibnoaaGreatDoorRows
import Derived.Test.YtgfbjpmbaibnoaaGreatDoorLib
import Derived.Deep.AppendLies
namespace Go.Proofs.YtgfbjpmbaibnoaaGreatDoor
set_option maxRecDepth 100000
set_option linter.unusedSimpArgs false
set_option linter.unusedVariables false
open Go.RowKit

theorem neq_sg (p q r t p' q' r' t' : Int) (w : World) : (binOp .neq 129 (.agg #[.int .i64 p, .int .i64 q, .int .i64 r, .int .i64 t]) (.agg #[.int .i64 p', .int .i64 q', .int .i64 r', .int .i64 t'])).run Tryz.prog w =
    .ok (.bool (!decide (((p, q), (r, t)) = ((p', q'), (r', t'))))) w := by
  by_cases h1 : p = p' <;> by_cases h2 : q = q' <;> by_cases h3 : r = r' <;> by_cases h4 : t = t' <;> simp [go_sem, h1, h2, h3, h4]

theorem spSegsSame_any (W : World) (v u : Value) (l m : List Sg) (hv : SlS W W.heap.size v l) (hu : SlS W W.heap.size u m) :
    Calls Tryz.prog 56 #[v, u] W fun e w' => e = .returned (.bool (decide (l = m))) ∧ Below W.heap.size W w' := by
  obtain ⟨A, c, rfl, hc, hm⟩ := hv.val
  obtain ⟨A', c', rfl, hc', hm'⟩ := hu.val
  by_cases hnm : l.length = m.length
  rotate_left
  · have hne : (((l.length : Nat) : Int) != ((m.length : Nat) : Int)) = true := by simp; omega
    have hd : decide (l = m) = false := by simp; intro e; exact hnm (by rw [e])
    go_enter Tryz.func56, Tryz.ntmps56
    go_wp2
    go_ret
    exact ⟨ret_bool hd.symm, Below.refl _ _⟩
  have hne : (((l.length : Nat) : Int) != ((m.length : Nat) : Int)) = false := by simp [hnm]
  have HNM := Lib.hid hnm
  clear hnm
  go_enter Tryz.func56, Tryz.ntmps56
  go_wp2
  go_loopg [5] l.length (fun k p wr => ∃ i : Nat, k = l.length - i ∧ i ≤ l.length ∧ p = .int .i64 i ∧ AgreeTo i l m ∧ Below W.heap.size W wr)
  case atStart => exact ⟨0, by omega, by omega, rfl, AgreeTo.zero _ _, Below.refl _ _⟩
  case' round =>
    obtain ⟨i, hk, hin, rfl, hij, hbl⟩ := hrel
    have HK := Lib.hid hk
    clear hk
    have hlm := HNM.out
    have him : i ≤ m.length := by omega
    clear hlm
    by_cases hlt : i < l.length
    rotate_left
    · go_wp2
      go_ret
      exact ⟨ret_bool (by simp; exact (AgreeTo.eq hij (by omega) HNM.out)), hbl⟩
    have hlm : i < m.length := by have := HNM.out; omega
  obtain ⟨b, o, p, q, r, t, rfl, hb, hg, f0, f1, f2, f3⟩ := sg_at hv hlt
  obtain ⟨b', o', p', q', r', t', rfl, hb', hg', f0', f1', f2', f3'⟩ := sg_at hu hlm
  have HG := Lib.hid (And.intro hg hg')
  clear hg hg'
  obtain ⟨x, rfl⟩ := Later.ex hbl
  have hq := neq_sg p q r t p' q' r' t'
  by_cases hst : ((p, q), (r, t)) = ((p', q'), (r', t'))
  all_goals
    rw [show decide (((p, q), (r, t)) = ((p', q'), (r', t'))) = _ by first | exact decide_eq_true hst | exact decide_eq_false hst] at hq
    have HST := Lib.hid hst
    clear hst
    go_wp2
    refine wp_region_later hbl (by kernel_rfl) (by kernel_rfl) ?_
    repeat (go_big_quiet_step (fail))
    refine wpQuiet_nil ?_
    rintro _ ⟨y, rfl⟩
    have hy := y.ok
    go_wp2
  · go_roundg (l.length - (i + 1))
    case measure => have := HK.out; omega
    case rel => exact ⟨i + 1, rfl, by omega, by go_num, hij.succ HG.out.1 (HST.out ▸ HG.out.2), hy⟩
  · go_ret
    exact ⟨ret_bool (by simpa using AgreeTo.ne HG.out.1 HG.out.2 HST.out), hy⟩
theorem slEqual_any (W : World) (v u : Value) (l m : List Sg) (hv : SlS W W.heap.size v l) (hu : SlS W W.heap.size u m) :
    Calls Tryz.prog 124 #[v, u] W fun e w' => e = .returned (.bool (decide (l = m))) ∧ Below W.heap.size W w' := by
  obtain ⟨A, c, rfl, hc, hm⟩ := hv.val
  obtain ⟨A', c', rfl, hc', hm'⟩ := hu.val
  by_cases hnm : l.length = m.length
  rotate_left
  · have hne : (((l.length : Nat) : Int) != ((m.length : Nat) : Int)) = true := by simp; omega
    have hd : decide (l = m) = false := by simp; intro e; exact hnm (by rw [e])
    go_enter Tryz.func124, Tryz.ntmps124
    go_wp2
    go_ret
    exact ⟨ret_bool hd.symm, Below.refl _ _⟩
  have hne : (((l.length : Nat) : Int) != ((m.length : Nat) : Int)) = false := by simp [hnm]
  have HNM := Lib.hid hnm
  clear hnm
  go_enter Tryz.func124, Tryz.ntmps124
  go_wp2
  go_loopg [13] l.length (fun k p wr => ∃ i : Nat, k = l.length - i ∧ i ≤ l.length ∧ p = .int .i64 i ∧ AgreeTo i l m ∧ Below W.heap.size W wr)
  case atStart => exact ⟨0, by omega, by omega, rfl, AgreeTo.zero _ _, Below.refl _ _⟩
  case' round =>
    obtain ⟨i, hk, hin, rfl, hij, hbl⟩ := hrel
    have HK := Lib.hid hk
    clear hk
    have hlm := HNM.out
    have him : i ≤ m.length := by omega
    clear hlm
    by_cases hlt : i < l.length
    rotate_left
    · go_wp2
      go_ret
      exact ⟨ret_bool (by simp; exact (AgreeTo.eq hij (by omega) HNM.out)), hbl⟩
    have hlm : i < m.length := by have := HNM.out; omega
  obtain ⟨b, o, p, q, r, t, rfl, hb, hg, f0, f1, f2, f3⟩ := sg_at hv hlt
  obtain ⟨b', o', p', q', r', t', rfl, hb', hg', f0', f1', f2', f3'⟩ := sg_at hu hlm
  have HG := Lib.hid (And.intro hg hg')
  clear hg hg'
  obtain ⟨x, rfl⟩ := Later.ex hbl
  have hq := neq_sg p q r t p' q' r' t'
  by_cases hst : ((p, q), (r, t)) = ((p', q'), (r', t'))
  all_goals
    rw [show decide (((p, q), (r, t)) = ((p', q'), (r', t'))) = _ by first | exact decide_eq_true hst | exact decide_eq_false hst] at hq
    have HST := Lib.hid hst
    clear hst
    go_wp2
    refine wp_region_later hbl (by kernel_rfl) (by kernel_rfl) ?_
    repeat (go_big_quiet_step (fail))
    refine wpQuiet_nil ?_
    rintro _ ⟨y, rfl⟩
    have hy := y.ok
    go_wp2
  · go_roundg (l.length - (i + 1))
    case measure => have := HK.out; omega
    case rel => exact ⟨i + 1, rfl, by omega, by go_num, hij.succ HG.out.1 (HST.out ▸ HG.out.2), hy⟩
  · go_ret
    exact ⟨ret_bool (by simpa using AgreeTo.ne HG.out.1 HG.out.2 HST.out), hy⟩

theorem imSegsSame_any (W : World) (v u : Value) (l m : List Sg) (hv : SlS W W.heap.size v l) (hu : SlS W W.heap.size u m) :
    Calls Tryz.prog 52 #[v, u] W fun e w' => e = .returned (.bool (decide (l = m))) ∧ Below W.heap.size W w' := by
  go_enter Tryz.func52, Tryz.ntmps52
  go_wp2_with fail
  refine (slEqual_any W v u l m hv hu).mono ?_
  rintro e w1 ⟨rfl, hb1⟩
  go_wp2_with fail
  go_ret
  exact ⟨rfl, hb1⟩

theorem infoSeg : (Tryz.prog.info? 129).map (fun i => (i.zero, i.size, i.bytes)) = some (some (.agg #[.int .i64 0, .int .i64 0, .int .i64 0, .int .i64 0]), 4, 32) := by kernel_rfl

end Go.Proofs.YtgfbjpmbaibnoaaGreatDoor


/- Marks in a call's own memory: what is written in place, and what stays. No condition. -/
namespace Go.Proofs.YtgfbjpmbaibnoaaGreatDoor
set_option maxRecDepth 100000
set_option linter.unusedSimpArgs false
set_option linter.unusedVariables false
open Go.RowKit

theorem own_ext {w w' : World} {base : Nat} {e : TypeId} {size : Nat} {v : Value} {n : Nat} {xs : List Value} (h : w.ownsRow base e size v n xs) (hb : Below w.heap.size w w') : w'.ownsRow base e size v n xs :=
  h.kept (row := none) ⟨hb.os, hb.tape, hb.output, hb.size, fun k hk _ => hb.block k hk⟩ (by cases v.ownBlock <;> simp)

/-- what only one row of the call's own was turned in -/
theorem below_grown {B : Nat} {a b c : World} {row : Option Nat} (h : Below B a b) (hg : b.grownBy c row) (hB : B ≤ b.heap.size) (hr : ∀ k, row = some k → B ≤ k) : Below B a c :=
  h.trans ⟨hg.os, hg.tape, hg.output, hg.size, fun k hk => hg.block k (by omega) (fun e => by have := hr k e.symm; omega)⟩
theorem grown_trans {a w w' : World} {row : Option Nat} (h : a.grownBy w row) (k : w.grownBy w' row) : a.grownBy w' row :=
  ⟨k.os.trans h.os, k.tape.trans h.tape, k.output.trans h.output, Nat.le_trans h.size k.size, fun i hi hr => (k.block i (Nat.lt_of_lt_of_le hi h.size) hr).trans (h.block i hi hr)⟩
theorem grown_below {a w w' : World} {row : Option Nat} (h : a.grownBy w row) (hb : Below w.heap.size w w') : a.grownBy w' row :=
  grown_trans h ⟨hb.os, hb.tape, hb.output, hb.size, fun i hi _ => hb.block i hi⟩
theorem grown_refl (w : World) (row : Option Nat) : w.grownBy w row := ⟨rfl, rfl, rfl, Nat.le_refl _, fun _ _ _ => rfl⟩
theorem grown_set {a w : World} {b : Nat} (h : a.grownBy w (some b)) (i : Nat) (v : Value) : a.grownBy (w.setCell ⟨b, i, none⟩ v) (some b) :=
  grown_trans h ⟨rfl, rfl, rfl, by simp [World.setCell], fun k hk hr => Below.heap_setCell w ⟨b, i, none⟩ v k (fun e => hr (by rw [e]))⟩
theorem grown_cell {w w' : World} {row : Option Nat} {b o : Nat} {x : Value} (hg : w.grownBy w' row) (h : w.cell? ⟨b, o, none⟩ = some x) (hne : row ≠ some b) : w'.cell? ⟨b, o, none⟩ = some x :=
  hg.cell h (fun e => hne e.symm)

section
variable {α : Type} {row : α → List Value} {k lo : Nat} {t : TypeId} {w w' : World} {v : Value} {l : List α}
theorem Fr.lt (h : Fr row k t w lo v l) {b : Nat} (hb : v.ownBlock = some b) : lo ≤ b ∧ b < w.heap.size := by
  rcases h with ⟨rfl, _⟩ | ⟨g, cap, cur, rfl, hlo, hc, hm, hk, hx⟩
  · simp [Value.ownBlock] at hb
  · simp [Value.ownBlock] at hb
    subst hb
    exact ⟨hlo, hk.lt⟩
theorem Fr.grown {r : Option Nat} (h : Fr row k t w lo v l) (hg : w.grownBy w' r) (hr : v.ownBlock = none ∨ v.ownBlock ≠ r) : Fr row k t w' lo v l := by
  rcases h with h | ⟨g, cap, cur, rfl, hlo, hc, hm, hk, hx⟩
  · exact .inl h
  · refine .inr ⟨g, cap, cur, rfl, hlo, hc, hm, ?_, hx⟩
    exact (hg.block g hk.lt (by simpa [Value.ownBlock] using hr)).trans hk
theorem flat_at (hk : ∀ s, (row s).length = k) : ∀ (l : List α) (i : Nat) (s : α), l[i]? = some s → ∀ (j : Nat) (x : Value), (row s)[j]? = some x → (l.flatMap row)[i * k + j]? = some x
  | [], i, s, h, _, _, _ => by simp at h
  | a :: l, 0, s, h, j, x, hx => by
    simp at h
    subst h
    have hj : j < (row a).length := (List.getElem?_eq_some_iff.1 hx).1
    rw [List.flatMap_cons, Nat.zero_mul, Nat.zero_add, List.getElem?_append_left hj]
    exact hx
  | a :: l, i + 1, s, h, j, x, hx => by
    simp at h
    have e : (i + 1) * k + j = (row a).length + (i * k + j) := by rw [hk, Nat.add_mul]; omega
    rw [List.flatMap_cons, e, List.getElem?_append_right (by omega), Nat.add_sub_cancel_left]
    exact flat_at hk l i s h j x hx
theorem Fr.of_owns (hk : ∀ s, (row s).length = k) (h : w.ownsRow lo t k v l.length (l.flatMap row)) : Fr row k t w lo v l := by
  rcases h.2 with ⟨rfl, h0⟩ | ⟨g, cap, cur, rfl, hlo, hb, hc, hm, hsz, ht⟩
  · exact .inl ⟨rfl, List.eq_nil_of_length_eq_zero h0⟩
  · refine .inr ⟨g, cap, cur, rfl, hlo, hc, hm, hb, fun i s hs j x hx => ?_⟩
    have h1 := flat_at hk l i s hs j x hx
    rw [← ht] at h1
    rw [List.getElem?_take] at h1
    split at h1
    · simpa using h1
    · cases h1
/-- the same, with its capacity cut to its length -/
theorem Fr.clip {A : Option Addr} {n c : Nat} (h : Fr row k t w lo (.slice A n c) l) : Fr row k t w lo (.slice A n n) l := by
  rcases h with ⟨h1, h2⟩ | ⟨g, cap, cur, hv, hlo, hc, hm, hk, hx⟩
  · injection h1 with h3 h4 h5
    subst h3 h4
    exact .inl ⟨rfl, h2⟩
  · injection hv with h3 h4 h5
    subst h3 h4
    exact .inr ⟨g, l.length, cur, rfl, hlo, Nat.le_refl _, by omega, hk, hx⟩
/-- what it looks like -/
theorem Fr.form (h : Fr row k t w lo v l) : (v = .slice none 0 0 ∧ l = []) ∨ ∃ g cap cur, v = .slice (some ⟨g, 0, none⟩) l.length cap ∧ lo ≤ g ∧ l.length ≤ cap ∧ cap ≤ 9223372036854775807 ∧ Blk w g t cur ∧ ∀ (i : Nat) (s : α), l[i]? = some s → ∀ (j : Nat) (x : Value), (row s)[j]? = some x → cur[i * k + j]? = some x := by
  rcases h with h | ⟨g, cap, cur, rfl, hlo, hc, hm, hk, hx⟩
  · exact .inl h
  · exact .inr ⟨g, cap, cur, rfl, hlo, hc, by unfold maxLen at hm; omega, hk, hx⟩
end

/-- fresh memory behind W1, and nothing of W1 turned -/
def Made {α : Type} (row : α → List Value) (k : Nat) (t : TypeId) (W1 : World) (m : List α) (u : Value) (w : World) : Prop := Fr row k t w W1.heap.size u m ∧ Below W1.heap.size W1 w

theorem apart {α β : Type} {row : α → List Value} {k : Nat} {t : TypeId} {row' : β → List Value} {k' : Nat} {t' : TypeId} {w w' : World} {lo lo' : Nat} {v v' : Value} {l : List α} {l' : List β}
    (h : Fr row k t w lo v l) (h' : Fr row' k' t' w' lo' v' l') (hl : w.heap.size ≤ lo') : (v.ownBlock = none ∨ v.ownBlock ≠ v'.ownBlock) ∧ (v'.ownBlock = none ∨ v'.ownBlock ≠ v.ownBlock) := by
  cases e : v.ownBlock with
  | none => exact ⟨.inl rfl, by cases e' : v'.ownBlock <;> simp⟩
  | some b =>
    cases e' : v'.ownBlock with
    | none => exact ⟨.inr (by simp), .inl rfl⟩
    | some b' =>
      have h1 := (h.lt e).2
      have h2 := (h'.lt e').1
      exact ⟨.inr (by simp; omega), .inr (by simp; omega)⟩

theorem infoPos : (Tryz.prog.info? 68).map (fun i => (i.zero, i.size, i.bytes)) = some (some (.agg #[.int .i64 0, .int .i64 0]), 2, 16) := by kernel_rfl

/-! ### lists of marks -/
def mkSg (k : Int) : Sg := ((k, k + 1), (k + 1 + 1, k + 1 + 1 + 1))
def mkPs (k : Int) : Ps := (k, k + 1)
def markSg (k : Int) (n : Nat) : List Sg := (List.range n).map (fun i : Nat => mkSg (k + (i : Int) * 4))
def markPs (k : Int) (n : Nat) : List Ps := (List.range n).map (fun i : Nat => mkPs (k + (i : Int) * 2))
theorem markSg_len (k : Int) (n : Nat) : (markSg k n).length = n := by simp [markSg]
theorem markPs_len (k : Int) (n : Nat) : (markPs k n).length = n := by simp [markPs]
theorem markSg_at (k : Int) {n i : Nat} (h : i < n) : (markSg k n)[i]? = some (mkSg (k + i * 4)) := by simp [markSg, h]
theorem markPs_at (k : Int) {n i : Nat} (h : i < n) : (markPs k n)[i]? = some (mkPs (k + i * 2)) := by simp [markPs, h]
theorem full_of_cells {α : Type} {row : α → List Value} {k : Nat} {l : List α} {cur : Array Value} (hk : ∀ s, (row s).length = k) (hk0 : 0 < k) (h : ∀ (i : Nat) (s : α), l[i]? = some s → ∀ (j : Nat) (x : Value), (row s)[j]? = some x → cur[i * k + j]? = some x) : l.length * k ≤ cur.size := by
  rcases Nat.eq_zero_or_pos l.length with h0 | h0
  · rw [h0]; omega
  · obtain ⟨m, hm⟩ : ∃ m, l.length = m + 1 := ⟨l.length - 1, by omega⟩
    have hs : l[m]? = some (l[m]'(by omega)) := List.getElem?_eq_getElem _
    have hj : (row (l[m]'(by omega)))[k - 1]? = some ((row (l[m]'(by omega)))[k - 1]'(by rw [hk]; omega)) := List.getElem?_eq_getElem _
    have := (Array.getElem?_eq_some_iff.1 (h m _ hs _ _ hj)).1
    rw [hm, Nat.add_mul]
    omega

end Go.Proofs.YtgfbjpmbaibnoaaGreatDoor
