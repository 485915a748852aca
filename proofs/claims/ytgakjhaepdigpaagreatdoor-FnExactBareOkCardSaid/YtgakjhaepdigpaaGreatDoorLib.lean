
/- Small words of this proof: worlds that come later, slices whose elements are rows of cells, and regions walked in the text's order. No condition. -/
import Derived.WalkKit
import Derived.WalkSpells
import Derived.WalkLawsBesides
import Derived.Deep.QuietTactic
import Derived.BigQuiet
import Derived.Deep.LoopGhost
import Derived.Deep.DeepFit
import Derived.Lib.Hide
namespace Go.Proofs.YtgakjhaepdigpaaGreatDoor
set_option maxRecDepth 100000
set_option linter.unusedSimpArgs false
set_option linter.unusedVariables false
open Go.RowKit

/-- A world that comes behind w and is as w was below block B. -/
structure Later (B : Nat) (w : World) where
  w' : World
  ok : Below B w w'
instance later_nonempty (B : Nat) (w : World) : Nonempty (Later B w) := ⟨⟨w, Below.refl B w⟩⟩
theorem Later.ex {B : Nat} {w w' : World} (h : Below B w w') : ∃ x : Later B w, w' = x.w' := ⟨⟨w', h⟩, rfl⟩

theorem below_drewN {B : Nat} {a w : World} (h : Below B a w) (n : Nat) : Below B a (w.drewN n) := ⟨h.os, h.tape, h.output, h.size, h.block⟩

/-- A region that draws its order, every operation of which has one value in every later world: one walk in the text's order. -/
theorem wp_region_later {P : Program} {id : Nat} {Q : Exit → Act → World → Prop} {a : Act} {w W : World} {B : Nat} {l : List Oper} (hb : Below B W w) (hm : P.follows .mixedOrders = true) (hB : Region.lexB .any l.toArray = true)
    (h : wpQuiet P l.toArray (fun w' => ∃ x : Later B W, w' = x.w') (fun a' => ∀ w', (∃ x : Later B W, w' = x.w') → Q .normal a' w') l a) : (Code.region id l.toArray true).wp P Q a w :=
  wp_region_quiet (C := fun w' => ∃ x : Later B W, w' = x.w') hm hB (Later.ex hb.drew) (by simpa using h)

/-- a fact of all later worlds, seen from one of them -/
theorem Later.up {B : Nat} {W W2 : World} {p : Addr} {v : Value} (h : ∀ x : Later B W, x.w'.cell? p = some v) (hb : Below B W W2) (hB : B ≤ W2.heap.size) (y : Later W2.heap.size W2) : y.w'.cell? p = some v :=
  h ⟨y.w', hb.trans (y.ok.mono hB)⟩
/-- a cell of a world, in all later ones -/
theorem Later.of {W : World} {b o : Nat} {v : Value} (h : W.cell? ⟨b, o, none⟩ = some v) (y : Later W.heap.size W) : y.w'.cell? ⟨b, o, none⟩ = some v :=
  (y.ok.cell (p := ⟨b, o, none⟩) (World.block_lt_of_cell? _ _ h)).trans h

/-- A callee's contract, met in a later world. -/
theorem later_call {P : Program} {f : FuncId} {args : Array Value} {B : Nat} {W : World} {x : Later B W} {v : Value} (hB : B ≤ W.heap.size)
    (h : Calls P f args x.w' fun e w' => e = .returned v ∧ Below x.w'.heap.size x.w' w') : Calls P f args x.w' fun e w'' => e = .returned v ∧ ∃ y : Later B W, w'' = y.w' :=
  h.mono fun _ _ ⟨he, hb⟩ => ⟨he, Later.ex (x.ok.trans (hb.mono (Nat.le_trans hB x.ok.size)))⟩
/-- the same, of a callee that leaves the world as it is -/
theorem later_call_same {P : Program} {f : FuncId} {args : Array Value} {B : Nat} {W : World} {x : Later B W} {v : Value}
    (h : Calls P f args x.w' fun e w' => e = .returned v ∧ x.w' = w') : Calls P f args x.w' fun e w'' => e = .returned v ∧ ∃ y : Later B W, w'' = y.w' :=
  h.mono fun _ _ ⟨he, hb⟩ => ⟨he, ⟨x, hb.symm⟩⟩

/-- what a later world keeps, as the walk takes it: cells, marks, sizes -/
theorem bcell {B : Nat} {W w1 : World} (hb : Below B W w1) : (∀ b o, b < B → w1.cell? ⟨b, o, none⟩ = W.cell? ⟨b, o, none⟩) ∧ (∀ b o, b < B → w1.frozen? ⟨b, o, none⟩ = W.frozen? ⟨b, o, none⟩) ∧ W.heap.size ≤ w1.heap.size :=
  ⟨fun b o h => hb.cell (p := ⟨b, o, none⟩) h, fun b o h => hb.frozen (p := ⟨b, o, none⟩) h, hb.size⟩

theorem block_of_add (a : Addr) (n : Nat) : (a.add n).block = a.block := by unfold Addr.add; split <;> rfl
theorem add_of_add (a : Addr) (i j : Nat) : (a.add i).add j = a.add (i + j) := by
  unfold Addr.add
  by_cases hi : i = 0 <;> by_cases hj : j = 0 <;> simp [hi, hj, Nat.add_assoc]

/-- The slice value v reads in w as the list l: element i lies as the cells 'row l[i]' at k cells an element, below block B. -/
def Sl {α : Type} (row : α → List Value) (k : Nat) (w : World) (B : Nat) (v : Value) (l : List α) : Prop :=
  ∃ A c, v = .slice A l.length c ∧ l.length ≤ c ∧ c ≤ maxLen ∧ (0 < l.length → ∃ b o, A = some ⟨b, o, none⟩ ∧ b < B ∧ ∀ (i : Nat) (s : α), l[i]? = some s → ∀ (j : Nat) (x : Value), (row s)[j]? = some x → w.cell? ⟨b, o + i * k + j, none⟩ = some x)

theorem Sl.below {α : Type} {row : α → List Value} {k B B' : Nat} {w w' : World} {v : Value} {l : List α} (h : Sl row k w B v l) (hb : Below B' w w') (hB : B ≤ B') : Sl row k w' B v l := by
  obtain ⟨A, c, hv, hc, hm, hh⟩ := h
  refine ⟨A, c, hv, hc, hm, fun hl => ?_⟩
  obtain ⟨b, o, hA, hlt, hcell⟩ := hh hl
  exact ⟨b, o, hA, hlt, fun i s hs j x hx => (hb.cell (p := ⟨b, o + i * k + j, none⟩) (by simp; omega)).trans (hcell i s hs j x hx)⟩
theorem Sl.more {α : Type} {row : α → List Value} {k B B' : Nat} {w : World} {v : Value} {l : List α} (h : Sl row k w B v l) (hB : B ≤ B') : Sl row k w B' v l := by
  obtain ⟨A, c, hv, hc, hm, hh⟩ := h
  refine ⟨A, c, hv, hc, hm, fun hl => ?_⟩
  obtain ⟨b, o, hA, hlt, hcell⟩ := hh hl
  exact ⟨b, o, hA, by omega, hcell⟩

/-- w' is w with more behind it. -/
abbrev Ext (w w' : World) : Prop := Below w.heap.size w w'
theorem _root_.Go.RowKit.Below.ext {a b c : World} (h : Below a.heap.size a b) (k : Below b.heap.size b c) : Below a.heap.size a c := h.trans (k.mono h.size)
theorem Sl.ext {α : Type} {row : α → List Value} {k : Nat} {w w' : World} {v : Value} {l : List α} (h : Sl row k w w.heap.size v l) (hb : Ext w w') : Sl row k w' w'.heap.size v l :=
  (h.below hb (Nat.le_refl _)).more hb.size

/-- a cell of w is a cell of what comes later -/
theorem _root_.Go.RowKit.Below.keepc {w w' : World} (h : Below w.heap.size w w') {b o : Nat} {v : Value} (hc : w.cell? ⟨b, o, none⟩ = some v) : w'.cell? ⟨b, o, none⟩ = some v :=
  (h.cell (p := ⟨b, o, none⟩) (World.block_lt_of_cell? _ _ hc)).trans hc

/-- places and segments -/
abbrev Ps := Int × Int
abbrev Sg := Ps × Ps
def psRow (p : Ps) : List Value := [.int .i64 p.1, .int .i64 p.2]
def sgRow (s : Sg) : List Value := [.int .i64 s.1.1, .int .i64 s.1.2, .int .i64 s.2.1, .int .i64 s.2.2]
def psVal (p : Ps) : Value := .agg #[.int .i64 p.1, .int .i64 p.2]
def sgVal (s : Sg) : Value := .agg #[.int .i64 s.1.1, .int .i64 s.1.2, .int .i64 s.2.1, .int .i64 s.2.2]
abbrev SlS := Sl sgRow 4
abbrev SlP := Sl psRow 2

/-- The four cells of the element i, in every later world. -/
theorem sg_at {W : World} {B n c : Nat} {A : Option Addr} {l : List Sg} {i : Nat} (h : SlS W B (.slice A n c) l) (hi : i < l.length) :
    ∃ b o p q r t, A = some ⟨b, o, none⟩ ∧ b < B ∧ l[i]? = some ((p, q), (r, t)) ∧ (∀ x : Later B W, x.w'.cell? ⟨b, o + i * 4, none⟩ = some (.int .i64 p)) ∧ (∀ x : Later B W, x.w'.cell? ⟨b, o + i * 4 + 1, none⟩ = some (.int .i64 q)) ∧
      (∀ x : Later B W, x.w'.cell? ⟨b, o + i * 4 + 2, none⟩ = some (.int .i64 r)) ∧ (∀ x : Later B W, x.w'.cell? ⟨b, o + i * 4 + 3, none⟩ = some (.int .i64 t)) := by
  obtain ⟨A', c', hv, hc, hm, hh⟩ := h
  obtain ⟨rfl, _, rfl⟩ : A = A' ∧ n = l.length ∧ c = c' := by injection hv; exact ⟨‹_›, ‹_›, ‹_›⟩
  obtain ⟨b, o, rfl, hb, hcell⟩ := hh (by omega)
  have hg : l[i]? = some l[i] := List.getElem?_eq_getElem hi
  obtain ⟨⟨⟨p, q⟩, ⟨r, t⟩⟩, hs⟩ : ∃ s, s = l[i] := ⟨_, rfl⟩
  rw [← hs] at hg
  have hk := fun (j : Nat) (v : Value) (hx : (sgRow ((p, q), (r, t)))[j]? = some v) (x : Later B W) => (x.ok.cell (p := ⟨b, o + i * 4 + j, none⟩) (by simpa using hb)).trans (hcell i _ hg j v hx)
  exact ⟨b, o, p, q, r, t, rfl, hb, hg, hk 0 _ rfl, hk 1 _ rfl, hk 2 _ rfl, hk 3 _ rfl⟩
theorem ps_at {W : World} {B n c : Nat} {A : Option Addr} {l : List Ps} {i : Nat} (h : SlP W B (.slice A n c) l) (hi : i < l.length) :
    ∃ b o p q, A = some ⟨b, o, none⟩ ∧ b < B ∧ l[i]? = some (p, q) ∧ (∀ x : Later B W, x.w'.cell? ⟨b, o + i * 2, none⟩ = some (.int .i64 p)) ∧ (∀ x : Later B W, x.w'.cell? ⟨b, o + i * 2 + 1, none⟩ = some (.int .i64 q)) := by
  obtain ⟨A', c', hv, hc, hm, hh⟩ := h
  obtain ⟨rfl, _, rfl⟩ : A = A' ∧ n = l.length ∧ c = c' := by injection hv; exact ⟨‹_›, ‹_›, ‹_›⟩
  obtain ⟨b, o, rfl, hb, hcell⟩ := hh (by omega)
  have hg : l[i]? = some l[i] := List.getElem?_eq_getElem hi
  obtain ⟨⟨p, q⟩, hs⟩ : ∃ s, s = l[i] := ⟨_, rfl⟩
  rw [← hs] at hg
  have hk := fun (j : Nat) (v : Value) (hx : (psRow (p, q))[j]? = some v) (x : Later B W) => (x.ok.cell (p := ⟨b, o + i * 2 + j, none⟩) (by simpa using hb)).trans (hcell i _ hg j v hx)
  exact ⟨b, o, p, q, rfl, hb, hg, hk 0 _ rfl, hk 1 _ rfl⟩
/-- its value -/
theorem Sl.val {α : Type} {row : α → List Value} {k B : Nat} {w : World} {v : Value} {l : List α} (h : Sl row k w B v l) : ∃ A c, v = .slice A l.length c ∧ l.length ≤ c ∧ c ≤ 9223372036854775807 := by
  obtain ⟨A, c, hv, hc, hm, _⟩ := h
  exact ⟨A, c, hv, hc, by unfold maxLen at hm; omega⟩

/-- Block g is just the cells cs of element type t, none of them frozen. -/
def Blk (w : World) (g : Nat) (t : TypeId) (cs : Array Value) : Prop := w.heap[g]? = some (.cells cs t (0, 0))
section
variable {w w' : World} {g : Nat} {t : TypeId} {cs : Array Value}
theorem Blk.lt (h : Blk w g t cs) : g < w.heap.size := by
  rcases Nat.lt_or_ge g w.heap.size with hlt | hge
  · exact hlt
  · unfold Blk at h; rw [Array.getElem?_eq_none hge] at h; cases h
theorem Blk.cell (h : Blk w g t cs) (i : Nat) : w.cell? ⟨g, i, none⟩ = cs[i]? := cell_of_row w g i cs t (0, 0) h
theorem Blk.frozen (h : Blk w g t cs) (i : Nat) : w.frozen? ⟨g, i, none⟩ = false := by
  unfold Blk at h
  simp [World.frozen?, h]
theorem Blk.new (w : World) (t : TypeId) (cs : Array Value) : Blk (w.alloc (.cells cs t)) w.heap.size t cs := heap_alloc_new w _
theorem Blk.drew (h : Blk w g t cs) : Blk w.drew g t cs := h
theorem Blk.drewN (h : Blk w g t cs) (n : Nat) : Blk (w.drewN n) g t cs := h
theorem Blk.alloc (h : Blk w g t cs) (o : Obj) : Blk (w.alloc o) g t cs := (Below.heap_alloc w o g h.lt).trans h
theorem Blk.set_ (h : Blk w g t cs) (i : Nat) (u : Value) : Blk (w.setCell ⟨g, i, none⟩ u) g t (cs.setIfInBounds i u) := by
  unfold Blk at h ⊢
  simp [World.setCell, Array.getElem?_modify, h]
theorem Blk.far (h : Blk w g t cs) {p : Addr} (hp : g ≠ p.block) (u : Value) : Blk (w.setCell p u) g t cs := (Below.heap_setCell w p u g hp).trans h
theorem Blk.below {B : Nat} (h : Blk w g t cs) (hb : Below B w w') (hg : g < B) : Blk w' g t cs := (hb.block g hg).trans h
end

/-- A fresh slice: v reads as l, and lies at the head of a block of the call's own, from block lo on. -/
def Fr {α : Type} (row : α → List Value) (k : Nat) (t : TypeId) (w : World) (lo : Nat) (v : Value) (l : List α) : Prop :=
  (v = .slice none 0 0 ∧ l = []) ∨
  ∃ g cap cur, v = .slice (some ⟨g, 0, none⟩) l.length cap ∧ lo ≤ g ∧ l.length ≤ cap ∧ cap ≤ maxLen ∧ Blk w g t cur ∧ ∀ (i : Nat) (s : α), l[i]? = some s → ∀ (j : Nat) (x : Value), (row s)[j]? = some x → cur[i * k + j]? = some x
section
variable {α : Type} {row : α → List Value} {k lo : Nat} {t : TypeId} {w w' : World} {v : Value} {l : List α}
theorem Fr.sl (h : Fr row k t w lo v l) : Sl row k w w.heap.size v l := by
  rcases h with ⟨rfl, rfl⟩ | ⟨g, cap, cur, rfl, hlo, hc, hm, hb, hx⟩
  · exact ⟨none, 0, rfl, Nat.le_refl _, by unfold maxLen; omega, fun h => absurd h (by simp)⟩
  · refine ⟨_, cap, rfl, hc, hm, fun _ => ⟨g, 0, rfl, hb.lt, fun i s hs j x hj => ?_⟩⟩
    rw [Nat.zero_add, hb.cell]
    exact hx i s hs j x hj
theorem Fr.below {B : Nat} (h : Fr row k t w lo v l) (hb : Below B w w') (hB : w.heap.size ≤ B) : Fr row k t w' lo v l := by
  rcases h with h | ⟨g, cap, cur, hv, hlo, hc, hm, hbk, hx⟩
  · exact .inl h
  · exact .inr ⟨g, cap, cur, hv, hlo, hc, hm, hbk.below hb (Nat.lt_of_lt_of_le hbk.lt hB), hx⟩
theorem Fr.ext (h : Fr row k t w lo v l) (hb : Ext w w') : Fr row k t w' lo v l := h.below hb (Nat.le_refl _)
theorem Fr.less {lo' : Nat} (h : Fr row k t w lo v l) (hl : lo' ≤ lo) : Fr row k t w lo' v l := by
  rcases h with h | ⟨g, cap, cur, hv, hlo, hc, hm, hbk, hx⟩
  · exact .inl h
  · exact .inr ⟨g, cap, cur, hv, Nat.le_trans hl hlo, hc, hm, hbk, hx⟩
end

/-- the cells from n on overwritten by xs -/
def putRow (cur : Array Value) (n : Nat) : List Value → Array Value
  | [] => cur
  | x :: xs => putRow (cur.setIfInBounds n x) (n + 1) xs
theorem putRow_size (n : Nat) (xs : List Value) : ∀ cur : Array Value, (putRow cur n xs).size = cur.size := by
  induction xs generalizing n with
  | nil => intro cur; rfl
  | cons x xs ih => intro cur; simp only [putRow]; rw [ih]; simp
theorem putRow_get (xs : List Value) : ∀ (n : Nat) (cur : Array Value) (m : Nat), n + xs.length ≤ cur.size → (putRow cur n xs)[m]? = if n ≤ m ∧ m < n + xs.length then xs[m - n]? else cur[m]? := by
  induction xs with
  | nil => intro n cur m _; simp only [putRow, List.length_nil]; rw [if_neg (by omega)]
  | cons x xs ih =>
    intro n cur m hn
    simp only [List.length_cons] at hn
    simp only [putRow, List.length_cons]
    rw [ih (n + 1) _ m (by simp; omega)]
    by_cases h1 : n + 1 ≤ m ∧ m < n + 1 + xs.length
    · rw [if_pos h1, if_pos (by omega)]
      obtain ⟨d, rfl⟩ : ∃ d, m = n + 1 + d := ⟨m - (n + 1), by omega⟩
      rw [show n + 1 + d - (n + 1) = d from by omega, show n + 1 + d - n = d + 1 from by omega]
      rfl
    · rw [if_neg h1]
      by_cases h2 : m = n
      · subst h2
        rw [if_pos (by omega), Array.getElem?_setIfInBounds]
        simp; omega
      · rw [if_neg (by omega), Array.getElem?_setIfInBounds, if_neg (fun e => h2 e.symm)]

/-- the first i elements of l stand in cur -/
def Filled {α : Type} (row : α → List Value) (k : Nat) (l : List α) (i : Nat) (cur : Array Value) : Prop :=
  ∀ (i' : Nat) (s : α), i' < i → l[i']? = some s → ∀ (j : Nat) (x : Value), (row s)[j]? = some x → cur[i' * k + j]? = some x
theorem Filled.zero {α : Type} {row : α → List Value} {k : Nat} {l : List α} (cur : Array Value) : Filled row k l 0 cur := fun _ _ h => absurd h (Nat.not_lt_zero _)
theorem Filled.put {α : Type} {row : α → List Value} {k : Nat} {l : List α} {i : Nat} {cur : Array Value} {s : α} (hk : ∀ s, (row s).length = k) (h : Filled row k l i cur) (hs : l[i]? = some s) (hsz : i * k + k ≤ cur.size) :
    Filled row k l (i + 1) (putRow cur (i * k) (row s)) := by
  intro i' t hi' ht j x hx
  have hj : j < k := by rw [← hk t]; exact (List.getElem?_eq_some_iff.1 hx).1
  rw [putRow_get _ _ _ _ (by rw [hk]; exact hsz), hk]
  by_cases e : i' = i
  · subst e
    rw [hs] at ht
    obtain rfl := Option.some.inj ht
    rw [if_pos (by omega), Nat.add_sub_cancel_left]
    exact hx
  · have h1 : (i' + 1) * k ≤ i * k := Nat.mul_le_mul_right _ (by omega)
    rw [Nat.add_mul, Nat.one_mul] at h1
    rw [if_neg (by omega)]
    exact h i' t (by omega) ht j x hx

/-- make([]T, n) -/
theorem run_make_rowN {P : Program} (t e : TypeId) (i : TypeInfo) (z : Value) (ht : P.underlying t = some (.slice e)) (hi : P.info? e = some i) (hz : i.zero = some z)
    (kl kc : IntKind) (n c : Nat) (hnc : n ≤ c) (hbytes : i.bytes * c ≤ 281474976710656) (h63 : c ≤ 9223372036854775807) (w : World) :
    (Instr.makeSlice t (.int kl (n : Int)) (.int kc (c : Int))).run P w = .ok (.slice (some ⟨w.heap.size, 0, none⟩) n c) (w.alloc (.cells (madeCells z.cells (c * i.size)) e)) := by
  have hb : (i.bytes : Int) * (c : Int) ≤ 281474976710656 := by
    have h : ((i.bytes * c : Nat) : Int) ≤ 281474976710656 := by omega
    rwa [Int.natCast_mul] at h
  have hr := run_make (P := P) w t e i z ht hi hz kl kc n c (by omega) (by omega) hb (by omega)
  simp only [Int.toNat_natCast] at hr
  exact hr

/-- what is left of a size, or -1 -/
def szOut (n : Int) (k : Nat) : Int := if n - k < 0 then -1 else n - k
theorem szOut_yes {n : Int} {k : Nat} (h : (k : Int) ≤ n) : szOut n k = n - k := by unfold szOut; rw [if_neg (by omega)]
theorem szOut_no {n : Int} {k : Nat} (h : n < k) : szOut n k = -1 := by unfold szOut; rw [if_pos (by omega)]

theorem ret_bool {a b : Bool} (h : a = b) : Ending.returned (.bool a) = .returned (.bool b) := by rw [h]
theorem ret_int {k : IntKind} {a b : Int} (h : a = b) : Ending.returned (.int k a) = .returned (.int k b) := by rw [h]

/-- two lists of which the first i agree -/
def AgreeTo {α : Type} (i : Nat) (l m : List α) : Prop := ∀ j, j < i → l[j]? = m[j]?
theorem AgreeTo.zero {α : Type} (l m : List α) : AgreeTo 0 l m := fun _ h => absurd h (Nat.not_lt_zero _)
theorem AgreeTo.succ {α : Type} {i : Nat} {l m : List α} {s : α} (h : AgreeTo i l m) (h1 : l[i]? = some s) (h2 : m[i]? = some s) : AgreeTo (i + 1) l m := fun j hj => by
  by_cases e : j = i
  · subst e; rw [h1, h2]
  · exact h j (by omega)
theorem AgreeTo.eq {α : Type} {i : Nat} {l m : List α} (h : AgreeTo i l m) (hl : l.length ≤ i) (hlm : l.length = m.length) : l = m := by
  apply List.ext_getElem? 
  intro j
  by_cases hj : j < i
  · exact h j hj
  · rw [List.getElem?_eq_none (by omega), List.getElem?_eq_none (by omega)]
theorem AgreeTo.ne {α : Type} {i : Nat} {l m : List α} {s t : α} (h1 : l[i]? = some s) (h2 : m[i]? = some t) (hne : s ≠ t) : l ≠ m := fun e => by
  subst e; rw [h1] at h2; exact hne (Option.some.inj h2)
end Go.Proofs.YtgakjhaepdigpaaGreatDoor
