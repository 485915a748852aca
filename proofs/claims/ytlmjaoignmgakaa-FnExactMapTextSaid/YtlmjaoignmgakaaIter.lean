
/- slices.Backward over segments: its contract for a loop over it. No condition but the slice's reading. -/
import Derived.Test.YtlmjaoignmgakaaSegs
import Derived.RangeFuncNested
import Derived.RangeFuncBound
import Derived.RangeFuncLeaves
import Derived.OwnWalkIn
import Derived.TacticsInMore
import Derived.LoopNIn
import Derived.LoopIn
import Derived.Shelf.Abstract
namespace Go.Proofs.Ytlmjaoignmgakaa
set_option maxRecDepth 100000
open Go.RowKit Go.Shelf
attribute [local go_sem] Oper.semAt_some

/-- what has come when k rounds are over -/
def upto {α : Type} (f : Nat → α) (k : Nat) : List α := (List.range k).map f
theorem upto_succ {α : Type} (f : Nat → α) (k : Nat) : upto f (k + 1) = upto f k ++ [f k] := by simp [upto, List.range_succ]
theorem upto_length {α : Type} (f : Nat → α) (k : Nat) : (upto f k).length = k := by simp [upto]
/-- from the last element on, each with its place -/
def fromEnd {α : Type} [Inhabited α] (l : List α) (j : Nat) : Int × α := (((l.length - 1 - j : Nat) : Int), l[l.length - 1 - j]?.getD default)
theorem fromEnd_at {α : Type} [Inhabited α] {l : List α} {i : Nat} {s : α} (h : l[i]? = some s) : fromEnd l (l.length - (i + 1)) = ((i : Int), s) := by
  have hi : i < l.length := (List.getElem?_eq_some_iff.1 h).1
  have e : l.length - 1 - (l.length - (i + 1)) = i := by omega
  unfold fromEnd
  rw [e, h]
  rfl

set_option maxRecDepth 100000 in
set_option maxHeartbeats 1000000 in
theorem back1_in (F : Fence) (n : Nat) (h7 : F.fn 66) (hro : F.round = none) (hn : 1 ≤ n) (l Bs n₀ : Nat) (A : Option Addr) (len cap : Nat) (xs : List Sg) (hcap : len ≤ 9223372036854775807) (hlen : len = xs.length)
    (J Jx : List (Int × Sg) → World → Prop)
    (hY : ∀ pre x W, J pre W → pre.length < len → YieldAt F (n - 1) Try.prog l #[.int .i64 x.1, .agg #[.int .i64 x.2.1.1, .int .i64 x.2.1.2, .int .i64 x.2.2.1, .int .i64 x.2.2.2]] W fun e W' =>
      (e = .returned (.bool true) ∧ J (pre ++ [x]) W' ∧ Below n₀ W W') ∨ (e = .returned (.bool false) ∧ Jx (pre ++ [x]) W'))
    (W : World) (hBn : Bs < n₀) (hBs : W.cell? ⟨Bs, 0, none⟩ = some (.slice A len cap)) (hS : SlS W n₀ (.slice A len cap) xs) (h0 : J [] W) :
    CallsIn F n Try.prog 66 #[.func (.yield l) #[] #[], .pointer (some ⟨Bs, 0, none⟩)] W fun e W' => (∃ v, e = .returned v) ∧
      ((∃ ys, ys = upto (fromEnd xs) len ∧ J ys W') ∨ (∃ pre, (∃ k, k ≤ len ∧ pre = upto (fromEnd xs) k) ∧ Jx pre W')) := by
  have HL := Lib.hid hlen
  clear hlen
  refine callsIn_of_wp Try.func66 rfl h7 ?_ hro
  simp only [Try.ntmps66, List.size_toArray, List.length_cons, List.length_nil, Nat.reduceAdd, Nat.reduceSub, Array.replicate_succ, Array.replicate_zero, List.push_toArray, List.append_toArray, List.nil_append, List.cons_append]
  gi_wp2
  gi_loopw [3] (fun i wr => ∃ m : Nat, m ≤ len ∧ i = .int .i64 ((m : Int) - 1) ∧ J (upto (fromEnd xs) (len - m)) wr ∧ Below n₀ W wr)
    (fun i _ => (intOf i + 1).toNat)
  case atStart => exact ⟨len, Nat.le_refl _, rfl, by rw [Nat.sub_self]; exact h0, Below.refl _ _⟩
  case round =>
    obtain ⟨m, hm, rfl, hJs, hnx⟩ := hrel
    have hsl : wr.cell? ⟨Bs, 0, none⟩ = some (.slice A len cap) := (hnx.cell (p := ⟨Bs, 0, none⟩) hBn).trans hBs
    by_cases hlt : 0 < m
    · obtain ⟨i, rfl⟩ : ∃ i, m = i + 1 := ⟨m - 1, by omega⟩
      rw [show (((i + 1 : Nat) : Int) - 1) = (i : Int) from by omega]
      obtain ⟨b, o, p, q, r, t, rfl, hb, hg, f0, f1, f2, f3⟩ := sg_at hS (i := i) (by have := HL.out; omega)
      have g0 := f0 ⟨wr, hnx⟩; have g1 := f1 ⟨wr, hnx⟩; have g2 := f2 ⟨wr, hnx⟩; have g3 := f3 ⟨wr, hnx⟩
      clear f0 f1 f2 f3
      have HE : Hid (fromEnd xs (len - (i + 1)) = ((i : Int), ((p, q), (r, t)))) := by rw [HL.out]; exact fromEnd_at hg
      clear hg
      obtain ⟨fn, tmps, assign, body, hy, hR⟩ := hY _ ((i : Int), ((p, q), (r, t))) wr hJs (by rw [upto_length]; omega)
      dsimp only at hy
      clear hJs
      have hlt2 : i < len := by omega
      gi_wp2
      refine hR.mono ?_
      rintro e W3 (⟨rfl, hJ3, hk3⟩ | ⟨rfl, hJx3⟩)
      · gi_wp2
        go_roundw
        case rel => exact ⟨i, by omega, rfl, by rw [show len - i = len - (i + 1) + 1 from by omega, upto_succ, HE.out]; exact hJ3, hnx.trans hk3⟩
        case measure => simp [intOf]
      · gi_wp2
        refine bodyPost_ret (results_none rfl _ _ _) rfl ?_
        exact ⟨⟨_, rfl⟩, .inr ⟨_, ⟨len - (i + 1) + 1, by omega, by rw [upto_succ, HE.out]⟩, hJx3⟩⟩
    · obtain rfl : m = 0 := by omega
      gi_wp2
      go_end0
      exact ⟨⟨_, rfl⟩, .inl ⟨_, rfl, hJs⟩⟩

/-- slices.Backward(s): the slice value is boxed; the function value captures the box. -/
theorem back_in (F : Fence) (n : Nat) (h5 : F.fn 57) (hro : F.round = none) (a : Option Addr) (len cap : Nat) (w : World) :
    CallsIn F n Try.prog 57 #[.slice a len cap] w fun e w' => e = .returned (.func (.func 66) #[] #[.pointer (some ⟨w.heap.size, 0, none⟩)]) ∧ w' = w.alloc (.cells #[.slice a len cap] 25) := by
  refine callsIn_of_wp Try.func57 rfl h5 ?_ hro
  simp only [Try.ntmps57, List.size_toArray, List.length_cons, List.length_nil, Nat.reduceAdd, Nat.reduceSub, Array.replicate_succ, Array.replicate_zero, List.push_toArray, List.append_toArray, List.nil_append, List.cons_append]
  gi_wp2
  go_ret
  exact ⟨rfl, rfl⟩

theorem back_stops (F : Fence) (n : Nat) (h7 : F.fn 66) (hro : F.round = none) (hn : 1 ≤ n) (Bs n₀ : Nat) (A : Option Addr) (len cap : Nat) (xs : List Sg) (hcap : len ≤ 9223372036854775807) (hlen : len = xs.length) (w : World) (hBn : Bs < n₀) (hn₀ : n₀ ≤ w.heap.size)
    (hc : w.cell? ⟨Bs, 0, none⟩ = some (.slice A len cap)) (hS : SlS w n₀ (.slice A len cap) xs) :
    SeqStopsK F n Try.prog 66 #[.pointer (some ⟨Bs, 0, none⟩)] (fun x : Int × Sg => #[Value.int .i64 x.1, .agg #[.int .i64 x.2.1.1, .int .i64 x.2.1.2, .int .i64 x.2.2.1, .int .i64 x.2.2.2]]) (Below n₀) (fun ys => ys = upto (fromEnd xs) len)
      (fun pre => ∃ k, k ≤ len ∧ pre = upto (fromEnd xs) k) len w := fun l J Jx W hW _ _ hY h0 =>
  back1_in F n h7 hro hn l Bs n₀ A len cap xs hcap hlen J Jx hY W hBn ((hW.cell (p := ⟨Bs, 0, none⟩) (Nat.lt_of_lt_of_le hBn hn₀)).trans hc) (hS.below (hW.mono hn₀) (Nat.le_refl _)) h0

/-- the first from the end that fits -/
def Fits (p : Ps) (s : Sg) : Prop := s.1.1 = p.1 ∧ s.1.2 ≤ p.2
instance (p : Ps) (s : Sg) : Decidable (Fits p s) := inferInstanceAs (Decidable (_ ∧ _))
def lookL (l : List Sg) (p : Ps) : Option Ps := (l.reverse.find? (fun s => decide (Fits p s))).map (·.2)
def lookV (r : Option Ps) : Value := match r with
  | some q => .tuple #[.agg #[.int .i64 q.1, .int .i64 q.2], .bool true]
  | none => .tuple #[.agg #[.int .i64 0, .int .i64 0], .bool false]

/-- between two rounds: none that has come fits -/
def LookI (p : Ps) (W1 : World) (pre : List (Int × Sg)) (W : World) : Prop := (∀ x ∈ pre, ¬ Fits p x.2) ∧ Below W1.heap.size W1 W
/-- a round has returned: the last that has come fits, and is told -/
def LookX (p : Ps) (w : World) (cd : Code) (pre : List (Int × Sg)) (W : World) : Prop :=
  (cd = .ret ∧ ∃ ini last, pre = ini ++ [last] ∧ (∀ x ∈ ini, ¬ Fits p x.2) ∧ Fits p last.2 ∧ W.cell? ⟨w.heap.size + 1, 0, none⟩ = some (.int .i64 last.2.2.1) ∧ W.cell? ⟨w.heap.size + 1, 1, none⟩ = some (.int .i64 last.2.2.2) ∧ W.cell? ⟨w.heap.size + 1 + 1, 0, none⟩ = some (.bool true)) ∧ Below w.heap.size w W
def LookA (A : Option Addr) (len c : Nat) (p1 p2 : Int) (w W1 : World) (x : Int × Sg) (a' : Act) (W : World) : Prop :=
  ∃ Bx, W1.heap.size ≤ Bx ∧ Blk W Bx 35 #[.int .i64 x.2.1.1, .int .i64 x.2.1.2, .int .i64 x.2.2.1, .int .i64 x.2.2.2] ∧ a' = { tmps := #[.slice A len c, .agg #[.int .i64 p1, .int .i64 p2], undef, .pointer (some ⟨w.heap.size, 0, none⟩), .pointer (some ⟨w.heap.size + 1, 0, none⟩), .pointer (some ⟨w.heap.size + 1 + 1, 0, none⟩), undef, .pointer (some ⟨Bx, 0, none⟩), .slice A len c, .func (.func 66) #[] #[.pointer (some ⟨w.heap.size + 1 + 1 + 1, 0, none⟩)], .int .i64 x.1, .agg #[.int .i64 x.2.1.1, .int .i64 x.2.1.2, .int .i64 x.2.2.1, .int .i64 x.2.2.2], undef, undef, undef, undef, undef, undef, undef, undef, undef, undef, undef, undef, undef, undef, undef, undef, undef], defers := [] }

theorem upto_fromEnd {α : Type} [Inhabited α] (l : List α) (k : Nat) (hk : k ≤ l.length) : (upto (fromEnd l) k).map (·.2) = l.reverse.take k := by
  apply List.ext_getElem?
  intro j
  by_cases hj : j < k
  · have h1 : l.length - 1 - j < l.length := by omega
    simp [upto, fromEnd, hj, List.getElem?_take, List.getElem?_reverse (show j < l.length by omega), List.getElem?_eq_getElem h1]
  · rw [List.getElem?_eq_none (by simp [upto]; omega), List.getElem?_eq_none (by simp; omega)]
theorem fits_none {α : Type} [Inhabited α] {l : List α} {P : α → Prop} [DecidablePred P] (hi : ∀ x ∈ upto (fromEnd l) l.length, ¬ P x.2) :
    l.reverse.find? (fun s => decide (P s)) = none := by
  rw [List.find?_eq_none]
  intro s hs
  have h := upto_fromEnd l l.length (Nat.le_refl _)
  rw [List.take_of_length_le (by simp)] at h
  rw [← h] at hs
  obtain ⟨x, hx, rfl⟩ := List.mem_map.1 hs
  simpa using hi x hx
theorem fits_split {α : Type} [Inhabited α] {l : List α} {P : α → Prop} [DecidablePred P] {k : Nat} (hk : k ≤ l.length) {ini : List (Int × α)} {last : Int × α} (h : upto (fromEnd l) k = ini ++ [last]) (hi : ∀ x ∈ ini, ¬ P x.2) (hl : P last.2) :
    l.reverse.find? (fun s => decide (P s)) = some last.2 := by
  have h2 := upto_fromEnd l k hk
  rw [h] at h2
  rw [← List.take_append_drop k l.reverse, ← h2]
  simp only [List.map_append, List.map_cons, List.map_nil, List.append_assoc, List.find?_append]
  rw [List.find?_eq_none.2 (by intro s hs; obtain ⟨x, hx, rfl⟩ := List.mem_map.1 hs; simpa using hi x hx)]
  simp [hl]

set_option maxRecDepth 100000 in
set_option maxHeartbeats 1000000 in
theorem look_in (F : Fence) (n : Nat) (h4 : F.fn 44) (h6 : F.fn 57) (h8 : F.fn 66) (hro : F.round = none) (hn : 3 ≤ n) (v : Value) (l : List Sg) (p1 p2 : Int) (w : World) (hv : SlS w w.heap.size v l) :
    CallsIn F n Try.prog 44 #[v, .agg #[.int .i64 p1, .int .i64 p2]] w fun e W' => e = .returned (lookV (lookL l (p1, p2))) ∧ Below w.heap.size w W' := by
  obtain ⟨A, c, rfl, hc, hm⟩ := hv.val
  have h1 : 1 ≤ n := by omega
  refine callsIn_of_wp_marks Try.func44 rfl h4 ?_ hro
  simp only [Try.ntmps44, List.size_toArray, List.length_cons, List.length_nil, Nat.reduceAdd, Nat.reduceSub, Array.replicate_succ, Array.replicate_zero, List.push_toArray, List.append_toArray, List.nil_append, List.cons_append]
  gi_wp2_with (gi_at_call 57; refine (back_in F (n - 1) h6 hro _ _ _ _).mono ?_; rintro e w' ⟨rfl, rfl⟩)
  obtain ⟨W1, hW1⟩ : ∃ W1, W1 = ((((w.alloc (Obj.cells #[Value.int IntKind.i64 p1, Value.int IntKind.i64 p2] 33)).alloc (Obj.cells #[Value.int IntKind.i64 0, Value.int IntKind.i64 0] 33)).alloc (Obj.cells #[Value.bool false] 4)).alloc (Obj.cells #[Value.slice A l.length c] 25)) := ⟨_, rfl⟩
  rw [← hW1]
  have hs1 : w.heap.size + 1 + 1 + 1 < W1.heap.size := by rw [hW1]; simp
  have hB1 : Below w.heap.size w W1 := by rw [hW1]; (repeat (first | with_reducible assumption | with_reducible exact Below.refl _ _ | with_reducible refine Below.setCell ?_ (by first | omega | (simp; done) | (simp; omega)) _ | with_reducible refine Below.alloc ?_ (by first | omega | (simp; done) | (simp; omega)) _ | with_reducible refine below_drewN ?_ _ | with_reducible refine Below.drew ?_))
  have k0 : W1.cell? ⟨w.heap.size, 0, none⟩ = some (.int .i64 p1) := by rw [hW1]; simp [go_sem]
  have k1 : W1.cell? ⟨w.heap.size, 1, none⟩ = some (.int .i64 p2) := by rw [hW1]; simp [go_sem]
  have r0 : W1.cell? ⟨w.heap.size + 1, 0, none⟩ = some (.int .i64 0) := by rw [hW1]; simp [go_sem]
  have r1 : W1.cell? ⟨w.heap.size + 1, 1, none⟩ = some (.int .i64 0) := by rw [hW1]; simp [go_sem]
  have r2 : W1.cell? ⟨w.heap.size + 1 + 1, 0, none⟩ = some (.bool false) := by rw [hW1]; simp [go_sem]
  have z0 : ∀ j, W1.frozen? ⟨w.heap.size + 1, j, none⟩ = false := fun j => by rw [hW1]; simp [go_sem]
  have z1 : ∀ j, W1.frozen? ⟨w.heap.size + 1 + 1, j, none⟩ = false := fun j => by rw [hW1]; simp [go_sem]
  have bs : W1.cell? ⟨w.heap.size + 1 + 1 + 1, 0, none⟩ = some (.slice A l.length c) := by rw [hW1]; simp [go_sem]
  have HW1 := Lib.hid hW1
  clear hW1
  have hvW : SlS W1 W1.heap.size (.slice A l.length c) l := hv.ext hB1
  refine wpIn_rangeFunc_ownH hro h1 (gf := 66) (lb := #[.pointer (some ⟨w.heap.size + 1 + 1 + 1, 0, none⟩)]) rfl h8 (enters_of Try.func66 (by kernel_rfl) rfl)
    (back_stops F (n - 1) h8 hro (by omega) (w.heap.size + 1 + 1 + 1) W1.heap.size A l.length c l (by omega) rfl W1 (by omega) (Nat.le_refl _) bs hvW) belowK_t (belowK_b (Nat.le_refl _)) (Below.refl _ _) (fun _ => rfl)
    (LookI (p1, p2) W1) (LookX (p1, p2) w)
    (OwnFrom.and (ownFrom_pure _ _) (ownFrom_below (Nat.le_refl _) (Nat.le_refl _)))
    (fun cd => OwnFrom.and (Own.from (fun s A B row hs hg hr => by obtain ⟨hc, ini, last, e1, e2, e3, e4, e5, e6⟩ := hs; exact ⟨hc, ini, last, e1, e2, e3, cell_kept e4 hg hr, cell_kept e5 hg hr, cell_kept e6 hg hr⟩) _) (ownFrom_below (Nat.le_refl _) (by omega)))
    ⟨fun x hx => by simp at hx, Below.refl _ _⟩
    (LookA A l.length c p1 p2 w W1)
    (fun x a' _ X Y row hs hg hr => by obtain ⟨Bx, h1, h2, h3⟩ := hs; exact ⟨Bx, h1, (hg.block Bx h2.lt (fun e => by obtain ⟨_, o, ho, hc⟩ := hr Bx e.symm; unfold Blk at h2; rw [h2] at ho; cases ho; cases hc)).trans h2, h3⟩)
    ?assign ?body ?done ?stop
  case assign =>
    rintro lp pre x W K ⟨hp, hB⟩ hK
    have hsz := hB.size
    gi_wp2
    exact hK _ _ ((KeepsOthers.alloc _ _).from _) ((Below.refl _ W).alloc hB.size _) ⟨hp, hB.alloc hB.size _⟩ ⟨W.heap.size, hB.size, Blk.new _ _ _, rfl⟩
  case body =>
    rintro lp pre ⟨xi, ⟨⟨a, b⟩, ⟨d, f⟩⟩⟩ a' W hl ⟨r, hr⟩ ⟨hp, hB⟩ ⟨Bx, hBx, bX, rfl⟩ hlt
    have K0 : W.cell? ⟨w.heap.size, 0, none⟩ = some (.int .i64 p1) := (hB.cell (p := ⟨w.heap.size, 0, none⟩) (by simp; omega)).trans k0
    have K1 : W.cell? ⟨w.heap.size, 1, none⟩ = some (.int .i64 p2) := (hB.cell (p := ⟨w.heap.size, 1, none⟩) (by simp; omega)).trans k1
    have R0 : W.cell? ⟨w.heap.size + 1, 0, none⟩ = some (.int .i64 0) := (hB.cell (p := ⟨w.heap.size + 1, 0, none⟩) (by simp; omega)).trans r0
    have R1 : W.cell? ⟨w.heap.size + 1, 1, none⟩ = some (.int .i64 0) := (hB.cell (p := ⟨w.heap.size + 1, 1, none⟩) (by simp; omega)).trans r1
    have R2 : W.cell? ⟨w.heap.size + 1 + 1, 0, none⟩ = some (.bool false) := (hB.cell (p := ⟨w.heap.size + 1 + 1, 0, none⟩) (by simp; omega)).trans r2
    have Z0 : ∀ j, W.frozen? ⟨w.heap.size + 1, j, none⟩ = false := fun j => (hB.frozen (p := ⟨w.heap.size + 1, j, none⟩) (by simp; omega)).trans (z0 j)
    have Z1 : ∀ j, W.frozen? ⟨w.heap.size + 1 + 1, j, none⟩ = false := fun j => (hB.frozen (p := ⟨w.heap.size + 1 + 1, j, none⟩) (by simp; omega)).trans (z1 j)
    have X0 : W.cell? ⟨Bx, 0, none⟩ = some (.int .i64 a) := bX.cell 0
    have X1 : W.cell? ⟨Bx, 1, none⟩ = some (.int .i64 b) := bX.cell 1
    have X2 : W.cell? ⟨Bx, 2, none⟩ = some (.int .i64 d) := bX.cell 2
    have X3 : W.cell? ⟨Bx, 3, none⟩ = some (.int .i64 f) := bX.cell 3
    by_cases hf : Fits (p1, p2) ((a, b), (d, f))
    · have HF := Lib.hid hf
      obtain ⟨f1, f2⟩ := hf
      dsimp only at f1 f2
      have d1 : (a == p1) = true := by simpa using f1
      clear f1
      gi_wp2
      have y0 := World.cell?_setCell_same' W ⟨w.heap.size + 1, 0, none⟩ (.int .i64 d) (by rw [R0]; rfl)
      exact ⟨((KeepsOthers.setCell _ _ _).trans ((KeepsOthers.setCell _ _ _).trans (KeepsOthers.setCell _ _ _))).from _, ⟨rfl, pre, _, rfl, hp, HF.out, by simp [go_sem, R0, R1, R2, y0], by simp [go_sem, R0, R1, R2, y0], by simp [go_sem, R0, R1, R2, y0]⟩, by have hz := hB.size; have hB3 := hB1.trans (hB.mono (by omega)); (repeat (first | with_reducible assumption | with_reducible exact Below.refl _ _ | with_reducible refine Below.setCell ?_ (by first | omega | (simp; done) | (simp; omega)) _ | with_reducible refine Below.alloc ?_ (by first | omega | (simp; done) | (simp; omega)) _ | with_reducible refine below_drewN ?_ _ | with_reducible refine Below.drew ?_ | with_reducible refine Below.trans ?_ (Below.mono hB3 (by first | omega | (simp; done) | (simp; omega)))))⟩
    · by_cases f1 : a = p1
      · have d1 : (a == p1) = true := by simpa using f1
        have f2 : ¬ b ≤ p2 := fun h => hf ⟨f1, h⟩
        have d2 : decide (b ≤ p2) = false := by simpa using f2
        have HF := Lib.hid hf
        clear f1 hf
        gi_wp2
        exact ⟨KeepsFrom.refl _ _, Below.refl _ _, fun x hx => (List.mem_append.1 hx).elim (hp x) (fun e => by simp at e; subst e; exact HF.out), hB⟩
      · have d1 : (a == p1) = false := by simpa using f1
        have HF := Lib.hid hf
        clear hf
        gi_wp2
        exact ⟨KeepsFrom.refl _ _, Below.refl _ _, fun x hx => (List.mem_append.1 hx).elim (hp x) (fun e => by simp at e; subst e; exact HF.out), hB⟩
  case done =>
    rintro D ys W hD rfl ⟨hne, hB⟩ hK
    have R0 : W.cell? ⟨w.heap.size + 1, 0, none⟩ = some (.int .i64 0) := (hB.cell (p := ⟨w.heap.size + 1, 0, none⟩) (by simp; omega)).trans r0
    have R1 : W.cell? ⟨w.heap.size + 1, 1, none⟩ = some (.int .i64 0) := (hB.cell (p := ⟨w.heap.size + 1, 1, none⟩) (by simp; omega)).trans r1
    have R2 : W.cell? ⟨w.heap.size + 1 + 1, 0, none⟩ = some (.bool false) := (hB.cell (p := ⟨w.heap.size + 1 + 1, 0, none⟩) (by simp; omega)).trans r2
    have Z0 : ∀ j, W.frozen? ⟨w.heap.size + 1, j, none⟩ = false := fun j => (hB.frozen (p := ⟨w.heap.size + 1, j, none⟩) (by simp; omega)).trans (z0 j)
    have Z1 : ∀ j, W.frozen? ⟨w.heap.size + 1 + 1, j, none⟩ = false := fun j => (hB.frozen (p := ⟨w.heap.size + 1 + 1, j, none⟩) (by simp; omega)).trans (z1 j)
    gi_wp2
    have hK' := ((KeepsOthers.setCell W ⟨w.heap.size + 1, 0, none⟩ (.int .i64 0)).trans ((KeepsOthers.setCell _ ⟨w.heap.size + 1, 1, none⟩ (.int .i64 0)).trans (KeepsOthers.setCell _ ⟨w.heap.size + 1 + 1, 0, none⟩ (.bool false)))).same D _ hK rfl
    refine ⟨by simp, .inl ⟨_, _, rfl, run_takeDeferred hK', ?_⟩⟩
    obtain ⟨W3, hW3⟩ : ∃ W3, W3 = ((W.setCell ⟨w.heap.size + 1, 0, none⟩ (.int .i64 0)).setCell ⟨w.heap.size + 1, 1, none⟩ (.int .i64 0)).setCell ⟨w.heap.size + 1 + 1, 0, none⟩ (.bool false) := ⟨_, rfl⟩
    have hB3 : Below w.heap.size w W3 := by rw [hW3]; have hB4 := hB1.trans (hB.mono (by omega)); have hz := hB4.size; (repeat (first | with_reducible assumption | with_reducible exact Below.refl _ _ | with_reducible refine Below.setCell ?_ (by first | omega | (simp; done) | (simp; omega)) _ | with_reducible refine Below.alloc ?_ (by first | omega | (simp; done) | (simp; omega)) _ | with_reducible refine below_drewN ?_ _ | with_reducible refine Below.drew ?_ | with_reducible refine Below.trans ?_ (Below.mono hB4 (by first | omega | (simp; done) | (simp; omega)))))
    have c0 : W3.cell? ⟨w.heap.size + 1, 0, none⟩ = some (.int .i64 0) := by rw [hW3]; have y0 := World.cell?_setCell_same' W ⟨w.heap.size + 1, 0, none⟩ (.int .i64 0) (by rw [R0]; rfl); simp [go_sem, R1, R2, y0]
    have c1 : W3.cell? ⟨w.heap.size + 1, 1, none⟩ = some (.int .i64 0) := by rw [hW3]; simp [go_sem, R0, R1, R2]
    have c2 : W3.cell? ⟨w.heap.size + 1 + 1, 0, none⟩ = some (.bool false) := by rw [hW3]; simp [go_sem, R0, R1, R2]
    rw [← hW3] at hK' ⊢
    have y0 := cell_kept c0 (grownBy_putObj' _ D (.deferred none)) (fun r e => by cases e; exact ⟨_, hK', rfl⟩)
    have y1 := cell_kept c1 (grownBy_putObj' _ D (.deferred none)) (fun r e => by cases e; exact ⟨_, hK', rfl⟩)
    have y2 := cell_kept c2 (grownBy_putObj' _ D (.deferred none)) (fun r e => by cases e; exact ⟨_, hK', rfl⟩)
    have hf : lookL l (p1, p2) = none := by unfold lookL; rw [fits_none hne]; rfl
    refine ⟨lookV (lookL l (p1, p2)), ?_, rfl, hB3.trans (belowK_b (w := w) (Nat.le_refl _) W3 D _ _ (by omega) hK' rfl rfl)⟩
    rw [hf]
    simp [results, Try.f44, go_sem, y0, y1, y2, lookV]
  case stop =>
    rintro D cd pre W hD ⟨k, hk, rfl⟩ ⟨⟨rfl, ini, last, e1, e2, e3, c0, c1, c2⟩, hB⟩ hK
    gi_wp2
    refine ⟨by simp, .inl ⟨_, _, rfl, run_takeDeferred hK, ?_⟩⟩
    have y0 := cell_kept c0 (grownBy_putObj' _ D (.deferred none)) (fun r e => by cases e; exact ⟨_, hK, rfl⟩)
    have y1 := cell_kept c1 (grownBy_putObj' _ D (.deferred none)) (fun r e => by cases e; exact ⟨_, hK, rfl⟩)
    have y2 := cell_kept c2 (grownBy_putObj' _ D (.deferred none)) (fun r e => by cases e; exact ⟨_, hK, rfl⟩)
    have hf : lookL l (p1, p2) = some last.2.2 := by unfold lookL; rw [fits_split hk e1 e2 e3]; rfl
    refine ⟨lookV (lookL l (p1, p2)), ?_, rfl, hB.trans (belowK_b (w := w) (Nat.le_refl _) W D _ _ (by omega) hK rfl rfl)⟩
    rw [hf]
    simp [results, Try.f44, go_sem, y0, y1, y2, lookV]

theorem imLook_any (v : Value) (l : List Sg) (p1 p2 : Int) (w : World) (hv : SlS w w.heap.size v l) :
    Calls Try.prog 44 #[v, .agg #[.int .i64 p1, .int .i64 p2]] w fun e W' => e = .returned (lookV (lookL l (p1, p2))) ∧ Below w.heap.size w W' :=
  (callsIn_wide (n := 3)).1 (look_in _ 3 trivial trivial trivial rfl (Nat.le_refl _) v l p1 p2 w hv)
end Go.Proofs.Ytlmjaoignmgakaa
