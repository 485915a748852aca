/- slices.Backward over segments: its contract for a loop over it. No condition but the slice's reading. -/
import Derived.Test.YtgfbjpmbaibnoaaGreatDoorZm8
import Derived.RangeFuncNested
import Derived.RangeFuncBound
import Derived.RangeFuncLeaves
import Derived.OwnWalkIn
import Derived.TacticsInMore
import Derived.LoopNIn
import Derived.LoopIn
import Derived.Shelf.Abstract
import Derived.Deep.RegionHeld3
import Derived.Deep.DeepCutAuto
namespace Go.Proofs.YtgfbjpmbaibnoaaGreatDoor
set_option maxRecDepth 100000
set_option linter.unusedSimpArgs false
set_option linter.unusedVariables false
open Go.RowKit Go.Shelf
attribute [local go_sem] Oper.semAt_some

/-- what has come when k rounds are over -/
def uptoG {α : Type} (f : Nat → α) (k : Nat) : List α := (List.range k).map f
theorem upto_succG {α : Type} (f : Nat → α) (k : Nat) : uptoG f (k + 1) = uptoG f k ++ [f k] := by simp [uptoG, List.range_succ]
theorem upto_lengthG {α : Type} (f : Nat → α) (k : Nat) : (uptoG f k).length = k := by simp [uptoG]
/-- from the last element on, each with its place -/
def fromEndG {α : Type} [Inhabited α] (l : List α) (j : Nat) : Int × α := (((l.length - 1 - j : Nat) : Int), l[l.length - 1 - j]?.getD default)
theorem fromEnd_atG {α : Type} [Inhabited α] {l : List α} {i : Nat} {s : α} (h : l[i]? = some s) : fromEndG l (l.length - (i + 1)) = ((i : Int), s) := by
  have hi : i < l.length := (List.getElem?_eq_some_iff.1 h).1
  have e : l.length - 1 - (l.length - (i + 1)) = i := by omega
  unfold fromEndG
  rw [e, h]
  rfl

set_option maxRecDepth 100000 in
set_option maxHeartbeats 1000000 in
theorem back1_inG (F : Fence) (n : Nat) (h7 : F.fn 204) (hro : F.round = none) (hn : 1 ≤ n) (l Bs n₀ : Nat) (A : Option Addr) (len cap : Nat) (xs : List Sg) (hcap : len ≤ 9223372036854775807) (hlen : len = xs.length)
    (J Jx : List (Int × Sg) → World → Prop)
    (hY : ∀ pre x W, J pre W → pre.length < len → YieldAt F (n - 1) Tryz.prog l #[.int .i64 x.1, .agg #[.int .i64 x.2.1.1, .int .i64 x.2.1.2, .int .i64 x.2.2.1, .int .i64 x.2.2.2]] W fun e W' =>
      (e = .returned (.bool true) ∧ J (pre ++ [x]) W' ∧ Below n₀ W W') ∨ (e = .returned (.bool false) ∧ Jx (pre ++ [x]) W'))
    (W : World) (hBn : Bs < n₀) (hBs : W.cell? ⟨Bs, 0, none⟩ = some (.slice A len cap)) (hS : SlS W n₀ (.slice A len cap) xs) (h0 : J [] W) :
    CallsIn F n Tryz.prog 204 #[.func (.yield l) #[] #[], .pointer (some ⟨Bs, 0, none⟩)] W fun e W' => (∃ v, e = .returned v) ∧
      ((∃ ys, ys = uptoG (fromEndG xs) len ∧ J ys W') ∨ (∃ pre, (∃ k, k ≤ len ∧ pre = uptoG (fromEndG xs) k) ∧ Jx pre W')) := by
  have HL := Lib.hid hlen
  clear hlen
  refine callsIn_of_wp Tryz.func204 rfl h7 ?_ hro
  simp only [Tryz.ntmps204, List.size_toArray, List.length_cons, List.length_nil, Nat.reduceAdd, Nat.reduceSub, Array.replicate_succ, Array.replicate_zero, List.push_toArray, List.append_toArray, List.nil_append, List.cons_append]
  gi_wp2
  gi_loopw [3] (fun i wr => ∃ m : Nat, m ≤ len ∧ i = .int .i64 ((m : Int) - 1) ∧ J (uptoG (fromEndG xs) (len - m)) wr ∧ Below n₀ W wr)
    (fun i _ => (intOf i + 1).toNat)
  case atStart => exact ⟨len, Nat.le_refl _, rfl, by rw [Nat.sub_self]; exact h0, Below.refl _ _⟩
  case round =>
    obtain ⟨m, hm, rfl, hJs, hnx⟩ := hrel
    have hsl : wr.cell? ⟨Bs, 0, none⟩ = some (.slice A len cap) := (hnx.cell (p := ⟨Bs, 0, none⟩) hBn).trans hBs
    by_cases hlt : 0 < m
    · obtain ⟨i, rfl⟩ : ∃ i, m = i + 1 := ⟨m - 1, by omega⟩
      rw [show (((i + 1 : Nat) : Int) - 1) = (i : Int) from by omega]
      obtain ⟨b, o, p, q, r, t, rfl, hb, hg, f0, f1, f2, f3⟩ := sg_at hS (i := i) (by have := HL.out; omega)
      have g0 := f0 ⟨wr, hnx⟩; have g1 := f1 ⟨wr, hnx⟩; have g2 := f2 ⟨wr, hnx⟩; have g3 := f3 ⟨wr, hnx⟩
      clear f0 f1 f2 f3
      have HE : Hid (fromEndG xs (len - (i + 1)) = ((i : Int), ((p, q), (r, t)))) := by rw [HL.out]; exact fromEnd_atG hg
      clear hg
      obtain ⟨fn, tmps, assign, body, hy, hR⟩ := hY _ ((i : Int), ((p, q), (r, t))) wr hJs (by rw [upto_lengthG]; omega)
      dsimp only at hy
      clear hJs
      have hlt2 : i < len := by omega
      gi_wp2
      refine hR.mono ?_
      rintro e W3 (⟨rfl, hJ3, hk3⟩ | ⟨rfl, hJx3⟩)
      · gi_wp2
        go_roundw
        case rel => exact ⟨i, by omega, rfl, by rw [show len - i = len - (i + 1) + 1 from by omega, upto_succG, HE.out]; exact hJ3, hnx.trans hk3⟩
        case measure => simp [intOf]
      · gi_wp2
        refine bodyPost_ret (results_none rfl _ _ _) rfl ?_
        exact ⟨⟨_, rfl⟩, .inr ⟨_, ⟨len - (i + 1) + 1, by omega, by rw [upto_succG, HE.out]⟩, hJx3⟩⟩
    · obtain rfl : m = 0 := by omega
      gi_wp2
      go_end0
      exact ⟨⟨_, rfl⟩, .inl ⟨_, rfl, hJs⟩⟩

/-- slices.Backward(s): the slice value is boxed; the function value captures the box. -/
theorem back_inG (F : Fence) (n : Nat) (h5 : F.fn 174) (hro : F.round = none) (a : Option Addr) (len cap : Nat) (w : World) :
    CallsIn F n Tryz.prog 174 #[.slice a len cap] w fun e w' => e = .returned (.func (.func 204) #[] #[.pointer (some ⟨w.heap.size, 0, none⟩)]) ∧ w' = w.alloc (.cells #[.slice a len cap] 66) := by
  refine callsIn_of_wp Tryz.func174 rfl h5 ?_ hro
  simp only [Tryz.ntmps174, List.size_toArray, List.length_cons, List.length_nil, Nat.reduceAdd, Nat.reduceSub, Array.replicate_succ, Array.replicate_zero, List.push_toArray, List.append_toArray, List.nil_append, List.cons_append]
  gi_wp2
  go_ret
  exact ⟨rfl, rfl⟩

theorem back_stopsG (F : Fence) (n : Nat) (h7 : F.fn 204) (hro : F.round = none) (hn : 1 ≤ n) (Bs n₀ : Nat) (A : Option Addr) (len cap : Nat) (xs : List Sg) (hcap : len ≤ 9223372036854775807) (hlen : len = xs.length) (w : World) (hBn : Bs < n₀) (hn₀ : n₀ ≤ w.heap.size)
    (hc : w.cell? ⟨Bs, 0, none⟩ = some (.slice A len cap)) (hS : SlS w n₀ (.slice A len cap) xs) :
    SeqStopsK F n Tryz.prog 204 #[.pointer (some ⟨Bs, 0, none⟩)] (fun x : Int × Sg => #[Value.int .i64 x.1, .agg #[.int .i64 x.2.1.1, .int .i64 x.2.1.2, .int .i64 x.2.2.1, .int .i64 x.2.2.2]]) (Below n₀) (fun ys => ys = uptoG (fromEndG xs) len)
      (fun pre => ∃ k, k ≤ len ∧ pre = uptoG (fromEndG xs) k) len w := fun l J Jx W hW _ _ hY h0 =>
  back1_inG F n h7 hro hn l Bs n₀ A len cap xs hcap hlen J Jx hY W hBn ((hW.cell (p := ⟨Bs, 0, none⟩) (Nat.lt_of_lt_of_le hBn hn₀)).trans hc) (hS.below (hW.mono hn₀) (Nat.le_refl _)) h0

/-- the first from the end that fits -/
def Fits (p : Ps) (s : Sg) : Prop := s.1.1 = p.1 ∧ s.1.2 ≤ p.2
instance (p : Ps) (s : Sg) : Decidable (Fits p s) := inferInstanceAs (Decidable (_ ∧ _))
def lookL (l : List Sg) (p : Ps) : Option Ps := (l.reverse.find? (fun s => decide (Fits p s))).map (·.2)
def lookV (r : Option Ps) : Value := match r with
  | some q => .tuple #[.agg #[.int .i64 q.1, .int .i64 q.2], .bool true]
  | none => .tuple #[.agg #[.int .i64 0, .int .i64 0], .bool false]

/-- between two rounds: none that has come fits -/
def LookI (p : Ps) (W1 : World) (pre : List (Int × Sg)) (W : World) : Prop := (∀ x ∈ pre, ¬ Fits p x.2) ∧ Below W1.heap.size W1 W
/-- a round has returned: the last that has come fits, and is told -/
def LookX (p : Ps) (w : World) (cd : Code) (pre : List (Int × Sg)) (W : World) : Prop :=
  (cd = .ret ∧ ∃ ini last, pre = ini ++ [last] ∧ (∀ x ∈ ini, ¬ Fits p x.2) ∧ Fits p last.2 ∧ W.cell? ⟨w.heap.size + 1, 0, none⟩ = some (.int .i64 last.2.2.1) ∧ W.cell? ⟨w.heap.size + 1, 1, none⟩ = some (.int .i64 last.2.2.2) ∧ W.cell? ⟨w.heap.size + 1 + 1, 0, none⟩ = some (.bool true)) ∧ Below w.heap.size w W
def LookA (A : Option Addr) (len c : Nat) (p1 p2 : Int) (w W1 : World) (x : Int × Sg) (a' : Act) (W : World) : Prop :=
  ∃ Bx, W1.heap.size ≤ Bx ∧ Blk W Bx 129 #[.int .i64 x.2.1.1, .int .i64 x.2.1.2, .int .i64 x.2.2.1, .int .i64 x.2.2.2] ∧ a' = { tmps := #[.slice A len c, .agg #[.int .i64 p1, .int .i64 p2], undef, .pointer (some ⟨w.heap.size, 0, none⟩), .pointer (some ⟨w.heap.size + 1, 0, none⟩), .pointer (some ⟨w.heap.size + 1 + 1, 0, none⟩), undef, .pointer (some ⟨Bx, 0, none⟩), .slice A len c, .func (.func 204) #[] #[.pointer (some ⟨w.heap.size + 1 + 1 + 1, 0, none⟩)], .int .i64 x.1, .agg #[.int .i64 x.2.1.1, .int .i64 x.2.1.2, .int .i64 x.2.2.1, .int .i64 x.2.2.2], undef, undef, undef, undef, undef, undef, undef, undef, undef, undef, undef, undef, undef, undef, undef, undef, undef], defers := [] }

theorem upto_fromEndG {α : Type} [Inhabited α] (l : List α) (k : Nat) (hk : k ≤ l.length) : (uptoG (fromEndG l) k).map (·.2) = l.reverse.take k := by
  apply List.ext_getElem?
  intro j
  by_cases hj : j < k
  · have h1 : l.length - 1 - j < l.length := by omega
    simp [uptoG, fromEndG, hj, List.getElem?_take, List.getElem?_reverse (show j < l.length by omega), List.getElem?_eq_getElem h1]
  · rw [List.getElem?_eq_none (by simp [uptoG]; omega), List.getElem?_eq_none (by simp; omega)]
theorem fits_none {α : Type} [Inhabited α] {l : List α} {P : α → Prop} [DecidablePred P] (hi : ∀ x ∈ uptoG (fromEndG l) l.length, ¬ P x.2) :
    l.reverse.find? (fun s => decide (P s)) = none := by
  rw [List.find?_eq_none]
  intro s hs
  have h := upto_fromEndG l l.length (Nat.le_refl _)
  rw [List.take_of_length_le (by simp)] at h
  rw [← h] at hs
  obtain ⟨x, hx, rfl⟩ := List.mem_map.1 hs
  simpa using hi x hx
theorem fits_split {α : Type} [Inhabited α] {l : List α} {P : α → Prop} [DecidablePred P] {k : Nat} (hk : k ≤ l.length) {ini : List (Int × α)} {last : Int × α} (h : uptoG (fromEndG l) k = ini ++ [last]) (hi : ∀ x ∈ ini, ¬ P x.2) (hl : P last.2) :
    l.reverse.find? (fun s => decide (P s)) = some last.2 := by
  have h2 := upto_fromEndG l k hk
  rw [h] at h2
  rw [← List.take_append_drop k l.reverse, ← h2]
  simp only [List.map_append, List.map_cons, List.map_nil, List.append_assoc, List.find?_append]
  rw [List.find?_eq_none.2 (by intro s hs; obtain ⟨x, hx, rfl⟩ := List.mem_map.1 hs; simpa using hi x hx)]
  simp [hl]

set_option maxRecDepth 100000 in
set_option maxHeartbeats 1000000 in
theorem look_in (F : Fence) (n : Nat) (h4 : F.fn 113) (h6 : F.fn 174) (h8 : F.fn 204) (hro : F.round = none) (hn : 3 ≤ n) (v : Value) (l : List Sg) (p1 p2 : Int) (w : World) (hv : SlS w w.heap.size v l) :
    CallsIn F n Tryz.prog 113 #[v, .agg #[.int .i64 p1, .int .i64 p2]] w fun e W' => e = .returned (lookV (lookL l (p1, p2))) ∧ Below w.heap.size w W' := by
  obtain ⟨A, c, rfl, hc, hm⟩ := hv.val
  have h1 : 1 ≤ n := by omega
  refine callsIn_of_wp_marks Tryz.func113 rfl h4 ?_ hro
  simp only [Tryz.ntmps113, List.size_toArray, List.length_cons, List.length_nil, Nat.reduceAdd, Nat.reduceSub, Array.replicate_succ, Array.replicate_zero, List.push_toArray, List.append_toArray, List.nil_append, List.cons_append]
  gi_wp2_with (gi_at_call 174; refine (back_inG F (n - 1) h6 hro _ _ _ _).mono ?_; rintro e w' ⟨rfl, rfl⟩)
  obtain ⟨W1, hW1⟩ : ∃ W1, W1 = ((((w.alloc (Obj.cells #[Value.int IntKind.i64 p1, Value.int IntKind.i64 p2] 68)).alloc (Obj.cells #[Value.int IntKind.i64 0, Value.int IntKind.i64 0] 68)).alloc (Obj.cells #[Value.bool false] 4)).alloc (Obj.cells #[Value.slice A l.length c] 66)) := ⟨_, rfl⟩
  rw [← hW1]
  have hs1 : w.heap.size + 1 + 1 + 1 < W1.heap.size := by rw [hW1]; simp
  have hB1 : Below w.heap.size w W1 := by rw [hW1]; (repeat (first | with_reducible assumption | with_reducible exact Below.refl _ _ | with_reducible refine Below.setCell ?_ (by first | omega | (simp; done) | (simp; omega)) _ | with_reducible refine Below.alloc ?_ (by first | omega | (simp; done) | (simp; omega)) _ | with_reducible refine below_drewN ?_ _ | with_reducible refine Below.drew ?_))
  have k0 : W1.cell? ⟨w.heap.size, 0, none⟩ = some (.int .i64 p1) := by rw [hW1]; simp [go_sem]
  have k1 : W1.cell? ⟨w.heap.size, 1, none⟩ = some (.int .i64 p2) := by rw [hW1]; simp [go_sem]
  have r0 : W1.cell? ⟨w.heap.size + 1, 0, none⟩ = some (.int .i64 0) := by rw [hW1]; simp [go_sem]
  have r1 : W1.cell? ⟨w.heap.size + 1, 1, none⟩ = some (.int .i64 0) := by rw [hW1]; simp [go_sem]
  have r2 : W1.cell? ⟨w.heap.size + 1 + 1, 0, none⟩ = some (.bool false) := by rw [hW1]; simp [go_sem]
  have z0 : ∀ j, W1.frozen? ⟨w.heap.size + 1, j, none⟩ = false := fun j => by rw [hW1]; simp [go_sem]
  have z1 : ∀ j, W1.frozen? ⟨w.heap.size + 1 + 1, j, none⟩ = false := fun j => by rw [hW1]; simp [go_sem]
  have bs : W1.cell? ⟨w.heap.size + 1 + 1 + 1, 0, none⟩ = some (.slice A l.length c) := by rw [hW1]; simp [go_sem]
  have HW1 := Lib.hid hW1
  clear hW1
  have hvW : SlS W1 W1.heap.size (.slice A l.length c) l := hv.ext hB1
  refine wpIn_rangeFunc_ownH hro h1 (gf := 204) (lb := #[.pointer (some ⟨w.heap.size + 1 + 1 + 1, 0, none⟩)]) rfl h8 (enters_of Tryz.func204 (by kernel_rfl) rfl)
    (back_stopsG F (n - 1) h8 hro (by omega) (w.heap.size + 1 + 1 + 1) W1.heap.size A l.length c l (by omega) rfl W1 (by omega) (Nat.le_refl _) bs hvW) belowK_t (belowK_b (Nat.le_refl _)) (Below.refl _ _) (fun _ => rfl)
    (LookI (p1, p2) W1) (LookX (p1, p2) w)
    (OwnFrom.and (ownFrom_pure _ _) (ownFrom_below (Nat.le_refl _) (Nat.le_refl _)))
    (fun cd => OwnFrom.and (Own.from (fun s A B row hs hg hr => by obtain ⟨hc, ini, last, e1, e2, e3, e4, e5, e6⟩ := hs; exact ⟨hc, ini, last, e1, e2, e3, cell_kept e4 hg hr, cell_kept e5 hg hr, cell_kept e6 hg hr⟩) _) (ownFrom_below (Nat.le_refl _) (by omega)))
    ⟨fun x hx => by simp at hx, Below.refl _ _⟩
    (LookA A l.length c p1 p2 w W1)
    (fun x a' _ X Y row hs hg hr => by obtain ⟨Bx, h1, h2, h3⟩ := hs; exact ⟨Bx, h1, (hg.block Bx h2.lt (fun e => by obtain ⟨_, o, ho, hc⟩ := hr Bx e.symm; unfold Blk at h2; rw [h2] at ho; cases ho; cases hc)).trans h2, h3⟩)
    ?assign ?body ?done ?stop
  case assign =>
    rintro lp pre x W K ⟨hp, hB⟩ hK
    have hsz := hB.size
    gi_wp2
    exact hK _ _ ((KeepsOthers.alloc _ _).from _) ((Below.refl _ W).alloc hB.size _) ⟨hp, hB.alloc hB.size _⟩ ⟨W.heap.size, hB.size, Blk.new _ _ _, rfl⟩
  case body =>
    rintro lp pre ⟨xi, ⟨⟨a, b⟩, ⟨d, f⟩⟩⟩ a' W hl ⟨r, hr⟩ ⟨hp, hB⟩ ⟨Bx, hBx, bX, rfl⟩ hlt
    have K0 : W.cell? ⟨w.heap.size, 0, none⟩ = some (.int .i64 p1) := (hB.cell (p := ⟨w.heap.size, 0, none⟩) (by simp; omega)).trans k0
    have K1 : W.cell? ⟨w.heap.size, 1, none⟩ = some (.int .i64 p2) := (hB.cell (p := ⟨w.heap.size, 1, none⟩) (by simp; omega)).trans k1
    have R0 : W.cell? ⟨w.heap.size + 1, 0, none⟩ = some (.int .i64 0) := (hB.cell (p := ⟨w.heap.size + 1, 0, none⟩) (by simp; omega)).trans r0
    have R1 : W.cell? ⟨w.heap.size + 1, 1, none⟩ = some (.int .i64 0) := (hB.cell (p := ⟨w.heap.size + 1, 1, none⟩) (by simp; omega)).trans r1
    have R2 : W.cell? ⟨w.heap.size + 1 + 1, 0, none⟩ = some (.bool false) := (hB.cell (p := ⟨w.heap.size + 1 + 1, 0, none⟩) (by simp; omega)).trans r2
    have Z0 : ∀ j, W.frozen? ⟨w.heap.size + 1, j, none⟩ = false := fun j => (hB.frozen (p := ⟨w.heap.size + 1, j, none⟩) (by simp; omega)).trans (z0 j)
    have Z1 : ∀ j, W.frozen? ⟨w.heap.size + 1 + 1, j, none⟩ = false := fun j => (hB.frozen (p := ⟨w.heap.size + 1 + 1, j, none⟩) (by simp; omega)).trans (z1 j)
    have X0 : W.cell? ⟨Bx, 0, none⟩ = some (.int .i64 a) := bX.cell 0
    have X1 : W.cell? ⟨Bx, 1, none⟩ = some (.int .i64 b) := bX.cell 1
    have X2 : W.cell? ⟨Bx, 2, none⟩ = some (.int .i64 d) := bX.cell 2
    have X3 : W.cell? ⟨Bx, 3, none⟩ = some (.int .i64 f) := bX.cell 3
    by_cases hf : Fits (p1, p2) ((a, b), (d, f))
    · have HF := Lib.hid hf
      obtain ⟨f1, f2⟩ := hf
      dsimp only at f1 f2
      have d1 : (a == p1) = true := by simpa using f1
      clear f1
      gi_wp2
      have y0 := World.cell?_setCell_same' W ⟨w.heap.size + 1, 0, none⟩ (.int .i64 d) (by rw [R0]; rfl)
      exact ⟨((KeepsOthers.setCell _ _ _).trans ((KeepsOthers.setCell _ _ _).trans (KeepsOthers.setCell _ _ _))).from _, ⟨rfl, pre, _, rfl, hp, HF.out, by simp [go_sem, R0, R1, R2, y0], by simp [go_sem, R0, R1, R2, y0], by simp [go_sem, R0, R1, R2, y0]⟩, by have hz := hB.size; have hB3 := hB1.trans (hB.mono (by omega)); (repeat (first | with_reducible assumption | with_reducible exact Below.refl _ _ | with_reducible refine Below.setCell ?_ (by first | omega | (simp; done) | (simp; omega)) _ | with_reducible refine Below.alloc ?_ (by first | omega | (simp; done) | (simp; omega)) _ | with_reducible refine below_drewN ?_ _ | with_reducible refine Below.drew ?_ | with_reducible refine Below.trans ?_ (Below.mono hB3 (by first | omega | (simp; done) | (simp; omega)))))⟩
    · by_cases f1 : a = p1
      · have d1 : (a == p1) = true := by simpa using f1
        have f2 : ¬ b ≤ p2 := fun h => hf ⟨f1, h⟩
        have d2 : decide (b ≤ p2) = false := by simpa using f2
        have HF := Lib.hid hf
        clear f1 hf
        gi_wp2
        exact ⟨KeepsFrom.refl _ _, Below.refl _ _, fun x hx => (List.mem_append.1 hx).elim (hp x) (fun e => by simp at e; subst e; exact HF.out), hB⟩
      · have d1 : (a == p1) = false := by simpa using f1
        have HF := Lib.hid hf
        clear hf
        gi_wp2
        exact ⟨KeepsFrom.refl _ _, Below.refl _ _, fun x hx => (List.mem_append.1 hx).elim (hp x) (fun e => by simp at e; subst e; exact HF.out), hB⟩
  case done =>
    rintro D ys W hD rfl ⟨hne, hB⟩ hK
    have R0 : W.cell? ⟨w.heap.size + 1, 0, none⟩ = some (.int .i64 0) := (hB.cell (p := ⟨w.heap.size + 1, 0, none⟩) (by simp; omega)).trans r0
    have R1 : W.cell? ⟨w.heap.size + 1, 1, none⟩ = some (.int .i64 0) := (hB.cell (p := ⟨w.heap.size + 1, 1, none⟩) (by simp; omega)).trans r1
    have R2 : W.cell? ⟨w.heap.size + 1 + 1, 0, none⟩ = some (.bool false) := (hB.cell (p := ⟨w.heap.size + 1 + 1, 0, none⟩) (by simp; omega)).trans r2
    have Z0 : ∀ j, W.frozen? ⟨w.heap.size + 1, j, none⟩ = false := fun j => (hB.frozen (p := ⟨w.heap.size + 1, j, none⟩) (by simp; omega)).trans (z0 j)
    have Z1 : ∀ j, W.frozen? ⟨w.heap.size + 1 + 1, j, none⟩ = false := fun j => (hB.frozen (p := ⟨w.heap.size + 1 + 1, j, none⟩) (by simp; omega)).trans (z1 j)
    gi_wp2
    have hK' := ((KeepsOthers.setCell W ⟨w.heap.size + 1, 0, none⟩ (.int .i64 0)).trans ((KeepsOthers.setCell _ ⟨w.heap.size + 1, 1, none⟩ (.int .i64 0)).trans (KeepsOthers.setCell _ ⟨w.heap.size + 1 + 1, 0, none⟩ (.bool false)))).same D _ hK rfl
    refine ⟨by simp, .inl ⟨_, _, rfl, run_takeDeferred hK', ?_⟩⟩
    obtain ⟨W3, hW3⟩ : ∃ W3, W3 = ((W.setCell ⟨w.heap.size + 1, 0, none⟩ (.int .i64 0)).setCell ⟨w.heap.size + 1, 1, none⟩ (.int .i64 0)).setCell ⟨w.heap.size + 1 + 1, 0, none⟩ (.bool false) := ⟨_, rfl⟩
    have hB3 : Below w.heap.size w W3 := by rw [hW3]; have hB4 := hB1.trans (hB.mono (by omega)); have hz := hB4.size; (repeat (first | with_reducible assumption | with_reducible exact Below.refl _ _ | with_reducible refine Below.setCell ?_ (by first | omega | (simp; done) | (simp; omega)) _ | with_reducible refine Below.alloc ?_ (by first | omega | (simp; done) | (simp; omega)) _ | with_reducible refine below_drewN ?_ _ | with_reducible refine Below.drew ?_ | with_reducible refine Below.trans ?_ (Below.mono hB4 (by first | omega | (simp; done) | (simp; omega)))))
    have c0 : W3.cell? ⟨w.heap.size + 1, 0, none⟩ = some (.int .i64 0) := by rw [hW3]; have y0 := World.cell?_setCell_same' W ⟨w.heap.size + 1, 0, none⟩ (.int .i64 0) (by rw [R0]; rfl); simp [go_sem, R1, R2, y0]
    have c1 : W3.cell? ⟨w.heap.size + 1, 1, none⟩ = some (.int .i64 0) := by rw [hW3]; simp [go_sem, R0, R1, R2]
    have c2 : W3.cell? ⟨w.heap.size + 1 + 1, 0, none⟩ = some (.bool false) := by rw [hW3]; simp [go_sem, R0, R1, R2]
    rw [← hW3] at hK' ⊢
    have y0 := cell_kept c0 (grownBy_putObj' _ D (.deferred none)) (fun r e => by cases e; exact ⟨_, hK', rfl⟩)
    have y1 := cell_kept c1 (grownBy_putObj' _ D (.deferred none)) (fun r e => by cases e; exact ⟨_, hK', rfl⟩)
    have y2 := cell_kept c2 (grownBy_putObj' _ D (.deferred none)) (fun r e => by cases e; exact ⟨_, hK', rfl⟩)
    have hf : lookL l (p1, p2) = none := by unfold lookL; rw [fits_none hne]; rfl
    refine ⟨lookV (lookL l (p1, p2)), ?_, rfl, hB3.trans (belowK_b (w := w) (Nat.le_refl _) W3 D _ _ (by omega) hK' rfl rfl)⟩
    rw [hf]
    simp [results, Tryz.f113, go_sem, y0, y1, y2, lookV]
  case stop =>
    rintro D cd pre W hD ⟨k, hk, rfl⟩ ⟨⟨rfl, ini, last, e1, e2, e3, c0, c1, c2⟩, hB⟩ hK
    gi_wp2
    refine ⟨by simp, .inl ⟨_, _, rfl, run_takeDeferred hK, ?_⟩⟩
    have y0 := cell_kept c0 (grownBy_putObj' _ D (.deferred none)) (fun r e => by cases e; exact ⟨_, hK, rfl⟩)
    have y1 := cell_kept c1 (grownBy_putObj' _ D (.deferred none)) (fun r e => by cases e; exact ⟨_, hK, rfl⟩)
    have y2 := cell_kept c2 (grownBy_putObj' _ D (.deferred none)) (fun r e => by cases e; exact ⟨_, hK, rfl⟩)
    have hf : lookL l (p1, p2) = some last.2.2 := by unfold lookL; rw [fits_split hk e1 e2 e3]; rfl
    refine ⟨lookV (lookL l (p1, p2)), ?_, rfl, hB.trans (belowK_b (w := w) (Nat.le_refl _) W D _ _ (by omega) hK rfl rfl)⟩
    rw [hf]
    simp [results, Tryz.f113, go_sem, y0, y1, y2, lookV]

theorem imLook_any (v : Value) (l : List Sg) (p1 p2 : Int) (w : World) (hv : SlS w w.heap.size v l) :
    Calls Tryz.prog 113 #[v, .agg #[.int .i64 p1, .int .i64 p2]] w fun e W' => e = .returned (lookV (lookL l (p1, p2))) ∧ Below w.heap.size w W' :=
  (callsIn_wide (n := 3)).1 (look_in _ 3 trivial trivial trivial rfl (Nat.le_refl _) v l p1 p2 w hv)
end Go.Proofs.YtgfbjpmbaibnoaaGreatDoor


/- Segments that are ok: the program's and the reference's test, as one plain test on lists. -/
namespace Go.Proofs.YtgfbjpmbaibnoaaGreatDoor
set_option maxRecDepth 100000
set_option linter.unusedSimpArgs false
set_option linter.unusedVariables false
open Go.RowKit

/-- A place of a text of few lines. -/
def PosOk (p : Ps) : Prop := 0 ≤ p.1 ∧ p.1 < 16 ∧ 0 ≤ p.2 ∧ p.2 < 120
instance (p : Ps) : Decidable (PosOk p) := inferInstanceAs (Decidable (_ ∧ _))
def Less (p q : Ps) : Prop := p.1 < q.1 ∨ p.1 = q.1 ∧ p.2 < q.2
instance (p q : Ps) : Decidable (Less p q) := inferInstanceAs (Decidable (_ ∨ _))
/-- What is asked of the element i. -/
def GoodAt (l : List Sg) (i : Nat) : Prop := ∀ s, l[i]? = some s → PosOk s.1 ∧ PosOk s.2 ∧ ∀ r, 0 < i → l[i - 1]? = some r → Less r.1 s.1
def SegsOk (l : List Sg) : Prop := (∀ i, i < l.length → GoodAt l i) ∧ l.length ≤ 1280
open Classical in
noncomputable def segsOkB (l : List Sg) : Bool := decide (SegsOk l)
theorem segsOkB_yes {l : List Sg} (h : SegsOk l) : segsOkB l = true := by unfold segsOkB; simpa using h
theorem segsOkB_no {l : List Sg} (h : ¬ SegsOk l) : segsOkB l = false := by unfold segsOkB; simpa using h
theorem segsOkB_iff {l : List Sg} : segsOkB l = true ↔ SegsOk l := by unfold segsOkB; simp

theorem goodAt_succ {l : List Sg} {k : Nat} {p q r t p2 q2 r2 t2 : Int} (h : ∀ j, j < k + 1 → GoodAt l j) (hg : l[k + 1]? = some ((p, q), (r, t))) (hg2 : l[k]? = some ((p2, q2), (r2, t2))) (h1 : PosOk (p, q)) (h2 : PosOk (r, t)) (h3 : Less (p2, q2) (p, q)) : ∀ j, j < k + 1 + 1 → GoodAt l j := by
  intro j hj
  by_cases e : j = k + 1
  · subst e
    intro s hs
    rw [hg] at hs
    obtain rfl := Option.some.inj hs
    refine ⟨h1, h2, fun r _ hr => ?_⟩
    rw [show k + 1 - 1 = k from rfl, hg2] at hr
    obtain rfl := Option.some.inj hr
    exact h3
  · exact h j (by omega)

theorem goodAt_first {l : List Sg} {i : Nat} (hi : i < 1) {p q r t : Int} (hg : l[i]? = some ((p, q), (r, t))) (h1 : PosOk (p, q)) (h2 : PosOk (r, t)) : ∀ j, j < i + 1 → GoodAt l j := by
  intro j hj s hs
  obtain rfl : j = i := by omega
  rw [hg] at hs
  obtain rfl := Option.some.inj hs
  exact ⟨h1, h2, fun r h => absurd h (by omega)⟩

theorem in_any (n lo hi : Int) (w : World) : Calls Tryz.prog 163 #[.int .i64 n, .int .i64 lo, .int .i64 hi] w fun e w' => e = .returned (.bool (decide (lo ≤ n ∧ n ≤ hi))) ∧ w = w' := by
  by_cases h1 : lo ≤ n
  · go_enter Tryz.func163, Tryz.ntmps163
    go_wp2
    go_ret
    exact ⟨ret_bool (by first | rfl | (rw [Bool.eq_iff_iff]; (try simp only [decide_eq_true_eq]); first | (simp; done) | (simp; omega))), rfl⟩
  · have h1' : decide (lo ≤ n) = false := by simpa using h1
    go_enter Tryz.func163, Tryz.ntmps163
    go_wp2
    go_ret
    exact ⟨ret_bool (by first | rfl | (rw [Bool.eq_iff_iff]; (try simp only [decide_eq_true_eq]); first | (simp; done) | (simp; omega))), rfl⟩

theorem imPosOk_any (a b : Int) (w : World) : Calls Tryz.prog 122 #[.agg #[.int .i64 a, .int .i64 b]] w fun e w' => e = .returned (.bool (decide (PosOk (a, b)))) ∧ Below w.heap.size w w' := by
  by_cases h1 : 0 ≤ a ∧ a ≤ 15
  · have c1 := in_any a 0 15
    rw [decide_eq_true h1] at c1
    have C1 := Lib.hid c1
    clear c1
    go_enter Tryz.func122, Tryz.ntmps122
    go_wp2_with fail
    refine (C1.out _).mono ?_
    rintro e _ ⟨rfl, rfl⟩
    go_wp2_with fail
    refine (in_any _ _ _ _).mono ?_
    rintro e _ ⟨rfl, rfl⟩
    go_wp2_with fail
    go_ret
    exact ⟨ret_bool (by first | rfl | (rw [Bool.eq_iff_iff]; (try simp only [decide_eq_true_eq]); first | (simp [PosOk]; done) | (simp [PosOk]; omega))), by (repeat (first | with_reducible assumption | with_reducible exact Below.refl _ _ | with_reducible refine Below.setCell ?_ (by first | omega | (simp; done) | (simp; omega)) _ | with_reducible refine Below.alloc ?_ (by first | omega | (simp; done) | (simp; omega)) _ | with_reducible refine below_drewN ?_ _ | with_reducible refine Below.drew ?_))⟩
  · have c1 := in_any a 0 15
    rw [decide_eq_false h1] at c1
    have C1 := Lib.hid c1
    clear c1
    go_enter Tryz.func122, Tryz.ntmps122
    go_wp2_with fail
    refine (C1.out _).mono ?_
    rintro e _ ⟨rfl, rfl⟩
    go_wp2_with fail
    go_ret
    exact ⟨ret_bool (by first | rfl | (rw [Bool.eq_iff_iff]; (try simp only [decide_eq_true_eq]); first | (simp [PosOk]; done) | (simp [PosOk]; omega))), by (repeat (first | with_reducible assumption | with_reducible exact Below.refl _ _ | with_reducible refine Below.setCell ?_ (by first | omega | (simp; done) | (simp; omega)) _ | with_reducible refine Below.alloc ?_ (by first | omega | (simp; done) | (simp; omega)) _ | with_reducible refine below_drewN ?_ _ | with_reducible refine Below.drew ?_))⟩

theorem spPosOk_any (a b : Int) (w : World) : Calls Tryz.prog 116 #[.agg #[.int .i64 a, .int .i64 b]] w fun e w' => e = .returned (.bool (decide (PosOk (a, b)))) ∧ Below w.heap.size w w' := by
  by_cases h1 : 0 ≤ a
  rotate_left
  · have d1 : decide (0 ≤ a) = false := by simpa using h1
    go_enter Tryz.func116, Tryz.ntmps116
    go_wp2
    go_ret
    exact ⟨ret_bool (by first | rfl | (rw [Bool.eq_iff_iff]; (try simp only [decide_eq_true_eq]); first | (simp [PosOk]; done) | (simp [PosOk]; omega))), by (repeat (first | with_reducible assumption | with_reducible exact Below.refl _ _ | with_reducible refine Below.setCell ?_ (by first | omega | (simp; done) | (simp; omega)) _ | with_reducible refine Below.alloc ?_ (by first | omega | (simp; done) | (simp; omega)) _ | with_reducible refine below_drewN ?_ _ | with_reducible refine Below.drew ?_))⟩
  by_cases h2 : a < 16
  rotate_left
  · have d1 : decide (a < 16) = false := by simpa using h2
    go_enter Tryz.func116, Tryz.ntmps116
    go_wp2
    go_ret
    exact ⟨ret_bool (by first | rfl | (rw [Bool.eq_iff_iff]; (try simp only [decide_eq_true_eq]); first | (simp [PosOk]; done) | (simp [PosOk]; omega))), by (repeat (first | with_reducible assumption | with_reducible exact Below.refl _ _ | with_reducible refine Below.setCell ?_ (by first | omega | (simp; done) | (simp; omega)) _ | with_reducible refine Below.alloc ?_ (by first | omega | (simp; done) | (simp; omega)) _ | with_reducible refine below_drewN ?_ _ | with_reducible refine Below.drew ?_))⟩
  by_cases h3 : 0 ≤ b
  rotate_left
  · have d1 : decide (0 ≤ b) = false := by simpa using h3
    go_enter Tryz.func116, Tryz.ntmps116
    go_wp2
    go_ret
    exact ⟨ret_bool (by first | rfl | (rw [Bool.eq_iff_iff]; (try simp only [decide_eq_true_eq]); first | (simp [PosOk]; done) | (simp [PosOk]; omega))), by (repeat (first | with_reducible assumption | with_reducible exact Below.refl _ _ | with_reducible refine Below.setCell ?_ (by first | omega | (simp; done) | (simp; omega)) _ | with_reducible refine Below.alloc ?_ (by first | omega | (simp; done) | (simp; omega)) _ | with_reducible refine below_drewN ?_ _ | with_reducible refine Below.drew ?_))⟩
  go_enter Tryz.func116, Tryz.ntmps116
  go_wp2
  go_ret
  exact ⟨ret_bool (by first | rfl | (rw [Bool.eq_iff_iff]; (try simp only [decide_eq_true_eq]); first | (simp [PosOk]; done) | (simp [PosOk]; omega))), by (repeat (first | with_reducible assumption | with_reducible exact Below.refl _ _ | with_reducible refine Below.setCell ?_ (by first | omega | (simp; done) | (simp; omega)) _ | with_reducible refine Below.alloc ?_ (by first | omega | (simp; done) | (simp; omega)) _ | with_reducible refine below_drewN ?_ _ | with_reducible refine Below.drew ?_))⟩

theorem imPosLess_any (a b c d : Int) (w : World) : Calls Tryz.prog 123 #[.agg #[.int .i64 a, .int .i64 b], .agg #[.int .i64 c, .int .i64 d]] w fun e w' => e = .returned (.bool (decide (Less (a, b) (c, d)))) ∧ Below w.heap.size w w' := by
  by_cases h1 : a < c
  · go_enter Tryz.func123, Tryz.ntmps123
    go_wp2
    go_ret
    exact ⟨ret_bool (by first | rfl | (rw [Bool.eq_iff_iff]; (try simp only [decide_eq_true_eq]); first | (simp [Less]; done) | (simp [Less]; omega))), by (repeat (first | with_reducible assumption | with_reducible exact Below.refl _ _ | with_reducible refine Below.setCell ?_ (by first | omega | (simp; done) | (simp; omega)) _ | with_reducible refine Below.alloc ?_ (by first | omega | (simp; done) | (simp; omega)) _ | with_reducible refine below_drewN ?_ _ | with_reducible refine Below.drew ?_))⟩
  have d1 : decide (a < c) = false := by simpa using h1
  by_cases h2 : a = c
  · subst h2
    go_enter Tryz.func123, Tryz.ntmps123
    go_wp2
    go_ret
    exact ⟨ret_bool (by first | rfl | (rw [Bool.eq_iff_iff]; (try simp only [decide_eq_true_eq]); first | (simp [Less]; done) | (simp [Less]; omega))), by (repeat (first | with_reducible assumption | with_reducible exact Below.refl _ _ | with_reducible refine Below.setCell ?_ (by first | omega | (simp; done) | (simp; omega)) _ | with_reducible refine Below.alloc ?_ (by first | omega | (simp; done) | (simp; omega)) _ | with_reducible refine below_drewN ?_ _ | with_reducible refine Below.drew ?_))⟩
  · have d2 : (a == c) = false := by simpa using h2
    go_enter Tryz.func123, Tryz.ntmps123
    go_wp2
    go_ret
    exact ⟨ret_bool (by first | rfl | (rw [Bool.eq_iff_iff]; (try simp only [decide_eq_true_eq]); first | (simp [Less]; done) | (simp [Less]; omega))), by (repeat (first | with_reducible assumption | with_reducible exact Below.refl _ _ | with_reducible refine Below.setCell ?_ (by first | omega | (simp; done) | (simp; omega)) _ | with_reducible refine Below.alloc ?_ (by first | omega | (simp; done) | (simp; omega)) _ | with_reducible refine below_drewN ?_ _ | with_reducible refine Below.drew ?_))⟩
theorem spPosLess_any (a b c d : Int) (w : World) : Calls Tryz.prog 117 #[.agg #[.int .i64 a, .int .i64 b], .agg #[.int .i64 c, .int .i64 d]] w fun e w' => e = .returned (.bool (decide (Less (a, b) (c, d)))) ∧ Below w.heap.size w w' := by
  by_cases h1 : a < c
  · go_enter Tryz.func117, Tryz.ntmps117
    go_wp2
    go_ret
    exact ⟨ret_bool (by first | rfl | (rw [Bool.eq_iff_iff]; (try simp only [decide_eq_true_eq]); first | (simp [Less]; done) | (simp [Less]; omega))), by (repeat (first | with_reducible assumption | with_reducible exact Below.refl _ _ | with_reducible refine Below.setCell ?_ (by first | omega | (simp; done) | (simp; omega)) _ | with_reducible refine Below.alloc ?_ (by first | omega | (simp; done) | (simp; omega)) _ | with_reducible refine below_drewN ?_ _ | with_reducible refine Below.drew ?_))⟩
  have d1 : decide (a < c) = false := by simpa using h1
  by_cases h2 : a = c
  · subst h2
    go_enter Tryz.func117, Tryz.ntmps117
    go_wp2
    go_ret
    exact ⟨ret_bool (by first | rfl | (rw [Bool.eq_iff_iff]; (try simp only [decide_eq_true_eq]); first | (simp [Less]; done) | (simp [Less]; omega))), by (repeat (first | with_reducible assumption | with_reducible exact Below.refl _ _ | with_reducible refine Below.setCell ?_ (by first | omega | (simp; done) | (simp; omega)) _ | with_reducible refine Below.alloc ?_ (by first | omega | (simp; done) | (simp; omega)) _ | with_reducible refine below_drewN ?_ _ | with_reducible refine Below.drew ?_))⟩
  · have d2 : (a == c) = false := by simpa using h2
    go_enter Tryz.func117, Tryz.ntmps117
    go_wp2
    go_ret
    exact ⟨ret_bool (by first | rfl | (rw [Bool.eq_iff_iff]; (try simp only [decide_eq_true_eq]); first | (simp [Less]; done) | (simp [Less]; omega))), by (repeat (first | with_reducible assumption | with_reducible exact Below.refl _ _ | with_reducible refine Below.setCell ?_ (by first | omega | (simp; done) | (simp; omega)) _ | with_reducible refine Below.alloc ?_ (by first | omega | (simp; done) | (simp; omega)) _ | with_reducible refine below_drewN ?_ _ | with_reducible refine Below.drew ?_))⟩

theorem spSegsOk_any (W : World) (v : Value) (l : List Sg) (hv : SlS W W.heap.size v l) : Calls Tryz.prog 47 #[v] W fun e w' => e = .returned (.bool (segsOkB l)) ∧ Below W.heap.size W w' := by
  obtain ⟨A, c, rfl, hc, hm⟩ := hv.val
  go_enter Tryz.func47, Tryz.ntmps47
  go_wp2
  go_loopg [3] l.length (fun k p wr => ∃ i : Nat, k = l.length - i ∧ i ≤ l.length ∧ p = .int .i64 i ∧ (∀ j, j < i → GoodAt l j) ∧ Below W.heap.size W wr)
  case atStart => exact ⟨0, by omega, by omega, rfl, fun j h => absurd h (by omega), Below.refl _ _⟩
  case round =>
    obtain ⟨i, hk, hin, rfl, hij, hbl⟩ := hrel
    have HK := Lib.hid (And.intro hk hij)
    clear hk hij
    by_cases hlt : i < l.length
    rotate_left
    · have hlen : ¬ l.length ≤ 1280 → ¬ SegsOk l := fun h g => h g.2
      go_wp2
      go_ret
      refine ⟨ret_bool ?_, hbl⟩
      have hk := HK.out.2
      rw [Bool.eq_iff_iff, segsOkB_iff]
      simp only [decide_eq_true_eq]
      exact ⟨fun h => ⟨fun j hj => hk j (by omega), by omega⟩, fun h => by have := h.2; omega⟩
    obtain ⟨b, o, p, q, r, t, rfl, hb, hg, f0, f1, f2, f3⟩ := sg_at hv hlt
    have HG := Lib.hid hg
    clear hg
    obtain ⟨x, rfl⟩ := Later.ex hbl
    have c1 := spPosOk_any p q
    by_cases h1 : PosOk (p, q)
    rotate_left
    · rw [decide_eq_false h1] at c1
      have C1 := Lib.hid c1
      have H1 := Lib.hid h1
      clear c1 h1
      go_wp2
      refine wp_region_later hbl (by kernel_rfl) (by kernel_rfl) ?_
      repeat (go_big_quiet_step ((go_at_call 116; exact later_call (Nat.le_refl _) (C1.out _))))
      refine wpQuiet_nil ?_
      rintro _ ⟨y, rfl⟩
      have hy := y.ok
      go_wp2
      go_ret
      exact ⟨ret_bool (by rw [segsOkB_no]; exact fun h => H1.out (h.1 i hlt _ HG.out).1), hy⟩
    rw [decide_eq_true h1] at c1
    have C1 := Lib.hid c1
    have H1 := Lib.hid h1
    clear c1 h1
    have c2 := spPosOk_any r t
    by_cases h2 : PosOk (r, t)
    rotate_left
    · rw [decide_eq_false h2] at c2
      have C2 := Lib.hid c2
      have H2 := Lib.hid h2
      clear c2 h2
      go_wp2
      refine wp_region_later hbl (by kernel_rfl) (by kernel_rfl) ?_
      repeat (go_big_quiet_step ((go_at_call 116; first | with_reducible exact later_call (Nat.le_refl _) (C1.out _) | with_reducible exact later_call (Nat.le_refl _) (C2.out _))))
      refine wpQuiet_nil ?_
      rintro _ ⟨y, rfl⟩
      have hy := y.ok
      go_wp2
      go_ret
      exact ⟨ret_bool (by rw [segsOkB_no]; exact fun h => H2.out (h.1 i hlt _ HG.out).2.1), hy⟩
    rw [decide_eq_true h2] at c2
    have C2 := Lib.hid c2
    have H2 := Lib.hid h2
    clear c2 h2
    by_cases hi0 : i = 0
    · have hi1 : i < 1 := by omega
      have d1 : decide ((0 : Int) < (i : Int)) = false := by first | (simp; done) | (simp; omega)
      have d2 : decide (0 < i) = false := by first | (simp; done) | (simp; omega)
      clear hi0
      go_wp2
      refine wp_region_later hbl (by kernel_rfl) (by kernel_rfl) ?_
      repeat (go_big_quiet_step ((go_at_call 116; first | with_reducible exact later_call (Nat.le_refl _) (C1.out _) | with_reducible exact later_call (Nat.le_refl _) (C2.out _))))
      refine wpQuiet_nil ?_
      rintro _ ⟨y, rfl⟩
      have hy := y.ok
      go_wp2
      go_roundg (l.length - (i + 1))
      case measure => have := HK.out; omega
      case rel => exact ⟨i + 1, rfl, by omega, by go_num, goodAt_first hi1 HG.out H1.out H2.out, hy⟩
    obtain ⟨k, rfl⟩ : ∃ k, i = k + 1 := ⟨i - 1, by omega⟩
    obtain ⟨b2, o2, p2, q2, r2, t2, hA2, hb2, hg2, e0, e1, e2, e3⟩ := sg_at hv (i := k) (by omega)
    cases hA2
    have HG2 := Lib.hid hg2
    clear hg2 hi0
    have d1 : decide ((0 : Int) < (k : Int) + 1) = true := by first | (simp; done) | (simp; omega)
    have c3 := spPosLess_any p2 q2 p q
    by_cases h3 : Less (p2, q2) (p, q)
    all_goals
      rw [show decide (Less (p2, q2) (p, q)) = _ by first | exact decide_eq_true h3 | exact decide_eq_false h3] at c3
      have C3 := Lib.hid c3
      have H3 := Lib.hid h3
      clear c3 h3
      go_wp2
      refine wp_region_later hbl (by kernel_rfl) (by kernel_rfl) ?_
      repeat (go_big_quiet_step ((first | (go_at_call 116; first | with_reducible exact later_call (Nat.le_refl _) (C1.out _) | with_reducible exact later_call (Nat.le_refl _) (C2.out _)) | (go_at_call 117; exact later_call (Nat.le_refl _) (C3.out _)))))
      refine wpQuiet_nil ?_
      rintro _ ⟨y, rfl⟩
      have hy := y.ok
      go_wp2
    · go_roundg (l.length - (k + 1 + 1))
      case measure => have := HK.out; omega
      case rel => exact ⟨k + 1 + 1, rfl, by omega, by go_num, goodAt_succ HK.out.2 HG.out HG2.out H1.out H2.out H3.out, hy⟩
    · go_ret
      exact ⟨ret_bool (by rw [segsOkB_no]; exact fun h => H3.out ((h.1 (k + 1) hlt _ HG.out).2.2 _ (by omega) HG2.out)), hy⟩
theorem imSegsOk_any (W : World) (v : Value) (l : List Sg) (hv : SlS W W.heap.size v l) : Calls Tryz.prog 51 #[v] W fun e w' => e = .returned (.bool (segsOkB l)) ∧ Below W.heap.size W w' := by
  obtain ⟨A, c, rfl, hc, hm⟩ := hv.val
  go_enter Tryz.func51, Tryz.ntmps51
  go_wp2
  go_loopg [7] l.length (fun k p wr => ∃ i : Nat, k = l.length - i ∧ i ≤ l.length ∧ p = .int .i64 i ∧ (∀ j, j < i → GoodAt l j) ∧ Below W.heap.size W wr)
  case atStart => exact ⟨0, by omega, by omega, rfl, fun j h => absurd h (by omega), Below.refl _ _⟩
  case round =>
    obtain ⟨i, hk, hin, rfl, hij, hbl⟩ := hrel
    have HK := Lib.hid (And.intro hk hij)
    clear hk hij
    by_cases hlt : i < l.length
    rotate_left
    · have hlen : ¬ l.length ≤ 1280 → ¬ SegsOk l := fun h g => h g.2
      go_wp2
      go_ret
      refine ⟨ret_bool ?_, hbl⟩
      have hk := HK.out.2
      rw [Bool.eq_iff_iff, segsOkB_iff]
      simp only [decide_eq_true_eq]
      exact ⟨fun h => ⟨fun j hj => hk j (by omega), by omega⟩, fun h => by have := h.2; omega⟩
    obtain ⟨b, o, p, q, r, t, rfl, hb, hg, f0, f1, f2, f3⟩ := sg_at hv hlt
    have HG := Lib.hid hg
    clear hg
    obtain ⟨x, rfl⟩ := Later.ex hbl
    have c1 := imPosOk_any p q
    by_cases h1 : PosOk (p, q)
    rotate_left
    · rw [decide_eq_false h1] at c1
      have C1 := Lib.hid c1
      have H1 := Lib.hid h1
      clear c1 h1
      go_wp2
      obtain ⟨W2, hW2⟩ : ∃ w2, w2 = x.w'.alloc (.cells #[.int .i64 p, .int .i64 q, .int .i64 r, .int .i64 t] 129) := ⟨_, rfl⟩
      rw [← hW2]
      have hbW : Below W.heap.size W W2 := by rw [hW2]; exact hbl.alloc hbl.size _
      have hbs : W.heap.size ≤ W2.heap.size := hbW.size
      have m0 := Later.of (W := W2) (b := x.w'.heap.size) (o := 0) (v := .int .i64 p) (by rw [hW2]; simp)
      have m1 := Later.of (W := W2) (b := x.w'.heap.size) (o := 1) (v := .int .i64 q) (by rw [hW2]; simp)
      have m2 := Later.of (W := W2) (b := x.w'.heap.size) (o := 2) (v := .int .i64 r) (by rw [hW2]; simp)
      have m3 := Later.of (W := W2) (b := x.w'.heap.size) (o := 3) (v := .int .i64 t) (by rw [hW2]; simp)
      have g0 := Later.up f0 hbW hbs
      have g1 := Later.up f1 hbW hbs
      try have n0 := Later.up e0 hbW hbs
      try have n1 := Later.up e1 hbW hbs
      clear hW2
      refine wp_region_later (Below.refl W2.heap.size W2) (by kernel_rfl) (by kernel_rfl) ?_
      repeat (go_big_quiet_step ((go_at_call 122; exact later_call (Nat.le_refl _) (C1.out _))))
      refine wpQuiet_nil ?_
      rintro _ ⟨y, rfl⟩
      have hy := (hbW.trans (y.ok.mono hbs))
      go_wp2
      go_ret
      exact ⟨ret_bool (by rw [segsOkB_no]; exact fun h => H1.out (h.1 i hlt _ HG.out).1), hy⟩
    rw [decide_eq_true h1] at c1
    have C1 := Lib.hid c1
    have H1 := Lib.hid h1
    clear c1 h1
    have c2 := imPosOk_any r t
    by_cases h2 : PosOk (r, t)
    rotate_left
    · rw [decide_eq_false h2] at c2
      have C2 := Lib.hid c2
      have H2 := Lib.hid h2
      clear c2 h2
      go_wp2
      obtain ⟨W2, hW2⟩ : ∃ w2, w2 = x.w'.alloc (.cells #[.int .i64 p, .int .i64 q, .int .i64 r, .int .i64 t] 129) := ⟨_, rfl⟩
      rw [← hW2]
      have hbW : Below W.heap.size W W2 := by rw [hW2]; exact hbl.alloc hbl.size _
      have hbs : W.heap.size ≤ W2.heap.size := hbW.size
      have m0 := Later.of (W := W2) (b := x.w'.heap.size) (o := 0) (v := .int .i64 p) (by rw [hW2]; simp)
      have m1 := Later.of (W := W2) (b := x.w'.heap.size) (o := 1) (v := .int .i64 q) (by rw [hW2]; simp)
      have m2 := Later.of (W := W2) (b := x.w'.heap.size) (o := 2) (v := .int .i64 r) (by rw [hW2]; simp)
      have m3 := Later.of (W := W2) (b := x.w'.heap.size) (o := 3) (v := .int .i64 t) (by rw [hW2]; simp)
      have g0 := Later.up f0 hbW hbs
      have g1 := Later.up f1 hbW hbs
      try have n0 := Later.up e0 hbW hbs
      try have n1 := Later.up e1 hbW hbs
      clear hW2
      refine wp_region_later (Below.refl W2.heap.size W2) (by kernel_rfl) (by kernel_rfl) ?_
      repeat (go_big_quiet_step ((go_at_call 122; first | with_reducible exact later_call (Nat.le_refl _) (C1.out _) | with_reducible exact later_call (Nat.le_refl _) (C2.out _))))
      refine wpQuiet_nil ?_
      rintro _ ⟨y, rfl⟩
      have hy := (hbW.trans (y.ok.mono hbs))
      go_wp2
      go_ret
      exact ⟨ret_bool (by rw [segsOkB_no]; exact fun h => H2.out (h.1 i hlt _ HG.out).2.1), hy⟩
    rw [decide_eq_true h2] at c2
    have C2 := Lib.hid c2
    have H2 := Lib.hid h2
    clear c2 h2
    by_cases hi0 : i = 0
    · have hi1 : i < 1 := by omega
      have d1 : decide ((0 : Int) < (i : Int)) = false := by first | (simp; done) | (simp; omega)
      have d2 : decide (0 < i) = false := by first | (simp; done) | (simp; omega)
      clear hi0
      go_wp2
      obtain ⟨W2, hW2⟩ : ∃ w2, w2 = x.w'.alloc (.cells #[.int .i64 p, .int .i64 q, .int .i64 r, .int .i64 t] 129) := ⟨_, rfl⟩
      rw [← hW2]
      have hbW : Below W.heap.size W W2 := by rw [hW2]; exact hbl.alloc hbl.size _
      have hbs : W.heap.size ≤ W2.heap.size := hbW.size
      have m0 := Later.of (W := W2) (b := x.w'.heap.size) (o := 0) (v := .int .i64 p) (by rw [hW2]; simp)
      have m1 := Later.of (W := W2) (b := x.w'.heap.size) (o := 1) (v := .int .i64 q) (by rw [hW2]; simp)
      have m2 := Later.of (W := W2) (b := x.w'.heap.size) (o := 2) (v := .int .i64 r) (by rw [hW2]; simp)
      have m3 := Later.of (W := W2) (b := x.w'.heap.size) (o := 3) (v := .int .i64 t) (by rw [hW2]; simp)
      have g0 := Later.up f0 hbW hbs
      have g1 := Later.up f1 hbW hbs
      try have n0 := Later.up e0 hbW hbs
      try have n1 := Later.up e1 hbW hbs
      clear hW2
      refine wp_region_later (Below.refl W2.heap.size W2) (by kernel_rfl) (by kernel_rfl) ?_
      repeat (go_big_quiet_step ((go_at_call 122; first | with_reducible exact later_call (Nat.le_refl _) (C1.out _) | with_reducible exact later_call (Nat.le_refl _) (C2.out _))))
      refine wpQuiet_nil ?_
      rintro _ ⟨y, rfl⟩
      have hy := (hbW.trans (y.ok.mono hbs))
      go_wp2
      go_roundg (l.length - (i + 1))
      case measure => have := HK.out; omega
      case rel => exact ⟨i + 1, rfl, by omega, by go_num, goodAt_first hi1 HG.out H1.out H2.out, hy⟩
    obtain ⟨k, rfl⟩ : ∃ k, i = k + 1 := ⟨i - 1, by omega⟩
    obtain ⟨b2, o2, p2, q2, r2, t2, hA2, hb2, hg2, e0, e1, e2, e3⟩ := sg_at hv (i := k) (by omega)
    cases hA2
    have HG2 := Lib.hid hg2
    clear hg2 hi0
    have d1 : decide ((0 : Int) < (k : Int) + 1) = true := by first | (simp; done) | (simp; omega)
    have c3 := imPosLess_any p2 q2 p q
    by_cases h3 : Less (p2, q2) (p, q)
    all_goals
      rw [show decide (Less (p2, q2) (p, q)) = _ by first | exact decide_eq_true h3 | exact decide_eq_false h3] at c3
      have C3 := Lib.hid c3
      have H3 := Lib.hid h3
      clear c3 h3
      go_wp2
      obtain ⟨W2, hW2⟩ : ∃ w2, w2 = x.w'.alloc (.cells #[.int .i64 p, .int .i64 q, .int .i64 r, .int .i64 t] 129) := ⟨_, rfl⟩
      rw [← hW2]
      have hbW : Below W.heap.size W W2 := by rw [hW2]; exact hbl.alloc hbl.size _
      have hbs : W.heap.size ≤ W2.heap.size := hbW.size
      have m0 := Later.of (W := W2) (b := x.w'.heap.size) (o := 0) (v := .int .i64 p) (by rw [hW2]; simp)
      have m1 := Later.of (W := W2) (b := x.w'.heap.size) (o := 1) (v := .int .i64 q) (by rw [hW2]; simp)
      have m2 := Later.of (W := W2) (b := x.w'.heap.size) (o := 2) (v := .int .i64 r) (by rw [hW2]; simp)
      have m3 := Later.of (W := W2) (b := x.w'.heap.size) (o := 3) (v := .int .i64 t) (by rw [hW2]; simp)
      have g0 := Later.up f0 hbW hbs
      have g1 := Later.up f1 hbW hbs
      try have n0 := Later.up e0 hbW hbs
      try have n1 := Later.up e1 hbW hbs
      clear hW2
      refine wp_region_later (Below.refl W2.heap.size W2) (by kernel_rfl) (by kernel_rfl) ?_
      repeat (go_big_quiet_step ((first | (go_at_call 122; first | with_reducible exact later_call (Nat.le_refl _) (C1.out _) | with_reducible exact later_call (Nat.le_refl _) (C2.out _)) | (go_at_call 123; exact later_call (Nat.le_refl _) (C3.out _)))))
      refine wpQuiet_nil ?_
      rintro _ ⟨y, rfl⟩
      have hy := (hbW.trans (y.ok.mono hbs))
      go_wp2
    · go_roundg (l.length - (k + 1 + 1))
      case measure => have := HK.out; omega
      case rel => exact ⟨k + 1 + 1, rfl, by omega, by go_num, goodAt_succ HK.out.2 HG.out HG2.out H1.out H2.out H3.out, hy⟩
    · go_ret
      exact ⟨ret_bool (by rw [segsOkB_no]; exact fun h => H3.out ((h.1 (k + 1) hlt _ HG.out).2.2 _ (by omega) HG2.out)), hy⟩
end Go.Proofs.YtgfbjpmbaibnoaaGreatDoor


/- Looking a place up in segments: the program's and the reference's, as one plain function. -/
namespace Go.Proofs.YtgfbjpmbaibnoaaGreatDoor
set_option maxRecDepth 100000
set_option linter.unusedSimpArgs false
set_option linter.unusedVariables false
open Go.RowKit

theorem lookL_at {l : List Sg} {p : Ps} {i : Nat} {s : Sg} (h : ∀ (j : Nat) (t : Sg), i < j → l[j]? = some t → ¬ Fits p t) (hs : l[i]? = some s) (hf : Fits p s) : lookL l p = some s.2 := by
  have hi : i < l.length := (List.getElem?_eq_some_iff.1 hs).1
  have e : l = l.take i ++ s :: l.drop (i + 1) := by
    have h1 := List.drop_eq_getElem_cons hi
    have h2 : l[i] = s := by rw [List.getElem?_eq_getElem hi] at hs; exact Option.some.inj hs
    rw [h2] at h1
    rw [← h1, List.take_append_drop]
  unfold lookL
  rw [e]
  simp only [List.reverse_append, List.reverse_cons, List.append_assoc, List.find?_append]
  rw [List.find?_eq_none.2 (by
    intro t ht
    rw [List.mem_reverse, List.mem_iff_getElem?] at ht
    obtain ⟨k, hk⟩ := ht
    rw [List.getElem?_drop] at hk
    simpa using h (i + 1 + k) t (by omega) hk)]
  simp [hf]
theorem lookL_none {l : List Sg} {p : Ps} (h : ∀ (j : Nat) (t : Sg), l[j]? = some t → ¬ Fits p t) : lookL l p = none := by
  unfold lookL
  rw [List.find?_eq_none.2]
  · rfl
  · intro t ht
    rw [List.mem_reverse, List.mem_iff_getElem?] at ht
    obtain ⟨k, hk⟩ := ht
    simpa using h k t hk

/-- none from m on fits -/
def NoneFrom (l : List Sg) (p : Ps) (m : Nat) : Prop := ∀ (j : Nat) (t : Sg), m ≤ j → l[j]? = some t → ¬ Fits p t
theorem NoneFrom.step {l : List Sg} {p : Ps} {i : Nat} {s : Sg} (h : NoneFrom l p (i + 1)) (hs : l[i]? = some s) (hf : ¬ Fits p s) : NoneFrom l p i := fun j t hj ht => by
  by_cases e : j = i
  · subst e; rw [hs] at ht; obtain rfl := Option.some.inj ht; exact hf
  · exact h j t (by omega) ht

theorem spLook_any (v : Value) (l : List Sg) (p1 p2 : Int) (w : World) (hv : SlS w w.heap.size v l) :
    Calls Tryz.prog 114 #[v, .agg #[.int .i64 p1, .int .i64 p2]] w fun e W' => e = .returned (lookV (lookL l (p1, p2))) ∧ Below w.heap.size w W' := by
  obtain ⟨A, c, rfl, hc, hm⟩ := hv.val
  go_enter Tryz.func114, Tryz.ntmps114
  go_wp2
  obtain ⟨W1, hW1⟩ : ∃ W1, W1 = ((w.alloc (Obj.cells #[Value.int IntKind.i64 p1, Value.int IntKind.i64 p2] 68)).alloc (Obj.cells #[Value.int IntKind.i64 0, Value.int IntKind.i64 0] 68)) := ⟨_, rfl⟩
  rw [← hW1]
  have hs1 : w.heap.size + 1 < W1.heap.size := by rw [hW1]; simp
  have hB1 : Below w.heap.size w W1 := by rw [hW1]; (repeat (first | with_reducible assumption | with_reducible exact Below.refl _ _ | with_reducible refine Below.setCell ?_ (by first | omega | (simp; done) | (simp; omega)) _ | with_reducible refine Below.alloc ?_ (by first | omega | (simp; done) | (simp; omega)) _ | with_reducible refine below_drewN ?_ _ | with_reducible refine Below.drew ?_))
  have k0 := Later.of (W := W1) (b := w.heap.size) (o := 0) (v := .int .i64 p1) (by rw [hW1]; simp [go_sem])
  have k1 := Later.of (W := W1) (b := w.heap.size) (o := 1) (v := .int .i64 p2) (by rw [hW1]; simp [go_sem])
  have r0 := Later.of (W := W1) (b := w.heap.size + 1) (o := 0) (v := .int .i64 0) (by rw [hW1]; simp [go_sem])
  have r1 := Later.of (W := W1) (b := w.heap.size + 1) (o := 1) (v := .int .i64 0) (by rw [hW1]; simp [go_sem])
  have z0 : ∀ (x : Later W1.heap.size W1) (j : Nat), x.w'.frozen? ⟨w.heap.size + 1, j, none⟩ = false := fun x j => (x.ok.frozen (p := ⟨w.heap.size + 1, j, none⟩) hs1).trans (by rw [hW1]; simp [go_sem])
  have hvW : SlS W1 W1.heap.size (.slice A l.length c) l := hv.ext hB1
  have HW1 := Lib.hid hW1
  clear hW1
  go_loopg [6] (l.length + 1) (fun k i wr => ∃ m : Nat, k = m + 1 ∧ m ≤ l.length ∧ i = .int .i64 ((m : Int) - 1) ∧ NoneFrom l (p1, p2) m ∧ Below W1.heap.size W1 wr)
  case atStart => exact ⟨l.length, rfl, Nat.le_refl _, rfl, fun j t hj ht => by have := (List.getElem?_eq_some_iff.1 ht).1; omega, Below.refl _ _⟩
  case round =>
    obtain ⟨m, hk, hml, rfl, hno, hbl⟩ := hrel
    have HK := Lib.hid (And.intro hk hno)
    clear hk hno
    obtain ⟨x, rfl⟩ := Later.ex hbl
    by_cases hlt : 0 < m
    · obtain ⟨i, rfl⟩ : ∃ i, m = i + 1 := ⟨m - 1, by omega⟩
      rw [show (((i + 1 : Nat) : Int) - 1) = (i : Int) from by omega]
      have hlt2 : i < l.length := by omega
      obtain ⟨b, o, p, q, r, t, rfl, hb, hg, f0, f1, f2, f3⟩ := sg_at hvW hlt2
      have HG := Lib.hid hg
      clear hg
      by_cases h1 : p = p1
      · have d1 : (p == p1) = true := by simpa using h1
        by_cases h2 : q ≤ p2
        · have d2 : decide (q ≤ p2) = true := by simpa using h2
          have HF : Hid (Fits (p1, p2) ((p, q), (r, t))) := ⟨h1, h2⟩
          clear h1
          go_wp2
          refine wp_region_later hbl (by kernel_rfl) (by kernel_rfl) ?_
          repeat (go_big_quiet_step (fail))
          refine wpQuiet_nil ?_
          rintro _ ⟨y, rfl⟩
          have hy := y.ok
          go_wp2
          have hf : lookL l (p1, p2) = some (r, t) := lookL_at (i := i) (fun j t hj ht => HK.out.2 j t hj ht) HG.out HF.out
          have q0 := World.cell?_setCell_same' y.w' ⟨w.heap.size + 1, 0, none⟩ (.int .i64 r) (by rw [r0 y]; rfl)
          refine bodyPost_ret (v := lookV (lookL l (p1, p2))) (by rw [hf]; simp [results, Tryz.results114, go_sem, r0, r1, q0, lookV]) rfl ⟨rfl, ?_⟩
          have hB3 := hB1.trans (hy.mono (by omega))
          (repeat (first | with_reducible assumption | with_reducible exact Below.refl _ _ | with_reducible refine Below.setCell ?_ (by first | omega | (simp; done) | (simp; omega)) _ | with_reducible refine Below.alloc ?_ (by first | omega | (simp; done) | (simp; omega)) _ | with_reducible refine below_drewN ?_ _ | with_reducible refine Below.drew ?_ | with_reducible refine Below.trans ?_ (Below.mono hB3 (by first | omega | (simp; done) | (simp; omega)))))
        · have d2 : decide (q ≤ p2) = false := by simpa using h2
          have HF : Hid (¬ Fits (p1, p2) ((p, q), (r, t))) := fun h => h2 h.2
          clear h1 h2
          go_wp2
          refine wp_region_later hbl (by kernel_rfl) (by kernel_rfl) ?_
          repeat (go_big_quiet_step (fail))
          refine wpQuiet_nil ?_
          rintro _ ⟨y, rfl⟩
          have hy := y.ok
          go_wp2
          go_roundg (i + 1)
          case measure => have := HK.out.1; omega
          case rel => exact ⟨i, rfl, by omega, rfl, HK.out.2.step HG.out HF.out, hy⟩
      · have d1 : (p == p1) = false := by simpa using h1
        have HF : Hid (¬ Fits (p1, p2) ((p, q), (r, t))) := fun h => h1 h.1
        clear h1
        go_wp2
        refine wp_region_later hbl (by kernel_rfl) (by kernel_rfl) ?_
        repeat (go_big_quiet_step (fail))
        refine wpQuiet_nil ?_
        rintro _ ⟨y, rfl⟩
        have hy := y.ok
        go_wp2
        go_roundg (i + 1)
        case measure => have := HK.out.1; omega
        case rel => exact ⟨i, rfl, by omega, rfl, HK.out.2.step HG.out HF.out, hy⟩
    · obtain rfl : m = 0 := by omega
      go_wp2
      have hf : lookL l (p1, p2) = none := lookL_none (fun j t ht => HK.out.2 j t (Nat.zero_le _) ht)
      have q0 := World.cell?_setCell_same' x.w' ⟨w.heap.size + 1, 0, none⟩ (.int .i64 0) (by rw [r0 x]; rfl)
      refine bodyPost_ret (v := lookV (lookL l (p1, p2))) (by rw [hf]; simp [results, Tryz.results114, go_sem, r0, r1, q0, lookV]) rfl ⟨rfl, ?_⟩
      have hB3 := hB1.trans (hbl.mono (by omega))
      (repeat (first | with_reducible assumption | with_reducible exact Below.refl _ _ | with_reducible refine Below.setCell ?_ (by first | omega | (simp; done) | (simp; omega)) _ | with_reducible refine Below.alloc ?_ (by first | omega | (simp; done) | (simp; omega)) _ | with_reducible refine below_drewN ?_ _ | with_reducible refine Below.drew ?_ | with_reducible refine Below.trans ?_ (Below.mono hB3 (by first | omega | (simp; done) | (simp; omega)))))

/-- MapLook of whatever list. -/
noncomputable def mapLookL (l : List Sg) (p : Ps) : Option Ps := if segsOkB l = true then lookL l p else none

theorem imMapLook_any (v : Value) (l : List Sg) (p1 p2 : Int) (w : World) (hv : SlS w w.heap.size v l) :
    Calls Tryz.prog 44 #[v, .agg #[.int .i64 p1, .int .i64 p2]] w fun e W' => e = .returned (lookV (mapLookL l (p1, p2))) ∧ Below w.heap.size w W' := by
  have hB2 : Below w.heap.size w ((w.alloc (Obj.cells #[Value.int IntKind.i64 p1, Value.int IntKind.i64 p2] 68)).alloc (Obj.cells #[Value.int IntKind.i64 0, Value.int IntKind.i64 0] 68)) := by (repeat (first | with_reducible assumption | with_reducible exact Below.refl _ _ | with_reducible refine Below.setCell ?_ (by first | omega | (simp; done) | (simp; omega)) _ | with_reducible refine Below.alloc ?_ (by first | omega | (simp; done) | (simp; omega)) _ | with_reducible refine below_drewN ?_ _ | with_reducible refine Below.drew ?_))
  have hv2 := hv.ext hB2
  have c1 := imSegsOk_any _ _ l hv2
  by_cases hok : SegsOk l
  · rw [segsOkB_yes hok] at c1
    have C1 := Lib.hid c1
    clear c1
    have hf : mapLookL l (p1, p2) = lookL l (p1, p2) := by unfold mapLookL; rw [segsOkB_yes hok]; rfl
    go_enter Tryz.func44, Tryz.ntmps44
    go_wp2_with fail
    refine C1.out.mono ?_
    rintro e w1 ⟨rfl, hb1⟩
    have hz1 := hb1.size
    (try simp at hz1)
    have k1_0 := fun o => hb1.cell (p := ⟨w.heap.size, o, none⟩) (by first | omega | (simp; done) | (simp; omega)); have k1f_0 := fun o => hb1.frozen (p := ⟨w.heap.size, o, none⟩) (by first | omega | (simp; done) | (simp; omega)); have k1_1 := fun o => hb1.cell (p := ⟨w.heap.size + 1, o, none⟩) (by first | omega | (simp; done) | (simp; omega)); have k1f_1 := fun o => hb1.frozen (p := ⟨w.heap.size + 1, o, none⟩) (by first | omega | (simp; done) | (simp; omega))
    go_wp2_with fail
    refine (imLook_any v l p1 p2 w1 (hv2.ext hb1)).mono ?_
    rintro e w2 ⟨rfl, hb2⟩
    have hz2 := hb2.size
    have k2_0 := fun o => hb2.cell (p := ⟨w.heap.size, o, none⟩) (by first | omega | (simp; done) | (simp; omega)); have k2f_0 := fun o => hb2.frozen (p := ⟨w.heap.size, o, none⟩) (by first | omega | (simp; done) | (simp; omega)); have k2_1 := fun o => hb2.cell (p := ⟨w.heap.size + 1, o, none⟩) (by first | omega | (simp; done) | (simp; omega)); have k2f_1 := fun o => hb2.frozen (p := ⟨w.heap.size + 1, o, none⟩) (by first | omega | (simp; done) | (simp; omega))
    obtain ⟨o, ho⟩ : ∃ o, lookL l (p1, p2) = o := ⟨_, rfl⟩
    rw [ho]
    have HF := Lib.hid (hf.trans ho)
    clear ho hf
    cases o with
    | none =>
      unfold lookV
      go_wp2_with fail
      refine bodyPost_ret (v := .tuple #[.agg #[.int .i64 0, .int .i64 0], .bool false]) (by simp [results, Tryz.results44, go_sem, *]) rfl ⟨by rw [HF.out]; rfl, ?_⟩
      (repeat (first | with_reducible assumption | with_reducible exact Below.refl _ _ | with_reducible refine Below.setCell ?_ (by first | omega | (simp; done) | (simp; omega)) _ | with_reducible refine Below.alloc ?_ (by first | omega | (simp; done) | (simp; omega)) _ | with_reducible refine below_drewN ?_ _ | with_reducible refine Below.drew ?_ | with_reducible refine Below.trans ?_ (Below.mono hb2 (by first | omega | (simp; done) | (simp; omega))) | with_reducible refine Below.trans ?_ (Below.mono hb1 (by first | omega | (simp; done) | (simp; omega)))))
    | some q =>
      obtain ⟨q1, q2⟩ := q
      unfold lookV
      go_wp2_with fail
      refine bodyPost_ret (v := .tuple #[.agg #[.int .i64 q1, .int .i64 q2], .bool true]) (by simp [results, Tryz.results44, go_sem, *]) rfl ⟨by rw [HF.out]; rfl, ?_⟩
      (repeat (first | with_reducible assumption | with_reducible exact Below.refl _ _ | with_reducible refine Below.setCell ?_ (by first | omega | (simp; done) | (simp; omega)) _ | with_reducible refine Below.alloc ?_ (by first | omega | (simp; done) | (simp; omega)) _ | with_reducible refine below_drewN ?_ _ | with_reducible refine Below.drew ?_ | with_reducible refine Below.trans ?_ (Below.mono hb2 (by first | omega | (simp; done) | (simp; omega))) | with_reducible refine Below.trans ?_ (Below.mono hb1 (by first | omega | (simp; done) | (simp; omega)))))
  · rw [segsOkB_no hok] at c1
    have C1 := Lib.hid c1
    clear c1
    have hf : mapLookL l (p1, p2) = none := by unfold mapLookL; rw [segsOkB_no hok]; rfl
    go_enter Tryz.func44, Tryz.ntmps44
    go_wp2_with fail
    refine C1.out.mono ?_
    rintro e w1 ⟨rfl, hb1⟩
    have hz1 := hb1.size
    (try simp at hz1)
    have k1_0 := fun o => hb1.cell (p := ⟨w.heap.size, o, none⟩) (by first | omega | (simp; done) | (simp; omega)); have k1f_0 := fun o => hb1.frozen (p := ⟨w.heap.size, o, none⟩) (by first | omega | (simp; done) | (simp; omega)); have k1_1 := fun o => hb1.cell (p := ⟨w.heap.size + 1, o, none⟩) (by first | omega | (simp; done) | (simp; omega)); have k1f_1 := fun o => hb1.frozen (p := ⟨w.heap.size + 1, o, none⟩) (by first | omega | (simp; done) | (simp; omega))
    have HF := Lib.hid hf
    clear hf
    go_wp2_with fail
    refine bodyPost_ret (v := .tuple #[.agg #[.int .i64 0, .int .i64 0], .bool false]) (by simp [results, Tryz.results44, go_sem, *]) rfl ⟨by rw [HF.out]; rfl, ?_⟩
    (repeat (first | with_reducible assumption | with_reducible exact Below.refl _ _ | with_reducible refine Below.setCell ?_ (by first | omega | (simp; done) | (simp; omega)) _ | with_reducible refine Below.alloc ?_ (by first | omega | (simp; done) | (simp; omega)) _ | with_reducible refine below_drewN ?_ _ | with_reducible refine Below.drew ?_ | with_reducible refine Below.trans ?_ (Below.mono hb1 (by first | omega | (simp; done) | (simp; omega)))))
theorem spMapLook_any (v : Value) (l : List Sg) (p1 p2 : Int) (w : World) (hv : SlS w w.heap.size v l) :
    Calls Tryz.prog 45 #[v, .agg #[.int .i64 p1, .int .i64 p2]] w fun e W' => e = .returned (lookV (mapLookL l (p1, p2))) ∧ Below w.heap.size w W' := by
  have hB2 : Below w.heap.size w ((w.alloc (Obj.cells #[Value.int IntKind.i64 p1, Value.int IntKind.i64 p2] 68)).alloc (Obj.cells #[Value.int IntKind.i64 0, Value.int IntKind.i64 0] 68)) := by (repeat (first | with_reducible assumption | with_reducible exact Below.refl _ _ | with_reducible refine Below.setCell ?_ (by first | omega | (simp; done) | (simp; omega)) _ | with_reducible refine Below.alloc ?_ (by first | omega | (simp; done) | (simp; omega)) _ | with_reducible refine below_drewN ?_ _ | with_reducible refine Below.drew ?_))
  have hv2 := hv.ext hB2
  have c1 := spSegsOk_any _ _ l hv2
  by_cases hok : SegsOk l
  · rw [segsOkB_yes hok] at c1
    have C1 := Lib.hid c1
    clear c1
    have hf : mapLookL l (p1, p2) = lookL l (p1, p2) := by unfold mapLookL; rw [segsOkB_yes hok]; rfl
    go_enter Tryz.func45, Tryz.ntmps45
    go_wp2_with fail
    refine C1.out.mono ?_
    rintro e w1 ⟨rfl, hb1⟩
    have hz1 := hb1.size
    (try simp at hz1)
    have k1_0 := fun o => hb1.cell (p := ⟨w.heap.size, o, none⟩) (by first | omega | (simp; done) | (simp; omega)); have k1f_0 := fun o => hb1.frozen (p := ⟨w.heap.size, o, none⟩) (by first | omega | (simp; done) | (simp; omega)); have k1_1 := fun o => hb1.cell (p := ⟨w.heap.size + 1, o, none⟩) (by first | omega | (simp; done) | (simp; omega)); have k1f_1 := fun o => hb1.frozen (p := ⟨w.heap.size + 1, o, none⟩) (by first | omega | (simp; done) | (simp; omega))
    go_wp2_with fail
    refine (spLook_any v l p1 p2 w1 (hv2.ext hb1)).mono ?_
    rintro e w2 ⟨rfl, hb2⟩
    have hz2 := hb2.size
    have k2_0 := fun o => hb2.cell (p := ⟨w.heap.size, o, none⟩) (by first | omega | (simp; done) | (simp; omega)); have k2f_0 := fun o => hb2.frozen (p := ⟨w.heap.size, o, none⟩) (by first | omega | (simp; done) | (simp; omega)); have k2_1 := fun o => hb2.cell (p := ⟨w.heap.size + 1, o, none⟩) (by first | omega | (simp; done) | (simp; omega)); have k2f_1 := fun o => hb2.frozen (p := ⟨w.heap.size + 1, o, none⟩) (by first | omega | (simp; done) | (simp; omega))
    obtain ⟨o, ho⟩ : ∃ o, lookL l (p1, p2) = o := ⟨_, rfl⟩
    rw [ho]
    have HF := Lib.hid (hf.trans ho)
    clear ho hf
    cases o with
    | none =>
      unfold lookV
      go_wp2_with fail
      refine bodyPost_ret (v := .tuple #[.agg #[.int .i64 0, .int .i64 0], .bool false]) (by simp [results, Tryz.results45, go_sem, *]) rfl ⟨by rw [HF.out]; rfl, ?_⟩
      (repeat (first | with_reducible assumption | with_reducible exact Below.refl _ _ | with_reducible refine Below.setCell ?_ (by first | omega | (simp; done) | (simp; omega)) _ | with_reducible refine Below.alloc ?_ (by first | omega | (simp; done) | (simp; omega)) _ | with_reducible refine below_drewN ?_ _ | with_reducible refine Below.drew ?_ | with_reducible refine Below.trans ?_ (Below.mono hb2 (by first | omega | (simp; done) | (simp; omega))) | with_reducible refine Below.trans ?_ (Below.mono hb1 (by first | omega | (simp; done) | (simp; omega)))))
    | some q =>
      obtain ⟨q1, q2⟩ := q
      unfold lookV
      go_wp2_with fail
      refine bodyPost_ret (v := .tuple #[.agg #[.int .i64 q1, .int .i64 q2], .bool true]) (by simp [results, Tryz.results45, go_sem, *]) rfl ⟨by rw [HF.out]; rfl, ?_⟩
      (repeat (first | with_reducible assumption | with_reducible exact Below.refl _ _ | with_reducible refine Below.setCell ?_ (by first | omega | (simp; done) | (simp; omega)) _ | with_reducible refine Below.alloc ?_ (by first | omega | (simp; done) | (simp; omega)) _ | with_reducible refine below_drewN ?_ _ | with_reducible refine Below.drew ?_ | with_reducible refine Below.trans ?_ (Below.mono hb2 (by first | omega | (simp; done) | (simp; omega))) | with_reducible refine Below.trans ?_ (Below.mono hb1 (by first | omega | (simp; done) | (simp; omega)))))
  · rw [segsOkB_no hok] at c1
    have C1 := Lib.hid c1
    clear c1
    have hf : mapLookL l (p1, p2) = none := by unfold mapLookL; rw [segsOkB_no hok]; rfl
    go_enter Tryz.func45, Tryz.ntmps45
    go_wp2_with fail
    refine C1.out.mono ?_
    rintro e w1 ⟨rfl, hb1⟩
    have hz1 := hb1.size
    (try simp at hz1)
    have k1_0 := fun o => hb1.cell (p := ⟨w.heap.size, o, none⟩) (by first | omega | (simp; done) | (simp; omega)); have k1f_0 := fun o => hb1.frozen (p := ⟨w.heap.size, o, none⟩) (by first | omega | (simp; done) | (simp; omega)); have k1_1 := fun o => hb1.cell (p := ⟨w.heap.size + 1, o, none⟩) (by first | omega | (simp; done) | (simp; omega)); have k1f_1 := fun o => hb1.frozen (p := ⟨w.heap.size + 1, o, none⟩) (by first | omega | (simp; done) | (simp; omega))
    have HF := Lib.hid hf
    clear hf
    go_wp2_with fail
    refine bodyPost_ret (v := .tuple #[.agg #[.int .i64 0, .int .i64 0], .bool false]) (by simp [results, Tryz.results45, go_sem, *]) rfl ⟨by rw [HF.out]; rfl, ?_⟩
    (repeat (first | with_reducible assumption | with_reducible exact Below.refl _ _ | with_reducible refine Below.setCell ?_ (by first | omega | (simp; done) | (simp; omega)) _ | with_reducible refine Below.alloc ?_ (by first | omega | (simp; done) | (simp; omega)) _ | with_reducible refine below_drewN ?_ _ | with_reducible refine Below.drew ?_ | with_reducible refine Below.trans ?_ (Below.mono hb1 (by first | omega | (simp; done) | (simp; omega)))))

theorem lookV_form (o : Option Ps) : ∃ a b t, lookV o = .tuple #[.agg #[.int .i64 a, .int .i64 b], .bool t] := by
  cases o with
  | none => exact ⟨_, _, _, rfl⟩
  | some q => exact ⟨_, _, _, rfl⟩
end Go.Proofs.YtgfbjpmbaibnoaaGreatDoor


/- What came from a place: the program's and the reference's MapBack, as one plain function. -/
namespace Go.Proofs.YtgfbjpmbaibnoaaGreatDoor
set_option maxRecDepth 100000
set_option linter.unusedSimpArgs false
set_option linter.unusedVariables false
open Go.RowKit

def backL (l : List Sg) (p : Ps) : List Ps := (l.filter (fun s => decide (s.2 = p))).map (·.1)
noncomputable def mapBackL (l : List Sg) (p : Ps) : List Ps := if segsOkB l = true then backL l p else []
theorem backL_take {l : List Sg} {p : Ps} {i : Nat} {s : Sg} (h : l[i]? = some s) : backL (l.take (i + 1)) p = backL (l.take i) p ++ (if s.2 = p then [s.1] else []) := by
  have hi : i < l.length := (List.getElem?_eq_some_iff.1 h).1
  have hs : l[i] = s := by rw [List.getElem?_eq_getElem hi] at h; exact Option.some.inj h
  rw [List.take_succ_eq_append_getElem hi, hs]
  unfold backL
  rw [List.filter_append, List.map_append]
  congr 1
  by_cases e : s.2 = p <;> simp [e]
theorem backL_len (l : List Sg) (p : Ps) (i : Nat) : (backL (l.take i) p).length ≤ i := by
  unfold backL
  rw [List.length_map]
  exact Nat.le_trans (List.length_filter_le _ _) (List.length_take_le _ _)

theorem eq_ps (p q p' q' : Int) (w : World) : (binOp .eql 68 (.agg #[.int .i64 p, .int .i64 q]) (.agg #[.int .i64 p', .int .i64 q'])).run Tryz.prog w =
    .ok (.bool (decide ((p, q) = (p', q')))) w := by
  by_cases h1 : p = p' <;> by_cases h2 : q = q' <;> simp [go_sem, h1, h2]

theorem backL_step {l : List Sg} {p : Ps} {i : Nat} {s : Sg} (h : l[i]? = some s) (e : s.2 = p) : backL (l.take (i + 1)) p = backL (l.take i) p ++ [s.1] := by rw [backL_take h, if_pos e]
theorem backL_skip {l : List Sg} {p : Ps} {i : Nat} {s : Sg} (h : l[i]? = some s) (e : ¬ s.2 = p) : backL (l.take (i + 1)) p = backL (l.take i) p := by rw [backL_take h, if_neg e, List.append_nil]

/-- what has been gathered: the call's own row behind W0 -/
def Got {α : Type} (row : α → List Value) (k : Nat) (t : TypeId) (W0 w : World) (u : Value) (m : List α) : Prop :=
  w.ownsRow W0.heap.size t k u m.length (m.flatMap row) ∧ Below W0.heap.size W0 w
theorem Got.fr {α : Type} {row : α → List Value} {k : Nat} {t : TypeId} {W0 w : World} {u : Value} {m : List α} (h : Got row k t W0 w u m) (hk : ∀ s, (row s).length = k) : Fr row k t w W0.heap.size u m := Fr.of_owns hk h.1
theorem Got.ext {α : Type} {row : α → List Value} {k : Nat} {t : TypeId} {W0 w w' : World} {u : Value} {m : List α} (h : Got row k t W0 w u m) (hb : Below w.heap.size w w') : Got row k t W0 w' u m :=
  ⟨own_ext h.1 hb, h.2.ext hb⟩
theorem Got.put {α : Type} {row : α → List Value} {k : Nat} {t : TypeId} {W0 w w1 w' : World} {u u' : Value} {m : List α} {s : α} (h : Got row k t W0 w u m) (h1 : Below w.heap.size w w1) (ho : w'.ownsRow W0.heap.size t k u' (m.length + 1) (m.flatMap row ++ row s)) (hg : w1.grownBy w' u.ownBlock) : Got row k t W0 w' u' (m ++ [s]) :=
  ⟨by simpa using ho, below_grown (h.2.ext h1) hg (Nat.le_trans h.2.size h1.size) (fun k hk => (h.1.lt k hk).1)⟩

theorem clipPos_any (v : Value) (l : List Ps) (lo : Nat) (w : World) (hv : Fr psRow 2 68 w lo v l) :
    Calls Tryz.prog 118 #[v] w fun e w' => ∃ u, e = .returned u ∧ Fr psRow 2 68 w' lo u l ∧ w = w' := by
  rcases hv.form with ⟨rfl, rfl⟩ | ⟨g, cap, cur, rfl, hlo, hc, hm, hB, hx⟩
  · go_enter Tryz.func118, Tryz.ntmps118
    go_wp2
    go_ret
    exact ⟨_, rfl, .inl ⟨rfl, rfl⟩, rfl⟩
  · go_enter Tryz.func118, Tryz.ntmps118
    go_wp2
    go_ret
    exact ⟨_, rfl, hv.clip, rfl⟩

theorem imMapBack_any (v : Value) (l : List Sg) (p1 p2 : Int) (w : World) (hv : SlS w w.heap.size v l) :
    Calls Tryz.prog 48 #[v, .agg #[.int .i64 p1, .int .i64 p2]] w fun e W' => ∃ u, e = .returned u ∧ Fr psRow 2 68 W' w.heap.size u (mapBackL l (p1, p2)) ∧ Below w.heap.size w W' := by
  obtain ⟨A, c, rfl, hc, hm⟩ := hv.val
  obtain ⟨i0, hi, hz0, hz1, hz2⟩ := info_parts infoPos
  have hB1 : Below w.heap.size w (w.alloc (.cells #[.int .i64 p1, .int .i64 p2] 68)) := by (repeat (first | with_reducible assumption | with_reducible exact Below.refl _ _ | with_reducible refine Below.setCell ?_ (by first | omega | (simp; done) | (simp; omega)) _ | with_reducible refine Below.alloc ?_ (by first | omega | (simp; done) | (simp; omega)) _ | with_reducible refine below_drewN ?_ _ | with_reducible refine Below.drew ?_))
  go_enter Tryz.func48, Tryz.ntmps48
  go_wp2_with fail
  obtain ⟨Wa, hWa⟩ : ∃ Wa, Wa = w.alloc (.cells #[.int .i64 p1, .int .i64 p2] 68) := ⟨_, rfl⟩
  have k0 : Wa.cell? ⟨w.heap.size, 0, none⟩ = some (.int .i64 p1) := by rw [hWa]; simp
  have k1 : Wa.cell? ⟨w.heap.size, 1, none⟩ = some (.int .i64 p2) := by rw [hWa]; simp
  rw [← hWa] at hB1 ⊢
  clear hWa
  refine (imSegsOk_any _ _ l (hv.ext hB1)).mono ?_
  rintro e W0 ⟨rfl, hE⟩
  have hB0 := hB1.ext hE
  replace k0 := hE.keepc k0
  replace k1 := hE.keepc k1
  clear hB1 hE
  by_cases hok : SegsOk l
  · rw [segsOkB_yes hok]
    go_wp2_with fail
    go_loopg [5, 13] l.length (fun n u b wr => ∃ i : Nat, n = l.length - i ∧ i ≤ l.length ∧ b = .int .i64 i ∧ Got psRow 2 68 W0 wr u (backL (l.take i) (p1, p2)))
    case atStart => exact ⟨0, by omega, by omega, rfl, World.ownsRow_nil _ _ _ _, Below.refl _ _⟩
    case round =>
      obtain ⟨i, hk, hin, rfl, hg⟩ := hrel
      have hb := hg.2
      have HK := Lib.hid hk
      clear hk
      by_cases hlt : i < l.length
      · obtain ⟨b, o, p, q, r, t, rfl, hbb, hgt, f0, f1, f2, f3⟩ := sg_at hv hlt
        have HG := Lib.hid hgt
        clear hgt
        have hBw := hB0.ext hb
        have g0 := f0 ⟨wr, hBw⟩
        have g1 := f1 ⟨wr, hBw⟩
        have g2 := f2 ⟨wr, hBw⟩
        have g3 := f3 ⟨wr, hBw⟩
        have m0 := hb.keepc k0
        have m1 := hb.keepc k1
        clear f0 f1 f2 f3
        have hbl := World.block_lt_of_cell? _ _ m0
        have hq := eq_ps r t p1 p2
        have hbz := hBw.size
        have hne : w.heap.size ≠ wr.heap.size := by simp at hbl; omega
        have hl0 := backL_len l (p1, p2) i
        have hl1 : (backL (l.take i) (p1, p2)).length + 1 ≤ maxLen := by have := hok.2; unfold maxLen; omega
        have hl2 : ((backL (l.take i) (p1, p2)).length + 1) * 16 ≤ 140737488355328 := by have := hok.2; omega
        have h1c : ∀ u ∈ ([.int .i64 p, .int .i64 q] : List Value), u.oneCell' = true := by intro u hu; simp at hu; rcases hu with rfl | rfl <;> rfl
        clear hl0
        by_cases hst : (r, t) = (p1, p2)
        all_goals
          rw [show decide ((r, t) = (p1, p2)) = _ by first | exact decide_eq_true hst | exact decide_eq_false hst] at hq
          have HST := Lib.hid hst
          clear hst
        · have hB2 : Below wr.heap.size wr ((wr.alloc (.cells #[.int .i64 p, .int .i64 q, .int .i64 r, .int .i64 t] 129)).alloc (.cells #[.int .i64 p, .int .i64 q] 68)) := by (repeat (first | with_reducible assumption | with_reducible exact Below.refl _ _ | with_reducible refine Below.setCell ?_ (by first | omega | (simp; done) | (simp; omega)) _ | with_reducible refine Below.alloc ?_ (by first | omega | (simp; done) | (simp; omega)) _ | with_reducible refine below_drewN ?_ _ | with_reducible refine Below.drew ?_))
          have ho1 := own_ext hg.1 hB2
          have hl3 : W0.heap.size ≤ ((wr.alloc (.cells #[.int .i64 p, .int .i64 q, .int .i64 r, .int .i64 t] 129)).alloc (.cells #[.int .i64 p, .int .i64 q] 68)).heap.size := Nat.le_trans hb.size hB2.size
          have hn := World.news_of_block (heap_alloc_new (wr.alloc (.cells #[.int .i64 p, .int .i64 q, .int .i64 r, .int .i64 t] 129)) (.cells #[.int .i64 p, .int .i64 q] 68))
          rw [show (wr.alloc (.cells #[.int .i64 p, .int .i64 q, .int .i64 r, .int .i64 t] 129)).heap.size = wr.heap.size + 1 from by simp] at hn
          go_wp2_with (at_builtin; refine wpList_append_own _ rfl _ _ 75 rfl W0.heap.size 68 i0 _ 2 16 Tryz.underlying75 hi hz0 hz1 hz2 rfl (by decide) _ (backL (l.take i) (p1, p2)).length _ rfl ho1 ⟨wr.heap.size + 1, 0, none⟩ 1 1 [.int .i64 p, .int .i64 q] rfl rfl hn h1c hl1 hl2 hl3 ?_; intro u' w2 ho hgr _)
          have hg2 := hg.put (s := (p, q)) hB2 ho hgr
          go_roundg (l.length - (i + 1))
          case measure => have := HK.out; omega
          case rel => exact ⟨i + 1, rfl, by omega, by go_num, by rw [backL_step HG.out HST.out]; exact hg2⟩
        · go_wp2_with fail
          go_roundg (l.length - (i + 1))
          case measure => have := HK.out; omega
          case rel => exact ⟨i + 1, rfl, by omega, by go_num, by rw [backL_skip HG.out HST.out]; exact hg.ext (by (repeat (first | with_reducible assumption | with_reducible exact Below.refl _ _ | with_reducible refine Below.setCell ?_ (by first | omega | (simp; done) | (simp; omega)) _ | with_reducible refine Below.alloc ?_ (by first | omega | (simp; done) | (simp; omega)) _ | with_reducible refine below_drewN ?_ _ | with_reducible refine Below.drew ?_)))⟩
      · obtain rfl : i = l.length := by omega
        go_wp2_with fail
        rw [List.take_length] at hg
        refine (clipPos_any _ _ _ _ (hg.fr (fun _ => rfl))).mono ?_
        rintro e w2 ⟨u, rfl, hu, rfl⟩
        go_wp2_with fail
        go_ret
        refine ⟨_, rfl, ?_, hB0.ext hg.2⟩
        unfold mapBackL
        rw [if_pos (segsOkB_yes hok)]
        exact hu.less hB0.size
  · rw [segsOkB_no hok]
    have hf : mapBackL l (p1, p2) = [] := by unfold mapBackL; rw [if_neg]; rw [segsOkB_no hok]; decide
    go_wp2_with fail
    go_ret
    exact ⟨_, rfl, .inl ⟨rfl, hf⟩, hB0⟩
end Go.Proofs.YtgfbjpmbaibnoaaGreatDoor


/- Whence words came by two maps: the program's and the reference's MapJoin, as one plain function. -/
namespace Go.Proofs.YtgfbjpmbaibnoaaGreatDoor
set_option maxRecDepth 100000
set_option linter.unusedSimpArgs false
set_option linter.unusedVariables false
open Go.RowKit

def joinS (b : List Sg) (s : Sg) : Option Sg := (lookL b s.2).map (fun p => (s.1, p))
def joinG (a b : List Sg) : List Sg := a.filterMap (joinS b)
noncomputable def mapJoinL (a b : List Sg) : List Sg := if segsOkB a = true then (if segsOkB b = true then joinG a b else []) else []
theorem joinG_take {a b : List Sg} {i : Nat} {s : Sg} (h : a[i]? = some s) : joinG (a.take (i + 1)) b = joinG (a.take i) b ++ (joinS b s).toList := by
  have hi : i < a.length := (List.getElem?_eq_some_iff.1 h).1
  have hs : a[i] = s := by rw [List.getElem?_eq_getElem hi] at h; exact Option.some.inj h
  rw [List.take_succ_eq_append_getElem hi, hs]
  unfold joinG
  rw [List.filterMap_append]
  cases e : joinS b s <;> simp [e]
theorem joinG_len (a b : List Sg) (i : Nat) : (joinG (a.take i) b).length ≤ i := by
  unfold joinG
  exact Nat.le_trans (List.length_filterMap_le _ _) (List.length_take_le _ _)
theorem joinG_step {a b : List Sg} {i : Nat} {s : Sg} {p : Ps} (h : a[i]? = some s) (e : lookL b s.2 = some p) : joinG (a.take (i + 1)) b = joinG (a.take i) b ++ [(s.1, p)] := by rw [joinG_take h]; unfold joinS; rw [e]; rfl
theorem joinG_skip {a b : List Sg} {i : Nat} {s : Sg} (h : a[i]? = some s) (e : lookL b s.2 = none) : joinG (a.take (i + 1)) b = joinG (a.take i) b := by rw [joinG_take h]; unfold joinS; rw [e]; simp
theorem mapJoinL_len (a b : List Sg) : (mapJoinL a b).length ≤ 1280 := by
  unfold mapJoinL
  split
  · next h =>
    split
    · have h1 := joinG_len a b a.length
      rw [List.take_length] at h1
      exact Nat.le_trans h1 (segsOkB_iff.1 h).2
    · simp
  · simp


theorem heap_alloc_at (w : World) (o : Obj) (B : Nat) (h : w.heap.size = B) : (w.alloc o).heap[B]? = some o := h ▸ heap_alloc_new w o
theorem Got.ne1 {α : Type} {row : α → List Value} {k : Nat} {t : TypeId} {W0 w : World} {u : Value} {m : List α} (h : Got row k t W0 w u m) {b : Nat} (hb : b < W0.heap.size) : u.ownBlock ≠ some b := fun e => by
  have := (h.1.lt b e).1
  omega
theorem Got.ne2 {α : Type} {row : α → List Value} {k : Nat} {t : TypeId} {W0 w : World} {u : Value} {m : List α} (h : Got row k t W0 w u m) {b : Nat} (hb : w.heap.size ≤ b) : u.ownBlock ≠ some b := fun e => by
  have := (h.1.lt b e).2
  omega
theorem mapJoinL_yes {a b : List Sg} (h1 : SegsOk a) (h2 : SegsOk b) : mapJoinL a b = joinG a b := by unfold mapJoinL; rw [if_pos (segsOkB_yes h1), if_pos (segsOkB_yes h2)]
theorem mapJoinL_no1 {a b : List Sg} (h1 : ¬ SegsOk a) : mapJoinL a b = [] := by unfold mapJoinL; rw [segsOkB_no h1]; rfl
theorem mapJoinL_no2 {a b : List Sg} (h2 : ¬ SegsOk b) : mapJoinL a b = [] := by unfold mapJoinL; rw [segsOkB_no h2]; simp

theorem clipSeg_any (v : Value) (l : List Sg) (lo : Nat) (w : World) (hv : Fr sgRow 4 129 w lo v l) :
    Calls Tryz.prog 121 #[v] w fun e w' => ∃ u, e = .returned u ∧ Fr sgRow 4 129 w' lo u l ∧ w = w' := by
  rcases hv.form with ⟨rfl, rfl⟩ | ⟨g, cap, cur, rfl, hlo, hc, hm, hB, hx⟩
  · go_enter Tryz.func121, Tryz.ntmps121
    go_wp2
    go_ret
    exact ⟨_, rfl, .inl ⟨rfl, rfl⟩, rfl⟩
  · go_enter Tryz.func121, Tryz.ntmps121
    go_wp2
    go_ret
    exact ⟨_, rfl, hv.clip, rfl⟩

end Go.Proofs.YtgfbjpmbaibnoaaGreatDoor


/- Plain Lean of maps: what is in order, what is found, what comes back, what is joined. No program in sight, no condition. -/
namespace Go.Proofs.YtgfbjpmbaibnoaaGreatDoor
set_option maxRecDepth 100000
set_option linter.unusedSimpArgs false
set_option linter.unusedVariables false
open Go.RowKit

theorem less_trans {p q r : Ps} (h : Less p q) (k : Less q r) : Less p r := by unfold Less at *; omega
theorem less_irr (p : Ps) : ¬ Less p p := by unfold Less; omega
theorem segs_pos {l : List Sg} (h : SegsOk l) {i : Nat} {s : Sg} (hs : l[i]? = some s) : PosOk s.1 ∧ PosOk s.2 := by
  have hi : i < l.length := (List.getElem?_eq_some_iff.1 hs).1
  obtain ⟨h1, h2, _⟩ := h.1 i hi s hs
  exact ⟨h1, h2⟩
theorem segs_lt {l : List Sg} (h : SegsOk l) {i : Nat} : ∀ (d : Nat) {s t : Sg}, l[i]? = some s → l[i + d + 1]? = some t → Less s.1 t.1
  | 0, s, t, hs, ht => by
    have hi : i + 0 + 1 < l.length := (List.getElem?_eq_some_iff.1 ht).1
    obtain ⟨_, _, h3⟩ := h.1 _ hi t ht
    exact h3 s (by omega) hs
  | d + 1, s, t, hs, ht => by
    have hi : i + (d + 1) + 1 < l.length := (List.getElem?_eq_some_iff.1 ht).1
    have hg : l[i + d + 1]? = some l[i + d + 1] := List.getElem?_eq_getElem (by omega)
    obtain ⟨_, _, h3⟩ := h.1 _ hi t ht
    exact less_trans (segs_lt h d hs hg) (h3 _ (by omega) hg)
theorem segs_lt' {l : List Sg} (h : SegsOk l) {i j : Nat} {s t : Sg} (hij : i < j) (hs : l[i]? = some s) (ht : l[j]? = some t) : Less s.1 t.1 := by
  obtain ⟨d, rfl⟩ : ∃ d, j = i + d + 1 := ⟨j - i - 1, by omega⟩
  exact segs_lt h d hs ht
/-- each word is found where it begins -/
theorem look_self {l : List Sg} (h : SegsOk l) {i : Nat} {s : Sg} (hs : l[i]? = some s) : lookL l s.1 = some s.2 := by
  refine lookL_at (i := i) ?_ hs ⟨rfl, Int.le_refl _⟩
  intro j t hij ht hf
  have := segs_lt' h hij hs ht
  obtain ⟨h1, h2⟩ := hf
  unfold Less at this
  omega
/-- the last place, of the first n, that fits -/
def BestTo (l : List Sg) (p : Ps) (n : Nat) (b : Int) : Prop :=
  (b = -1 ∧ ∀ (j : Nat) (t : Sg), j < n → l[j]? = some t → ¬ Fits p t) ∨ ∃ (i : Nat) (s : Sg), b = (i : Int) ∧ i < n ∧ l[i]? = some s ∧ Fits p s ∧ ∀ (j : Nat) (t : Sg), i < j → j < n → l[j]? = some t → ¬ Fits p t
theorem BestTo.zero (l : List Sg) (p : Ps) : BestTo l p 0 (-1) := .inl ⟨rfl, fun j t hj => absurd hj (Nat.not_lt_zero _)⟩
theorem BestTo.yes {l : List Sg} {p : Ps} {n : Nat} {s : Sg} (hs : l[n]? = some s) (hf : Fits p s) : BestTo l p (n + 1) (n : Int) :=
  .inr ⟨n, s, rfl, by omega, hs, hf, fun j t h1 h2 => by omega⟩
theorem BestTo.no {l : List Sg} {p : Ps} {n : Nat} {b : Int} {s : Sg} (h : BestTo l p n b) (hs : l[n]? = some s) (hf : ¬ Fits p s) : BestTo l p (n + 1) b := by
  rcases h with ⟨rfl, h⟩ | ⟨i, u, rfl, hi, hu, hfu, h⟩
  · refine .inl ⟨rfl, fun j t hj ht => ?_⟩
    by_cases e : j = n
    · subst e; rw [hs] at ht; obtain rfl := Option.some.inj ht; exact hf
    · exact h j t (by omega) ht
  · refine .inr ⟨i, u, rfl, by omega, hu, hfu, fun j t h1 h2 ht => ?_⟩
    by_cases e : j = n
    · subst e; rw [hs] at ht; obtain rfl := Option.some.inj ht; exact hf
    · exact h j t h1 (by omega) ht
theorem BestTo.look {l : List Sg} {p : Ps} {b : Int} (h : BestTo l p l.length b) : (b = -1 ∧ lookL l p = none) ∨ ∃ (i : Nat) (s : Sg), b = (i : Int) ∧ i < l.length ∧ l[i]? = some s ∧ lookL l p = some s.2 := by
  rcases h with ⟨rfl, h⟩ | ⟨i, s, rfl, hi, hs, hf, h⟩
  · exact .inl ⟨rfl, lookL_none fun j t ht => h j t ((List.getElem?_eq_some_iff.1 ht).1) ht⟩
  · exact .inr ⟨i, s, rfl, hi, hs, lookL_at (fun j t hj ht => h j t hj ((List.getElem?_eq_some_iff.1 ht).1) ht) hs hf⟩
/-- what comes back of the first n is the head of all that comes back -/
theorem backL_head {l : List Sg} {p : Ps} {i : Nat} {s : Sg} (hs : l[i]? = some s) (e : s.2 = p) : (backL l p)[(backL (l.take i) p).length]? = some s.1 := by
  have h1 : l = l.take (i + 1) ++ l.drop (i + 1) := (List.take_append_drop _ _).symm
  have h2 : backL l p = backL (l.take (i + 1)) p ++ backL (l.drop (i + 1)) p := by
    conv => lhs; rw [h1]
    unfold backL
    rw [List.filter_append, List.map_append]
  rw [h2, backL_step hs e, List.append_assoc, List.getElem?_append_right (Nat.le_refl _)]
  simp
/-- what is joined of the first n is the head of all that is joined -/
theorem joinG_head {a b : List Sg} {i : Nat} {s : Sg} {p : Ps} (hs : a[i]? = some s) (e : lookL b s.2 = some p) : (joinG a b)[(joinG (a.take i) b).length]? = some (s.1, p) := by
  have h1 : a = a.take (i + 1) ++ a.drop (i + 1) := (List.take_append_drop _ _).symm
  have h2 : joinG a b = joinG (a.take (i + 1)) b ++ joinG (a.drop (i + 1)) b := by
    conv => lhs; rw [h1]
    unfold joinG
    rw [List.filterMap_append]
  rw [h2, joinG_step hs e, List.append_assoc, List.getElem?_append_right (Nat.le_refl _)]
  simp
theorem lookL_mem {l : List Sg} {p q : Ps} (h : lookL l p = some q) : ∃ s ∈ l, s.2 = q ∧ Fits p s := by
  unfold lookL at h
  rw [Option.map_eq_some_iff] at h
  obtain ⟨s, hs, rfl⟩ := h
  have h1 := List.find?_some hs
  have h2 := List.mem_of_find?_eq_some hs
  exact ⟨s, List.mem_reverse.1 h2, rfl, by simpa using h1⟩
theorem mem_joinG {a b : List Sg} {t : Sg} (h : t ∈ joinG a b) : ∃ s ∈ a, s.1 = t.1 ∧ lookL b s.2 = some t.2 := by
  unfold joinG at h
  rw [List.mem_filterMap] at h
  obtain ⟨s, hs, h⟩ := h
  unfold joinS at h
  rw [Option.map_eq_some_iff] at h
  obtain ⟨p, hp, rfl⟩ := h
  exact ⟨s, hs, rfl, hp⟩
/-- in order, said of all pairs -/
def SegsP (l : List Sg) : Prop := (∀ s ∈ l, PosOk s.1 ∧ PosOk s.2) ∧ l.Pairwise (fun s t => Less s.1 t.1) ∧ l.length ≤ 1280
theorem segsP_of {l : List Sg} (h : SegsOk l) : SegsP l := by
  refine ⟨fun s hs => ?_, ?_, h.2⟩
  · obtain ⟨i, hi, rfl⟩ := List.mem_iff_getElem.1 hs
    exact segs_pos h (List.getElem?_eq_getElem hi)
  · rw [List.pairwise_iff_getElem]
    intro i j hi hj hij
    exact segs_lt' h hij (List.getElem?_eq_getElem hi) (List.getElem?_eq_getElem hj)
theorem SegsP.ok {l : List Sg} (h : SegsP l) : SegsOk l := by
  obtain ⟨h1, h2, h3⟩ := h
  refine ⟨fun i hi s hs => ?_, h3⟩
  obtain ⟨p1, p2⟩ := h1 s (List.mem_of_getElem? hs)
  refine ⟨p1, p2, fun r h0 hr => ?_⟩
  rw [List.pairwise_iff_getElem] at h2
  obtain ⟨hi1, rfl⟩ := List.getElem?_eq_some_iff.1 hs
  obtain ⟨hi2, rfl⟩ := List.getElem?_eq_some_iff.1 hr
  exact h2 _ _ hi2 hi1 (by omega)
theorem joinG_ok {a b : List Sg} (ha : SegsOk a) (hb : SegsOk b) : SegsOk (joinG a b) := by
  obtain ⟨a1, a2, a3⟩ := segsP_of ha
  obtain ⟨b1, b2, b3⟩ := segsP_of hb
  refine SegsP.ok ⟨fun t ht => ?_, ?_, ?_⟩
  · obtain ⟨s, hs, h1, h2⟩ := mem_joinG ht
    obtain ⟨u, hu, h3, _⟩ := lookL_mem h2
    rw [← h1, ← h3]
    exact ⟨(a1 s hs).1, (b1 u hu).2⟩
  · unfold joinG
    rw [List.pairwise_filterMap]
    refine a2.imp ?_
    intro s t hst x hx y hy
    unfold joinS at hx hy
    simp only [Option.map_eq_some_iff] at hx hy
    obtain ⟨_, _, rfl⟩ := hx
    obtain ⟨_, _, rfl⟩ := hy
    exact hst
  · have := joinG_len a b a.length
    rw [List.take_length] at this
    omega
/-- what two maps say, one after the other -/
theorem join_look {a b : List Sg} (ha : SegsOk a) {t : Sg} (h : t ∈ joinG a b) : ∃ p, lookL a t.1 = some p ∧ lookL b p = some t.2 := by
  obtain ⟨s, hs, h1, h2⟩ := mem_joinG h
  obtain ⟨i, hi, rfl⟩ := List.mem_iff_getElem.1 hs
  refine ⟨_, ?_, h2⟩
  rw [← h1]
  exact look_self ha (List.getElem?_eq_getElem hi)
/-- what three maps say -/
theorem three_look {a b c : List Sg} (ha : SegsOk a) (hb : SegsOk b) {t : Sg} (h : t ∈ joinG (joinG a b) c) : ∃ p q, lookL a t.1 = some p ∧ lookL b p = some q ∧ lookL c q = some t.2 := by
  obtain ⟨s, hs, h1, h2⟩ := mem_joinG h
  obtain ⟨p, hp, hq⟩ := join_look ha hs
  exact ⟨p, s.2, by rw [← h1]; exact hp, hq, h2⟩
/-- a list with its last once more is not in order -/
theorem twice_no {l : List Sg} {s : Sg} (hs : l[l.length - 1]? = some s) : ¬ SegsOk (l ++ [s]) := fun h => by
  have hl : l.length - 1 < l.length := (List.getElem?_eq_some_iff.1 hs).1
  have h1 : (l ++ [s])[l.length - 1]? = some s := by rw [List.getElem?_append_left hl]; exact hs
  have h2 : (l ++ [s])[l.length]? = some s := by simp
  exact less_irr _ (segs_lt' h (show l.length - 1 < l.length by omega) h1 h2)
theorem first_no {l : List Sg} {s : Sg} (h : ¬ (PosOk s.1 ∧ PosOk s.2)) : ¬ SegsOk (s :: l) := fun k => h (segs_pos k (i := 0) rfl)
theorem tail_ok {s : Sg} {l : List Sg} (h : SegsOk (s :: l)) : SegsOk l := by
  obtain ⟨h1, h2, h3⟩ := segsP_of h
  exact SegsP.ok ⟨fun t ht => h1 t (List.mem_cons_of_mem _ ht), (List.pairwise_cons.1 h2).2, by simp at h3; omega⟩
theorem nil_ok : SegsOk [] := ⟨fun i hi => by simp at hi, by simp⟩
theorem sub_len {α : Type} [BEq α] [LawfulBEq α] : ∀ (l m : List α), l.Pairwise (· ≠ ·) → (∀ x ∈ l, x ∈ m) → l.length ≤ m.length
  | [], _, _, _ => Nat.zero_le _
  | x :: l, m, hp, hs => by
    obtain ⟨h1, h2⟩ := List.pairwise_cons.1 hp
    have hx : x ∈ m := hs x (List.mem_cons_self ..)
    have ih := sub_len l (m.erase x) h2 (fun y hy => (List.mem_erase_of_ne (fun e => h1 y hy e.symm)).2 (hs y (List.mem_cons_of_mem _ hy)))
    have := List.length_erase_of_mem hx
    have := List.length_pos_of_mem hx
    simp only [List.length_cons]
    omega
def ix (p : Ps) : Int := p.1 * 120 + p.2
/-- of the first n places, those from which something came, each from itself -/
def SameTo (a : List Sg) (n : Int) (m : List Sg) : Prop :=
  (∀ s ∈ m, s.2 = s.1 ∧ (∃ t ∈ a, t.2 = s.1) ∧ PosOk s.1 ∧ ix s.1 < n) ∧ m.Pairwise (fun s t => Less s.1 t.1) ∧ ∀ t ∈ a, PosOk t.2 → ix t.2 < n → (t.2, t.2) ∈ m
theorem ix_less {p q : Ps} (hp : PosOk p) (hq : PosOk q) (h : ix p < ix q) : Less p q := by unfold ix PosOk Less at *; omega
theorem ix_inj {p q : Ps} (hp : PosOk p) (hq : PosOk q) (h : ix p = ix q) : p = q := by
  unfold ix PosOk at *
  have h1 : p.1 = q.1 := by omega
  have h2 : p.2 = q.2 := by omega
  exact Prod.ext h1 h2
theorem SameTo.zero (a : List Sg) : SameTo a 0 [] := ⟨fun s h => by simp at h, .nil, fun t _ hp h => by unfold ix PosOk at *; omega⟩
theorem SameTo.yes {a m : List Sg} {p : Ps} (h : SameTo a (ix p) m) (hp : PosOk p) (hx : ∃ t ∈ a, t.2 = p) : SameTo a (ix p + 1) (m ++ [(p, p)]) := by
  obtain ⟨h1, h2, h3⟩ := h
  refine ⟨fun s hs => ?_, ?_, fun t ht hpt hi => ?_⟩
  · rw [List.mem_append, List.mem_singleton] at hs
    rcases hs with hs | rfl
    · obtain ⟨a1, a2, a3, a4⟩ := h1 s hs
      exact ⟨a1, a2, a3, by omega⟩
    · exact ⟨rfl, hx, hp, by simp only; omega⟩
  · rw [List.pairwise_append]
    refine ⟨h2, List.pairwise_singleton _ _, fun s hs t ht => ?_⟩
    rw [List.mem_singleton] at ht
    subst ht
    exact ix_less (h1 s hs).2.2.1 hp (h1 s hs).2.2.2
  · rw [List.mem_append, List.mem_singleton]
    by_cases e : ix t.2 = ix p
    · right
      rw [ix_inj hpt hp e]
    · exact .inl (h3 t ht hpt (by omega))
theorem SameTo.no {a m : List Sg} {p : Ps} (h : SameTo a (ix p) m) (hp : PosOk p) (hx : ¬ ∃ t ∈ a, t.2 = p) : SameTo a (ix p + 1) m := by
  obtain ⟨h1, h2, h3⟩ := h
  refine ⟨fun s hs => ?_, h2, fun t ht hpt hi => ?_⟩
  · obtain ⟨a1, a2, a3, a4⟩ := h1 s hs
    exact ⟨a1, a2, a3, by omega⟩
  · by_cases e : ix t.2 = ix p
    · exact absurd ⟨t, ht, ix_inj hpt hp e⟩ hx
    · exact h3 t ht hpt (by omega)
theorem SameTo.len {a m : List Sg} {n : Int} (h : SameTo a n m) : m.length ≤ a.length := by
  obtain ⟨h1, h2, h3⟩ := h
  have k := sub_len (m.map (·.1)) (a.map (·.2)) (by rw [List.pairwise_map]; exact h2.imp (fun {s t} hl e => by rw [e] at hl; exact less_irr _ hl))
    (fun x hx => by
      obtain ⟨s, hs, rfl⟩ := List.mem_map.1 hx
      obtain ⟨_, ⟨t, ht, e⟩, _⟩ := h1 s hs
      exact List.mem_map.2 ⟨t, ht, e⟩)
  simpa using k
theorem SameTo.ok {a m : List Sg} {n : Int} (h : SameTo a n m) (ha : SegsOk a) : SegsOk m := by
  have hl := h.len
  obtain ⟨h1, h2, h3⟩ := h
  have := ha.2
  exact SegsP.ok ⟨fun s hs => by obtain ⟨e, _, hp, _⟩ := h1 s hs; exact ⟨hp, by rw [e]; exact hp⟩, h2, by omega⟩
/-- joined with what says that each place came from itself -/
theorem join_same {a m : List Sg} (h : SameTo a 1920 m) (ha : SegsOk a) : joinG a m = a := by
  have hm := h.ok ha
  have key : ∀ s ∈ a, joinS m s = some s := by
    intro s hs
    have hp := ((segsP_of ha).1 s hs).2
    have hx := h.2.2 s hs hp (by unfold ix PosOk at *; omega)
    obtain ⟨i, hi, e⟩ := List.mem_iff_getElem.1 hx
    have hk := look_self hm (i := i) (s := (s.2, s.2)) (by rw [← e]; exact List.getElem?_eq_getElem hi)
    unfold joinS
    simp only at hk
    rw [hk]
    rfl
  unfold joinG
  clear h hm ha
  induction a with
  | nil => rfl
  | cons s a ih =>
    rw [List.filterMap_cons, key s (List.mem_cons_self ..)]
    simp only
    rw [ih (fun t ht => key t (List.mem_cons_of_mem _ ht))]
end Go.Proofs.YtgfbjpmbaibnoaaGreatDoor
