/- The last place of a name: the reference's and the program's. -/
import Derived.Test.YtgakjhaepdigpaaGreatDoorZm12
import Derived.RangeFuncNested
import Derived.RangeFuncBound
import Derived.RangeFuncLeaves
import Derived.OwnWalkIn
import Derived.TacticsInMore
import Derived.LoopNIn
import Derived.LoopIn
import Derived.Shelf.Abstract
import Derived.Test.YtgakjhaepdigpaaGreatDoorBas
namespace Go.Proofs.YtgakjhaepdigpaaGreatDoor
set_option maxRecDepth 100000
set_option linter.unusedSimpArgs false
set_option linter.unusedVariables false
open Go.RowKit Go.Shelf
attribute [local go_sem] bs_toList bs_get bs_size Oper.semAt_some

def lastF (s : Bytes) : List Bytes → Nat → Option Nat
  | [], _ => none
  | x :: l, i => match lastF s l (i + 1) with
    | some j => some j
    | none => if x = s then some i else none
theorem lastF_none {s : Bytes} : ∀ {l : List Bytes} {i : Nat}, (∀ x ∈ l, x ≠ s) → lastF s l i = none
  | [], _, _ => rfl
  | x :: l, i, h => by
    rw [lastF, lastF_none (fun y hy => h y (List.mem_cons_of_mem _ hy))]
    simp [h x (List.mem_cons_self ..)]
theorem lastF_some {s : Bytes} : ∀ {l : List Bytes} {i j : Nat}, l[j]? = some s → (∀ t x, j < t → l[t]? = some x → x ≠ s) → lastF s l i = some (i + j)
  | [], _, _, h, _ => by simp at h
  | x :: l, i, 0, h, hh => by
    have e : x = s := by simpa using h
    rw [lastF, lastF_none (fun y hy => by
      obtain ⟨t, ht⟩ := List.mem_iff_getElem?.1 hy
      exact hh (t + 1) y (by omega) (by simpa using ht))]
    simp [e]
  | x :: l, i, j + 1, h, hh => by
    have h1 : l[j]? = some s := by simpa using h
    rw [lastF, lastF_some (i := i + 1) h1 (fun t y ht hy => hh (t + 1) y (by omega) (by simpa using hy))]
    simp
    omega
theorem lastF_lt {s : Bytes} : ∀ {l : List Bytes} {i k : Nat}, lastF s l i = some k → k < i + l.length
  | [], _, _, h => by simp [lastF] at h
  | x :: l, i, k, h => by
    rw [lastF] at h
    cases hl : lastF s l (i + 1) with
    | some j =>
      rw [hl] at h
      have := lastF_lt hl
      simp at h
      subst h
      simp
      omega
    | none =>
      rw [hl] at h
      simp at h
      simp
      omega
def lastI (l : List Bytes) (s : Bytes) : Int := match lastF s l 0 with | some i => i | none => -1
theorem lastI_none {l : List Bytes} {s : Bytes} (h : ∀ x ∈ l, x ≠ s) : lastI l s = -1 := by unfold lastI; rw [lastF_none h]
theorem lastI_some {l : List Bytes} {s : Bytes} {j : Nat} (h : l[j]? = some s) (hh : ∀ t x, j < t → l[t]? = some x → x ≠ s) : lastI l s = j := by unfold lastI; rw [lastF_some h hh]; simp
theorem spFind_any (l : List Bytes) (s : Bytes) (v : Value) (w : World) (hv : SlB w w.heap.size v l) : Calls Tryz.prog 129 #[v, .string (bs s)] w fun e w' => e = .returned (.int .i64 (lastI l s)) ∧ w = w' := by
  obtain ⟨A, c, rfl, hc, hm⟩ := hv.val
  go_enter Tryz.func129, Tryz.ntmps129
  go_wp2_with fail
  go_loopg [5] l.length (fun k i wr => ∃ m : Nat, k = m ∧ m ≤ l.length ∧ i = .int .i64 ((m : Int) - 1) ∧ (∀ t x, m ≤ t → l[t]? = some x → x ≠ s) ∧ wr = w)
  case atStart => exact ⟨l.length, rfl, Nat.le_refl _, rfl, fun t x h hx => (by rw [List.getElem?_eq_none h] at hx; cases hx), rfl⟩
  case round =>
    obtain ⟨gm, hgm, hk, rfl, ha, rfl⟩ := hrel
    have HGM := Lib.hid hgm
    clear hgm
    have HK := Lib.hid ha
    clear ha
    by_cases hlt : 0 < gm
    · obtain ⟨j, rfl⟩ : ∃ j, gm = j + 1 := ⟨gm - 1, by omega⟩
      rw [show (((j + 1 : Nat) : Int) - 1) = (j : Int) from by omega]
      obtain ⟨b, o, x, rfl, hb, hg, f0⟩ := str_at hv (i := j) (by omega)
      have g0 := f0 ⟨wr, Below.refl _ _⟩
      have HG := Lib.hid hg
      clear f0 hg
      by_cases he : x = s
      · have hd : (x == s) = true := by simp [he]
        have HE := Lib.hid he
        clear he
        go_wp2_with fail
        go_ret
        exact ⟨ret_int (by rw [lastI_some (by rw [HG.out, HE.out]) (fun t y ht hy => HK.out t y (by omega) hy)]), rfl⟩
      · have hd : (x == s) = false := by simp [he]
        have HE := Lib.hid he
        clear he
        go_wp2_with fail
        go_roundg j
        case measure => have := HGM.out; omega
        case rel => exact ⟨j, rfl, by omega, by go_num, fun t y ht hy => by
          by_cases e : t = j
          · subst e
            rw [HG.out] at hy
            obtain rfl := Option.some.inj hy
            exact HE.out
          · exact HK.out t y (by omega) hy, rfl⟩
    · obtain rfl : gm = 0 := by omega
      go_wp2_with fail
      go_ret
      exact ⟨ret_int (by rw [lastI_none (fun x hx => by obtain ⟨t, ht⟩ := List.mem_iff_getElem?.1 hx; exact HK.out t x (Nat.zero_le _) ht)]), rfl⟩
/-! ### the program's: a range over slices.Backward -/
/-- what has come when k rounds are over -/
def upto {α : Type} (f : Nat → α) (k : Nat) : List α := (List.range k).map f
theorem upto_succ {α : Type} (f : Nat → α) (k : Nat) : upto f (k + 1) = upto f k ++ [f k] := by simp [upto, List.range_succ]
theorem upto_length {α : Type} (f : Nat → α) (k : Nat) : (upto f k).length = k := by simp [upto]
/-- from the last element on, each with its place -/
def fromEnd {α : Type} [Inhabited α] (l : List α) (j : Nat) : Int × α := (((l.length - 1 - j : Nat) : Int), l[l.length - 1 - j]?.getD default)
theorem fromEnd_at {α : Type} [Inhabited α] {l : List α} {i : Nat} {s : α} (h : l[i]? = some s) : fromEnd l (l.length - (i + 1)) = ((i : Int), s) := by
  have hi : i < l.length := (List.getElem?_eq_some_iff.1 h).1
  have e : l.length - 1 - (l.length - (i + 1)) = i := by omega
  unfold fromEnd
  rw [e, h]
  rfl

set_option maxRecDepth 100000 in
set_option maxHeartbeats 1000000 in
theorem back1_in (F : Fence) (n : Nat) (h7 : F.fn 188) (hro : F.round = none) (hn : 1 ≤ n) (l Bs n₀ : Nat) (A : Option Addr) (len cap : Nat) (xs : List Bytes) (hcap : len ≤ 9223372036854775807) (hlen : len = xs.length)
    (J Jx : List (Int × Bytes) → World → Prop)
    (hY : ∀ pre x W, J pre W → pre.length < len → YieldAt F (n - 1) Tryz.prog l #[.int .i64 x.1, .string (bs x.2)] W fun e W' =>
      (e = .returned (.bool true) ∧ J (pre ++ [x]) W' ∧ Below n₀ W W') ∨ (e = .returned (.bool false) ∧ Jx (pre ++ [x]) W'))
    (W : World) (hBn : Bs < n₀) (hBs : W.cell? ⟨Bs, 0, none⟩ = some (.slice A len cap)) (hS : SlB W n₀ (.slice A len cap) xs) (h0 : J [] W) :
    CallsIn F n Tryz.prog 188 #[.func (.yield l) #[] #[], .pointer (some ⟨Bs, 0, none⟩)] W fun e W' => (∃ v, e = .returned v) ∧
      ((∃ ys, ys = upto (fromEnd xs) len ∧ J ys W') ∨ (∃ pre, (∃ k, k ≤ len ∧ pre = upto (fromEnd xs) k) ∧ Jx pre W')) := by
  have HL := Lib.hid hlen
  clear hlen
  refine callsIn_of_wp Tryz.func188 rfl h7 ?_ hro
  simp only [Tryz.ntmps188, List.size_toArray, List.length_cons, List.length_nil, Nat.reduceAdd, Nat.reduceSub, Array.replicate_succ, Array.replicate_zero, List.push_toArray, List.append_toArray, List.nil_append, List.cons_append]
  gi_wp2
  gi_loopw [3] (fun i wr => ∃ m : Nat, m ≤ len ∧ i = .int .i64 ((m : Int) - 1) ∧ J (upto (fromEnd xs) (len - m)) wr ∧ Below n₀ W wr)
    (fun i _ => (intOf i + 1).toNat)
  case atStart => exact ⟨len, Nat.le_refl _, rfl, by rw [Nat.sub_self]; exact h0, Below.refl _ _⟩
  case round =>
    obtain ⟨m, hm, rfl, hJs, hnx⟩ := hrel
    have hsl : wr.cell? ⟨Bs, 0, none⟩ = some (.slice A len cap) := (hnx.cell (p := ⟨Bs, 0, none⟩) hBn).trans hBs
    by_cases hlt : 0 < m
    · obtain ⟨i, rfl⟩ : ∃ i, m = i + 1 := ⟨m - 1, by omega⟩
      rw [show (((i + 1 : Nat) : Int) - 1) = (i : Int) from by omega]
      obtain ⟨b, o, str, rfl, hb, hg, f0⟩ := str_at hS (i := i) (by have := HL.out; omega)
      have g0 := f0 ⟨wr, hnx⟩
      clear f0
      have HE : Hid (fromEnd xs (len - (i + 1)) = ((i : Int), str)) := by rw [HL.out]; exact fromEnd_at hg
      clear hg
      obtain ⟨fn, tmps, assign, body, hy, hR⟩ := hY _ ((i : Int), str) wr hJs (by rw [upto_length]; omega)
      dsimp only at hy
      clear hJs
      have hlt2 : i < len := by omega
      gi_wp2
      refine hR.mono ?_
      rintro e W3 (⟨rfl, hJ3, hk3⟩ | ⟨rfl, hJx3⟩)
      · gi_wp2
        go_roundw
        case rel => exact ⟨i, by omega, rfl, by rw [show len - i = len - (i + 1) + 1 from by omega, upto_succ, HE.out]; exact hJ3, hnx.trans hk3⟩
        case measure => simp [intOf]
      · gi_wp2
        refine bodyPost_ret (results_none rfl _ _ _) rfl ?_
        exact ⟨⟨_, rfl⟩, .inr ⟨_, ⟨len - (i + 1) + 1, by omega, by rw [upto_succ, HE.out]⟩, hJx3⟩⟩
    · obtain rfl : m = 0 := by omega
      gi_wp2
      go_end0
      exact ⟨⟨_, rfl⟩, .inl ⟨_, rfl, hJs⟩⟩

/-- slices.Backward(s): the slice value is boxed; the function value captures the box. -/
theorem back_in (F : Fence) (n : Nat) (h5 : F.fn 171) (hro : F.round = none) (a : Option Addr) (len cap : Nat) (w : World) :
    CallsIn F n Tryz.prog 171 #[.slice a len cap] w fun e w' => e = .returned (.func (.func 188) #[] #[.pointer (some ⟨w.heap.size, 0, none⟩)]) ∧ w' = w.alloc (.cells #[.slice a len cap] 45) := by
  refine callsIn_of_wp Tryz.func171 rfl h5 ?_ hro
  simp only [Tryz.ntmps171, List.size_toArray, List.length_cons, List.length_nil, Nat.reduceAdd, Nat.reduceSub, Array.replicate_succ, Array.replicate_zero, List.push_toArray, List.append_toArray, List.nil_append, List.cons_append]
  gi_wp2
  go_ret
  exact ⟨rfl, rfl⟩

theorem back_stops (F : Fence) (n : Nat) (h7 : F.fn 188) (hro : F.round = none) (hn : 1 ≤ n) (Bs n₀ : Nat) (A : Option Addr) (len cap : Nat) (xs : List Bytes) (hcap : len ≤ 9223372036854775807) (hlen : len = xs.length) (w : World) (hBn : Bs < n₀) (hn₀ : n₀ ≤ w.heap.size)
    (hc : w.cell? ⟨Bs, 0, none⟩ = some (.slice A len cap)) (hS : SlB w n₀ (.slice A len cap) xs) :
    SeqStopsK F n Tryz.prog 188 #[.pointer (some ⟨Bs, 0, none⟩)] (fun x : Int × Bytes => #[Value.int .i64 x.1, .string (bs x.2)]) (Below n₀) (fun ys => ys = upto (fromEnd xs) len)
      (fun pre => ∃ k, k ≤ len ∧ pre = upto (fromEnd xs) k) len w := fun l J Jx W hW _ _ hY h0 =>
  back1_in F n h7 hro hn l Bs n₀ A len cap xs hcap hlen J Jx hY W hBn ((hW.cell (p := ⟨Bs, 0, none⟩) (Nat.lt_of_lt_of_le hBn hn₀)).trans hc) (hS.below (hW.mono hn₀) (Nat.le_refl _)) h0

theorem upto_fromEnd {α : Type} [Inhabited α] (l : List α) (k : Nat) (hk : k ≤ l.length) : (upto (fromEnd l) k).map (·.2) = l.reverse.take k := by
  apply List.ext_getElem?
  intro j
  by_cases hj : j < k
  · have h1 : l.length - 1 - j < l.length := by omega
    simp [upto, fromEnd, hj, List.getElem?_take, List.getElem?_reverse (show j < l.length by omega), List.getElem?_eq_getElem h1]
  · rw [List.getElem?_eq_none (by simp [upto]; omega), List.getElem?_eq_none (by simp; omega)]

/-- between two rounds: none that has come is it -/
def LastI (s : Bytes) (W1 : World) (pre : List (Int × Bytes)) (W : World) : Prop := (∀ x ∈ pre, ¬ x.2 = s) ∧ Below W1.heap.size W1 W
/-- a round has returned: the last that has come is it, and its place is told -/
def LastX (s : Bytes) (w : World) (cd : Code) (pre : List (Int × Bytes)) (W : World) : Prop :=
  (cd = .ret ∧ ∃ ini last, pre = ini ++ [last] ∧ (∀ x ∈ ini, ¬ x.2 = s) ∧ last.2 = s ∧ W.cell? ⟨w.heap.size + 1, 0, none⟩ = some (.int .i64 last.1)) ∧ Below w.heap.size w W
def LastA (A : Option Addr) (len c : Nat) (s : Bytes) (w : World) (x : Int × Bytes) (a' : Act) (_ : World) : Prop :=
  a' = { tmps := #[.slice A len c, .string (bs s), undef, .pointer (some ⟨w.heap.size, 0, none⟩), .pointer (some ⟨w.heap.size + 1, 0, none⟩), .int .i64 x.1, .string (bs x.2), .slice A len c, .func (.func 188) #[] #[.pointer (some ⟨w.heap.size + 1 + 1, 0, none⟩)], .int .i64 x.1, .string (bs x.2), undef, undef, undef, undef], defers := [] }
theorem last_split {l : List Bytes} {s : Bytes} {k : Nat} (hk : k ≤ l.length) {ini : List (Int × Bytes)} {last : Int × Bytes} (h : upto (fromEnd l) k = ini ++ [last]) (hi : ∀ x ∈ ini, ¬ x.2 = s) (hl : last.2 = s) : lastI l s = last.1 := by
  have hlen : k = ini.length + 1 := by have := congrArg List.length h; rw [upto_length, List.length_append, List.length_singleton] at this; exact this
  have hlast : last = fromEnd l (k - 1) := by
    have h2 : (upto (fromEnd l) k)[k - 1]? = some last := by rw [h, hlen, Nat.add_sub_cancel, List.getElem?_append_right (Nat.le_refl _), Nat.sub_self]; rfl
    have h3 : (upto (fromEnd l) k)[k - 1]? = some (fromEnd l (k - 1)) := by simp [upto, show k - 1 < k by omega]
    rw [h3] at h2
    exact (Option.some.inj h2).symm
  have hini : ∀ j, j < k - 1 → ¬ (fromEnd l j).2 = s := by
    intro j hj
    have h3 : (upto (fromEnd l) k)[j]? = some (fromEnd l j) := by simp [upto, show j < k by omega]
    rw [h, List.getElem?_append_left (by omega)] at h3
    exact hi _ (List.mem_of_getElem? h3)
  have hat : ∀ j, j < l.length → l[l.length - 1 - j]? = some (fromEnd l j).2 := by
    intro j hj
    have h1 : l.length - 1 - j < l.length := by omega
    unfold fromEnd
    rw [List.getElem?_eq_getElem h1]
    rfl
  rw [hlast] at hl ⊢
  have h0 := hat (k - 1) (by omega)
  rw [hl] at h0
  rw [lastI_some h0 (fun t x ht hx => by
    have h5 := hat (l.length - 1 - t) (by have := (List.getElem?_eq_some_iff.1 hx).1; omega)
    have h6 : l.length - 1 - (l.length - 1 - t) = t := by have := (List.getElem?_eq_some_iff.1 hx).1; omega
    rw [h6, hx] at h5
    have h7 := hini (l.length - 1 - t) (by have := (List.getElem?_eq_some_iff.1 hx).1; omega)
    rw [← Option.some.inj h5] at h7
    exact h7)]
  rfl
theorem last_none {l : List Bytes} {s : Bytes} (hi : ∀ x ∈ upto (fromEnd l) l.length, ¬ x.2 = s) : lastI l s = -1 := by
  apply lastI_none
  intro x hx
  have h := upto_fromEnd l l.length (Nat.le_refl _)
  rw [List.take_of_length_le (by simp)] at h
  have h2 : x ∈ l.reverse := List.mem_reverse.2 hx
  rw [← h] at h2
  obtain ⟨y, hy, rfl⟩ := List.mem_map.1 h2
  exact hi y hy
set_option maxRecDepth 100000 in
set_option maxHeartbeats 1000000 in
theorem last_in (F : Fence) (n : Nat) (h4 : F.fn 149) (h6 : F.fn 171) (h8 : F.fn 188) (hro : F.round = none) (hn : 3 ≤ n) (v : Value) (l : List Bytes) (s : Bytes) (w : World) (hv : SlB w w.heap.size v l) :
    CallsIn F n Tryz.prog 149 #[v, .string (bs s)] w fun e W' => e = .returned (.int .i64 (lastI l s)) ∧ Below w.heap.size w W' := by
  obtain ⟨A, c, rfl, hc, hm⟩ := hv.val
  have h1 : 1 ≤ n := by omega
  refine callsIn_of_wp_marks Tryz.func149 rfl h4 ?_ hro
  simp only [Tryz.ntmps149, List.size_toArray, List.length_cons, List.length_nil, Nat.reduceAdd, Nat.reduceSub, Array.replicate_succ, Array.replicate_zero, List.push_toArray, List.append_toArray, List.nil_append, List.cons_append]
  gi_wp2_with (gi_at_call 171; refine (back_in F (n - 1) h6 hro _ _ _ _).mono ?_; rintro e w' ⟨rfl, rfl⟩)
  obtain ⟨W1, hW1⟩ : ∃ W1, W1 = (((w.alloc (Obj.cells #[Value.string (bs s)] 9)).alloc (Obj.cells #[Value.int IntKind.i64 0] 3)).alloc (Obj.cells #[Value.slice A l.length c] 45)) := ⟨_, rfl⟩
  rw [← hW1]
  have hs1 : w.heap.size + 1 + 1 < W1.heap.size := by rw [hW1]; simp
  have hB1 : Below w.heap.size w W1 := by rw [hW1]; (repeat (first | with_reducible assumption | with_reducible exact Below.refl _ _ | with_reducible refine Below.setCell ?_ (by first | omega | (simp; done) | (simp; omega)) _ | with_reducible refine Below.alloc ?_ (by first | omega | (simp; done) | (simp; omega)) _ | with_reducible refine below_drewN ?_ _ | with_reducible refine Below.drew ?_))
  have k0 : W1.cell? ⟨w.heap.size, 0, none⟩ = some (.string (bs s)) := by rw [hW1]; simp [go_sem]
  have r0 : W1.cell? ⟨w.heap.size + 1, 0, none⟩ = some (.int .i64 0) := by rw [hW1]; simp [go_sem]
  have z0 : ∀ j, W1.frozen? ⟨w.heap.size + 1, j, none⟩ = false := fun j => by rw [hW1]; simp [go_sem]
  have bsl : W1.cell? ⟨w.heap.size + 1 + 1, 0, none⟩ = some (.slice A l.length c) := by rw [hW1]; simp [go_sem]
  have HW1 := Lib.hid hW1
  clear hW1
  have hvW : SlB W1 W1.heap.size (.slice A l.length c) l := hv.ext hB1
  refine wpIn_rangeFunc_ownH hro h1 (gf := 188) (lb := #[.pointer (some ⟨w.heap.size + 1 + 1, 0, none⟩)]) rfl h8 (enters_of Tryz.func188 (by kernel_rfl) rfl)
    (back_stops F (n - 1) h8 hro (by omega) (w.heap.size + 1 + 1) W1.heap.size A l.length c l (by omega) rfl W1 (by omega) (Nat.le_refl _) bsl hvW) belowK_t (belowK_b (Nat.le_refl _)) (Below.refl _ _) (fun _ => rfl)
    (LastI s W1) (LastX s w)
    (OwnFrom.and (ownFrom_pure _ _) (ownFrom_below (Nat.le_refl _) (Nat.le_refl _)))
    (fun cd => OwnFrom.and (Own.from (fun s A B row hs hg hr => by obtain ⟨hc, ini, last, e1, e2, e3, e4⟩ := hs; exact ⟨hc, ini, last, e1, e2, e3, cell_kept e4 hg hr⟩) _) (ownFrom_below (Nat.le_refl _) (by omega)))
    ⟨fun x hx => by simp at hx, Below.refl _ _⟩
    (LastA A l.length c s w)
    (fun x a' _ X Y row hs hg hr => hs)
    ?assign ?body ?done ?stop
  case assign =>
    rintro lp pre x W K ⟨hp, hB⟩ hK
    have hsz := hB.size
    gi_wp2
    exact hK _ _ (KeepsFrom.refl _ _) (Below.refl _ W) ⟨hp, hB⟩ rfl
  case body =>
    rintro lp pre ⟨xi, x⟩ a' W hl ⟨r, hr⟩ ⟨hp, hB⟩ rfl hlt
    have K0 : W.cell? ⟨w.heap.size, 0, none⟩ = some (.string (bs s)) := (hB.cell (p := ⟨w.heap.size, 0, none⟩) (by simp; omega)).trans k0
    have R0 : W.cell? ⟨w.heap.size + 1, 0, none⟩ = some (.int .i64 0) := (hB.cell (p := ⟨w.heap.size + 1, 0, none⟩) (by simp; omega)).trans r0
    have Z0 : ∀ j, W.frozen? ⟨w.heap.size + 1, j, none⟩ = false := fun j => (hB.frozen (p := ⟨w.heap.size + 1, j, none⟩) (by simp; omega)).trans (z0 j)
    by_cases hf : x = s
    · have HF := Lib.hid hf
      have d1 : (x == s) = true := by simpa using hf
      clear hf
      gi_wp2
      have y0 := World.cell?_setCell_same' W ⟨w.heap.size + 1, 0, none⟩ (.int .i64 xi) (by rw [R0]; rfl)
      exact ⟨(KeepsOthers.setCell _ _ _).from _, ⟨rfl, pre, _, rfl, hp, HF.out, y0⟩, by have hz := hB.size; have hB3 := hB1.trans (hB.mono (by omega)); (repeat (first | with_reducible assumption | with_reducible exact Below.refl _ _ | with_reducible refine Below.setCell ?_ (by first | omega | (simp; done) | (simp; omega)) _ | with_reducible refine Below.alloc ?_ (by first | omega | (simp; done) | (simp; omega)) _ | with_reducible refine below_drewN ?_ _ | with_reducible refine Below.drew ?_ | with_reducible refine Below.trans ?_ (Below.mono hB3 (by first | omega | (simp; done) | (simp; omega)))))⟩
    · have HF := Lib.hid hf
      have d1 : (x == s) = false := by simpa using hf
      clear hf
      gi_wp2
      exact ⟨KeepsFrom.refl _ _, Below.refl _ _, fun x hx => (List.mem_append.1 hx).elim (hp x) (fun e => by simp at e; subst e; exact HF.out), hB⟩
  case done =>
    rintro D ys W hD rfl ⟨hne, hB⟩ hK
    have R0 : W.cell? ⟨w.heap.size + 1, 0, none⟩ = some (.int .i64 0) := (hB.cell (p := ⟨w.heap.size + 1, 0, none⟩) (by simp; omega)).trans r0
    have Z0 : ∀ j, W.frozen? ⟨w.heap.size + 1, j, none⟩ = false := fun j => (hB.frozen (p := ⟨w.heap.size + 1, j, none⟩) (by simp; omega)).trans (z0 j)
    gi_wp2
    have hK' := (KeepsOthers.setCell W ⟨w.heap.size + 1, 0, none⟩ (.int .i64 (-1))).same D _ hK rfl
    refine ⟨by simp, .inl ⟨_, _, rfl, run_takeDeferred hK', ?_⟩⟩
    obtain ⟨W3, hW3⟩ : ∃ W3, W3 = W.setCell ⟨w.heap.size + 1, 0, none⟩ (.int .i64 (-1)) := ⟨_, rfl⟩
    have hB3 : Below w.heap.size w W3 := by rw [hW3]; have hB4 := hB1.trans (hB.mono (by omega)); have hz := hB4.size; (repeat (first | with_reducible assumption | with_reducible exact Below.refl _ _ | with_reducible refine Below.setCell ?_ (by first | omega | (simp; done) | (simp; omega)) _ | with_reducible refine Below.alloc ?_ (by first | omega | (simp; done) | (simp; omega)) _ | with_reducible refine below_drewN ?_ _ | with_reducible refine Below.drew ?_ | with_reducible refine Below.trans ?_ (Below.mono hB4 (by first | omega | (simp; done) | (simp; omega)))))
    have c0 : W3.cell? ⟨w.heap.size + 1, 0, none⟩ = some (.int .i64 (-1)) := by rw [hW3]; exact World.cell?_setCell_same' W ⟨w.heap.size + 1, 0, none⟩ (.int .i64 (-1)) (by rw [R0]; rfl)
    rw [← hW3] at hK' ⊢
    have y0 := cell_kept c0 (grownBy_putObj' _ D (.deferred none)) (fun r e => by cases e; exact ⟨_, hK', rfl⟩)
    have hf : lastI l s = -1 := last_none hne
    refine ⟨.int .i64 (lastI l s), ?_, rfl, hB3.trans (belowK_b (w := w) (Nat.le_refl _) W3 D _ _ (by omega) hK' rfl rfl)⟩
    rw [hf]
    simp [results, Tryz.f149, go_sem, y0]
  case stop =>
    rintro D cd pre W hD ⟨k, hk, rfl⟩ ⟨⟨rfl, ini, last, e1, e2, e3, c0⟩, hB⟩ hK
    gi_wp2
    refine ⟨by simp, .inl ⟨_, _, rfl, run_takeDeferred hK, ?_⟩⟩
    have y0 := cell_kept c0 (grownBy_putObj' _ D (.deferred none)) (fun r e => by cases e; exact ⟨_, hK, rfl⟩)
    have hf : lastI l s = last.1 := last_split hk e1 e2 e3
    refine ⟨.int .i64 (lastI l s), ?_, rfl, hB.trans (belowK_b (w := w) (Nat.le_refl _) W D _ _ (by omega) hK rfl rfl)⟩
    rw [hf]
    simp [results, Tryz.f149, go_sem, y0]
theorem imLast_any (l : List Bytes) (s : Bytes) (v : Value) (w : World) (hv : SlB w w.heap.size v l) :
    Calls Tryz.prog 149 #[v, .string (bs s)] w fun e W' => e = .returned (.int .i64 (lastI l s)) ∧ Below w.heap.size w W' :=
  (callsIn_wide (n := 3)).1 (last_in _ 3 trivial trivial trivial rfl (Nat.le_refl _) v l s w hv)
end Go.Proofs.YtgakjhaepdigpaaGreatDoor


/- Types of what is reckoned: the reference's and the program's. -/
namespace Go.Proofs.YtgakjhaepdigpaaGreatDoor
set_option maxRecDepth 100000
set_option linter.unusedSimpArgs false
set_option linter.unusedVariables false
open Go.RowKit
attribute [local go_sem] bs_toList bs_get bs_size

namespace E
def ty (names types : List Bytes) : E → Bytes
  | num _ => cInt
  | nam s => match lastF s names 0 with | some i => (types[i]?).getD [] | none => []
  | cast t a => if a.ty names types = [] then [] else tyB t
  | two o a b => if a.ty names types = cInt ∧ b.ty names types = cInt then (if o = .lt then cBool else cInt) else []
end E
theorem spFind2_any (l : List Bytes) (s : Bytes) (v : Value) (w : World) (hv : SlB w w.heap.size v l) : Calls Tryz.prog 129 #[v, .string (bs s)] w fun e w' => e = .returned (.int .i64 (lastI l s)) ∧ Below w.heap.size w w' :=
  (spFind_any l s v w hv).mono fun e w' ⟨h1, h2⟩ => ⟨h1, by rw [← h2]; exact Below.refl _ _⟩
end Go.Proofs.YtgakjhaepdigpaaGreatDoor
