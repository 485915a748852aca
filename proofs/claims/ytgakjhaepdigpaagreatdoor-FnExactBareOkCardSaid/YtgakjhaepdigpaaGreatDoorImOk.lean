
/- The program's test on trees: parts are counted in a cell of the caller's. -/
import Derived.Test.YtgakjhaepdigpaaGreatDoorZm12
import Derived.Test.YtgakjhaepdigpaaGreatDoorBas
import Derived.Deep.AppendLies
namespace Go.Proofs.YtgakjhaepdigpaaGreatDoor
set_option maxRecDepth 100000
set_option linter.unusedSimpArgs false
set_option linter.unusedVariables false
open Go.RowKit
attribute [local go_sem] bs_toList bs_get bs_size

theorem below_of_grown {w w' : World} {p B : Nat} (hg : w.grownBy w' (some p)) (hB : B ≤ p) (hp : p < w.heap.size) : Below B w w' :=
  ⟨hg.os, hg.tape, hg.output, hg.size, fun k hk => hg.block k (by omega) (fun e => by have := Option.some.inj e; omega)⟩
theorem grown_tr {a w w' : World} {row : Option Nat} (h : a.grownBy w row) (k : w.grownBy w' row) : a.grownBy w' row :=
  ⟨k.os.trans h.os, k.tape.trans h.tape, k.output.trans h.output, Nat.le_trans h.size k.size, fun i hi hr => (k.block i (Nat.lt_of_lt_of_le hi h.size) hr).trans (h.block i hi hr)⟩
theorem grown_bel {a w w' : World} {row : Option Nat} (h : a.grownBy w row) (hb : Below w.heap.size w w') : a.grownBy w' row :=
  grown_tr h ⟨hb.os, hb.tape, hb.output, hb.size, fun i hi _ => hb.block i hi⟩
theorem bel_grown {a w w' : World} {p : Nat} (hb : Below a.heap.size a w) (h : w.grownBy w' (some p)) : a.grownBy w' (some p) :=
  grown_tr ⟨hb.os, hb.tape, hb.output, hb.size, fun i hi _ => hb.block i hi⟩ h
theorem grown_rfl (w : World) (row : Option Nat) : w.grownBy w row := ⟨rfl, rfl, rfl, Nat.le_refl _, fun _ _ _ => rfl⟩
theorem grown_st {a w : World} {b : Nat} (h : a.grownBy w (some b)) (i : Nat) (v : Value) : a.grownBy (w.setCell ⟨b, i, none⟩ v) (some b) :=
  grown_tr h ⟨rfl, rfl, rfl, by simp [World.setCell], fun k hk hr => Below.heap_setCell w ⟨b, i, none⟩ v k (fun e => hr (by rw [e]))⟩
theorem grown_keepc {w w' : World} {p b o : Nat} {x : Value} (hg : w.grownBy w' (some p)) (h : w.cell? ⟨b, o, none⟩ = some x) (hne : b ≠ p) : w'.cell? ⟨b, o, none⟩ = some x :=
  hg.cell h (fun e => hne (by simpa using e))

def manyS (d : Nat) (l : List Ex) (j : Nat) : Nat := ((l.take j).map (manyN d)).sum
theorem manyS_zero (d : Nat) (l : List Ex) : manyS d l 0 = 0 := by simp [manyS]
theorem manyS_succ {d : Nat} {l : List Ex} {i : Nat} {e : Ex} (h : l[i]? = some e) : manyS d l (i + 1) = manyS d l i + manyN d e := by
  have hi := (List.getElem?_eq_some_iff.1 h).1
  have he : l[i] = e := by rw [List.getElem?_eq_getElem hi] at h; exact Option.some.inj h
  unfold manyS
  rw [List.take_succ_eq_append_getElem hi, List.map_append, List.sum_append, he]
  simp
theorem manyS_all (d : Nat) (l : List Ex) : manyS d l l.length = (l.map (manyN d)).sum := by simp [manyS]
theorem manyS_le (d : Nat) (l : List Ex) (j : Nat) : manyS d l j ≤ (l.map (manyN d)).sum := by
  have h : (l.take j ++ l.drop j) = l := List.take_append_drop j l
  have h2 := congrArg (fun l => (l.map (manyN d)).sum) h
  simp only [List.map_append, List.sum_append] at h2
  unfold manyS
  omega
/-- what walk tells, and what it leaves in the cell -/
def WalkPost (d : Nat) (e : Ex) (n : Nat) (p : Nat) (w : World) (b : Bool) (w' : World) : Prop :=
  ∃ n' : Int, w.grownBy w' (some p) ∧ Blk w' p 3 #[.int .i64 n'] ∧ (b = true → formB d e = true ∧ n' = n + manyN d e ∧ n + manyN d e ≤ 12) ∧ (b = false → ¬ (formB d e = true ∧ n + manyN d e ≤ 12))
def IdxPost (d : Nat) (l : List Ex) (n : Nat) (p : Nat) (w : World) (i : Int) (w' : World) : Prop :=
  ∃ n' : Int, w.grownBy w' (some p) ∧ Blk w' p 3 #[.int .i64 n'] ∧ ((i = -1 ∧ (∀ x ∈ l, formB d x = true) ∧ n' = n + (l.map (manyN d)).sum ∧ n + (l.map (manyN d)).sum ≤ 12) ∨ (0 ≤ i ∧ ¬ ((∀ x ∈ l, formB d x = true) ∧ n + (l.map (manyN d)).sum ≤ 12)))
def RetB (Q : Bool → World → Prop) (e : Ending) (w : World) : Prop := ∃ b : Bool, e = .returned (.bool b) ∧ Q b w
def RetI (Q : Int → World → Prop) (e : Ending) (w : World) : Prop := ∃ i : Int, e = .returned (.int .i64 i) ∧ Q i w

/-- the package variables' content lies below block B -/
def EnvB (B : Nat) (w : World) : Prop := ∃ w0, Env w0 ∧ w0.heap.size ≤ B ∧ Below w0.heap.size w0 w
theorem EnvB.keep {B : Nat} {w w' : World} (h : EnvB B w) (hb : Below B w w') : EnvB B w' := by
  obtain ⟨w0, h1, h2, h3⟩ := h
  exact ⟨w0, h1, h2, h3.trans (hb.mono h2)⟩
theorem EnvB.env {B : Nat} {w : World} (h : EnvB B w) : Env w := by
  obtain ⟨w0, h1, h2, h3⟩ := h
  exact h1.ext h3
theorem Env.envB {w : World} (h : Env w) : EnvB w.heap.size w := ⟨w, h, Nat.le_refl _, Below.refl _ _⟩
theorem tgt_pos (s : Bytes) : decide (0 < tgt s) = opB s := by
  unfold tgt opB
  by_cases h1 : s = [60]
  · simp [h1]
  by_cases h2 : s = [43]
  · simp [h2]
  by_cases h3 : s = [45]
  · simp [h3]
  by_cases h4 : s = [42]
  · simp [h4]
  simp [h1, h2, h3, h4]
def WalkAt (d : Nat) : Prop := ∀ (e : Ex) (v : Value) (w : World) (p n B : Nat), ExV w B v e → B ≤ p → Blk w p 3 #[.int .i64 (n : Int)] → n ≤ 12 → EnvB B w →
  Calls Tryz.prog 123 #[v, .int .i64 (6 - (d : Int)), .pointer (some ⟨p, 0, none⟩)] w (RetB (WalkPost d e n p w))

theorem walk1_any (d : Nat) (hd : d ≤ 5) (H : WalkAt d) (e : Ex) (v : Value) (w : World) (p n B q4 q5 : Nat) (hv : ExV w B v e) (hB : B ≤ p) (hb : Blk w p 3 #[.int .i64 (n : Int)]) (hn : n ≤ 12) (hE : EnvB B w)
    (h4 : w.cell? ⟨q4, 0, none⟩ = some (.int .i64 (5 - (d : Int)))) (h5 : w.cell? ⟨q5, 0, none⟩ = some (.pointer (some ⟨p, 0, none⟩))) :
    Calls Tryz.prog 160 #[v, .pointer (some ⟨q4, 0, none⟩), .pointer (some ⟨q5, 0, none⟩)] w (RetB (fun b w' => WalkPost d e n p w (!b) w')) := by
  obtain ⟨k, m, s, A, c, l, rfl, rfl, hs, hc, hm, hk⟩ := hv.form
  have hp := hb.lt
  have hBl : Below w.heap.size w (w.alloc (.cells #[.int .i64 k, .int .i64 m, .string (bs s), .slice A l.length c] 24)) := by (repeat (first | with_reducible assumption | with_reducible exact Below.refl _ _ | with_reducible refine Below.setCell ?_ (by first | omega | (simp; done) | (simp; omega)) _ | with_reducible refine Below.alloc ?_ (by first | omega | (simp; done) | (simp; omega)) _ | with_reducible refine below_drewN ?_ _ | with_reducible refine Below.drew ?_))
  have hcall := H (.mk k m s l) _ _ p n B (hv.keep (hBl.mono (by omega)) (Nat.le_refl _)) hB (hb.below hBl hp) hn (hE.keep (hBl.mono (by omega)))
  rw [show (6 : Int) - d = 5 - d + 1 from by omega] at hcall
  have HC := Lib.hid hcall
  have HB := Lib.hid hBl
  clear hcall hBl
  have z4 := World.block_lt_of_cell? _ _ h4
  have z5 := World.block_lt_of_cell? _ _ h5
  have hd0 : (0 : Int) ≤ 5 - (d : Int) := by omega
  have hd1 : (5 : Int) - (d : Int) ≤ 5 := by omega
  go_enter Tryz.func160, Tryz.ntmps160
  go_wp2_with fail
  refine HC.out.mono ?_
  rintro _ w1 ⟨b, rfl, n', hg, hB1, h1, h2⟩
  cases b
  all_goals
    go_wp2_with fail
    go_ret
    exact ⟨_, rfl, n', bel_grown HB.out hg, hB1, (by intro hx; first | exact h1 (by trivial) | (exfalso; simp at hx; done)), (by intro hx; first | exact h2 (by trivial) | (exfalso; simp at hx; done))⟩
theorem indexFunc_any (d : Nat) (hd : d ≤ 5) (H : WalkAt d) (l : List Ex) (v : Value) (w : World) (p n B q4 q5 : Nat) (hv : ExS w B v l) (hB : B ≤ p) (hb : Blk w p 3 #[.int .i64 (n : Int)]) (hn : n ≤ 12) (hE : EnvB B w)
    (h4 : w.cell? ⟨q4, 0, none⟩ = some (.int .i64 (5 - (d : Int)))) (h5 : w.cell? ⟨q5, 0, none⟩ = some (.pointer (some ⟨p, 0, none⟩))) (n4 : q4 ≠ p) (n5 : q5 ≠ p) :
    Calls Tryz.prog 176 #[v, .func (.func 160) #[] #[.pointer (some ⟨q4, 0, none⟩), .pointer (some ⟨q5, 0, none⟩)]] w (RetI (IdxPost d l n p w)) := by
  obtain ⟨A, c, rfl, hc, hm⟩ := hv.val
  have hp := hb.lt
  have W1 := Lib.hid (fun e v w p n B q4 q5 hv hB hb hn hE h4 h5 => walk1_any d hd H e v w p n B q4 q5 hv hB hb hn hE h4 h5)
  clear H
  go_enter Tryz.func176, Tryz.ntmps176
  go_wp2_with fail
  go_loopg [8] l.length (fun k i wr => ∃ j : Nat, k = l.length - j ∧ j ≤ l.length ∧ i = .int .i64 j ∧ (∀ t x, t < j → l[t]? = some x → formB d x = true) ∧ n + manyS d l j ≤ 12 ∧ Blk wr p 3 #[.int .i64 ((n + manyS d l j : Nat) : Int)] ∧ w.grownBy wr (some p))
  case atStart => exact ⟨0, by omega, by omega, rfl, fun t x h => by omega, by rw [manyS_zero]; omega, by rw [manyS_zero]; exact hb, grown_rfl _ _⟩
  case round =>
    obtain ⟨j, hk, hj, rfl, ha, hle, hB1, hg⟩ := hrel
    have HK := Lib.hid (And.intro hk ha)
    clear hk ha
    have hbl := below_of_grown hg hB hp
    by_cases hlt : j < l.length
    · obtain ⟨b, o, k1, m1, s1, A1, c1, l1, rfl, hbb, hgt, hs1, hm1, hc1, hk1, f0, f1, f2, f3⟩ := ex_at hv hlt
      have g0 := f0 ⟨wr, hbl⟩; have g1 := f1 ⟨wr, hbl⟩; have g2 := f2 ⟨wr, hbl⟩; have g3 := f3 ⟨wr, hbl⟩
      have HG := Lib.hid (And.intro hgt (manyS_succ (d := d) hgt))
      clear f0 f1 f2 f3 hgt
      rw [bs_size] at hs1
      have hcall := W1.out (.mk k1 m1 s1 l1) _ wr p (n + manyS d l j) B q4 q5 ⟨_, rfl, hs1, hk1.keep hbl (Nat.le_refl _)⟩ hB hB1 hle (hE.keep hbl) (grown_keepc hg h4 n4) (grown_keepc hg h5 n5)
      have HC := Lib.hid hcall
      clear hcall
      go_wp2_with fail
      refine HC.out.mono ?_
      rintro _ w1 ⟨b, rfl, n', hg2, hB2, h1, h2⟩
      cases b
      · have h1 := h1 rfl
        clear h2
        go_wp2_with fail
        go_roundg (l.length - (j + 1))
        case measure => have := HK.out.1; omega
        case rel =>
          have h3 := HG.out.2
          refine ⟨j + 1, rfl, by omega, by go_num, fun t x ht hx => ?_, by omega, ?_, grown_tr hg hg2⟩
          · by_cases e : t = j
            · subst e
              rw [HG.out.1] at hx
              obtain rfl := Option.some.inj hx
              exact h1.1
            · exact HK.out.2 t x (by omega) hx
          · rw [h3]
            rw [h1.2.1] at hB2
            rw [show ((n + (manyS d l j + manyN d (Ex.mk k1 m1 s1 l1)) : Nat) : Int) = ((n + manyS d l j : Nat) : Int) + (manyN d (Ex.mk k1 m1 s1 l1) : Nat) from by omega]
            exact hB2
      · have h2 := h2 rfl
        clear h1
        go_wp2_with fail
        go_ret
        refine ⟨_, rfl, n', grown_tr hg hg2, hB2, .inr ⟨by omega, fun h => h2 ⟨h.1 _ (List.mem_of_getElem? HG.out.1), ?_⟩⟩⟩
        have h3 := HG.out.2
        have h4 := manyS_le d l (j + 1)
        have := h.2
        omega
    · obtain rfl : j = l.length := by omega
      have ha2 := manyS_all d l
      have HA := Lib.hid ha2
      clear ha2
      go_wp2_with fail
      go_ret
      refine ⟨_, rfl, _, hg, hB1, .inl ⟨rfl, fun x hx => ?_, by rw [← HA.out]; omega, by rw [← HA.out]; omega⟩⟩
      obtain ⟨t, ht⟩ := List.mem_iff_getElem?.1 hx
      exact HK.out.2 t x (List.getElem?_eq_some_iff.1 ht).1 ht
theorem containsFunc_any (d : Nat) (hd : d ≤ 5) (H : WalkAt d) (l : List Ex) (v : Value) (w : World) (p n B q4 q5 : Nat) (hv : ExS w B v l) (hB : B ≤ p) (hb : Blk w p 3 #[.int .i64 (n : Int)]) (hn : n ≤ 12) (hE : EnvB B w)
    (h4 : w.cell? ⟨q4, 0, none⟩ = some (.int .i64 (5 - (d : Int)))) (h5 : w.cell? ⟨q5, 0, none⟩ = some (.pointer (some ⟨p, 0, none⟩))) (n4 : q4 ≠ p) (n5 : q5 ≠ p) :
    Calls Tryz.prog 159 #[v, .func (.func 160) #[] #[.pointer (some ⟨q4, 0, none⟩), .pointer (some ⟨q5, 0, none⟩)]] w (RetB (fun b w' => IdxPost d l n p w (if b then 0 else -1) w')) := by
  have HC := Lib.hid (indexFunc_any d hd H l v w p n B q4 q5 hv hB hb hn hE h4 h5 n4 n5)
  clear H hv hb hE h4 h5
  go_enter Tryz.func159, Tryz.ntmps159
  go_wp2_with fail
  refine HC.out.mono ?_
  rintro _ w1 ⟨i, rfl, n', hg, hB1, hr⟩
  rcases hr with ⟨rfl, h1, h2, h3⟩ | ⟨h0, h1⟩
  · go_wp2_with fail
    go_ret
    exact ⟨false, rfl, n', hg, hB1, .inl ⟨rfl, h1, h2, h3⟩⟩
  · have hd : decide (0 ≤ i) = true := by simpa using h0
    go_wp2_with fail
    go_ret
    exact ⟨true, rfl, n', hg, hB1, .inr ⟨by simp, h1⟩⟩
set_option maxHeartbeats 4000000 in
theorem walk_any : ∀ d : Nat, d ≤ 5 → WalkAt d := by
  intro d
  induction d with
  | zero =>
    intro _ e v w p n B hv hB hb hn hE
    obtain ⟨k, m, s, A, c, l, rfl, rfl, hs, hc, hm, hk⟩ := hv.form
    have hp := hb.lt
    have hB3 : Below w.heap.size w (((w.alloc (.cells #[.int .i64 k, .int .i64 m, .string (bs s), .slice A l.length c] 24)).alloc (.cells #[.int .i64 6] 3)).alloc (.cells #[.pointer (some ⟨p, 0, none⟩)] 101)) := by (repeat (first | with_reducible assumption | with_reducible exact Below.refl _ _ | with_reducible refine Below.setCell ?_ (by first | omega | (simp; done) | (simp; omega)) _ | with_reducible refine Below.alloc ?_ (by first | omega | (simp; done) | (simp; omega)) _ | with_reducible refine below_drewN ?_ _ | with_reducible refine Below.drew ?_))
    have c0 := (hb.below hB3 hp).cell 0
    have z0 := (hb.below hB3 hp).frozen 0
    simp at c0
    have p0 : p ≠ w.heap.size := by omega
    have p1 : p ≠ w.heap.size + 1 := by omega
    have p2 : p ≠ w.heap.size + 1 + 1 := by omega
    have q0 : w.heap.size ≠ p := by omega
    have q1 : w.heap.size + 1 ≠ p := by omega
    have q2 : w.heap.size + 1 + 1 ≠ p := by omega
    go_enter Tryz.func123, Tryz.ntmps123
    go_wp2_with fail
    go_ret
    exact ⟨false, rfl, (n : Int) + 1, grown_st (grown_bel (grown_rfl w (some p)) hB3) _ _, (hb.below hB3 hp).set_ 0 _, nofun, fun _ h => by simp [formB] at h⟩
  | succ d ih =>
    intro hd e v w p n B hv hB hb hn hE
    obtain ⟨k, m, s, A, c, l, rfl, rfl, hs, hc, hm, hk⟩ := hv.form
    rw [bs_size] at hs
    rw [show (6 : Int) - ((d + 1 : Nat) : Int) = 5 - d from by omega]
    have hp := hb.lt
    have hB3 : Below w.heap.size w (((w.alloc (.cells #[.int .i64 k, .int .i64 m, .string (bs s), .slice A l.length c] 24)).alloc (.cells #[.int .i64 (5 - (d : Int))] 3)).alloc (.cells #[.pointer (some ⟨p, 0, none⟩)] 101)) := by (repeat (first | with_reducible assumption | with_reducible exact Below.refl _ _ | with_reducible refine Below.setCell ?_ (by first | omega | (simp; done) | (simp; omega)) _ | with_reducible refine Below.alloc ?_ (by first | omega | (simp; done) | (simp; omega)) _ | with_reducible refine below_drewN ?_ _ | with_reducible refine Below.drew ?_))
    have c0 := (hb.below hB3 hp).cell 0
    have z0 := (hb.below hB3 hp).frozen 0
    simp at c0
    have p0 : p ≠ w.heap.size := by omega
    have p1 : p ≠ w.heap.size + 1 := by omega
    have p2 : p ≠ w.heap.size + 1 + 1 := by omega
    have q0 : w.heap.size ≠ p := by omega
    have q1 : w.heap.size + 1 ≠ p := by omega
    have q2 : w.heap.size + 1 + 1 ≠ p := by omega
    have hG4 : w.grownBy ((((w.alloc (.cells #[.int .i64 k, .int .i64 m, .string (bs s), .slice A l.length c] 24)).alloc (.cells #[.int .i64 (5 - (d : Int))] 3)).alloc (.cells #[.pointer (some ⟨p, 0, none⟩)] 101)).setCell ⟨p, 0, none⟩ (.int .i64 ((n : Int) + 1))) (some p) := grown_st (grown_bel (grown_rfl w (some p)) hB3) _ _
    have hB4 : Blk ((((w.alloc (.cells #[.int .i64 k, .int .i64 m, .string (bs s), .slice A l.length c] 24)).alloc (.cells #[.int .i64 (5 - (d : Int))] 3)).alloc (.cells #[.pointer (some ⟨p, 0, none⟩)] 101)).setCell ⟨p, 0, none⟩ (.int .i64 ((n : Int) + 1))) p 3 #[.int .i64 ((n : Int) + 1)] := (hb.below hB3 hp).set_ 0 _
    have hBl4 := below_of_grown hG4 hB hp
    have h4 : ((((w.alloc (.cells #[.int .i64 k, .int .i64 m, .string (bs s), .slice A l.length c] 24)).alloc (.cells #[.int .i64 (5 - (d : Int))] 3)).alloc (.cells #[.pointer (some ⟨p, 0, none⟩)] 101)).setCell ⟨p, 0, none⟩ (.int .i64 ((n : Int) + 1))).cell? ⟨w.heap.size + 1, 0, none⟩ = some (.int .i64 (5 - (d : Int))) := by simp [go_sem, q1, p1]
    have h5 : ((((w.alloc (.cells #[.int .i64 k, .int .i64 m, .string (bs s), .slice A l.length c] 24)).alloc (.cells #[.int .i64 (5 - (d : Int))] 3)).alloc (.cells #[.pointer (some ⟨p, 0, none⟩)] 101)).setCell ⟨p, 0, none⟩ (.int .i64 ((n : Int) + 1))).cell? ⟨w.heap.size + 1 + 1, 0, none⟩ = some (.pointer (some ⟨p, 0, none⟩)) := by simp [go_sem, q2, p2]
    by_cases hn12 : n + 1 ≤ 12
    rotate_left
    · have HF := Lib.hid (And.intro hG4 hB4)
      clear hG4 hB4 hBl4 ih hE h4 h5
      have hnn : (12 : Int) < (n : Int) + 1 := by omega
      have hdd : (5 : Int) - d ≤ 5 := by omega
      go_enter Tryz.func123, Tryz.ntmps123
      go_wp2_with fail
      go_ret
      exact ⟨false, rfl, (n : Int) + 1, HF.out.1, HF.out.2, nofun, fun _ h => by have := h.2; simp only [manyN] at this; omega⟩
    have hcall := containsFunc_any d (by omega) (ih (by omega)) l (.slice A l.length c) _ p (n + 1) B (w.heap.size + 1) (w.heap.size + 1 + 1) (hk.keep hBl4 (Nat.le_refl _)) hB (by exact hB4) hn12 (hE.keep hBl4) h4 h5 q1 q2
    have hE4 : ∀ w', Below B w w' → Env w' := fun w' h => (hE.keep h).env
    have HC := Lib.hid hcall
    have HF := Lib.hid (And.intro hG4 hB4)
    have HE := Lib.hid hE4
    clear hcall hE4 hG4 hB4 hBl4 ih hE h4 h5
    have hnn : (n : Int) + 1 ≤ 12 := by omega
    have hdd : (5 : Int) - d ≤ 5 := by omega
    have htg := tgt_pos s
    obtain ⟨b0, hb0⟩ : ∃ x, ((l.length : Int) == 0) = x := ⟨_, rfl⟩
    cases b0
    rotate_left
    · have hl : l = [] := by simpa using hb0
      subst hl
      simp only [List.length_nil] at HC HF hc c0 z0 hB3
      clear hb0
      go_enter Tryz.func123, Tryz.ntmps123
      go_wp2_with (first | (go_at_call 106; refine (inB_any _ _ _ _).mono ?_; rintro e w' ⟨rfl, rfl⟩) | (go_at_call 65; refine (imName_any _ _ hs (HE.out _ (by (repeat (first | with_reducible assumption | with_reducible exact Below.refl _ _ | with_reducible refine Below.setCell ?_ (by first | omega | (simp; done) | (simp; omega)) _ | with_reducible refine Below.alloc ?_ (by first | omega | (simp; done) | (simp; omega)) _ | with_reducible refine below_drewN ?_ _ | with_reducible refine Below.drew ?_))))).mono ?_; rintro e w' ⟨rfl, rfl⟩) | (go_at_call 134; refine (imTight_any _ _).mono ?_; rintro e w' ⟨rfl, rfl⟩) | (go_at_call 66; refine (imType_any _ _).mono ?_; rintro e w' ⟨rfl, rfl⟩))
      all_goals (try (have h0 : m = 0 := (by assumption); subst h0))
      all_goals (try (have h0 : s = [] := (by assumption); subst h0))
      all_goals (try (go_ret; refine ⟨false, rfl, (n : Int) + 1, HF.out.1, HF.out.2, nofun, fun _ h => ?_⟩; replace h := h.1; clear HC HF HE; go_light; first | (simp_all [formB, headB]; done) | (simp_all [formB, headB]; omega) | (have hk1 := beq_iff_eq.1 ‹(k == 1) = true›; subst hk1; simp [formB, headB] at h; omega)))
      all_goals
        refine HC.out.mono ?_
        rintro _ w5 ⟨b, rfl, n', hg5, hB5, hr⟩
        have hg6 := grown_tr HF.out.1 hg5
        cases b
        · rcases hr with ⟨_, h1, h2, h3⟩ | ⟨h1, _⟩
          · have H1 := Lib.hid (And.intro h1 (And.intro h2 h3))
            clear h1 h2 h3
            go_wp2_with fail
            go_ret
            refine ⟨true, rfl, n', hg6, hB5, fun _ => ?_, nofun⟩
            obtain ⟨h1, h2, h3⟩ := H1.out
            clear HC HF HE H1
            go_light
            simp only [formB, manyN, Bool.and_eq_true, List.all_eq_true]
            refine ⟨⟨?_, h1⟩, by omega, by omega⟩
            first | (simp_all [headB]; done) | (simp_all [headB]; omega)
          · exact absurd h1 (by simp)
        · rcases hr with ⟨h1, _⟩ | ⟨_, h1⟩
          · exact absurd h1 (by simp)
          · have H1 := Lib.hid h1
            clear h1
            go_wp2_with fail
            go_ret
            refine ⟨false, rfl, n', hg6, hB5, nofun, fun _ h => H1.out ?_⟩
            simp only [formB, manyN, Bool.and_eq_true, List.all_eq_true] at h
            exact ⟨h.1.2, by omega⟩
    · go_enter Tryz.func123, Tryz.ntmps123
      go_wp2_with (first | (go_at_call 106; refine (inB_any _ _ _ _).mono ?_; rintro e w' ⟨rfl, rfl⟩) | (go_at_call 65; refine (imName_any _ _ hs (HE.out _ (by (repeat (first | with_reducible assumption | with_reducible exact Below.refl _ _ | with_reducible refine Below.setCell ?_ (by first | omega | (simp; done) | (simp; omega)) _ | with_reducible refine Below.alloc ?_ (by first | omega | (simp; done) | (simp; omega)) _ | with_reducible refine below_drewN ?_ _ | with_reducible refine Below.drew ?_))))).mono ?_; rintro e w' ⟨rfl, rfl⟩) | (go_at_call 134; refine (imTight_any _ _).mono ?_; rintro e w' ⟨rfl, rfl⟩) | (go_at_call 66; refine (imType_any _ _).mono ?_; rintro e w' ⟨rfl, rfl⟩))
      all_goals (try (have h0 : m = 0 := (by assumption); subst h0))
      all_goals (try (have h0 : s = [] := (by assumption); subst h0))
      all_goals (try (go_ret; refine ⟨false, rfl, (n : Int) + 1, HF.out.1, HF.out.2, nofun, fun _ h => ?_⟩; replace h := h.1; clear HC HF HE; go_light; first | (simp_all [formB, headB]; done) | (simp_all [formB, headB]; omega) | (have hk1 := beq_iff_eq.1 ‹(k == 1) = true›; subst hk1; simp [formB, headB] at h; omega)))
      all_goals
        refine HC.out.mono ?_
        rintro _ w5 ⟨b, rfl, n', hg5, hB5, hr⟩
        have hg6 := grown_tr HF.out.1 hg5
        cases b
        · rcases hr with ⟨_, h1, h2, h3⟩ | ⟨h1, _⟩
          · have H1 := Lib.hid (And.intro h1 (And.intro h2 h3))
            clear h1 h2 h3
            go_wp2_with fail
            go_ret
            refine ⟨true, rfl, n', hg6, hB5, fun _ => ?_, nofun⟩
            obtain ⟨h1, h2, h3⟩ := H1.out
            clear HC HF HE H1
            go_light
            simp only [formB, manyN, Bool.and_eq_true, List.all_eq_true]
            refine ⟨⟨?_, h1⟩, by omega, by omega⟩
            first | (simp_all [headB]; done) | (simp_all [headB]; omega)
          · exact absurd h1 (by simp)
        · rcases hr with ⟨h1, _⟩ | ⟨_, h1⟩
          · exact absurd h1 (by simp)
          · have H1 := Lib.hid h1
            clear h1
            go_wp2_with fail
            go_ret
            refine ⟨false, rfl, n', hg6, hB5, nofun, fun _ h => H1.out ?_⟩
            simp only [formB, manyN, Bool.and_eq_true, List.all_eq_true] at h
            exact ⟨h.1.2, by omega⟩
end Go.Proofs.YtgakjhaepdigpaaGreatDoor
