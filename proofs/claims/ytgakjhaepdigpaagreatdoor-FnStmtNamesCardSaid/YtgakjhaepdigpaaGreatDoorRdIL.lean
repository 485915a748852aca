/- The program's reader of words: the next word, whether one stands there. -/
import Derived.Test.YtgakjhaepdigpaaGreatDoorZm12
import Derived.Test.YtgakjhaepdigpaaGreatDoorZm9
import Derived.Test.YtgakjhaepdigpaaGreatDoorZm7
import Derived.Test.YtgakjhaepdigpaaGreatDoorRdDr
import Derived.Deep.RegionHeld3
import Derived.Deep.CutBlock
namespace Go.Proofs.YtgakjhaepdigpaaGreatDoor
set_option maxRecDepth 100000
set_option linter.unusedSimpArgs false
set_option linter.unusedVariables false
open Go.RowKit
attribute [local go_sem] bs_toList bs_get bs_size

/-- what stands behind the first of a slice -/
def tailA (A : Option Addr) (c : Nat) : Option Addr := if c = 1 then A else A.map (fun a => a.add 1)
theorem SlB.tail {w : World} {B : Nat} {A : Option Addr} {s : Bytes} {l : List Bytes} {c : Nat} (h : SlB w B (.slice A (l.length + 1) c) (s :: l)) : 1 ≤ c ∧ SlB w B (.slice (tailA A c) l.length (c - 1)) l := by
  obtain ⟨A', c', hv, hc, hm, hh⟩ := h
  obtain ⟨rfl, _, rfl⟩ : A = A' ∧ l.length + 1 = (s :: l).length ∧ c = c' := by injection hv; exact ⟨‹_›, ‹_›, ‹_›⟩
  simp only [List.length_cons] at hc
  refine ⟨by omega, _, c - 1, rfl, by omega, by unfold maxLen at *; omega, fun h0 => ?_⟩
  obtain ⟨b, o, rfl, hb, hx⟩ := hh (by simp)
  have hc1 : ¬ c = 1 := by omega
  refine ⟨b, o + 1, by unfold tailA; rw [if_neg hc1]; simp [Addr.add], hb, fun i t ht j x hj => ?_⟩
  have := hx (i + 1) t (by simpa using ht) j x hj
  rw [show o + 1 + i * 1 + j = o + (i + 1) * 1 + j by omega]
  exact this
/-- the reader in block rb: these words are left, below B; whether it is bad; how many brackets it saw -/
def Rdr (w : World) (rb B : Nat) (l : List Bytes) (bad : Bool) (d : Nat) : Prop :=
  ∃ (A : Option Addr) (c : Nat), Blk w rb 104 #[.slice A l.length c, .bool bad, .int .i64 (d : Int)] ∧ SlB w B (.slice A l.length c) l ∧ B ≤ rb ∧ ∀ s ∈ l, s.length ≤ 100000000
theorem Rdr.lt {w : World} {rb B d : Nat} {l : List Bytes} {bad : Bool} (h : Rdr w rb B l bad d) : rb < w.heap.size := by obtain ⟨A, c, h1, _⟩ := h; exact h1.lt
theorem Rdr.grown {w w' : World} {rb B d : Nat} {l : List Bytes} {bad : Bool} {r : Option Nat} (h : Rdr w rb B l bad d) (hg : w.grownBy w' r) (hr : ∀ q, r = some q → rb < q) : Rdr w' rb B l bad d := by
  have hlt := h.lt
  obtain ⟨A, c, h1, h2, h3, h4⟩ := h
  exact ⟨A, c, (hg.block rb hlt (fun e => by have := hr rb e.symm; omega)).trans h1, h2.grown hg (fun q e => by have := hr q e; omega) (by omega), h3, h4⟩
theorem Rdr.ext {w w' : World} {rb B d : Nat} {l : List Bytes} {bad : Bool} (h : Rdr w rb B l bad d) (hb : Below w.heap.size w w') : Rdr w' rb B l bad d :=
  h.grown (r := none) ⟨hb.os, hb.tape, hb.output, hb.size, fun k hk _ => hb.block k hk⟩ (fun q e => by cases e)
theorem Rdr.alloc {w : World} {rb B d : Nat} {l : List Bytes} {bad : Bool} (h : Rdr w rb B l bad d) (o : Obj) : Rdr (w.alloc o) rb B l bad d := h.ext (Below.alloc (Below.refl _ _) (Nat.le_refl _) o)
theorem Rdr.drew {w : World} {rb B d : Nat} {l : List Bytes} {bad : Bool} (h : Rdr w rb B l bad d) : Rdr w.drew rb B l bad d := h.ext (Below.drew (Below.refl _ _))
theorem Rdr.setN {w : World} {rb B d b : Nat} {l : List Bytes} {bad : Bool} (h : Rdr w rb B l bad d) (hb : rb < b) (i : Nat) (v : Value) : Rdr (w.setCell ⟨b, i, none⟩ v) rb B l bad d :=
  h.grown (r := some b) (grown_st (grown_rfl w _) i v) (fun q e => by have := Option.some.inj e; omega)
/-- the next word, taken -/
def NextP (rb B : Nat) (l : List Bytes) (bad : Bool) (d : Nat) (w : World) (e : Ending) (w' : World) : Prop :=
  e = .returned (.string (bs (l.head?.getD []))) ∧ Rdr w' rb B l.tail (bad || l.isEmpty) d ∧ w.grownBy w' (some rb) ∧ w'.heap.size = w.heap.size
theorem next_nil (rb B d : Nat) (bad : Bool) (w : World) (h : Rdr w rb B [] bad d) : Calls Tryz.prog 136 #[.pointer (some ⟨rb, 0, none⟩)] w (NextP rb B [] bad d w) := by
  obtain ⟨A, c, h1, h2, h3, h4⟩ := h
  have y0 := h1.cell 0; have y1 := h1.cell 1; have y2 := h1.cell 2; have z1 := h1.frozen 1
  simp at y0 y1 y2
  have HH := Lib.hid (And.intro h1 (And.intro h2 (And.intro h3 h4)))
  clear h1 h2 h3 h4
  go_enter Tryz.func136, Tryz.ntmps136
  go_wp2_with fail
  go_ret
  obtain ⟨h1, h2, h3, h4⟩ := HH.out
  refine ⟨rfl, ⟨A, c, by simpa using h1.set_ 1 (.bool true), ?_, h3, h4⟩, by (repeat (first | with_reducible assumption | with_reducible exact grown_rfl _ _ | with_reducible refine grown_st ?_ _ _ | with_reducible refine grown_al ?_ _)), by simp⟩
  exact h2.grown (r := some rb) (grown_st (grown_rfl w _) 1 _) (fun q e => by have := Option.some.inj e; omega) (by have := h1.lt; omega)
theorem next_cons (rb B d : Nat) (bad : Bool) (s : Bytes) (l : List Bytes) (w : World) (h : Rdr w rb B (s :: l) bad d) : Calls Tryz.prog 136 #[.pointer (some ⟨rb, 0, none⟩)] w (NextP rb B (s :: l) bad d w) := by
  obtain ⟨A, c, h1, h2, h3, h4⟩ := h
  obtain ⟨hc1, hT⟩ := h2.tail
  obtain ⟨b, o, x, rfl, hb, hg, f0⟩ := str_at h2 (i := 0) (by simp)
  obtain rfl : s = x := by simpa using hg
  have g0 := f0 ⟨w, Below.refl _ _⟩
  simp only [Nat.add_zero] at g0
  obtain ⟨A', c', hvv, hcc, hmm, _⟩ := id h2
  injection hvv with e1 e2 e3
  subst e3
  clear e1 e2
  simp only [List.length_cons] at hcc
  unfold maxLen at hmm
  have y0 := h1.cell 0; have y1 := h1.cell 1; have y2 := h1.cell 2; have z0 := h1.frozen 0
  simp at y0 y1 y2
  have hne : b ≠ rb := by omega
  have HH := Lib.hid (And.intro h1 (And.intro hT (And.intro h3 (And.intro h4 hcc))))
  have hl9 : l.length ≤ 9223372036854775806 := by omega
  clear h1 h2 h3 h4 hT f0 hg hcc
  by_cases hcap : c = 1
  · subst hcap
    go_enter Tryz.func136, Tryz.ntmps136
    go_wp2_with fail
    go_ret
    obtain ⟨h1, h2, h3, h4, hcc⟩ := HH.out
    refine ⟨rfl, ⟨_, 0, by simpa using h1.set_ 0 (.slice (some ⟨b, o, none⟩) l.length 0), ?_, h3, fun x hx => h4 x (by simp at hx ⊢; exact .inr hx)⟩, by (repeat (first | with_reducible assumption | with_reducible exact grown_rfl _ _ | with_reducible refine grown_st ?_ _ _ | with_reducible refine grown_al ?_ _)), by simp⟩
    exact Sl.grown (by simpa [tailA] using h2) (r := some rb) (grown_st (grown_rfl w _) 0 _) (fun q e => by have := Option.some.inj e; omega) (by have := h1.lt; omega)
  · have hlc : ¬ 1 = c := fun e => hcap e.symm
    go_enter Tryz.func136, Tryz.ntmps136
    go_wp2_with fail
    go_ret
    obtain ⟨h1, h2, h3, h4, hcc⟩ := HH.out
    refine ⟨rfl, ⟨some ⟨b, o + 1, none⟩, c - 1, by simpa using h1.set_ 0 (.slice (some ⟨b, o + 1, none⟩) l.length (c - 1)), ?_, h3, fun x hx => h4 x (by simp at hx ⊢; exact .inr hx)⟩, by (repeat (first | with_reducible assumption | with_reducible exact grown_rfl _ _ | with_reducible refine grown_st ?_ _ _ | with_reducible refine grown_al ?_ _)), by simp⟩
    exact Sl.grown (by simpa [tailA, hcap, Addr.add] using h2) (r := some rb) (grown_st (grown_rfl w _) 0 _) (fun q e => by have := Option.some.inj e; omega) (by have := h1.lt; omega)
theorem next_any (rb B d : Nat) (bad : Bool) (l : List Bytes) (w : World) (h : Rdr w rb B l bad d) : Calls Tryz.prog 136 #[.pointer (some ⟨rb, 0, none⟩)] w (NextP rb B l bad d w) := by
  cases l with
  | nil => exact next_nil rb B d bad w h
  | cons s l => exact next_cons rb B d bad s l w h
/-- whether the word stands there -/
def atB (l : List Bytes) (bad : Bool) (s : Bytes) : Bool := !bad && (l.head? == some s)
theorem at_any (rb B d g : Nat) (bad : Bool) (l : List Bytes) (s : Bytes) (w : World) (h : Rdr w rb B l bad d) (hg : Blk w g 9 #[.string (bs s)]) : Calls Tryz.prog 165 #[.pointer (some ⟨rb, 0, none⟩), .slice (some ⟨g, 0, none⟩) 1 1] w fun e w' => e = .returned (.bool (atB l bad s)) ∧ w = w' := by
  have hS : SlB w w.heap.size (.slice (some ⟨g, 0, none⟩) 1 1) [s] := ⟨_, 1, rfl, by simp, by unfold maxLen; omega, fun _ => ⟨g, 0, rfl, hg.lt, fun i t ht j x hj => by
    have hi : i = 0 := by have := (List.getElem?_eq_some_iff.1 ht).1; simp at this; omega
    have hj0 : j = 0 := by have := (List.getElem?_eq_some_iff.1 hj).1; simp [strRow] at this; omega
    subst hi hj0
    simp at ht
    subst ht
    simp [strRow] at hj
    subst hj
    simpa using hg.cell 0⟩⟩
  have CT := Lib.hid (fun x : Bytes => contains_any [s] x _ w hS)
  obtain ⟨A, c, h1, h2, h3, h4⟩ := h
  have y0 := h1.cell 0; have y1 := h1.cell 1
  simp at y0 y1
  clear hS hg
  cases bad with
  | true =>
    clear h1 h2
    go_enter Tryz.func165, Tryz.ntmps165
    go_wp2_with fail
    go_ret
    exact ⟨by simp [atB], rfl⟩
  | false =>
    cases l with
    | nil =>
      clear h1 h2
      go_enter Tryz.func165, Tryz.ntmps165
      go_wp2_with fail
      go_ret
      exact ⟨by simp [atB], rfl⟩
    | cons x l =>
      obtain ⟨b, o, x', rfl, hb, hgx, f0⟩ := str_at h2 (i := 0) (by simp)
      obtain rfl : x = x' := by simpa using hgx
      have g0 := f0 ⟨w, Below.refl _ _⟩
      simp only [Nat.add_zero] at g0
      obtain ⟨A', c', hvv, hcc, hmm, _⟩ := id h2
      injection hvv with e1 e2 e3
      subst e3
      simp only [List.length_cons] at hcc y0
      unfold maxLen at hmm
      have hl9 : l.length ≤ 9223372036854775806 := by omega
      clear e1 e2 h1 h2 f0 hgx
      go_enter Tryz.func165, Tryz.ntmps165
      go_wp2_with fail
      refine (CT.out x).mono ?_
      rintro r _ ⟨rfl, rfl⟩
      go_wp2_with fail
      go_ret
      refine ⟨ret_bool ?_, rfl⟩
      rw [Bool.eq_iff_iff]
      simp [atB]
end Go.Proofs.YtgakjhaepdigpaaGreatDoor


/- The program's reader of words: what holds at least so tight. -/
namespace Go.Proofs.YtgakjhaepdigpaaGreatDoor
set_option maxRecDepth 100000
set_option linter.unusedSimpArgs false
set_option linter.unusedVariables false
open Go.RowKit
attribute [local go_sem] bs_toList bs_get bs_size

/-- what the package variables hold lies below B -/
def EnvAB (B : Nat) (w : World) : Prop := ∃ w0, EnvA w0 ∧ w0.heap.size ≤ B ∧ Below w0.heap.size w0 w
theorem EnvAB.keep {B : Nat} {w w' : World} (h : EnvAB B w) (hb : Below B w w') : EnvAB B w' := by
  obtain ⟨w0, h1, h2, h3⟩ := h
  exact ⟨w0, h1, h2, h3.trans (hb.mono h2)⟩
theorem EnvAB.env {B : Nat} {w : World} (h : EnvAB B w) : EnvA w := by
  obtain ⟨w0, h1, h2, h3⟩ := h
  exact h1.keep h3 (Nat.le_refl _)
theorem EnvA.envB {w : World} (h : EnvA w) : EnvAB w.heap.size w := ⟨w, h, Nat.le_refl _, Below.refl _ _⟩
theorem EnvAB.grown {B rb : Nat} {w w' : World} (h : EnvAB B w) (hg : w.grownBy w' (some rb)) (hB : B ≤ rb) (hr : rb < w.heap.size) : EnvAB B w' := h.keep (below_of_grown hg hB hr)

/-- a tree of the call's own, by value: its blocks lie between two bounds, each once, block b is none of them -/
def TrN (b lo hi : Nat) (w : World) (v : Value) (e : Ex) : Prop :=
  ∃ kv bl, v = .agg #[.int .i64 e.kind, .int .i64 e.n, .string (bs e.s), kv] ∧ e.s.length ≤ 9223372036854775807 ∧ ExO 24 w kv e.kids bl ∧ Own lo hi bl ∧ b ∉ bl
theorem TrM.avoid {b lo hi : Nat} {w : World} {v : Value} {e : Ex} (h : TrM lo hi w v e) (hb : b < lo ∨ hi ≤ b) : TrN b lo hi w v e := by
  obtain ⟨kv, bl, h1, h2, h3, h4⟩ := h
  exact ⟨kv, bl, h1, h2, h3, h4, fun hm => by have := h4.1 b hm; omega⟩
theorem TrN.trm {b lo hi : Nat} {w : World} {v : Value} {e : Ex} (h : TrN b lo hi w v e) : TrM lo hi w v e := by
  obtain ⟨kv, bl, h1, h2, h3, h4, _⟩ := h
  exact ⟨kv, bl, h1, h2, h3, h4⟩
theorem TrN.same {b lo hi : Nat} {w w' : World} {v : Value} {e : Ex} (h : TrN b lo hi w v e) (hb : ∀ q, lo ≤ q → q < hi → q < w.heap.size → q ≠ b → w'.heap[q]? = w.heap[q]?) : TrN b lo hi w' v e := by
  obtain ⟨kv, bl, h1, h2, h3, h4, h5⟩ := h
  exact ⟨kv, bl, h1, h2, h3.same (fun q hq => hb q (h4.1 q hq).1 (h4.1 q hq).2 (h3.lt q hq) (fun e => h5 (e ▸ hq))), h4, h5⟩
theorem TrN.widen {b lo hi lo' hi' : Nat} {w : World} {v : Value} {e : Ex} (h : TrN b lo hi w v e) (h1 : lo' ≤ lo) (h2 : hi ≤ hi') : TrN b lo' hi' w v e := by
  obtain ⟨kv, bl, a1, a2, a3, a4, a5⟩ := h; exact ⟨kv, bl, a1, a2, a3, a4.widen h1 h2, a5⟩
theorem TrN.grown {b lo hi rb : Nat} {w w' : World} {v : Value} {e : Ex} (h : TrN b lo hi w v e) (hg : w.grownBy w' (some rb)) (hr : rb < lo) : TrN b lo hi w' v e :=
  h.same (fun q h1 _ h3 _ => hg.block q h3 (fun e => by have := Option.some.inj e; omega))
theorem TrN.alloc {b lo hi : Nat} {w : World} {v : Value} {e : Ex} (h : TrN b lo hi w v e) (o : Obj) : TrN b lo hi (w.alloc o) v e :=
  h.same (fun q _ _ h3 _ => Below.heap_alloc w o q h3)
theorem TrN.set_ {b lo hi i : Nat} {w : World} {v u : Value} {e : Ex} (h : TrN b lo hi w v e) : TrN b lo hi (w.setCell ⟨b, i, none⟩ u) v e :=
  h.same (fun q _ _ _ h4 => Below.heap_setCell w ⟨b, i, none⟩ u q h4)
theorem TrN.drew {b lo hi : Nat} {w : World} {v : Value} {e : Ex} (h : TrN b lo hi w v e) : TrN b lo hi w.drew v e := h.same (fun _ _ _ _ _ => rfl)
theorem TrM.alloc {lo hi : Nat} {w : World} {v : Value} {e : Ex} (h : TrM lo hi w v e) (o : Obj) : TrM lo hi (w.alloc o) v e := h.ext (Below.alloc (Below.refl _ _) (Nat.le_refl _) o)
theorem TrM.setN {lo hi b : Nat} {w : World} {v : Value} {e : Ex} (h : TrM lo hi w v e) (hb : b < lo) (i : Nat) (u : Value) : TrM lo hi (w.setCell ⟨b, i, none⟩ u) v e :=
  h.same (fun q h1 _ => Below.heap_setCell w ⟨b, i, none⟩ u q (by simp; omega))
theorem Blk.newAt {w : World} {n : Nat} {t : TypeId} {cs : Array Value} (h : w.heap.size = n) : Blk (w.alloc (.cells cs t)) n t cs := h ▸ Blk.new w t cs
theorem TrN.two {b lo mid hi hi' g : Nat} {w : World} {e0 e1 : Ex} {A0 A1 : Option Addr} {c0 c1 : Nat} {k n : Int} {s : Bytes} (h : TrN b lo mid w (.agg #[.int .i64 e0.kind, .int .i64 e0.n, .string (bs e0.s), .slice A0 e0.kids.length c0]) e0) (h' : TrM mid hi w (.agg #[.int .i64 e1.kind, .int .i64 e1.n, .string (bs e1.s), .slice A1 e1.kids.length c1]) e1) (hs : s.length ≤ 9223372036854775807)
    (hb : Blk w g 24 #[.int .i64 e0.kind, .int .i64 e0.n, .string (bs e0.s), .slice A0 e0.kids.length c0, .int .i64 e1.kind, .int .i64 e1.n, .string (bs e1.s), .slice A1 e1.kids.length c1]) (h0 : lo ≤ mid) (h1 : mid ≤ hi) (h2 : hi ≤ g) (h3 : g < hi') (h4 : b < mid) (h5 : g ≠ b) : TrN b lo hi' w (.agg #[.int .i64 k, .int .i64 n, .string (bs s), .slice (some ⟨g, 0, none⟩) 2 2]) (.mk k n s [e0, e1]) := by
  obtain ⟨kv, bl, he, hs0, hO, hOw, hn⟩ := h
  obtain ⟨kv', bl', he', hs0', hO', hOw'⟩ := h'
  have hkv : Value.slice A0 e0.kids.length c0 = kv := by simpa using he
  have hkv' : Value.slice A1 e1.kids.length c1 = kv' := by simpa using he'
  subst hkv hkv'
  refine ⟨_, g :: [bl, bl'].flatten, rfl, hs, exO_two hs0 hs0' hO hO' hb, ?_, ?_⟩
  · simp only [List.flatten_cons, List.flatten_nil, List.append_nil]
    exact (hOw.append hOw' (Nat.le_refl _) h0 h1).snoc h2 (by omega) h3
  · simp only [List.flatten_cons, List.flatten_nil, List.append_nil, List.mem_cons, List.mem_append, not_or]
    exact ⟨fun e => h5 e.symm, hn, fun hm => by have := hOw'.1 b hm; omega⟩
theorem TrN.one {b lo hi hi' g : Nat} {w : World} {e0 : Ex} {A0 : Option Addr} {c0 : Nat} {k n : Int} {s : Bytes} (h : TrN b lo hi w (.agg #[.int .i64 e0.kind, .int .i64 e0.n, .string (bs e0.s), .slice A0 e0.kids.length c0]) e0) (hs : s.length ≤ 9223372036854775807)
    (hb : Blk w g 24 #[.int .i64 e0.kind, .int .i64 e0.n, .string (bs e0.s), .slice A0 e0.kids.length c0]) (h1 : hi ≤ g) (h2 : lo ≤ g) (h3 : g < hi') (h5 : g ≠ b) : TrN b lo hi' w (.agg #[.int .i64 k, .int .i64 n, .string (bs s), .slice (some ⟨g, 0, none⟩) 1 1]) (.mk k n s [e0]) := by
  obtain ⟨kv, bl, he, hs0, hO, hOw, hn⟩ := h
  have hkv : Value.slice A0 e0.kids.length c0 = kv := by simpa using he
  subst hkv
  refine ⟨_, g :: [bl].flatten, rfl, hs, exO_one hs0 hO hb, ?_, ?_⟩
  · simp only [List.flatten_cons, List.flatten_nil, List.append_nil]
    exact hOw.snoc h1 h2 h3
  · simp only [List.flatten_cons, List.flatten_nil, List.append_nil, List.mem_cons, not_or]
    exact ⟨fun e => h5 e.symm, hn⟩
/-- what was read: the tree, what is left -/
def LvP (m : PR) (rb B : Nat) (l : List Bytes) (w : World) (e : Ending) (w' : World) : Prop :=
  ∃ (x : Ex) (v : Value) (r : List Bytes) (bad : Bool) (d : Nat), e = .returned v ∧ TrM w.heap.size w'.heap.size w' v x ∧ Rdr w' rb B r bad d ∧ w.grownBy w' (some rb) ∧ m = (if bad then none else some (x, r)) ∧ d + r.length ≤ 40 ∧ r.length ≤ l.length ∧ (bad = false → r.length < l.length)
/-- a reading of the program's does as the plain one -/
def ReadsAs (rb B N : Nat) (fn : FuncId) (more : List Value) (sub : List Bytes → PR) : Prop :=
  ∀ (l : List Bytes) (d : Nat) (w : World), Rdr w rb B l false d → d + l.length ≤ 40 → l.length ≤ N → EnvAB B w → Calls Tryz.prog fn (.pointer (some ⟨rb, 0, none⟩) :: more).toArray w (LvP (sub l) rb B l w)
/-- a loop's answer -/
def LpR (M : PR) (k : Nat) (sub : List Bytes → PR) (bad : Bool) (x : Ex) (r : List Bytes) : Prop := (bad = true ∧ M = none) ∨ (bad = false ∧ ∃ n, r.length ≤ n ∧ M = loopW k sub n x r)
theorem LpR.stop {M : PR} {k : Nat} {sub : List Bytes → PR} {bad : Bool} {x : Ex} {r : List Bytes} (h : LpR M k sub bad x r) (hs : bad = true ∨ ∀ w r', r = w :: r' → tgP w ≠ k) : M = (if bad then none else some (x, r)) := by
  rcases h with ⟨rfl, rfl⟩ | ⟨rfl, n, hn, rfl⟩
  · rfl
  · rcases hs with hs | hs
    · cases hs
    · exact loopW_stop hs
theorem LpR.step {M : PR} {k : Nat} {sub : List Bytes → PR} {x y : Ex} {w : Bytes} {l r : List Bytes} {bad : Bool} (h : LpR M k sub false x (w :: l)) (hk : tgP w = k) (hs : sub l = if bad then none else some (y, r)) (hr : r.length ≤ l.length) : LpR M k sub bad (.mk 3 0 w [x, y]) r := by
  rcases h with ⟨h, _⟩ | ⟨_, n, hn, rfl⟩
  · cases h
  · simp only [List.length_cons] at hn
    obtain ⟨m, rfl⟩ : ∃ m, n = m + 1 := ⟨n - 1, by omega⟩
    cases bad with
    | true =>
      left
      refine ⟨rfl, ?_⟩
      simp only [loopW]
      rw [if_pos hk, hs]
      rfl
    | false =>
      right
      exact ⟨rfl, m, by omega, loopW_step hk hs⟩
theorem TrM.form3 {lo hi : Nat} {w : World} {v : Value} {e : Ex} (h : TrM lo hi w v e) : ∃ (A : Option Addr) (c : Nat), v = .agg #[.int .i64 e.kind, .int .i64 e.n, .string (bs e.s), .slice A e.kids.length c] ∧ e.s.length ≤ 9223372036854775807 := by
  obtain ⟨A, c, h1, _, _, h2⟩ := h.form
  exact ⟨A, c, h1, h2⟩
/-- a new box -/
abbrev zX : Array Value := #[.int .i64 0, .int .i64 0, .string ⟨#[]⟩, .slice none 0 0]
def vX (k n : Int) (s : Bytes) (kv : Value) : Value := .agg #[.int .i64 k, .int .i64 n, .string (bs s), kv]
/-- a box's four cells -/
abbrev bxE (x : Ex) (A : Option Addr) (c : Nat) : Array Value := #[.int .i64 x.kind, .int .i64 x.n, .string (bs x.s), .slice A x.kids.length c]
set_option maxHeartbeats 4000000 in
theorem level_step (rb B N k : Nat) (hk1 : 1 ≤ k) (hk3 : k ≤ 3) (sub : List Bytes → PR) (SUB : ReadsAs rb B N 86 [.int .i64 ((k : Int) + 1)] sub) :
    ReadsAs rb B N 86 [.int .i64 (k : Int)] (fun l => match sub l with | some (e, r) => loopW k sub r.length e r | none => none) := by
  intro l d w hR hd hN hE
  show Calls Tryz.prog 86 #[.pointer (some ⟨rb, 0, none⟩), .int .i64 (k : Int)] w (LvP (match sub l with | some (e, r) => loopW k sub r.length e r | none => none) rb B l w)
  have hrb := hR.lt
  have hB : B ≤ rb := by obtain ⟨_, _, _, _, h, _⟩ := hR; exact h
  have hq0 : w.heap.size ≠ rb := by omega
  have hq1 : rb ≠ w.heap.size := by omega
  have SB := Lib.hid (And.intro SUB (And.intro hN hE))
  have dk : ((k : Int) == 4) = false := by simp; omega
  have M0 : ∀ (x : Ex) (r : List Bytes) (bad : Bool), sub l = (if bad then none else some (x, r)) → LpR (match sub l with | some (e, r) => loopW k sub r.length e r | none => none) k sub bad x r := by
    intro x r bad h
    rw [h]
    cases bad with
    | true => exact .inl ⟨rfl, rfl⟩
    | false => exact .inr ⟨rfl, r.length, Nat.le_refl _, rfl⟩
  generalize (match sub l with | some (e, r) => loopW k sub r.length e r | none => none) = M at *
  have HM0 := Lib.hid M0
  clear SUB hN hE M0
  go_enter Tryz.func86, Tryz.ntmps86
  go_wp2_with fail
  refine (SB.out.1 l d _ (hR.alloc _) hd SB.out.2.1 (SB.out.2.2.keep (by (repeat (first | with_reducible assumption | with_reducible exact Below.refl _ _ | with_reducible refine Below.setCell ?_ (by first | omega | (simp; done) | (simp; omega)) _ | with_reducible refine Below.alloc ?_ (by first | omega | (simp; done) | (simp; omega)) _ | with_reducible refine below_drewN ?_ _ | with_reducible refine Below.drew ?_))))).mono ?_
  rintro e2 w2 ⟨x0, v0, r0, bad0, d0, rfl, hT0, hR2, hg2, hm0, hd0, hl0, hs0⟩
  have hz2 := hg2.size
  simp at hz2
  have hB4 : Blk w2 w.heap.size 24 zX := blk_gr (Blk.new w _ _) hg2 hq0
  have hgw2 : w.grownBy w2 (some rb) := grown_tr (grown_al (grown_rfl _ _) _) hg2
  obtain ⟨A0, c0, rfl, hs0x⟩ := hT0.form3
  have hT := (hT0.avoid (b := w2.heap.size) (.inr (Nat.le_refl _)))
  have HL0 := Lib.hid (HM0.out x0 r0 bad0 hm0)
  have HI := Lib.hid (And.intro hT (And.intro hR2 (And.intro hgw2 (And.intro hB4 (And.intro hd0 (And.intro hl0 hs0))))))
  clear hT0 hT hm0 hR hR2 hg2 hgw2 hB4 hd0 hl0 hs0 hd
  go_wp2_with fail
  go_loopg [6] r0.length (fun n _ wr => ∃ (x : Ex) (A : Option Addr) (c : Nat) (r : List Bytes) (bad : Bool) (d' : Nat), n = r.length ∧ Blk wr w.heap.size 24 zX ∧ Blk wr w2.heap.size 24 (bxE x A c) ∧ x.s.length ≤ 9223372036854775807 ∧ w2.heap.size < wr.heap.size ∧ TrN w2.heap.size (w.heap.size + 1) wr.heap.size wr (.agg (bxE x A c)) x ∧ Rdr wr rb B r bad d' ∧ w.grownBy wr (some rb) ∧ LpR M k sub bad x r ∧ d' + r.length ≤ 40 ∧ r.length ≤ l.length ∧ (bad = false → r.length < l.length))
  case atStart =>
    obtain ⟨hT, hR2, hgw2, hB4, hd0, hl0, hs0⟩ := HI.out
    exact ⟨x0, A0, c0, r0, bad0, d0, rfl, hB4.alloc _, Blk.new _ _ _, hs0x, by simp, (hT.alloc _).widen (by simp) (by simp), hR2.alloc _, grown_al hgw2 _, HL0.out, hd0, hl0, hs0⟩
  case round =>
    obtain ⟨x, A, c, r, bad, d', hn, hB4, hB5, hsx, hz, hT, hR, hgr, hL, hd, hl, hs⟩ := hrel
    have HK := Lib.hid hn
    have HX := Lib.hid (And.intro hT (And.intro hR (And.intro hgr (And.intro hL (And.intro hd (And.intro hl hs))))))
    obtain ⟨A', c', h1, h2, h3, h4⟩ := hR
    have q0 := h1.cell 0; have q1 := h1.cell 1
    simp at q0 q1
    clear hn hT hgr hL hs HI
    by_cases hst : bad = true ∨ ∀ w r', r = w :: r' → tgP w ≠ k
    · have HS := Lib.hid hst
      rcases r with _ | ⟨s, r'⟩
      · simp only [List.length_nil] at q0
        clear h1 h2 hst
        cases bad
        all_goals
          have z0 := hB4.frozen 0; have z1 := hB4.frozen 1; have z2 := hB4.frozen 2; have z3 := hB4.frozen 3
          have y4 := hB4.cell 0; have y5 := hB4.cell 1; have y6 := hB4.cell 2; have y7 := hB4.cell 3
          have p0 := hB5.cell 0; have p1 := hB5.cell 1; have p2 := hB5.cell 2; have p3 := hB5.cell 3
          simp [zX] at y4 y5 y6 y7 p0 p1 p2 p3
          have hz5 := hB5.lt
          have hz6 := hB4.lt
          clear hB4 hB5
          go_wp2_with fail
          refine bodyPost_ret (v := vX x.kind x.n x.s (.slice A x.kids.length c)) (by simp [results, Tryz.results86, go_sem, vX, y4, y5, y6, y7, hz5]) rfl ?_
          obtain ⟨hT, hR, hgr, hL, hd, hl, hs⟩ := HX.out
          exact ⟨x, _, _, _, _, rfl, ((hT.trm.same (fun q h1 h2 => by (repeat rw [Below.heap_setCell _ _ _ _ (by simp; omega)]))).widen (by omega) (by simp)), by (repeat (first | with_reducible exact hR | with_reducible refine Rdr.setN ?_ (by omega) _ _)), by (repeat (first | with_reducible exact hgr | with_reducible refine grown_sn ?_ (by omega) _ _)), hL.stop (by first | exact Or.inl rfl | exact HS.out), hd, hl, (by first | exact hs | exact fun _ => hs trivial)⟩
      · simp only [List.length_cons] at q0
        cases bad
        · have hns : tgP s ≠ k := by
            rcases hst with h | h
            · cases h
            · exact h s r' rfl
          obtain ⟨b, o, x', rfl, hb, hgx, f0⟩ := str_at h2 (i := 0) (by simp)
          obtain rfl : s = x' := by simpa using hgx
          have g0 := f0 ⟨wr, Below.refl _ _⟩
          simp only [Nat.add_zero] at g0
          have hdk : (((tgt s : Nat) : Int) == (k : Int)) = false := by
            have : tgt s ≠ k := hns
            simp; omega
          have hl9 : r'.length ≤ 100 := by simp only [List.length_cons] at hd; omega
          clear h1 h2 hst hns f0 hgx
          have z0 := hB4.frozen 0; have z1 := hB4.frozen 1; have z2 := hB4.frozen 2; have z3 := hB4.frozen 3
          have y4 := hB4.cell 0; have y5 := hB4.cell 1; have y6 := hB4.cell 2; have y7 := hB4.cell 3
          have p0 := hB5.cell 0; have p1 := hB5.cell 1; have p2 := hB5.cell 2; have p3 := hB5.cell 3
          simp [zX] at y4 y5 y6 y7 p0 p1 p2 p3
          have hz5 := hB5.lt
          have hz6 := hB4.lt
          clear hB4 hB5
          go_wp2_with fail
          refine (imTight_any s _).mono ?_
          rintro e _ ⟨rfl, rfl⟩
          go_wp2_with fail
          refine bodyPost_ret (v := vX x.kind x.n x.s (.slice A x.kids.length c)) (by simp [results, Tryz.results86, go_sem, vX, y4, y5, y6, y7, hz5]) rfl ?_
          obtain ⟨hT, hR, hgr, hL, hd, hl, hs⟩ := HX.out
          exact ⟨x, _, _, _, _, rfl, ((hT.trm.same (fun q h1 h2 => by (repeat rw [Below.heap_setCell _ _ _ _ (by simp; omega)]))).widen (by omega) (by simp)), by (repeat (first | with_reducible exact hR | with_reducible refine Rdr.setN ?_ (by omega) _ _)), by (repeat (first | with_reducible exact hgr | with_reducible refine grown_sn ?_ (by omega) _ _)), hL.stop (by first | exact Or.inl rfl | exact HS.out), hd, hl, (by first | exact hs | exact fun _ => hs trivial)⟩
        · clear h1 h2 hst
          have z0 := hB4.frozen 0; have z1 := hB4.frozen 1; have z2 := hB4.frozen 2; have z3 := hB4.frozen 3
          have y4 := hB4.cell 0; have y5 := hB4.cell 1; have y6 := hB4.cell 2; have y7 := hB4.cell 3
          have p0 := hB5.cell 0; have p1 := hB5.cell 1; have p2 := hB5.cell 2; have p3 := hB5.cell 3
          simp [zX] at y4 y5 y6 y7 p0 p1 p2 p3
          have hz5 := hB5.lt
          have hz6 := hB4.lt
          clear hB4 hB5
          go_wp2_with fail
          refine bodyPost_ret (v := vX x.kind x.n x.s (.slice A x.kids.length c)) (by simp [results, Tryz.results86, go_sem, vX, y4, y5, y6, y7, hz5]) rfl ?_
          obtain ⟨hT, hR, hgr, hL, hd, hl, hs⟩ := HX.out
          exact ⟨x, _, _, _, _, rfl, ((hT.trm.same (fun q h1 h2 => by (repeat rw [Below.heap_setCell _ _ _ _ (by simp; omega)]))).widen (by omega) (by simp)), by (repeat (first | with_reducible exact hR | with_reducible refine Rdr.setN ?_ (by omega) _ _)), by (repeat (first | with_reducible exact hgr | with_reducible refine grown_sn ?_ (by omega) _ _)), hL.stop (by first | exact Or.inl rfl | exact HS.out), hd, hl, (by first | exact hs | exact fun _ => hs trivial)⟩
    · rw [not_or] at hst
      obtain ⟨hb0, hst⟩ := hst
      obtain rfl : bad = false := by simpa using hb0
      obtain ⟨s, r', rfl, htg⟩ : ∃ s r', r = s :: r' ∧ tgP s = k := by
        rcases r with _ | ⟨s, r'⟩
        · exact absurd (fun w r' e => by cases e) hst
        · refine ⟨s, r', rfl, Decidable.byContradiction fun h => hst fun w r2 e => ?_⟩
          obtain ⟨rfl, rfl⟩ := List.cons.inj e
          exact h
      simp only [List.length_cons] at q0
      obtain ⟨b, o, x', rfl, hb, hgx, f0⟩ := str_at h2 (i := 0) (by simp)
      obtain rfl : s = x' := by simpa using hgx
      have g0 := f0 ⟨wr, Below.refl _ _⟩
      simp only [Nat.add_zero] at g0
      have hdk : (((tgt s : Nat) : Int) == (k : Int)) = true := by
        have : tgt s = k := htg
        simp; omega
      have HT := Lib.hid (And.intro htg (h4 s (by simp)))
      have hl9 : r'.length ≤ 100 := by simp only [List.length_cons] at hd; omega
      have NX := Lib.hid (next_any rb B d' false (s :: r') wr HX.out.2.1)
      have HB := Lib.hid (And.intro hB4 hB5)
      clear h1 h2 hst f0 hgx htg hb0 h4 hB4 hB5
      go_wp2_with fail
      refine (imTight_any s _).mono ?_
      rintro e _ ⟨rfl, rfl⟩
      go_wp2_with fail
      refine NX.out.mono ?_
      rintro e wn ⟨rfl, hRn, hgn, hzn⟩
      simp only [List.head?_cons, Option.getD_some, List.tail_cons, List.isEmpty_cons, Bool.or_false] at hRn ⊢
      have hdn : d' + r'.length ≤ 40 := by simp only [List.length_cons] at hd; omega
      have hln : r'.length ≤ N := by have := SB.out.2.1; simp only [List.length_cons] at hl; omega
      have HE := Lib.hid ((SB.out.2.2.grown HX.out.2.2.1 hB hrb).grown hgn hB (by omega))
      have hq2 : w2.heap.size ≠ rb := by omega
      have hzw : w2.heap.size < wn.heap.size := by omega
      have HZ := Lib.hid hzn
      have B5n := blk_gr HB.out.2 hgn hq2
      have p0 := B5n.cell 0; have p1 := B5n.cell 1; have p2 := B5n.cell 2; have p3 := B5n.cell 3
      have z0 := B5n.frozen 0; have z1 := B5n.frozen 1; have z2 := B5n.frozen 2; have z3 := B5n.frozen 3
      simp at p0 p1 p2 p3
      have HN := Lib.hid (And.intro hRn (And.intro hgn (And.intro hdn (And.intro hln B5n))))
      clear hRn hgn hdn hln B5n NX hzn q0 q1 g0 hdk
      go_wp2_with fail
      have CL := Lib.hid (fun (w' : World) (hR' : Rdr w' rb B r' false d') (hE' : EnvAB B w') => (show Calls Tryz.prog 86 #[.pointer (some ⟨rb, 0, none⟩), .int .i64 ((k : Int) + 1)] w' (LvP (sub r') rb B r' w') from SB.out.1 r' d' w' hR' HN.out.2.2.1 HN.out.2.2.2.1 hE'))
      have hwk : IntKind.i64.wrap ((k : Int) + 1) = (k : Int) + 1 := wrap_small (by omega)
      go_region_law
        (first
          | (go_simp; go_at_call 86; (with_reducible refine (CL.out _ (by repeat (first | with_reducible exact HN.out.1 | with_reducible refine Rdr.drew ?_ | with_reducible refine Rdr.alloc ?_ _)) (HE.out.keep (by (repeat (first | with_reducible assumption | with_reducible exact Below.refl _ _ | with_reducible refine Below.setCell ?_ (by first | omega | (simp; done) | (simp; omega)) _ | with_reducible refine Below.alloc ?_ (by first | omega | (simp; done) | (simp; omega)) _ | with_reducible refine below_drewN ?_ _ | with_reducible refine Below.drew ?_))))).mono ?_); rintro e w3 ⟨x3, v3, r3, bad3, d3, rfl, hT3, hR3, hg3, hm3, hd3, hl3, hs3⟩; have hz3 := hg3.size; (try simp at hz3); have hz23 : w2.heap.size < w3.heap.size := (by omega); obtain ⟨A3, c3, rfl, hs3x⟩ := hT3.form3; have B53 := blk_gr (w := wn.drew) HN.out.2.2.2.2 hg3 hq2; have y0 := B53.cell 0; have y1 := B53.cell 1; have y2 := B53.cell 2; have y3 := B53.cell 3; have x0' := B53.frozen 0; have x1' := B53.frozen 1; have x2' := B53.frozen 2; have x3' := B53.frozen 3; simp at y0 y1 y2 y3)
          | fail)
      all_goals
        have HY := Lib.hid (And.intro hT3 (And.intro hR3 (And.intro hg3 (And.intro hm3 (And.intro hd3 (And.intro hl3 hs3))))))
        clear hT3 hR3 hg3 hm3 hd3 hl3 hs3
        go_wp2_with fail
        go_roundg r3.length
        case measure => have h1 := HY.out.2.2.2.2.2.1; have h2 := HK.out; simp only [List.length_cons] at h2; omega
        case rel =>
          obtain ⟨hT3, hR3, hg3, hm3, hd3, hl3, hs3⟩ := HY.out
          obtain ⟨hRn, hgn, hdn, hln, B5n⟩ := HN.out
          obtain ⟨hT, hR, hgr, hL, hd, hl, hs⟩ := HX.out
          have hzn := HZ.out
          have hTa := (((((hT.grown hgn (by omega)).drew.grown hg3 (by omega)).set_ (i := 0) (u := .int .i64 3)).set_ (i := 1) (u := .int .i64 0)).set_ (i := 2) (u := .string (bs s))).set_ (i := 3) (u := .slice (some ⟨w3.heap.size, 0, none⟩) 2 2)
          have hTb := ((((hT3.widen (lo' := wr.heap.size) (show wr.heap.size ≤ wn.heap.size by omega) (Nat.le_refl _)).setN (b := w2.heap.size) (by omega) 0 (.int .i64 3)).setN (b := w2.heap.size) (by omega) 1 (.int .i64 0)).setN (b := w2.heap.size) (by omega) 2 (.string (bs s))).setN (b := w2.heap.size) (by omega) 3 (.slice (some ⟨w3.heap.size, 0, none⟩) 2 2)
          have hB4 := ((((blk_gr (blk_gr HB.out.1 hgn hq0).drew hg3 hq0).far (p := ⟨w2.heap.size, 0, none⟩) (by simp; omega) (.int .i64 3)).far (p := ⟨w2.heap.size, 1, none⟩) (by simp; omega) (.int .i64 0)).far (p := ⟨w2.heap.size, 2, none⟩) (by simp; omega) (.string (bs s))).far (p := ⟨w2.heap.size, 3, none⟩) (by simp; omega) (.slice (some ⟨w3.heap.size, 0, none⟩) 2 2)
          have hB5 := ((((blk_gr B5n.drew hg3 hq2).set_ 0 (.int .i64 3)).set_ 1 (.int .i64 0)).set_ 2 (.string (bs s))).set_ 3 (.slice (some ⟨w3.heap.size, 0, none⟩) 2 2)
          have hRz := (((hR3.setN (b := w2.heap.size) (by omega) 0 (.int .i64 3)).setN (b := w2.heap.size) (by omega) 1 (.int .i64 0)).setN (b := w2.heap.size) (by omega) 2 (.string (bs s))).setN (b := w2.heap.size) (by omega) 3 (.slice (some ⟨w3.heap.size, 0, none⟩) 2 2)
          have hgz := grown_sn (grown_sn (grown_sn (grown_sn (grown_tr (grown_dr (grown_tr hgr hgn)) hg3) (b := w2.heap.size) (by omega) 0 (.int .i64 3)) (b := w2.heap.size) (by omega) 1 (.int .i64 0)) (b := w2.heap.size) (by omega) 2 (.string (bs s))) (b := w2.heap.size) (by omega) 3 (.slice (some ⟨w3.heap.size, 0, none⟩) 2 2)
          have hsz : ((((w3.setCell ⟨w2.heap.size, 0, none⟩ (.int .i64 3)).setCell ⟨w2.heap.size, 1, none⟩ (.int .i64 0)).setCell ⟨w2.heap.size, 2, none⟩ (.string (bs s))).setCell ⟨w2.heap.size, 3, none⟩ (.slice (some ⟨w3.heap.size, 0, none⟩) 2 2)).heap.size = w3.heap.size := by simp
          have hl2 : r'.length + 1 ≤ l.length := by simpa using hl
          have hB5 : Blk ((((w3.setCell ⟨w2.heap.size, 0, none⟩ (.int .i64 3)).setCell ⟨w2.heap.size, 1, none⟩ (.int .i64 0)).setCell ⟨w2.heap.size, 2, none⟩ (.string (bs s))).setCell ⟨w2.heap.size, 3, none⟩ (.slice (some ⟨w3.heap.size, 0, none⟩) 2 2)) w2.heap.size 24 (bxE (.mk 3 0 s [x, x3]) (some ⟨w3.heap.size, 0, none⟩) 2) := by simpa [bxE, Ex.kind, Ex.n, Ex.s, Ex.kids] using hB5
          generalize ((((w3.setCell ⟨w2.heap.size, 0, none⟩ (.int .i64 3)).setCell ⟨w2.heap.size, 1, none⟩ (.int .i64 0)).setCell ⟨w2.heap.size, 2, none⟩ (.string (bs s))).setCell ⟨w2.heap.size, 3, none⟩ (.slice (some ⟨w3.heap.size, 0, none⟩) 2 2)) = V at *
          have hbk := Blk.newAt (w := V) (t := 24) (cs := #[.int .i64 x.kind, .int .i64 x.n, .string (bs x.s), .slice A x.kids.length c, .int .i64 x3.kind, .int .i64 x3.n, .string (bs x3.s), .slice A3 x3.kids.length c3]) hsz
          have h2 := (hTa.alloc (.cells #[.int .i64 x.kind, .int .i64 x.n, .string (bs x.s), .slice A x.kids.length c, .int .i64 x3.kind, .int .i64 x3.n, .string (bs x3.s), .slice A3 x3.kids.length c3] 24)).two (k := 3) (n := 0) (s := s) (hi' := w3.heap.size + 1) (hTb.alloc (.cells #[.int .i64 x.kind, .int .i64 x.n, .string (bs x.s), .slice A x.kids.length c, .int .i64 x3.kind, .int .i64 x3.n, .string (bs x3.s), .slice A3 x3.kids.length c3] 24)) (by have := HT.out.2; omega) hbk (by omega) (by omega) (Nat.le_refl _) (by omega) (by omega) (by omega)
          exact ⟨.mk 3 0 s [x, x3], some ⟨w3.heap.size, 0, none⟩, 2, r3, bad3, d3, rfl, hB4.alloc _, hB5.alloc _, by have := HT.out.2; show s.length ≤ _; omega, by rw [World.size_alloc]; omega, h2.widen (Nat.le_refl _) (by rw [World.size_alloc]; omega), hRz.alloc _, grown_al hgz _, hL.step HT.out.1 hm3 hl3, hd3, by omega, fun h => by omega⟩
end Go.Proofs.YtgakjhaepdigpaaGreatDoor
