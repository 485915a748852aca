/- The program's reader of words: the next word, whether one stands there. -/
import Derived.Test.YtnejngpdplhbhaaDoorAto
import Derived.Test.YtnejngpdplhbhaaDoorPs
import Derived.Test.YtnejngpdplhbhaaDoorTr
import Derived.Test.YtnejngpdplhbhaaDoorRdDr
import Derived.Deep.RegionHeld3
import Derived.Deep.CutBlock
namespace Go.Proofs.YtnejngpdplhbhaaDoor
set_option maxRecDepth 100000
set_option linter.unusedSimpArgs false
set_option linter.unusedVariables false
open Go.RowKit
attribute [local go_sem] bs_toList bs_get bs_size

/-- what stands behind the first of a slice -/
def tailA (A : Option Addr) (c : Nat) : Option Addr := if c = 1 then A else A.map (fun a => a.add 1)
theorem SlB.tail {w : World} {B : Nat} {A : Option Addr} {s : Bytes} {l : List Bytes} {c : Nat} (h : SlB w B (.slice A (l.length + 1) c) (s :: l)) : 1 ≤ c ∧ SlB w B (.slice (tailA A c) l.length (c - 1)) l := by
  obtain ⟨A', c', hv, hc, hm, hh⟩ := h
  obtain ⟨rfl, _, rfl⟩ : A = A' ∧ l.length + 1 = (s :: l).length ∧ c = c' := by injection hv; exact ⟨‹_›, ‹_›, ‹_›⟩
  simp only [List.length_cons] at hc
  refine ⟨by omega, _, c - 1, rfl, by omega, by unfold maxLen at *; omega, fun h0 => ?_⟩
  obtain ⟨b, o, rfl, hb, hx⟩ := hh (by simp)
  have hc1 : ¬ c = 1 := by omega
  refine ⟨b, o + 1, by unfold tailA; rw [if_neg hc1]; simp [Addr.add], hb, fun i t ht j x hj => ?_⟩
  have := hx (i + 1) t (by simpa using ht) j x hj
  rw [show o + 1 + i * 1 + j = o + (i + 1) * 1 + j by omega]
  exact this
/-- whether the word stands there -/
def atB (l : List Bytes) (bad : Bool) (s : Bytes) : Bool := !bad && (l.head? == some s)
end Go.Proofs.YtnejngpdplhbhaaDoor


/- The program's reader of words: what holds at least so tight. -/
namespace Go.Proofs.YtnejngpdplhbhaaDoor
set_option maxRecDepth 100000
set_option linter.unusedSimpArgs false
set_option linter.unusedVariables false
open Go.RowKit
attribute [local go_sem] bs_toList bs_get bs_size

/-- what the package variables hold lies below B -/
def EnvAB (B : Nat) (w : World) : Prop := ∃ w0, EnvA w0 ∧ w0.heap.size ≤ B ∧ Below w0.heap.size w0 w
theorem EnvAB.keep {B : Nat} {w w' : World} (h : EnvAB B w) (hb : Below B w w') : EnvAB B w' := by
  obtain ⟨w0, h1, h2, h3⟩ := h
  exact ⟨w0, h1, h2, h3.trans (hb.mono h2)⟩
theorem EnvAB.env {B : Nat} {w : World} (h : EnvAB B w) : EnvA w := by
  obtain ⟨w0, h1, h2, h3⟩ := h
  exact h1.keep h3 (Nat.le_refl _)
theorem EnvA.envB {w : World} (h : EnvA w) : EnvAB w.heap.size w := ⟨w, h, Nat.le_refl _, Below.refl _ _⟩
theorem EnvAB.grown {B rb : Nat} {w w' : World} (h : EnvAB B w) (hg : w.grownBy w' (some rb)) (hB : B ≤ rb) (hr : rb < w.heap.size) : EnvAB B w' := h.keep (below_of_grown hg hB hr)

/-- a tree of the call's own, by value: its blocks lie between two bounds, each once, block b is none of them -/
def TrN (b lo hi : Nat) (w : World) (v : Value) (e : Ex) : Prop :=
  ∃ kv bl, v = .agg #[.int .i64 e.kind, .int .i64 e.n, .string (bs e.s), kv] ∧ e.s.length ≤ 9223372036854775807 ∧ ExO 25 w kv e.kids bl ∧ Own lo hi bl ∧ b ∉ bl
theorem TrM.avoid {b lo hi : Nat} {w : World} {v : Value} {e : Ex} (h : TrM lo hi w v e) (hb : b < lo ∨ hi ≤ b) : TrN b lo hi w v e := by
  obtain ⟨kv, bl, h1, h2, h3, h4⟩ := h
  exact ⟨kv, bl, h1, h2, h3, h4, fun hm => by have := h4.1 b hm; omega⟩
theorem TrN.trm {b lo hi : Nat} {w : World} {v : Value} {e : Ex} (h : TrN b lo hi w v e) : TrM lo hi w v e := by
  obtain ⟨kv, bl, h1, h2, h3, h4, _⟩ := h
  exact ⟨kv, bl, h1, h2, h3, h4⟩
theorem TrN.same {b lo hi : Nat} {w w' : World} {v : Value} {e : Ex} (h : TrN b lo hi w v e) (hb : ∀ q, lo ≤ q → q < hi → q < w.heap.size → q ≠ b → w'.heap[q]? = w.heap[q]?) : TrN b lo hi w' v e := by
  obtain ⟨kv, bl, h1, h2, h3, h4, h5⟩ := h
  exact ⟨kv, bl, h1, h2, h3.same (fun q hq => hb q (h4.1 q hq).1 (h4.1 q hq).2 (h3.lt q hq) (fun e => h5 (e ▸ hq))), h4, h5⟩
theorem TrN.widen {b lo hi lo' hi' : Nat} {w : World} {v : Value} {e : Ex} (h : TrN b lo hi w v e) (h1 : lo' ≤ lo) (h2 : hi ≤ hi') : TrN b lo' hi' w v e := by
  obtain ⟨kv, bl, a1, a2, a3, a4, a5⟩ := h; exact ⟨kv, bl, a1, a2, a3, a4.widen h1 h2, a5⟩
theorem TrN.grown {b lo hi rb : Nat} {w w' : World} {v : Value} {e : Ex} (h : TrN b lo hi w v e) (hg : w.grownBy w' (some rb)) (hr : rb < lo) : TrN b lo hi w' v e :=
  h.same (fun q h1 _ h3 _ => hg.block q h3 (fun e => by have := Option.some.inj e; omega))
theorem TrN.alloc {b lo hi : Nat} {w : World} {v : Value} {e : Ex} (h : TrN b lo hi w v e) (o : Obj) : TrN b lo hi (w.alloc o) v e :=
  h.same (fun q _ _ h3 _ => Below.heap_alloc w o q h3)
theorem TrN.set_ {b lo hi i : Nat} {w : World} {v u : Value} {e : Ex} (h : TrN b lo hi w v e) : TrN b lo hi (w.setCell ⟨b, i, none⟩ u) v e :=
  h.same (fun q _ _ _ h4 => Below.heap_setCell w ⟨b, i, none⟩ u q h4)
theorem TrN.drew {b lo hi : Nat} {w : World} {v : Value} {e : Ex} (h : TrN b lo hi w v e) : TrN b lo hi w.drew v e := h.same (fun _ _ _ _ _ => rfl)
theorem TrM.alloc {lo hi : Nat} {w : World} {v : Value} {e : Ex} (h : TrM lo hi w v e) (o : Obj) : TrM lo hi (w.alloc o) v e := h.ext (Below.alloc (Below.refl _ _) (Nat.le_refl _) o)
theorem TrM.setN {lo hi b : Nat} {w : World} {v : Value} {e : Ex} (h : TrM lo hi w v e) (hb : b < lo) (i : Nat) (u : Value) : TrM lo hi (w.setCell ⟨b, i, none⟩ u) v e :=
  h.same (fun q h1 _ => Below.heap_setCell w ⟨b, i, none⟩ u q (by simp; omega))
theorem Blk.newAt {w : World} {n : Nat} {t : TypeId} {cs : Array Value} (h : w.heap.size = n) : Blk (w.alloc (.cells cs t)) n t cs := h ▸ Blk.new w t cs
theorem TrN.two {b lo mid hi hi' g : Nat} {w : World} {e0 e1 : Ex} {A0 A1 : Option Addr} {c0 c1 : Nat} {k n : Int} {s : Bytes} (h : TrN b lo mid w (.agg #[.int .i64 e0.kind, .int .i64 e0.n, .string (bs e0.s), .slice A0 e0.kids.length c0]) e0) (h' : TrM mid hi w (.agg #[.int .i64 e1.kind, .int .i64 e1.n, .string (bs e1.s), .slice A1 e1.kids.length c1]) e1) (hs : s.length ≤ 9223372036854775807)
    (hb : Blk w g 25 #[.int .i64 e0.kind, .int .i64 e0.n, .string (bs e0.s), .slice A0 e0.kids.length c0, .int .i64 e1.kind, .int .i64 e1.n, .string (bs e1.s), .slice A1 e1.kids.length c1]) (h0 : lo ≤ mid) (h1 : mid ≤ hi) (h2 : hi ≤ g) (h3 : g < hi') (h4 : b < mid) (h5 : g ≠ b) : TrN b lo hi' w (.agg #[.int .i64 k, .int .i64 n, .string (bs s), .slice (some ⟨g, 0, none⟩) 2 2]) (.mk k n s [e0, e1]) := by
  obtain ⟨kv, bl, he, hs0, hO, hOw, hn⟩ := h
  obtain ⟨kv', bl', he', hs0', hO', hOw'⟩ := h'
  have hkv : Value.slice A0 e0.kids.length c0 = kv := by simpa using he
  have hkv' : Value.slice A1 e1.kids.length c1 = kv' := by simpa using he'
  subst hkv hkv'
  refine ⟨_, g :: [bl, bl'].flatten, rfl, hs, exO_two hs0 hs0' hO hO' hb, ?_, ?_⟩
  · simp only [List.flatten_cons, List.flatten_nil, List.append_nil]
    exact (hOw.append hOw' (Nat.le_refl _) h0 h1).snoc h2 (by omega) h3
  · simp only [List.flatten_cons, List.flatten_nil, List.append_nil, List.mem_cons, List.mem_append, not_or]
    exact ⟨fun e => h5 e.symm, hn, fun hm => by have := hOw'.1 b hm; omega⟩
theorem TrN.one {b lo hi hi' g : Nat} {w : World} {e0 : Ex} {A0 : Option Addr} {c0 : Nat} {k n : Int} {s : Bytes} (h : TrN b lo hi w (.agg #[.int .i64 e0.kind, .int .i64 e0.n, .string (bs e0.s), .slice A0 e0.kids.length c0]) e0) (hs : s.length ≤ 9223372036854775807)
    (hb : Blk w g 25 #[.int .i64 e0.kind, .int .i64 e0.n, .string (bs e0.s), .slice A0 e0.kids.length c0]) (h1 : hi ≤ g) (h2 : lo ≤ g) (h3 : g < hi') (h5 : g ≠ b) : TrN b lo hi' w (.agg #[.int .i64 k, .int .i64 n, .string (bs s), .slice (some ⟨g, 0, none⟩) 1 1]) (.mk k n s [e0]) := by
  obtain ⟨kv, bl, he, hs0, hO, hOw, hn⟩ := h
  have hkv : Value.slice A0 e0.kids.length c0 = kv := by simpa using he
  subst hkv
  refine ⟨_, g :: [bl].flatten, rfl, hs, exO_one hs0 hO hb, ?_, ?_⟩
  · simp only [List.flatten_cons, List.flatten_nil, List.append_nil]
    exact hOw.snoc h1 h2 h3
  · simp only [List.flatten_cons, List.flatten_nil, List.append_nil, List.mem_cons, not_or]
    exact ⟨fun e => h5 e.symm, hn⟩
/-- a loop's answer -/
def LpR (M : PR) (k : Nat) (sub : List Bytes → PR) (bad : Bool) (x : Ex) (r : List Bytes) : Prop := (bad = true ∧ M = none) ∨ (bad = false ∧ ∃ n, r.length ≤ n ∧ M = loopW k sub n x r)
theorem LpR.stop {M : PR} {k : Nat} {sub : List Bytes → PR} {bad : Bool} {x : Ex} {r : List Bytes} (h : LpR M k sub bad x r) (hs : bad = true ∨ ∀ w r', r = w :: r' → tgP w ≠ k) : M = (if bad then none else some (x, r)) := by
  rcases h with ⟨rfl, rfl⟩ | ⟨rfl, n, hn, rfl⟩
  · rfl
  · rcases hs with hs | hs
    · cases hs
    · exact loopW_stop hs
theorem LpR.step {M : PR} {k : Nat} {sub : List Bytes → PR} {x y : Ex} {w : Bytes} {l r : List Bytes} {bad : Bool} (h : LpR M k sub false x (w :: l)) (hk : tgP w = k) (hs : sub l = if bad then none else some (y, r)) (hr : r.length ≤ l.length) : LpR M k sub bad (.mk 3 0 w [x, y]) r := by
  rcases h with ⟨h, _⟩ | ⟨_, n, hn, rfl⟩
  · cases h
  · simp only [List.length_cons] at hn
    obtain ⟨m, rfl⟩ : ∃ m, n = m + 1 := ⟨n - 1, by omega⟩
    cases bad with
    | true =>
      left
      refine ⟨rfl, ?_⟩
      simp only [loopW]
      rw [if_pos hk, hs]
      rfl
    | false =>
      right
      exact ⟨rfl, m, by omega, loopW_step hk hs⟩
theorem TrM.form3 {lo hi : Nat} {w : World} {v : Value} {e : Ex} (h : TrM lo hi w v e) : ∃ (A : Option Addr) (c : Nat), v = .agg #[.int .i64 e.kind, .int .i64 e.n, .string (bs e.s), .slice A e.kids.length c] ∧ e.s.length ≤ 9223372036854775807 := by
  obtain ⟨A, c, h1, _, _, h2⟩ := h.form
  exact ⟨A, c, h1, h2⟩
/-- a new box -/
abbrev zX : Array Value := #[.int .i64 0, .int .i64 0, .string ⟨#[]⟩, .slice none 0 0]
def vX (k n : Int) (s : Bytes) (kv : Value) : Value := .agg #[.int .i64 k, .int .i64 n, .string (bs s), kv]
/-- a box's four cells -/
abbrev bxE (x : Ex) (A : Option Addr) (c : Nat) : Array Value := #[.int .i64 x.kind, .int .i64 x.n, .string (bs x.s), .slice A x.kids.length c]
end Go.Proofs.YtnejngpdplhbhaaDoor
