/- The reader of a code: pick, of, num. -/
import Derived.Test.YtgakjhaepdigpaaGreatDoorVal
import Derived.Test.YtgakjhaepdigpaaGreatDoorImW
import Derived.Test.YtgakjhaepdigpaaGreatDoorBas
namespace Go.Proofs.YtgakjhaepdigpaaGreatDoor
set_option maxRecDepth 100000
set_option linter.unusedSimpArgs false
set_option linter.unusedVariables false
open Go.RowKit
attribute [local go_sem] bs_toList bs_get bs_size

def byRow (n : Int) : List Value := [.int .u8 n]
abbrev SlY := Sl byRow 1
theorem byte_at {W : World} {B n c : Nat} {A : Option Addr} {l : List Int} {i : Nat} (h : SlY W B (.slice A n c) l) (hi : i < l.length) :
    ∃ b o x, A = some ⟨b, o, none⟩ ∧ b < B ∧ l[i]? = some x ∧ W.cell? ⟨b, o + i, none⟩ = some (.int .u8 x) := by
  obtain ⟨A', c', hv, hc, hm, hh⟩ := h
  obtain ⟨rfl, _, rfl⟩ : A = A' ∧ n = l.length ∧ c = c' := by injection hv; exact ⟨‹_›, ‹_›, ‹_›⟩
  obtain ⟨b, o, rfl, hb, hcell⟩ := hh (by omega)
  have hg : l[i]? = some l[i] := List.getElem?_eq_getElem hi
  refine ⟨b, o, l[i], rfl, hb, hg, ?_⟩
  have := hcell i _ hg 0 _ rfl
  simpa using this
/-- the reader in block rb: it has a code of at most 2000 bytes, below rb, and is at p -/
def Rd (w : World) (rb p : Nat) : Prop := ∃ (A : Option Addr) (c : Nat) (l : List Int), Blk w rb 130 #[.slice A l.length c, .int .i64 (p : Int)] ∧ l.length ≤ 2000 ∧ (∀ x ∈ l, 0 ≤ x ∧ x < 256) ∧ SlY w rb (.slice A l.length c) l
theorem Sl.grown {α : Type} {row : α → List Value} {k B : Nat} {w w' : World} {v : Value} {l : List α} {r : Option Nat} (h : Sl row k w B v l) (hg : w.grownBy w' r) (hB : ∀ q, r = some q → B ≤ q) (hw : B ≤ w.heap.size) : Sl row k w' B v l := by
  obtain ⟨A, c, hv, hc, hm, hh⟩ := h
  refine ⟨A, c, hv, hc, hm, fun h0 => ?_⟩
  obtain ⟨b, o, hA, hb, hx⟩ := hh h0
  exact ⟨b, o, hA, hb, fun i s hs j x hj => hg.cell (hx i s hs j x hj) (fun e => by have := hB b e.symm; omega)⟩
theorem Rd.lt {w : World} {rb p : Nat} (h : Rd w rb p) : rb < w.heap.size := by obtain ⟨A, c, l, h1, _⟩ := h; exact h1.lt
theorem Rd.grown {w w' : World} {rb p : Nat} {r : Option Nat} (h : Rd w rb p) (hg : w.grownBy w' r) (hr : ∀ q, r = some q → rb < q) : Rd w' rb p := by
  have hlt := h.lt
  obtain ⟨A, c, l, h1, h2, h3, h4⟩ := h
  exact ⟨A, c, l, (hg.block rb hlt (fun e => by have := hr rb e.symm; omega)).trans h1, h2, h3, h4.grown hg (fun q e => by have := hr q e; omega) (by omega)⟩
theorem Rd.ext {w w' : World} {rb p : Nat} (h : Rd w rb p) (hb : Below w.heap.size w w') : Rd w' rb p :=
  h.grown (r := none) ⟨hb.os, hb.tape, hb.output, hb.size, fun k hk _ => hb.block k hk⟩ (fun q e => by cases e)
theorem Rd.alloc {w : World} {rb p : Nat} (h : Rd w rb p) (o : Obj) : Rd (w.alloc o) rb p := h.ext (Below.alloc (Below.refl _ _) (Nat.le_refl _) o)
theorem Rd.drew {w : World} {rb p : Nat} (h : Rd w rb p) : Rd w.drew rb p := h.ext (Below.drew (Below.refl _ _))
theorem Rd.drewN {w : World} {rb p : Nat} (h : Rd w rb p) (n : Nat) : Rd (w.drewN n) rb p := h.ext (below_drewN (Below.refl _ _) n)
theorem grown_sn {a w : World} {r : Option Nat} {b : Nat} (h : a.grownBy w r) (hb : a.heap.size ≤ b) (i : Nat) (v : Value) : a.grownBy (w.setCell ⟨b, i, none⟩ v) r :=
  ⟨h.os, h.tape, h.output, by rw [World.size_setCell]; exact h.size, fun k hk hne => (Below.heap_setCell w ⟨b, i, none⟩ v k (by simp; omega)).trans (h.block k hk hne)⟩
theorem Rd.setN {w : World} {rb p b : Nat} (h : Rd w rb p) (hb : rb < b) (i : Nat) (v : Value) : Rd (w.setCell ⟨b, i, none⟩ v) rb p :=
  h.grown (r := some b) (grown_st (grown_rfl w _) i v) (fun q e => by have := Option.some.inj e; omega)
theorem blk_gr {w w' : World} {b rb : Nat} {t : TypeId} {cs : Array Value} (h : Blk w b t cs) (hg : w.grownBy w' (some rb)) (hne : b ≠ rb) : Blk w' b t cs :=
  (hg.block b h.lt (fun e => hne (Option.some.inj e))).trans h
theorem bits_xor_i64_nat (a b : Nat) (ha : a < 4611686018427387904) (hb : b < 4611686018427387904) : bits .xor .i64 (a : Int) (b : Int) = ((a ^^^ b : Nat) : Int) := by
  have hx : a ^^^ b < 2 ^ 62 := Nat.xor_lt_two_pow (by omega) (by omega)
  have h1 : (BitVec.ofInt 64 (a : Int)).toNat = a := by
    rw [BitVec.ofInt_natCast, BitVec.toNat_ofNat]; exact Nat.mod_eq_of_lt (by omega)
  have h2 : (BitVec.ofInt 64 (b : Int)).toNat = b := by
    rw [BitVec.ofInt_natCast, BitVec.toNat_ofNat]; exact Nat.mod_eq_of_lt (by omega)
  show IntKind.i64.wrap ((BitVec.ofInt 64 (a : Int) ^^^ BitVec.ofInt 64 (b : Int)).toNat : Int) = _
  rw [BitVec.toNat_xor, h1, h2, IntKind.wrap_i64]
  omega
theorem xor_nonneg {a b : Int} (h1 : 0 ≤ a) (h2 : a < 4611686018427387904) (h3 : 0 ≤ b) (h4 : b < 4611686018427387904) : 0 ≤ bits .xor .i64 a b := by
  obtain ⟨A, rfl⟩ := Int.eq_ofNat_of_zero_le h1
  obtain ⟨B, rfl⟩ := Int.eq_ofNat_of_zero_le h3
  rw [bits_xor_i64_nat A B (by omega) (by omega)]
  omega
end Go.Proofs.YtgakjhaepdigpaaGreatDoor


/- What is drawn: trees, statements, lists of them in memory from a block on. No program in sight, no condition. -/
namespace Go.Proofs.YtgakjhaepdigpaaGreatDoor
set_option maxRecDepth 100000
set_option linter.unusedSimpArgs false
set_option linter.unusedVariables false
open Go.RowKit

theorem ExO.blk {t : TypeId} {w : World} {v : Value} {l : List Ex} {bl : List Nat} (h : ExO t w v l bl) : ∀ b ∈ bl, ∃ cur, Blk w b t cur := by
  induction h with
  | nil A c hc => intro b hb; simp at hb
  | mk g cap cur fl l bls hpos hc hm hb hfl hbl hcur h1 h2 ih =>
    intro b hbm
    rw [List.mem_cons, List.mem_flatten] at hbm
    rcases hbm with rfl | ⟨q, hq, hbq⟩
    · exact ⟨_, hb⟩
    · obtain ⟨i, hi⟩ := List.mem_iff_getElem?.1 hq
      have hil : i < bls.length := (List.getElem?_eq_some_iff.1 hi).1
      exact ih i fl[i] l[i] q (List.getElem?_eq_getElem (by omega)) (List.getElem?_eq_getElem (by omega)) hi b hbq
theorem ExO.mono {t : TypeId} {w w' : World} {v : Value} {l : List Ex} {bl : List Nat} {r : Option Nat} {lo : Nat} (h : ExO t w v l bl) (hl : ∀ b ∈ bl, lo ≤ b) (hg : w.grownBy w' r) (hr : ∀ q, r = some q → q < lo) : ExO t w' v l bl :=
  h.same (fun b hb => hg.block b (h.lt b hb) (fun e => by have := hr b e.symm; have := hl b hb; omega))
/-- a tree that was drawn: its parts lie from lo on -/
def DrK (lo : Nat) (w : World) (kv : Value) (l : List Ex) : Prop := ∃ bl, ExO 24 w kv l bl ∧ ∀ b ∈ bl, lo ≤ b
def DrE (lo : Nat) (w : World) (v : Value) (e : Ex) : Prop := ∃ kv, v = .agg #[.int .i64 e.kind, .int .i64 e.n, .string (bs e.s), kv] ∧ e.s.length ≤ 9223372036854775807 ∧ DrK lo w kv e.kids
theorem DrK.nil (lo : Nat) (w : World) : DrK lo w (.slice none 0 0) [] := ⟨[], .nil none 0 (by unfold maxLen; omega), fun b h => by simp at h⟩
theorem DrK.grown {lo : Nat} {w w' : World} {v : Value} {l : List Ex} {r : Option Nat} (h : DrK lo w v l) (hg : w.grownBy w' r) (hr : ∀ q, r = some q → q < lo) : DrK lo w' v l := by
  obtain ⟨bl, h1, h2⟩ := h; exact ⟨bl, h1.mono h2 hg hr, h2⟩
theorem DrK.ext {lo : Nat} {w w' : World} {v : Value} {l : List Ex} (h : DrK lo w v l) (hb : Below w.heap.size w w') : DrK lo w' v l :=
  h.grown (r := none) ⟨hb.os, hb.tape, hb.output, hb.size, fun k hk _ => hb.block k hk⟩ (fun q e => by cases e)
theorem DrK.less {lo lo' : Nat} {w : World} {v : Value} {l : List Ex} (h : DrK lo w v l) (hl : lo' ≤ lo) : DrK lo' w v l := by
  obtain ⟨bl, h1, h2⟩ := h; exact ⟨bl, h1, fun b hb => Nat.le_trans hl (h2 b hb)⟩
theorem DrK.val {lo : Nat} {w : World} {v : Value} {l : List Ex} (h : DrK lo w v l) : ∃ A c, v = .slice A l.length c ∧ l.length ≤ c ∧ c ≤ 9223372036854775807 := by
  obtain ⟨bl, h1, _⟩ := h; exact h1.exs.val
/-- beside a row of another kind that is turned -/
theorem DrK.app {lo : Nat} {w w' : World} {v : Value} {l : List Ex} {α : Type} {row : α → List Value} {k B : Nat} {t : TypeId} {u : Value} {m : List α} (h : DrK lo w v l) (hu : Gt row k t B w u m) (ht : t ≠ 24) (hg : w.grownBy w' u.ownBlock) : DrK lo w' v l := by
  obtain ⟨bl, h1, h2⟩ := h
  refine ⟨bl, h1.same (fun b hb => hg.block b (h1.lt b hb) (fun e => ?_)), h2⟩
  obtain ⟨cur, hc⟩ := h1.blk b hb
  rcases hu.2 with ⟨rfl, _⟩ | ⟨g, cap, cur2, rfl, _, hbk, _⟩
  · simp [Value.ownBlock] at e
  · simp [Value.ownBlock] at e
    subst e
    have := hc.symm.trans hbk
    simp at this
    exact ht this.2.symm
theorem DrE.grown {lo : Nat} {w w' : World} {v : Value} {e : Ex} {r : Option Nat} (h : DrE lo w v e) (hg : w.grownBy w' r) (hr : ∀ q, r = some q → q < lo) : DrE lo w' v e := by
  obtain ⟨kv, h1, h2, h3⟩ := h; exact ⟨kv, h1, h2, h3.grown hg hr⟩
theorem DrE.ext {lo : Nat} {w w' : World} {v : Value} {e : Ex} (h : DrE lo w v e) (hb : Below w.heap.size w w') : DrE lo w' v e := by
  obtain ⟨kv, h1, h2, h3⟩ := h; exact ⟨kv, h1, h2, h3.ext hb⟩
theorem DrE.less {lo lo' : Nat} {w : World} {v : Value} {e : Ex} (h : DrE lo w v e) (hl : lo' ≤ lo) : DrE lo' w v e := by
  obtain ⟨kv, h1, h2, h3⟩ := h; exact ⟨kv, h1, h2, h3.less hl⟩
theorem DrE.form {lo : Nat} {w : World} {v : Value} {e : Ex} (h : DrE lo w v e) : ∃ (k n : Int) (s : Bytes) (A : Option Addr) (c : Nat) (l : List Ex), e = .mk k n s l ∧ v = .agg #[.int .i64 k, .int .i64 n, .string (bs s), .slice A l.length c] ∧ s.length ≤ 9223372036854775807 ∧ l.length ≤ c ∧ c ≤ 9223372036854775807 ∧ DrK lo w (.slice A l.length c) l := by
  obtain ⟨kv, rfl, hs, hk⟩ := h
  obtain ⟨A, c, rfl, hc, hm⟩ := hk.val
  exact ⟨e.kind, e.n, e.s, A, c, e.kids, e.eta.symm, rfl, hs, hc, hm, hk⟩
theorem DrE.exv {lo : Nat} {w : World} {v : Value} {e : Ex} (h : DrE lo w v e) : ExV w w.heap.size v e := by
  obtain ⟨kv, h1, h2, bl, h3, h4⟩ := h; exact ⟨kv, h1, h2, h3.exs⟩
theorem DrE.of {lo : Nat} {w : World} {k n : Int} {s : Bytes} {kv : Value} {l : List Ex} (hs : s.length ≤ 9223372036854775807) (h : DrK lo w kv l) : DrE lo w (.agg #[.int .i64 k, .int .i64 n, .string (bs s), kv]) (.mk k n s l) := ⟨kv, rfl, hs, h⟩
theorem exO_one {w : World} {g : Nat} {bl : List Nat} {e0 : Ex} {kv : Value} (hs : e0.s.length ≤ 9223372036854775807) (hO : ExO 24 w kv e0.kids bl) (hb : Blk w g 24 #[.int .i64 e0.kind, .int .i64 e0.n, .string (bs e0.s), kv]) :
    ExO 24 w (.slice (some ⟨g, 0, none⟩) 1 1) [e0] (g :: [bl].flatten) := by
  refine .mk g 1 _ [⟨e0.kind, e0.n, e0.s, kv⟩] [e0] [bl] (by simp) (by simp) (by unfold maxLen; omega) hb rfl rfl ?_ ?_ ?_
  · intro i f hf j x hx
    obtain ⟨rfl, rfl⟩ : i = 0 ∧ f = ⟨e0.kind, e0.n, e0.s, kv⟩ := by
      rcases i with _ | i
      · simp at hf; exact ⟨rfl, hf.symm⟩
      · simp at hf
    simpa [feRow] using hx
  · intro i f e hf he
    rcases i with _ | i
    · simp at hf he; subst hf he; exact ⟨rfl, rfl, rfl, hs⟩
    · simp at hf
  · intro i f e b hf he hb2
    rcases i with _ | i
    · simp at hf he hb2; subst hf he hb2; exact hO
    · simp at hf
/-- one part below, laid now -/
theorem DrK.one {lo : Nat} {w : World} {g : Nat} {v0 : Value} {e0 : Ex} {k0 n0 : Int} {s0 : Bytes} {kv0 : Value} (hv : v0 = .agg #[.int .i64 k0, .int .i64 n0, .string (bs s0), kv0]) (h : DrE lo w v0 e0) (hg : lo ≤ g) (hb : Blk w g 24 #[.int .i64 k0, .int .i64 n0, .string (bs s0), kv0]) :
    DrK lo w (.slice (some ⟨g, 0, none⟩) 1 1) [e0] := by
  subst hv
  obtain ⟨kv, he, hs, bl, hO, hl⟩ := h
  simp at he
  obtain ⟨rfl, rfl, hss, rfl⟩ := he
  have hss2 : s0 = e0.s := bs_inj hss
  subst hss2
  refine ⟨g :: [bl].flatten, exO_one hs hO hb, fun b hb2 => ?_⟩
  simp at hb2
  rcases hb2 with rfl | hb2
  · exact hg
  · exact hl b hb2
/-- the same, beside a block that is written -/
def DrX (lo bx : Nat) (w : World) (v : Value) (e : Ex) : Prop := ∃ kv, v = .agg #[.int .i64 e.kind, .int .i64 e.n, .string (bs e.s), kv] ∧ e.s.length ≤ 9223372036854775807 ∧ ∃ bl, ExO 24 w kv e.kids bl ∧ ∀ b ∈ bl, lo ≤ b ∧ b ≠ bx
theorem DrX.dre {lo bx : Nat} {w : World} {v : Value} {e : Ex} (h : DrX lo bx w v e) : DrE lo w v e := by
  obtain ⟨kv, h1, h2, bl, h3, h4⟩ := h; exact ⟨kv, h1, h2, bl, h3, fun b hb => (h4 b hb).1⟩
theorem DrE.drx {lo : Nat} {w : World} {v : Value} {e : Ex} (h : DrE lo w v e) : DrX lo w.heap.size w v e := by
  obtain ⟨kv, h1, h2, bl, h3, h4⟩ := h; exact ⟨kv, h1, h2, bl, h3, fun b hb => ⟨h4 b hb, by have := h3.lt b hb; omega⟩⟩
theorem DrX.grown {lo bx : Nat} {w w' : World} {v : Value} {e : Ex} {r : Option Nat} (h : DrX lo bx w v e) (hg : w.grownBy w' r) (hr : ∀ q, r = some q → q < lo ∨ q = bx) : DrX lo bx w' v e := by
  obtain ⟨kv, h1, h2, bl, h3, h4⟩ := h
  refine ⟨kv, h1, h2, bl, h3.same (fun b hb => hg.block b (h3.lt b hb) (fun e => ?_)), h4⟩
  have := hr b e.symm
  have := h4 b hb
  omega
theorem DrX.form {lo bx : Nat} {w : World} {v : Value} {e : Ex} (h : DrX lo bx w v e) : ∃ (A : Option Addr) (c : Nat), v = .agg #[.int .i64 e.kind, .int .i64 e.n, .string (bs e.s), .slice A e.kids.length c] ∧ e.kids.length ≤ c ∧ c ≤ 9223372036854775807 := by
  obtain ⟨kv, rfl, h2, bl, h3, h4⟩ := h
  obtain ⟨A, c, rfl, hc, hm⟩ := h3.exs.val
  exact ⟨A, c, rfl, hc, hm⟩
theorem DrX.one {lo bx : Nat} {w : World} {g : Nat} {e0 : Ex} {kv0 : Value} {k n : Int} {s : Bytes} (h : DrX lo bx w (.agg #[.int .i64 e0.kind, .int .i64 e0.n, .string (bs e0.s), kv0]) e0) (hsl : s.length ≤ 9223372036854775807) (hg : lo ≤ g) (hgb : g ≠ bx) (hb : Blk w g 24 #[.int .i64 e0.kind, .int .i64 e0.n, .string (bs e0.s), kv0]) :
    DrX lo bx w (.agg #[.int .i64 k, .int .i64 n, .string (bs s), .slice (some ⟨g, 0, none⟩) 1 1]) (.mk k n s [e0]) := by
  obtain ⟨kv, he, hs, bl, hO, hl⟩ := h
  have hkv : kv0 = kv := by simpa using he
  subst hkv
  refine ⟨_, rfl, hsl, g :: [bl].flatten, exO_one hs hO hb, fun b hb2 => ?_⟩
  simp at hb2
  rcases hb2 with rfl | hb2
  · exact ⟨hg, hgb⟩
  · exact hl b hb2
theorem DrX.put {lo bx : Nat} {w : World} {e0 : Ex} {k1 n1 : Int} {s1 : Bytes} {kv0 : Value} (k n : Int) (s : Bytes) (h : DrX lo bx w (.agg #[.int .i64 k1, .int .i64 n1, .string (bs s1), kv0]) e0) (hsl : s.length ≤ 9223372036854775807) : DrX lo bx w (.agg #[.int .i64 k, .int .i64 n, .string (bs s), kv0]) (.mk k n s e0.kids) := by
  obtain ⟨kv, he, hs, bl, hO, hl⟩ := h
  have hkv : kv0 = kv := by simp at he; exact he.2.2.2
  subst hkv
  exact ⟨_, rfl, hsl, bl, hO, hl⟩
theorem DrK.two {lo : Nat} {w : World} {g : Nat} {e0 e1 : Ex} {k0 n0 : Int} {s0 : Bytes} {kv0 : Value} {k1 n1 : Int} {s1 : Bytes} {kv1 : Value} (h : DrE lo w (.agg #[.int .i64 k0, .int .i64 n0, .string (bs s0), kv0]) e0) (h' : DrE lo w (.agg #[.int .i64 k1, .int .i64 n1, .string (bs s1), kv1]) e1) (hg : lo ≤ g) (hb : Blk w g 24 #[.int .i64 k0, .int .i64 n0, .string (bs s0), kv0, .int .i64 k1, .int .i64 n1, .string (bs s1), kv1]) :
    DrK lo w (.slice (some ⟨g, 0, none⟩) 2 2) [e0, e1] := by
  obtain ⟨kv, he, hs, bl, hO, hl⟩ := h
  obtain ⟨kv', he', hs', bl', hO', hl'⟩ := h'
  simp at he he'
  obtain ⟨rfl, rfl, hss, rfl⟩ := he
  obtain ⟨rfl, rfl, hss', rfl⟩ := he'
  have hss2 : s0 = e0.s := by simpa only [bs_data] using congrArg (fun x => x.data.toList) hss
  have hss3 : s1 = e1.s := by simpa only [bs_data] using congrArg (fun x => x.data.toList) hss'
  subst hss2 hss3
  refine ⟨g :: [bl, bl'].flatten, .mk g 2 _ [⟨e0.kind, e0.n, e0.s, kv0⟩, ⟨e1.kind, e1.n, e1.s, kv1⟩] [e0, e1] [bl, bl'] (by simp) (by simp) (by unfold maxLen; omega) hb rfl rfl ?_ ?_ ?_, ?_⟩
  · intro i f hf j x hx
    have hj : j < 4 := (List.getElem?_eq_some_iff.1 hx).1
    rcases i with _ | _ | i
    · simp at hf; subst hf
      match j, hj with
      | 0, _ | 1, _ | 2, _ | 3, _ => simpa [feRow] using hx
    · simp at hf; subst hf
      match j, hj with
      | 0, _ | 1, _ | 2, _ | 3, _ => simpa [feRow] using hx
    · simp at hf
  · intro i f e hf he
    rcases i with _ | _ | i
    · simp at hf he; subst hf he; exact ⟨rfl, rfl, rfl, hs⟩
    · simp at hf he; subst hf he; exact ⟨rfl, rfl, rfl, hs'⟩
    · simp at hf
  · intro i f e b hf he hb2
    rcases i with _ | _ | i
    · simp at hf he hb2; subst hf he hb2; exact hO
    · simp at hf he hb2; subst hf he hb2; exact hO'
    · simp at hf
  · intro b hb2
    simp at hb2
    rcases hb2 with rfl | hb2 | hb2
    · exact hg
    · exact hl b hb2
    · exact hl' b hb2

/-! ### statements -/
def DrF (lo : Nat) (w : World) (f : FS) (s : Sm) : Prop :=
  f.kind = s.kind ∧ f.name = s.name ∧ f.typ = s.typ ∧ f.k1 = s.ex.kind ∧ f.n1 = s.ex.n ∧ f.s1 = s.ex.s ∧ f.k2 = s.th.kind ∧ f.n2 = s.th.n ∧ f.s2 = s.th.s ∧
    (f.name.length ≤ 9223372036854775807 ∧ f.typ.length ≤ 9223372036854775807 ∧ f.s1.length ≤ 9223372036854775807 ∧ f.s2.length ≤ 9223372036854775807) ∧ DrK lo w f.v1 s.ex.kids ∧ DrK lo w f.v2 s.th.kids
theorem DrF.grown {lo : Nat} {w w' : World} {f : FS} {s : Sm} {r : Option Nat} (h : DrF lo w f s) (hg : w.grownBy w' r) (hr : ∀ q, r = some q → q < lo) : DrF lo w' f s := by
  obtain ⟨h1, h2, h3, h4, h5, h6, h7, h8, h9, h10, h11, h12⟩ := h
  exact ⟨h1, h2, h3, h4, h5, h6, h7, h8, h9, h10, h11.grown hg hr, h12.grown hg hr⟩
theorem DrF.app {lo : Nat} {w w' : World} {f : FS} {s : Sm} {α : Type} {row : α → List Value} {k B : Nat} {t : TypeId} {u : Value} {m : List α} (h : DrF lo w f s) (hu : Gt row k t B w u m) (ht : t ≠ 24) (hg : w.grownBy w' u.ownBlock) : DrF lo w' f s := by
  obtain ⟨h1, h2, h3, h4, h5, h6, h7, h8, h9, h10, h11, h12⟩ := h
  exact ⟨h1, h2, h3, h4, h5, h6, h7, h8, h9, h10, h11.app hu ht hg, h12.app hu ht hg⟩
theorem DrF.less {lo lo' : Nat} {w : World} {f : FS} {s : Sm} (h : DrF lo w f s) (hl : lo' ≤ lo) : DrF lo' w f s := by
  obtain ⟨h1, h2, h3, h4, h5, h6, h7, h8, h9, h10, h11, h12⟩ := h
  exact ⟨h1, h2, h3, h4, h5, h6, h7, h8, h9, h10, h11.less hl, h12.less hl⟩
theorem DrF.ok {lo : Nat} {w : World} {f : FS} {s : Sm} (h : DrF lo w f s) : FsOk w w.heap.size f s := by
  obtain ⟨h1, h2, h3, h4, h5, h6, h7, h8, h9, ⟨h10, h11, h12, h13⟩, ⟨b1, x1, _⟩, ⟨b2, x2, _⟩⟩ := h
  exact ⟨h1, h2, h3, h4, h5, h6, h7, h8, h9, by rw [bs_size]; exact h10, by rw [bs_size]; exact h11, by rw [bs_size]; exact h12, by rw [bs_size]; exact h13, x1.exs, x2.exs⟩
/-- a statement that was drawn, by value -/
def DrV (lo : Nat) (w : World) (v : Value) (s : Sm) : Prop := ∃ f, v = .agg (fsRow f).toArray ∧ DrF lo w f s
theorem DrV.grown {lo : Nat} {w w' : World} {v : Value} {s : Sm} {r : Option Nat} (h : DrV lo w v s) (hg : w.grownBy w' r) (hr : ∀ q, r = some q → q < lo) : DrV lo w' v s := by
  obtain ⟨f, h1, h2⟩ := h; exact ⟨f, h1, h2.grown hg hr⟩
theorem DrV.less {lo lo' : Nat} {w : World} {v : Value} {s : Sm} (h : DrV lo w v s) (hl : lo' ≤ lo) : DrV lo' w v s := by
  obtain ⟨f, h1, h2⟩ := h; exact ⟨f, h1, h2.less hl⟩
theorem DrV.smv {lo : Nat} {w : World} {v : Value} {s : Sm} (h : DrV lo w v s) : SmV w w.heap.size v s := by
  obtain ⟨f, h1, h2⟩ := h; exact ⟨f, h1, h2.ok⟩
/-- a list of them: a row of the call's own -/
def DrS (lo : Nat) (w : World) (u : Value) (l : List Sm) : Prop := ∃ fl : List FS, Gt fsRow 11 26 lo w u fl ∧ fl.length = l.length ∧ ∀ (i : Nat) (f : FS) (s : Sm), fl[i]? = some f → l[i]? = some s → DrF lo w f s
theorem DrS.grown {lo : Nat} {w w' : World} {u : Value} {l : List Sm} {r : Option Nat} (h : DrS lo w u l) (hg : w.grownBy w' r) (hr : ∀ q, r = some q → q < lo) : DrS lo w' u l := by
  obtain ⟨fl, h1, h2, h3⟩ := h
  refine ⟨fl, h1.grown hg ?_, h2, fun i f s hf hs => (h3 i f s hf hs).grown hg hr⟩
  rcases hq : u.ownBlock with _ | q
  · exact .inl rfl
  · right
    intro e
    have := (h1.lt hq).1
    have := hr q e.symm
    omega
theorem DrS.ext {lo : Nat} {w w' : World} {u : Value} {l : List Sm} (h : DrS lo w u l) (hb : Below w.heap.size w w') : DrS lo w' u l :=
  h.grown (r := none) ⟨hb.os, hb.tape, hb.output, hb.size, fun k hk _ => hb.block k hk⟩ (fun q e => by cases e)
theorem DrS.sms {lo : Nat} {w : World} {u : Value} {l : List Sm} (h : DrS lo w u l) : SmS w w.heap.size u l := by
  obtain ⟨fl, h1, h2, h3⟩ := h
  exact ⟨fl, h1.sl (fun _ => rfl), h2, fun i f s hf hs => (h3 i f s hf hs).ok⟩
theorem DrS.val {lo : Nat} {w : World} {u : Value} {l : List Sm} (h : DrS lo w u l) : ∃ A c, u = .slice A l.length c ∧ l.length ≤ c ∧ c ≤ 9223372036854775807 := h.sms.val
theorem infoSt : (Tryz.prog.info? 26).map (fun i => (i.zero, i.size, i.bytes)) = some (some (.agg #[.int .i64 0, .string ⟨#[]⟩, .string ⟨#[]⟩, .int .i64 0, .int .i64 0, .string ⟨#[]⟩, .slice none 0 0, .int .i64 0, .int .i64 0, .string ⟨#[]⟩, .slice none 0 0]), 11, 152) := by kernel_rfl
section
variable {α : Type} {row : α → List Value} {k : Nat} {t tS : TypeId} {ops : Array Oper} {rest : List Oper} {o : Oper} {a : Act} {Q : Exit → Act → World → Prop} {w : World}
/-- append to a row whose new elements are rows of single cells -/
theorem app_plain1 (hlen : ∀ s, (row s).length = k) (hpos : 0 < k) (hund : Tryz.prog.underlying tS = some (.slice t)) {z : Value} {b : Nat} (hinfo : (Tryz.prog.info? t).map (fun i => (i.zero, i.size, i.bytes)) = some (some z, k, b)) (hb6 : b ≤ 1000) (hzs : z.cells.size = k) (hgd : o.guard = none) (s x : Operand) (ho : o.op = .call { callee := .builtin .append, args := #[s, x], argTypes := #[tS, tS] })
    (B : Nat) (v : Value) (l : List α) (hs : a.eval s = v) (hv : Gt row k t B w v l) (ad : Addr) (c : Nat) (l2 : List α) (hone : ∀ s ∈ l2, ∀ u ∈ row s, u.oneCell' = true) (hx : a.eval x = .slice (some ad) l2.length c)
    (hc : ∀ (j : Nat) (u : Value), (l2.flatMap row)[j]? = some u → w.cell? (ad.add j) = some u) (hm : 0 < l2.length) (hl : l.length + l2.length ≤ 1000000) (hB : B ≤ w.heap.size)
    (h : ∀ g cap w', Gt row k t B w' (.slice (some ⟨g, 0, none⟩) (l.length + l2.length) cap) (l ++ l2) → w.grownBy w' v.ownBlock → (v.ownBlock = some g ∨ g = w.heap.size) → wpList Tryz.prog ops Q rest (a.put o.dst (.slice (some ⟨g, 0, none⟩) (l.length + l2.length) cap)) w') : wpList Tryz.prog ops Q (o :: rest) a w := by
  obtain ⟨i0, hi, hz0, hz1, hz2⟩ := info_parts hinfo
  refine wpList_append_lies w hgd s x tS ho B t i0 z k b hund hi hz0 hz1 hz2 hzs hpos v l.length _ hs hv ad l2.length c (l2.flatMap row) hx (flat_len hlen l2) hc (fun u hu => by obtain ⟨s, h1, h⟩ := List.mem_flatMap.1 hu; exact hone s h1 u h) hm (by unfold maxLen; omega) (Nat.le_trans (Nat.mul_le_mul hl hb6) (by decide)) hB _ rfl ?_
  intro g cap w' h1 h2 h3 h4
  refine h g cap w' ?_ h2 h3
  unfold Gt
  rw [List.length_append, List.flatMap_append]
  exact h1
theorem app_step1 {K : Act → World → Prop} {E : Prop} (hlen : ∀ s, (row s).length = k) (hpos : 0 < k) (hund : Tryz.prog.underlying tS = some (.slice t)) {z : Value} {b : Nat} (hinfo : (Tryz.prog.info? t).map (fun i => (i.zero, i.size, i.bytes)) = some (some z, k, b)) (hb6 : b ≤ 1000) (hzs : z.cells.size = k) (hgd : o.guard = none) (s x : Operand) (ho : o.op = .call { callee := .builtin .append, args := #[s, x], argTypes := #[tS, tS] })
    (B : Nat) (v : Value) (l : List α) (hs : a.eval s = v) (hv : Gt row k t B w v l) (ad : Addr) (c : Nat) (l2 : List α) (hone : ∀ s ∈ l2, ∀ u ∈ row s, u.oneCell' = true) (hx : a.eval x = .slice (some ad) l2.length c)
    (hc : ∀ (j : Nat) (u : Value), (l2.flatMap row)[j]? = some u → w.cell? (ad.add j) = some u) (hm : 0 < l2.length) (hl : l.length + l2.length ≤ 1000000) (hB : B ≤ w.heap.size)
    (h : ∀ g cap w', Gt row k t B w' (.slice (some ⟨g, 0, none⟩) (l.length + l2.length) cap) (l ++ l2) → w.grownBy w' v.ownBlock → (v.ownBlock = some g ∨ g = w.heap.size) → K (a.put o.dst (.slice (some ⟨g, 0, none⟩) (l.length + l2.length) cap)) w') :
    if Region.wanted o (yielded ops a.tmps) = true then Oper.wp Tryz.prog o a w K Q else E := by
  obtain ⟨i0, hi, hz0, hz1, hz2⟩ := info_parts hinfo
  refine step_append_lies w hgd s x tS ho B t i0 z k b hund hi hz0 hz1 hz2 hzs hpos v l.length _ hs hv ad l2.length c (l2.flatMap row) hx (flat_len hlen l2) hc (fun u hu => by obtain ⟨s, h1, h⟩ := List.mem_flatMap.1 hu; exact hone s h1 u h) hm (by unfold maxLen; omega) (Nat.le_trans (Nat.mul_le_mul hl hb6) (by decide)) hB _ rfl ?_
  intro g cap w' h1 h2 h3 h4
  refine h g cap w' ?_ h2 h3
  unfold Gt
  rw [List.length_append, List.flatMap_append]
  exact h1
end
abbrev GtF := Gt fsRow 11 26
theorem fs_one {f : FS} {A1 A2 : Option Addr} {n1 n2 c1 c2 : Nat} (h1 : f.v1 = .slice A1 n1 c1) (h2 : f.v2 = .slice A2 n2 c2) : ∀ s ∈ [f], ∀ u ∈ fsRow s, u.oneCell' = true := by
  intro s hs u hu
  simp at hs
  subst hs
  simp [fsRow, h1, h2] at hu
  rcases hu with rfl | rfl | rfl | rfl | rfl | rfl | rfl | rfl | rfl | rfl | rfl <;> rfl
section
variable {ops : Array Oper} {rest : List Oper} {o : Oper} {a : Act} {Q : Exit → Act → World → Prop} {w : World}
theorem app_stepF {K : Act → World → Prop} {E : Prop} (hgd : o.guard = none) (s x : Operand) (ho : o.op = .call { callee := .builtin .append, args := #[s, x], argTypes := #[65, 65] })
    (B : Nat) (v : Value) (l : List FS) (hs : a.eval s = v) (hv : GtF B w v l) (f : FS) (hone : ∀ u ∈ fsRow f, u.oneCell' = true) (g0 : Nat) (hx : a.eval x = .slice (some ⟨g0, 0, none⟩) 1 1)
    (hc : ∀ (j : Nat) (u : Value), ([f].flatMap fsRow)[j]? = some u → w.cell? ((⟨g0, 0, none⟩ : Addr).add j) = some u) (hl : l.length + 1 ≤ 1000000) (hB : B ≤ w.heap.size)
    (h : ∀ g cap w', GtF B w' (.slice (some ⟨g, 0, none⟩) (l.length + 1) cap) (l ++ [f]) → w.grownBy w' v.ownBlock → (v.ownBlock = some g ∨ g = w.heap.size) → K (a.put o.dst (.slice (some ⟨g, 0, none⟩) (l.length + 1) cap)) w') :
    if Region.wanted o (yielded ops a.tmps) = true then Oper.wp Tryz.prog o a w K Q else E :=
  app_step1 (row := fsRow) (k := 11) (t := 26) (tS := 65) (l2 := [f]) (fun _ => rfl) (by decide) Tryz.underlying65 infoSt (by decide) rfl hgd s x ho B v l hs hv ⟨g0, 0, none⟩ 1 (fun s hs => by simp at hs; subst hs; exact hone) hx hc (Nat.succ_pos 0) hl hB h
theorem app_plainF (hgd : o.guard = none) (s x : Operand) (ho : o.op = .call { callee := .builtin .append, args := #[s, x], argTypes := #[65, 65] })
    (B : Nat) (v : Value) (l : List FS) (hs : a.eval s = v) (hv : GtF B w v l) (f : FS) (hone : ∀ u ∈ fsRow f, u.oneCell' = true) (g0 : Nat) (hx : a.eval x = .slice (some ⟨g0, 0, none⟩) 1 1)
    (hc : ∀ (j : Nat) (u : Value), ([f].flatMap fsRow)[j]? = some u → w.cell? ((⟨g0, 0, none⟩ : Addr).add j) = some u) (hl : l.length + 1 ≤ 1000000) (hB : B ≤ w.heap.size)
    (h : ∀ g cap w', GtF B w' (.slice (some ⟨g, 0, none⟩) (l.length + 1) cap) (l ++ [f]) → w.grownBy w' v.ownBlock → (v.ownBlock = some g ∨ g = w.heap.size) → wpList Tryz.prog ops Q rest (a.put o.dst (.slice (some ⟨g, 0, none⟩) (l.length + 1) cap)) w') : wpList Tryz.prog ops Q (o :: rest) a w :=
  app_plain1 (row := fsRow) (k := 11) (t := 26) (tS := 65) (l2 := [f]) (fun _ => rfl) (by decide) Tryz.underlying65 infoSt (by decide) rfl hgd s x ho B v l hs hv ⟨g0, 0, none⟩ 1 (fun s hs => by simp at hs; subst hs; exact hone) hx hc (Nat.succ_pos 0) hl hB h
end
/-- one more -/
theorem DrS.push {lo : Nat} {w w' : World} {u u' : Value} {l : List Sm} {f : FS} {s : Sm} {fl : List FS} (h1 : Gt fsRow 11 26 lo w u fl) (h2 : fl.length = l.length) (h3 : ∀ (i : Nat) (f : FS) (s : Sm), fl[i]? = some f → l[i]? = some s → DrF lo w f s) (hf : DrF lo w f s)
    (hn : Gt fsRow 11 26 lo w' u' (fl ++ [f])) (hg : w.grownBy w' u.ownBlock) : DrS lo w' u' (l ++ [s]) := by
  have ht : 26 ≠ 24 := by decide
  refine ⟨fl ++ [f], hn, by simp [h2], fun i f' s' hf' hs' => ?_⟩
  rcases getElem?_snoc hf' with ⟨a1, a2⟩ | ⟨a1, a2⟩
  · rw [List.getElem?_append_left (by omega)] at hs'
    exact (h3 i f' s' a2 hs').app h1 ht hg
  · subst a1 a2
    rw [h2, List.getElem?_append_right (Nat.le_refl _), Nat.sub_self] at hs'
    simp at hs'
    subst hs'
    exact hf.app h1 ht hg
end Go.Proofs.YtgakjhaepdigpaaGreatDoor
