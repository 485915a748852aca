
/- Plain Lean of what is reckoned: trees, words, what is ok; and how a tree lies in memory. No program in sight, no condition. -/
import Derived.Test.YtgfdakgibjplkaaGreatDoorByte
namespace Go.Proofs.YtgfdakgibjplkaaGreatDoor
set_option maxRecDepth 100000
open Go.RowKit

/-- a tree of parts -/
inductive Ex where
  | mk (kind n : Int) (s : Bytes) (kids : List Ex)
namespace Ex
def kind : Ex → Int | mk k _ _ _ => k
def n : Ex → Int | mk _ n _ _ => n
def s : Ex → Bytes | mk _ _ s _ => s
def kids : Ex → List Ex | mk _ _ _ l => l
theorem eta (e : Ex) : Ex.mk e.kind e.n e.s e.kids = e := by cases e; rfl
theorem ext' {a b : Ex} (h1 : a.kind = b.kind) (h2 : a.n = b.n) (h3 : a.s = b.s) (h4 : a.kids = b.kids) : a = b := by
  cases a; cases b; simp only [kind, n, s, kids] at *; subst h1 h2 h3 h4; rfl
theorem size_kids (e : Ex) : SizeOf.sizeOf e.kids < SizeOf.sizeOf e := by cases e; simp [kids]; omega
theorem size_mem {l : List Ex} {i : Nat} {e : Ex} (h : l[i]? = some e) : SizeOf.sizeOf e < SizeOf.sizeOf l := List.sizeOf_lt_of_mem (List.mem_of_getElem? h)
end Ex
noncomputable instance : DecidableEq Ex := fun _ _ => Classical.propDecidable _
def Ex.none : Ex := .mk 0 0 [] []

/-! ### in memory -/
/-- a part as its cells lie: its parts below are a slice -/
structure FE where
  kind : Int
  n : Int
  s : Bytes
  kv : Value
def feRow (f : FE) : List Value := [.int .i64 f.kind, .int .i64 f.n, .string (bs f.s), f.kv]
abbrev SlF := Sl feRow 4
/-- the slice value v reads in w, below block B, as these trees -/
inductive ExS (w : World) (B : Nat) : Value → List Ex → Prop
  | mk (v : Value) (fl : List FE) (l : List Ex) (h : SlF w B v fl) (hl : fl.length = l.length)
      (h1 : ∀ (i : Nat) (f : FE) (e : Ex), fl[i]? = some f → l[i]? = some e → f.kind = e.kind ∧ f.n = e.n ∧ f.s = e.s ∧ f.s.length ≤ 9223372036854775807)
      (h2 : ∀ (i : Nat) (f : FE) (e : Ex), fl[i]? = some f → l[i]? = some e → ExS w B f.kv e.kids) : ExS w B v l
/-- a tree by value -/
def ExV (w : World) (B : Nat) (v : Value) (e : Ex) : Prop := ∃ kv, v = .agg #[.int .i64 e.kind, .int .i64 e.n, .string (bs e.s), kv] ∧ e.s.length ≤ 9223372036854775807 ∧ ExS w B kv e.kids

theorem ExS.keep {B B' : Nat} {w w' : World} {v : Value} {l : List Ex} (h : ExS w B v l) (hb : Below B' w w') (hB : B ≤ B') : ExS w' B v l := by
  induction h with
  | mk v fl l h hl h1 h2 ih => exact .mk v fl l (h.below hb hB) hl h1 ih
theorem ExS.more {B B' : Nat} {w : World} {v : Value} {l : List Ex} (h : ExS w B v l) (hB : B ≤ B') : ExS w B' v l := by
  induction h with
  | mk v fl l h hl h1 h2 ih => exact .mk v fl l (h.more hB) hl h1 ih
theorem ExS.ext {w w' : World} {v : Value} {l : List Ex} (h : ExS w w.heap.size v l) (hb : Ext w w') : ExS w' w'.heap.size v l := (h.keep hb (Nat.le_refl _)).more hb.size
theorem ExV.keep {B B' : Nat} {w w' : World} {v : Value} {e : Ex} (h : ExV w B v e) (hb : Below B' w w') (hB : B ≤ B') : ExV w' B v e := by
  obtain ⟨kv, h1, h2, h3⟩ := h; exact ⟨kv, h1, h2, h3.keep hb hB⟩
theorem ExV.more {B B' : Nat} {w : World} {v : Value} {e : Ex} (h : ExV w B v e) (hB : B ≤ B') : ExV w B' v e := by
  obtain ⟨kv, h1, h2, h3⟩ := h; exact ⟨kv, h1, h2, h3.more hB⟩
theorem ExV.ext {w w' : World} {v : Value} {e : Ex} (h : ExV w w.heap.size v e) (hb : Ext w w')   : ExV w' w'.heap.size v e := (h.keep hb (Nat.le_refl _)).more hb.size
theorem ExS.val {w : World} {B : Nat} {v : Value} {l : List Ex} (h : ExS w B v l) : ∃ A c, v = .slice A l.length c ∧ l.length ≤ c ∧ c ≤ 9223372036854775807 := by
  cases h with
  | mk _ fl _ h hl h1 h2 =>
    obtain ⟨A, c, hv, hc, hm⟩ := h.val
    exact ⟨A, c, by rw [← hl]; exact hv, by omega, hm⟩
theorem ExS.nil (w : World) (B : Nat) : ExS w B (.slice .none 0 0) [] :=
  .mk _ [] [] ⟨.none, 0, rfl, Nat.le_refl _, by unfold maxLen; omega, fun h => absurd h (by simp)⟩ rfl (fun _ _ _ h => by simp at h) (fun _ _ _ h => by simp at h)
theorem ExV.none (w : World) (B : Nat) : ExV w B (.agg #[.int .i64 0, .int .i64 0, .string ⟨#[]⟩, .slice .none 0 0]) Ex.none := ⟨_, rfl, by simp [Ex.none, Ex.s], ExS.nil w B⟩
theorem ExV.form {w : World} {B : Nat} {v : Value} {e : Ex} (h : ExV w B v e) : ∃ (k n : Int) (s : Bytes) (A : Option Addr) (c : Nat) (l : List Ex), e = .mk k n s l ∧ v = .agg #[.int .i64 k, .int .i64 n, .string (bs s), .slice A l.length c] ∧ (bs s).size ≤ 9223372036854775807 ∧ l.length ≤ c ∧ c ≤ 9223372036854775807 ∧ ExS w B (.slice A l.length c) l := by
  obtain ⟨kv, rfl, hs, hk⟩ := h
  obtain ⟨A, c, rfl, hc, hm⟩ := hk.val
  exact ⟨e.kind, e.n, e.s, A, c, e.kids, e.eta.symm, rfl, by rw [bs_size]; exact hs, hc, hm, hk⟩

/-- the part i of a slice of trees: its cells, in every later world -/
theorem ex_at {W : World} {B n c : Nat} {A : Option Addr} {l : List Ex} {i : Nat} (h : ExS W B (.slice A n c) l) (hi : i < l.length) :
    ∃ b o p q s A' c' m, A = some ⟨b, o, none⟩ ∧ b < B ∧ l[i]? = some (.mk p q s m) ∧ (bs s).size ≤ 9223372036854775807 ∧ m.length ≤ c' ∧ c' ≤ 9223372036854775807 ∧ ExS W B (.slice A' m.length c') m ∧
      (∀ x : Later B W, x.w'.cell? ⟨b, o + i * 4, none⟩ = some (.int .i64 p)) ∧ (∀ x : Later B W, x.w'.cell? ⟨b, o + i * 4 + 1, none⟩ = some (.int .i64 q)) ∧
      (∀ x : Later B W, x.w'.cell? ⟨b, o + i * 4 + 2, none⟩ = some (.string (bs s))) ∧ (∀ x : Later B W, x.w'.cell? ⟨b, o + i * 4 + 3, none⟩ = some (.slice A' m.length c')) := by
  cases h with
  | mk _ fl _ h hl h1 h2 =>
    obtain ⟨A', c', hv, hc, hm, hh⟩ := h
    obtain ⟨rfl, _, rfl⟩ : A = A' ∧ n = fl.length ∧ c = c' := by injection hv; exact ⟨‹_›, ‹_›, ‹_›⟩
    obtain ⟨b, o, rfl, hb, hcell⟩ := hh (by omega)
    have hg : fl[i]? = some fl[i] := List.getElem?_eq_getElem (by omega)
    have hg2 : l[i]? = some l[i] := List.getElem?_eq_getElem hi
    obtain ⟨e1, e2, e3, e4⟩ := h1 i _ _ hg hg2
    have hk2 := h2 i _ _ hg hg2
    obtain ⟨A2, c2, hkv, hkc, hkm⟩ := hk2.val
    have hk := fun (j : Nat) (v : Value) (hx : (feRow fl[i])[j]? = some v) (x : Later B W) => (x.ok.cell (p := ⟨b, o + i * 4 + j, none⟩) (by simpa using hb)).trans (hcell i _ hg j v hx)
    refine ⟨b, o, l[i].kind, l[i].n, l[i].s, A2, c2, l[i].kids, rfl, hb, by rw [hg2, Ex.eta], by rw [bs_size, ← e3]; exact e4, hkc, hkm, by rw [← hkv]; exact hk2, fun x => ?_, fun x => ?_, fun x => ?_, fun x => ?_⟩
    · rw [← e1]; exact hk 0 _ rfl x
    · rw [← e2]; exact hk 1 _ rfl x
    · rw [← e3]; exact hk 2 _ rfl x
    · rw [← hkv]; exact hk 3 _ rfl x

/-! ### strings -/
def strRow (s : Bytes) : List Value := [.string (bs s)]
abbrev SlB := Sl strRow 1
theorem str_at {W : World} {B n c : Nat} {A : Option Addr} {l : List Bytes} {i : Nat} (h : SlB W B (.slice A n c) l) (hi : i < l.length) :
    ∃ b o x, A = some ⟨b, o, none⟩ ∧ b < B ∧ l[i]? = some x ∧ (∀ y : Later B W, y.w'.cell? ⟨b, o + i, none⟩ = some (.string (bs x))) := by
  obtain ⟨A', c', hv, hc, hm, hh⟩ := h
  obtain ⟨rfl, _, rfl⟩ : A = A' ∧ n = l.length ∧ c = c' := by injection hv; exact ⟨‹_›, ‹_›, ‹_›⟩
  obtain ⟨b, o, rfl, hb, hcell⟩ := hh (by omega)
  have hg : l[i]? = some l[i] := List.getElem?_eq_getElem hi
  refine ⟨b, o, l[i], rfl, hb, hg, fun y => ?_⟩
  have := (y.ok.cell (p := ⟨b, o + i * 1 + 0, none⟩) (by simpa using hb)).trans (hcell i _ hg 0 _ rfl)
  simpa using this

/-! ### what is ok -/
def isLet (c : UInt8) : Bool := decide (97 ≤ c.toNat) && decide (c.toNat ≤ 122)
def isDig (c : UInt8) : Bool := decide (48 ≤ c.toNat) && decide (c.toNat ≤ 57)
def wordB (s : Bytes) : Bool := s.all isLet && decide (1 ≤ s.length) && decide (s.length ≤ 8)
def cInt : Bytes := [105, 110, 116]
def cBool : Bytes := [98, 111, 111, 108]
def cLet : Bytes := [108, 101, 116]
def cSay : Bytes := [115, 97, 121]
def cWhen : Bytes := [119, 104, 101, 110]
def cAs : Bytes := [97, 115]
def cPrint : Bytes := [112, 114, 105, 110, 116]
def cIf : Bytes := [105, 102]
def typeB (s : Bytes) : Bool := s == cInt || s == cBool
def heldB (s : Bytes) : Bool := s == cLet || s == cSay || s == cWhen || s == cAs || s == cPrint || s == cIf || typeB s
def nameB (s : Bytes) : Bool := wordB s && !heldB s
def opB (s : Bytes) : Bool := s == [43] || s == [45] || s == [42] || s == [60]
/-- what a part says of itself, and how many are below it -/
def headB (k n : Int) (s : Bytes) (m : Nat) : Bool :=
  if k = 1 then decide (0 ≤ n) && decide (n ≤ 1000000) && (s == []) && (m == 0)
  else if k = 2 then decide (n = 0) && nameB s && (m == 0)
  else if k = 3 then decide (n = 0) && opB s && (m == 2)
  else if k = 4 then decide (n = 0) && typeB s && (m == 1)
  else false
def formB : Nat → Ex → Bool
  | 0, _ => false
  | d + 1, .mk k n s kids => headB k n s kids.length && kids.all (formB d)
def manyN : Nat → Ex → Nat
  | 0, _ => 1
  | d + 1, .mk _ _ _ kids => 1 + (kids.map (manyN d)).sum
def exOkB (e : Ex) : Bool := formB 5 e && decide (manyN 5 e ≤ 12)
theorem headB_len {k n : Int} {s : Bytes} {m : Nat} (h : headB k n s m = true) : m ≤ 2 := by
  unfold headB at h
  repeat' split at h
  all_goals (simp at h)
  all_goals omega
theorem manyN_le : ∀ (d : Nat) (e : Ex), formB d e = true → manyN d e ≤ 2 ^ d - 1
  | 0, e, h => by simp [formB] at h
  | d + 1, .mk k n s kids, h => by
    simp only [formB, Bool.and_eq_true, List.all_eq_true] at h
    have hl := headB_len h.1
    simp only [manyN]
    have key : ∀ l : List Ex, (∀ x ∈ l, formB d x = true) → (l.map (manyN d)).sum ≤ l.length * (2 ^ d - 1) := by
      intro l
      induction l with
      | nil => intro _; simp
      | cons a l ih =>
        intro hx
        have h1 := ih (fun x hx' => hx x (List.mem_cons_of_mem _ hx'))
        have h2 := manyN_le d a (hx a (List.mem_cons_self ..))
        simp only [List.map_cons, List.sum_cons, List.length_cons, Nat.add_mul]
        omega
    have h1 := key kids h.2
    have h2 : kids.length * (2 ^ d - 1) ≤ 2 * (2 ^ d - 1) := Nat.mul_le_mul_right _ hl
    have h3 : 0 < 2 ^ d := Nat.pow_pos (by omega)
    rw [Nat.pow_succ]
    omega
end Go.Proofs.YtgfdakgibjplkaaGreatDoor
