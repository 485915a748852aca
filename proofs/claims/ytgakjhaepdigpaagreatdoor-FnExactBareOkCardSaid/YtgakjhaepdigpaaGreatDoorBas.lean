/- Plain Lean of bytes: the string of a list of bytes. No program in sight, no condition. -/
import Derived.Test.YtgakjhaepdigpaaGreatDoorLib
namespace Go.Proofs.YtgakjhaepdigpaaGreatDoor
set_option maxRecDepth 100000
set_option linter.unusedSimpArgs false
set_option linter.unusedVariables false
open Go.RowKit

abbrev Bytes := List UInt8
/-- the string of some bytes -/
def bs (l : Bytes) : ByteArray := ⟨l.toArray⟩
theorem bs_data (l : Bytes) : (bs l).data.toList = l := by simp [bs]
theorem bs_size (l : Bytes) : (bs l).size = l.length := by simp [bs, ByteArray.size]
theorem bs_of (s : ByteArray) : bs s.data.toList = s := by cases s; simp [bs]
theorem bs_append (a b : Bytes) : bs a ++ bs b = bs (a ++ b) := by
  apply ByteArray.ext
  simp [bs]
theorem bs_inj {a b : Bytes} (h : bs a = bs b) : a = b := by rw [← bs_data a, h, bs_data]

theorem ret_cat {a b c : Bytes} (h : a ++ b = c) : Ending.returned (.string (bs a ++ bs b)) = .returned (.string (bs c)) := by rw [bs_append, h]
theorem ret_bs {a c : Bytes} (h : a = c) : Ending.returned (.string (bs a)) = .returned (.string (bs c)) := by rw [h]
end Go.Proofs.YtgakjhaepdigpaaGreatDoor


/- Plain Lean of what is reckoned: trees, words, what is ok; and how a tree lies in memory. No program in sight, no condition. -/
namespace Go.Proofs.YtgakjhaepdigpaaGreatDoor
set_option maxRecDepth 100000
set_option linter.unusedSimpArgs false
set_option linter.unusedVariables false
open Go.RowKit

/-- a tree of parts -/
inductive Ex where
  | mk (kind n : Int) (s : Bytes) (kids : List Ex)
namespace Ex
def kind : Ex → Int | mk k _ _ _ => k
def n : Ex → Int | mk _ n _ _ => n
def s : Ex → Bytes | mk _ _ s _ => s
def kids : Ex → List Ex | mk _ _ _ l => l
theorem eta (e : Ex) : Ex.mk e.kind e.n e.s e.kids = e := by cases e; rfl
theorem ext' {a b : Ex} (h1 : a.kind = b.kind) (h2 : a.n = b.n) (h3 : a.s = b.s) (h4 : a.kids = b.kids) : a = b := by
  cases a; cases b; simp only [kind, n, s, kids] at *; subst h1 h2 h3 h4; rfl
theorem size_kids (e : Ex) : SizeOf.sizeOf e.kids < SizeOf.sizeOf e := by cases e; simp [kids]; omega
theorem size_mem {l : List Ex} {i : Nat} {e : Ex} (h : l[i]? = some e) : SizeOf.sizeOf e < SizeOf.sizeOf l := List.sizeOf_lt_of_mem (List.mem_of_getElem? h)
end Ex
noncomputable instance : DecidableEq Ex := fun _ _ => Classical.propDecidable _
def Ex.none : Ex := .mk 0 0 [] []

/-! ### in memory -/
/-- a part as its cells lie: its parts below are a slice -/
structure FE where
  kind : Int
  n : Int
  s : Bytes
  kv : Value
def feRow (f : FE) : List Value := [.int .i64 f.kind, .int .i64 f.n, .string (bs f.s), f.kv]
abbrev SlF := Sl feRow 4
/-- the slice value v reads in w, below block B, as these trees -/
inductive ExS (w : World) (B : Nat) : Value → List Ex → Prop
  | mk (v : Value) (fl : List FE) (l : List Ex) (h : SlF w B v fl) (hl : fl.length = l.length)
      (h1 : ∀ (i : Nat) (f : FE) (e : Ex), fl[i]? = some f → l[i]? = some e → f.kind = e.kind ∧ f.n = e.n ∧ f.s = e.s ∧ f.s.length ≤ 9223372036854775807)
      (h2 : ∀ (i : Nat) (f : FE) (e : Ex), fl[i]? = some f → l[i]? = some e → ExS w B f.kv e.kids) : ExS w B v l
/-- a tree by value -/
def ExV (w : World) (B : Nat) (v : Value) (e : Ex) : Prop := ∃ kv, v = .agg #[.int .i64 e.kind, .int .i64 e.n, .string (bs e.s), kv] ∧ e.s.length ≤ 9223372036854775807 ∧ ExS w B kv e.kids

theorem ExS.keep {B B' : Nat} {w w' : World} {v : Value} {l : List Ex} (h : ExS w B v l) (hb : Below B' w w') (hB : B ≤ B') : ExS w' B v l := by
  induction h with
  | mk v fl l h hl h1 h2 ih => exact .mk v fl l (h.below hb hB) hl h1 ih
theorem ExS.more {B B' : Nat} {w : World} {v : Value} {l : List Ex} (h : ExS w B v l) (hB : B ≤ B') : ExS w B' v l := by
  induction h with
  | mk v fl l h hl h1 h2 ih => exact .mk v fl l (h.more hB) hl h1 ih
theorem ExS.ext {w w' : World} {v : Value} {l : List Ex} (h : ExS w w.heap.size v l) (hb : Ext w w') : ExS w' w'.heap.size v l := (h.keep hb (Nat.le_refl _)).more hb.size
theorem ExV.keep {B B' : Nat} {w w' : World} {v : Value} {e : Ex} (h : ExV w B v e) (hb : Below B' w w') (hB : B ≤ B') : ExV w' B v e := by
  obtain ⟨kv, h1, h2, h3⟩ := h; exact ⟨kv, h1, h2, h3.keep hb hB⟩
theorem ExV.more {B B' : Nat} {w : World} {v : Value} {e : Ex} (h : ExV w B v e) (hB : B ≤ B') : ExV w B' v e := by
  obtain ⟨kv, h1, h2, h3⟩ := h; exact ⟨kv, h1, h2, h3.more hB⟩
theorem ExV.ext {w w' : World} {v : Value} {e : Ex} (h : ExV w w.heap.size v e) (hb : Ext w w')   : ExV w' w'.heap.size v e := (h.keep hb (Nat.le_refl _)).more hb.size
theorem ExS.val {w : World} {B : Nat} {v : Value} {l : List Ex} (h : ExS w B v l) : ∃ A c, v = .slice A l.length c ∧ l.length ≤ c ∧ c ≤ 9223372036854775807 := by
  cases h with
  | mk _ fl _ h hl h1 h2 =>
    obtain ⟨A, c, hv, hc, hm⟩ := h.val
    exact ⟨A, c, by rw [← hl]; exact hv, by omega, hm⟩
theorem ExS.nil (w : World) (B : Nat) : ExS w B (.slice .none 0 0) [] :=
  .mk _ [] [] ⟨.none, 0, rfl, Nat.le_refl _, by unfold maxLen; omega, fun h => absurd h (by simp)⟩ rfl (fun _ _ _ h => by simp at h) (fun _ _ _ h => by simp at h)
theorem ExV.none (w : World) (B : Nat) : ExV w B (.agg #[.int .i64 0, .int .i64 0, .string ⟨#[]⟩, .slice .none 0 0]) Ex.none := ⟨_, rfl, by simp [Ex.none, Ex.s], ExS.nil w B⟩
theorem ExV.form {w : World} {B : Nat} {v : Value} {e : Ex} (h : ExV w B v e) : ∃ (k n : Int) (s : Bytes) (A : Option Addr) (c : Nat) (l : List Ex), e = .mk k n s l ∧ v = .agg #[.int .i64 k, .int .i64 n, .string (bs s), .slice A l.length c] ∧ (bs s).size ≤ 9223372036854775807 ∧ l.length ≤ c ∧ c ≤ 9223372036854775807 ∧ ExS w B (.slice A l.length c) l := by
  obtain ⟨kv, rfl, hs, hk⟩ := h
  obtain ⟨A, c, rfl, hc, hm⟩ := hk.val
  exact ⟨e.kind, e.n, e.s, A, c, e.kids, e.eta.symm, rfl, by rw [bs_size]; exact hs, hc, hm, hk⟩

/-- the part i of a slice of trees: its cells, in every later world -/
theorem ex_at {W : World} {B n c : Nat} {A : Option Addr} {l : List Ex} {i : Nat} (h : ExS W B (.slice A n c) l) (hi : i < l.length) :
    ∃ b o p q s A' c' m, A = some ⟨b, o, none⟩ ∧ b < B ∧ l[i]? = some (.mk p q s m) ∧ (bs s).size ≤ 9223372036854775807 ∧ m.length ≤ c' ∧ c' ≤ 9223372036854775807 ∧ ExS W B (.slice A' m.length c') m ∧
      (∀ x : Later B W, x.w'.cell? ⟨b, o + i * 4, none⟩ = some (.int .i64 p)) ∧ (∀ x : Later B W, x.w'.cell? ⟨b, o + i * 4 + 1, none⟩ = some (.int .i64 q)) ∧
      (∀ x : Later B W, x.w'.cell? ⟨b, o + i * 4 + 2, none⟩ = some (.string (bs s))) ∧ (∀ x : Later B W, x.w'.cell? ⟨b, o + i * 4 + 3, none⟩ = some (.slice A' m.length c')) := by
  cases h with
  | mk _ fl _ h hl h1 h2 =>
    obtain ⟨A', c', hv, hc, hm, hh⟩ := h
    obtain ⟨rfl, _, rfl⟩ : A = A' ∧ n = fl.length ∧ c = c' := by injection hv; exact ⟨‹_›, ‹_›, ‹_›⟩
    obtain ⟨b, o, rfl, hb, hcell⟩ := hh (by omega)
    have hg : fl[i]? = some fl[i] := List.getElem?_eq_getElem (by omega)
    have hg2 : l[i]? = some l[i] := List.getElem?_eq_getElem hi
    obtain ⟨e1, e2, e3, e4⟩ := h1 i _ _ hg hg2
    have hk2 := h2 i _ _ hg hg2
    obtain ⟨A2, c2, hkv, hkc, hkm⟩ := hk2.val
    have hk := fun (j : Nat) (v : Value) (hx : (feRow fl[i])[j]? = some v) (x : Later B W) => (x.ok.cell (p := ⟨b, o + i * 4 + j, none⟩) (by simpa using hb)).trans (hcell i _ hg j v hx)
    refine ⟨b, o, l[i].kind, l[i].n, l[i].s, A2, c2, l[i].kids, rfl, hb, by rw [hg2, Ex.eta], by rw [bs_size, ← e3]; exact e4, hkc, hkm, by rw [← hkv]; exact hk2, fun x => ?_, fun x => ?_, fun x => ?_, fun x => ?_⟩
    · rw [← e1]; exact hk 0 _ rfl x
    · rw [← e2]; exact hk 1 _ rfl x
    · rw [← e3]; exact hk 2 _ rfl x
    · rw [← hkv]; exact hk 3 _ rfl x

/-! ### strings -/
def strRow (s : Bytes) : List Value := [.string (bs s)]
abbrev SlB := Sl strRow 1
theorem str_at {W : World} {B n c : Nat} {A : Option Addr} {l : List Bytes} {i : Nat} (h : SlB W B (.slice A n c) l) (hi : i < l.length) :
    ∃ b o x, A = some ⟨b, o, none⟩ ∧ b < B ∧ l[i]? = some x ∧ (∀ y : Later B W, y.w'.cell? ⟨b, o + i, none⟩ = some (.string (bs x))) := by
  obtain ⟨A', c', hv, hc, hm, hh⟩ := h
  obtain ⟨rfl, _, rfl⟩ : A = A' ∧ n = l.length ∧ c = c' := by injection hv; exact ⟨‹_›, ‹_›, ‹_›⟩
  obtain ⟨b, o, rfl, hb, hcell⟩ := hh (by omega)
  have hg : l[i]? = some l[i] := List.getElem?_eq_getElem hi
  refine ⟨b, o, l[i], rfl, hb, hg, fun y => ?_⟩
  have := (y.ok.cell (p := ⟨b, o + i * 1 + 0, none⟩) (by simpa using hb)).trans (hcell i _ hg 0 _ rfl)
  simpa using this

/-! ### what is ok -/
def isLet (c : UInt8) : Bool := decide (97 ≤ c.toNat) && decide (c.toNat ≤ 122)
def isDig (c : UInt8) : Bool := decide (48 ≤ c.toNat) && decide (c.toNat ≤ 57)
def wordB (s : Bytes) : Bool := s.all isLet && decide (1 ≤ s.length) && decide (s.length ≤ 8)
def cInt : Bytes := [105, 110, 116]
def cBool : Bytes := [98, 111, 111, 108]
def cLet : Bytes := [108, 101, 116]
def cSay : Bytes := [115, 97, 121]
def cWhen : Bytes := [119, 104, 101, 110]
def cAs : Bytes := [97, 115]
def cPrint : Bytes := [112, 114, 105, 110, 116]
def cIf : Bytes := [105, 102]
def typeB (s : Bytes) : Bool := s == cInt || s == cBool
def heldB (s : Bytes) : Bool := s == cLet || s == cSay || s == cWhen || s == cAs || s == cPrint || s == cIf || typeB s
def nameB (s : Bytes) : Bool := wordB s && !heldB s
def opB (s : Bytes) : Bool := s == [43] || s == [45] || s == [42] || s == [60]
/-- what a part says of itself, and how many are below it -/
def headB (k n : Int) (s : Bytes) (m : Nat) : Bool :=
  if k = 1 then decide (0 ≤ n) && decide (n ≤ 1000000) && (s == []) && (m == 0)
  else if k = 2 then decide (n = 0) && nameB s && (m == 0)
  else if k = 3 then decide (n = 0) && opB s && (m == 2)
  else if k = 4 then decide (n = 0) && typeB s && (m == 1)
  else false
def formB : Nat → Ex → Bool
  | 0, _ => false
  | d + 1, .mk k n s kids => headB k n s kids.length && kids.all (formB d)
def manyN : Nat → Ex → Nat
  | 0, _ => 1
  | d + 1, .mk _ _ _ kids => 1 + (kids.map (manyN d)).sum
def exOkB (e : Ex) : Bool := formB 5 e && decide (manyN 5 e ≤ 12)
theorem headB_len {k n : Int} {s : Bytes} {m : Nat} (h : headB k n s m = true) : m ≤ 2 := by
  unfold headB at h
  repeat' split at h
  all_goals (simp at h)
  all_goals omega
theorem manyN_le : ∀ (d : Nat) (e : Ex), formB d e = true → manyN d e ≤ 2 ^ d - 1
  | 0, e, h => by simp [formB] at h
  | d + 1, .mk k n s kids, h => by
    simp only [formB, Bool.and_eq_true, List.all_eq_true] at h
    have hl := headB_len h.1
    simp only [manyN]
    have key : ∀ l : List Ex, (∀ x ∈ l, formB d x = true) → (l.map (manyN d)).sum ≤ l.length * (2 ^ d - 1) := by
      intro l
      induction l with
      | nil => intro _; simp
      | cons a l ih =>
        intro hx
        have h1 := ih (fun x hx' => hx x (List.mem_cons_of_mem _ hx'))
        have h2 := manyN_le d a (hx a (List.mem_cons_self ..))
        simp only [List.map_cons, List.sum_cons, List.length_cons, Nat.add_mul]
        omega
    have h1 := key kids h.2
    have h2 : kids.length * (2 ^ d - 1) ≤ 2 * (2 ^ d - 1) := Nat.mul_le_mul_right _ hl
    have h3 : 0 < 2 ^ d := Nat.pow_pos (by omega)
    rw [Nat.pow_succ]
    omega
end Go.Proofs.YtgakjhaepdigpaaGreatDoor


/- Plain Lean of what is ok to be reckoned: expressions as a type of their own, their words, types, values. No program in sight, no condition. -/
namespace Go.Proofs.YtgakjhaepdigpaaGreatDoor
set_option maxRecDepth 100000
set_option linter.unusedSimpArgs false
set_option linter.unusedVariables false
open Go.RowKit

inductive Op2 where | lt | add | sub | mul
deriving DecidableEq
namespace Op2
def b : Op2 → Bytes | lt => [60] | add => [43] | sub => [45] | mul => [42]
def lv : Op2 → Nat | lt => 1 | add => 2 | sub => 2 | mul => 3
theorem of_opB {s : Bytes} (h : opB s = true) : ∃ o : Op2, s = o.b := by
  simp only [opB, Bool.or_eq_true, beq_iff_eq] at h
  rcases h with ((h | h) | h) | h
  · exact ⟨add, h⟩
  · exact ⟨sub, h⟩
  · exact ⟨mul, h⟩
  · exact ⟨lt, h⟩
theorem opB_b (o : Op2) : opB o.b = true := by cases o <;> decide
theorem b_inj {o p : Op2} (h : o.b = p.b) : o = p := by cases o <;> cases p <;> first | rfl | (simp [b] at h)
theorem b_len (o : Op2) : o.b.length = 1 := by cases o <;> rfl
end Op2
def tyB (t : Bool) : Bytes := if t then cInt else cBool
theorem typeB_ty (t : Bool) : typeB (tyB t) = true := by cases t <;> decide
theorem of_typeB {s : Bytes} (h : typeB s = true) : ∃ t, s = tyB t := by
  simp only [typeB, Bool.or_eq_true, beq_iff_eq] at h
  rcases h with h | h
  · exact ⟨true, h⟩
  · exact ⟨false, h⟩
theorem tyB_inj {a b : Bool} (h : tyB a = tyB b) : a = b := by cases a <;> cases b <;> first | rfl | (simp [tyB, cInt, cBool] at h)

/-- what is ok, part by part -/
inductive E where
  | num (n : Nat)
  | nam (s : Bytes)
  | two (o : Op2) (a b : E)
  | cast (t : Bool) (a : E)
namespace E
def ex : E → Ex
  | num n => .mk 1 n [] []
  | nam s => .mk 2 0 s []
  | two o a b => .mk 3 0 o.b [a.ex, b.ex]
  | cast t a => .mk 4 0 (tyB t) [a.ex]
def ok : E → Prop
  | num n => n ≤ 1000000
  | nam s => nameB s = true
  | two _ a b => a.ok ∧ b.ok
  | cast _ a => a.ok
def ht : E → Nat
  | num _ => 1
  | nam _ => 1
  | two _ a b => 1 + max a.ht b.ht
  | cast _ a => 1 + a.ht
def cnt : E → Nat
  | num _ => 1
  | nam _ => 1
  | two _ a b => 1 + (a.cnt + b.cnt)
  | cast _ a => 1 + a.cnt
theorem cnt_pos (e : E) : 1 ≤ e.cnt := by cases e <;> simp only [cnt] <;> omega
theorem ht_pos (e : E) : 1 ≤ e.ht := by cases e <;> simp only [ht] <;> omega
theorem ex_inj : ∀ {a b : E}, a.ex = b.ex → a = b
  | num n, num m, h => by simp only [ex, Ex.mk.injEq] at h; have := h.2.1; congr 1; omega
  | nam s, nam t, h => by simp only [ex, Ex.mk.injEq] at h; rw [h.2.2.1]
  | two o a b, two p c d, h => by
    simp only [ex, Ex.mk.injEq, List.cons.injEq] at h
    rw [Op2.b_inj h.2.2.1, ex_inj h.2.2.2.1, ex_inj h.2.2.2.2.1]
  | cast t a, cast u c, h => by
    simp only [ex, Ex.mk.injEq, List.cons.injEq] at h
    rw [tyB_inj h.2.2.1, ex_inj h.2.2.2.1]
  | num _, nam _, h => by simp [ex] at h
  | num _, two _ _ _, h => by simp [ex] at h
  | num _, cast _ _, h => by simp [ex] at h
  | nam _, num _, h => by simp [ex] at h
  | nam _, two _ _ _, h => by simp [ex] at h
  | nam _, cast _ _, h => by simp [ex] at h
  | two _ _ _, num _, h => by simp [ex] at h
  | two _ _ _, nam _, h => by simp [ex] at h
  | two _ _ _, cast _ _, h => by simp [ex] at h
  | cast _ _, num _, h => by simp [ex] at h
  | cast _ _, nam _, h => by simp [ex] at h
  | cast _ _, two _ _ _, h => by simp [ex] at h
theorem many_ex : ∀ (d : Nat) (e : E), e.ht ≤ d → manyN d e.ex = e.cnt
  | 0, e, h => by have := e.ht_pos; omega
  | d + 1, num _, _ => by simp [ex, manyN, cnt]
  | d + 1, nam _, _ => by simp [ex, manyN, cnt]
  | d + 1, two o a b, h => by
    simp only [ht] at h
    simp [ex, manyN, cnt, many_ex d a (by omega), many_ex d b (by omega)]
  | d + 1, cast t a, h => by
    simp only [ht] at h
    simp [ex, manyN, cnt, many_ex d a (by omega)]
theorem form_ex : ∀ (d : Nat) (e : E), e.ok → e.ht ≤ d → formB d e.ex = true
  | 0, e, _, h => by have := e.ht_pos; omega
  | d + 1, num n, h, _ => by simp only [ok] at h; simp [ex, formB, headB]; omega
  | d + 1, nam s, h, _ => by simp only [ok] at h; simp [ex, formB, headB, h]
  | d + 1, two o a b, h, hh => by
    simp only [ok] at h
    simp only [ht] at hh
    simp [ex, formB, headB, Op2.opB_b, form_ex d a h.1 (by omega), form_ex d b h.2 (by omega)]
  | d + 1, cast t a, h, hh => by
    simp only [ok] at h
    simp only [ht] at hh
    simp [ex, formB, headB, typeB_ty, form_ex d a h (by omega)]
theorem of_form : ∀ (d : Nat) (x : Ex), formB d x = true → ∃ e : E, x = e.ex ∧ e.ok ∧ e.ht ≤ d
  | 0, x, h => by simp [formB] at h
  | d + 1, .mk k n s kids, h => by
    simp only [formB, Bool.and_eq_true, List.all_eq_true] at h
    obtain ⟨h1, h2⟩ := h
    unfold headB at h1
    by_cases e1 : k = 1
    · rw [if_pos e1] at h1
      simp only [Bool.and_eq_true, decide_eq_true_eq, beq_iff_eq, List.length_eq_zero_iff] at h1
      obtain ⟨⟨⟨a, b⟩, rfl⟩, rfl⟩ := h1
      exact ⟨num n.toNat, by simp [ex, e1]; omega, by simp only [ok]; omega, by simp [ht]⟩
    rw [if_neg e1] at h1
    by_cases e2 : k = 2
    · rw [if_pos e2] at h1
      simp only [Bool.and_eq_true, decide_eq_true_eq, beq_iff_eq, List.length_eq_zero_iff] at h1
      obtain ⟨⟨rfl, b⟩, rfl⟩ := h1
      exact ⟨nam s, by simp [ex, e2], b, by simp [ht]⟩
    rw [if_neg e2] at h1
    by_cases e3 : k = 3
    · rw [if_pos e3] at h1
      simp only [Bool.and_eq_true, decide_eq_true_eq, beq_iff_eq] at h1
      obtain ⟨⟨rfl, b⟩, hl⟩ := h1
      obtain ⟨o, rfl⟩ := Op2.of_opB b
      match kids, hl with
      | [x, y], _ =>
        obtain ⟨a, rfl, oa, ha⟩ := of_form d x (h2 _ (by simp))
        obtain ⟨c, rfl, oc, hc⟩ := of_form d y (h2 _ (by simp))
        exact ⟨two o a c, by simp [ex, e3], ⟨oa, oc⟩, by simp only [ht]; omega⟩
    rw [if_neg e3] at h1
    by_cases e4 : k = 4
    · rw [if_pos e4] at h1
      simp only [Bool.and_eq_true, decide_eq_true_eq, beq_iff_eq] at h1
      obtain ⟨⟨rfl, b⟩, hl⟩ := h1
      obtain ⟨t, rfl⟩ := of_typeB b
      match kids, hl with
      | [x], _ =>
        obtain ⟨a, rfl, oa, ha⟩ := of_form d x (h2 _ (by simp))
        exact ⟨cast t a, by simp [ex, e4], oa, by simp only [ht]; omega⟩
    rw [if_neg e4] at h1
    cases h1
/-- ok as a whole -/
def Ok (e : E) : Prop := e.ok ∧ e.ht ≤ 5 ∧ e.cnt ≤ 12
theorem ok_iff {x : Ex} : exOkB x = true ↔ ∃ e : E, x = e.ex ∧ e.Ok := by
  unfold exOkB
  rw [Bool.and_eq_true, decide_eq_true_eq]
  constructor
  · rintro ⟨h1, h2⟩
    obtain ⟨e, rfl, a, b⟩ := of_form 5 x h1
    exact ⟨e, rfl, a, b, by rwa [many_ex 5 e b] at h2⟩
  · rintro ⟨e, rfl, a, b, c⟩
    exact ⟨form_ex 5 e a b, by rwa [many_ex 5 e b]⟩
end E

/-! ### numbers in decimals -/
def decL (n : Nat) : Bytes := if n < 10 then [UInt8.ofNat (48 + n)] else decL (n / 10) ++ [UInt8.ofNat (48 + n % 10)]
termination_by n
decreasing_by omega
theorem decL_lt {n : Nat} (h : n < 10) : decL n = [UInt8.ofNat (48 + n)] := by rw [decL, if_pos h]
theorem decL_ge {n : Nat} (h : ¬ n < 10) : decL n = decL (n / 10) ++ [UInt8.ofNat (48 + n % 10)] := by rw [decL, if_neg h]
theorem decL_len : ∀ (k n : Nat), n < 10 ^ (k + 1) → (decL n).length ≤ k + 1
  | 0, n, h => by rw [decL_lt (by simpa using h)]; simp
  | k + 1, n, h => by
    by_cases h1 : n < 10
    · rw [decL_lt h1]; simp
    · rw [decL_ge h1, List.length_append]
      have h2 : n / 10 < 10 ^ (k + 1) := Nat.div_lt_of_lt_mul (by rw [Nat.pow_succ] at h; omega)
      have := decL_len k _ h2
      simp only [List.length_singleton]
      omega
theorem decL_pos (n : Nat) : 0 < (decL n).length := by
  by_cases h1 : n < 10
  · rw [decL_lt h1]; simp
  · rw [decL_ge h1]; simp

/-! ### words -/
namespace E
def lv : E → Nat | two o _ _ => o.lv | _ => 4
def words : E → Nat → List Bytes
  | num n, _ => [decL n]
  | nam s, _ => [s]
  | two o a b, t => if o.lv < t then [40] :: (a.words (max o.lv 2) ++ o.b :: b.words (o.lv + 1)) ++ [[41]] else a.words (max o.lv 2) ++ o.b :: b.words (o.lv + 1)
  | cast ty a, _ => a.words 4 ++ [cAs, tyB ty]
theorem words_len : ∀ (e : E) (t : Nat), (e.words t).length + 2 ≤ 5 * e.cnt
  | num _, _ => by simp [words, cnt]
  | nam _, _ => by simp [words, cnt]
  | two o a b, t => by
    have h1 := words_len a (max o.lv 2)
    have h2 := words_len b (o.lv + 1)
    simp only [words, cnt]
    split <;> simp only [List.length_append, List.length_cons, List.length_nil] <;> omega
  | cast ty a, _ => by
    have h1 := words_len a 4
    simp only [words, cnt, List.length_append, List.length_cons, List.length_nil]
    omega
theorem words_pos : ∀ (e : E) (t : Nat), 1 ≤ (e.words t).length
  | num _, _ => by simp [words]
  | nam _, _ => by simp [words]
  | two o a b, t => by
    simp only [words]
    split <;> simp only [List.length_append, List.length_cons, List.length_nil] <;> omega
  | cast ty a, _ => by
    simp only [words, List.length_append, List.length_cons, List.length_nil]
    omega
/-- each word is short -/
theorem words_short : ∀ (e : E) (t : Nat), e.ok → ∀ w ∈ e.words t, 1 ≤ w.length ∧ w.length ≤ 8
  | num n, _, h, w, hw => by
    simp only [ok] at h
    simp only [words, List.mem_singleton] at hw
    subst hw
    exact ⟨decL_pos n, Nat.le_trans (decL_len 6 n (by omega)) (by omega)⟩
  | nam s, _, h, w, hw => by
    simp only [ok, nameB, wordB, Bool.and_eq_true, decide_eq_true_eq] at h
    simp only [words, List.mem_singleton] at hw
    subst hw
    exact ⟨h.1.1.2, h.1.2⟩
  | two o a b, t, h, w, hw => by
    simp only [ok] at h
    have h1 := words_short a (max o.lv 2) h.1
    have h2 := words_short b (o.lv + 1) h.2
    have key : ∀ w ∈ a.words (max o.lv 2) ++ o.b :: b.words (o.lv + 1), 1 ≤ w.length ∧ w.length ≤ 8 := by
      intro w hw
      rw [List.mem_append, List.mem_cons] at hw
      rcases hw with hw | rfl | hw
      · exact h1 w hw
      · rw [Op2.b_len]; omega
      · exact h2 w hw
    simp only [words] at hw
    split at hw
    · rw [List.mem_append, List.mem_cons, List.mem_singleton] at hw
      rcases hw with (rfl | hw) | rfl
      · simp
      · exact key w hw
      · simp
    · exact key w hw
  | cast ty a, _, h, w, hw => by
    simp only [ok] at h
    have h1 := words_short a 4 h
    simp only [words, List.mem_append, List.mem_cons, List.not_mem_nil, or_false] at hw
    rcases hw with hw | rfl | rfl
    · exact h1 w hw
    · decide
    · cases ty <;> decide
end E

/-! ### without types -/
namespace E
def bare : E → E
  | num n => num n
  | nam s => nam s
  | two o a b => two o a.bare b.bare
  | cast _ a => a.bare
theorem bare_ok : ∀ e : E, e.ok → e.bare.ok
  | num _, h => h
  | nam _, h => h
  | two _ a b, h => ⟨bare_ok a h.1, bare_ok b h.2⟩
  | cast _ a, h => bare_ok a h
theorem bare_ht : ∀ e : E, e.bare.ht ≤ e.ht
  | num _ => Nat.le_refl _
  | nam _ => Nat.le_refl _
  | two _ a b => by have := bare_ht a; have := bare_ht b; simp only [bare, ht]; omega
  | cast _ a => by have := bare_ht a; simp only [bare, ht]; omega
theorem bare_cnt : ∀ e : E, e.bare.cnt ≤ e.cnt
  | num _ => Nat.le_refl _
  | nam _ => Nat.le_refl _
  | two _ a b => by have := bare_cnt a; have := bare_cnt b; simp only [bare, cnt]; omega
  | cast _ a => by have := bare_cnt a; simp only [bare, cnt]; omega
theorem bare_Ok {e : E} (h : e.Ok) : e.bare.Ok := ⟨bare_ok e h.1, Nat.le_trans (bare_ht e) h.2.1, Nat.le_trans (bare_cnt e) h.2.2⟩
theorem bare_bare : ∀ e : E, e.bare.bare = e.bare
  | num _ => rfl
  | nam _ => rfl
  | two _ a b => by simp only [bare]; rw [bare_bare a, bare_bare b]
  | cast _ a => bare_bare a
end E

/-! ### types and values -/
/-- the last place of a name -/
def lastAt (names : List Bytes) (s : Bytes) : Option Nat := (List.range names.length).reverse.find? (fun i => decide (names[i]? = some s))
def clampI (n : Int) : Int := max (-1000000) (min 1000000 n)
namespace E
def typ (names types : List Bytes) : E → Bytes
  | num _ => cInt
  | nam s => match lastAt names s with | some i => (types[i]?).getD [] | none => []
  | cast t a => if a.typ names types = [] then [] else tyB t
  | two o a b => if a.typ names types = cInt ∧ b.typ names types = cInt then (if o = .lt then cBool else cInt) else []
def val (names : List Bytes) (nums : List Int) : E → Option Int
  | num n => some n
  | nam s => match lastAt names s with | some i => some (clampI ((nums[i]?).getD 0)) | none => none
  | cast _ a => a.val names nums
  | two o a b => match a.val names nums, b.val names nums with
    | some x, some y => some (match o with | .add => clampI (x + y) | .sub => clampI (x - y) | .mul => clampI (x * y) | .lt => if x < y then 1 else 0)
    | _, _ => none
theorem clampI_bd (n : Int) : -1000000 ≤ clampI n ∧ clampI n ≤ 1000000 := by unfold clampI; omega
theorem val_bd {names : List Bytes} {nums : List Int} : ∀ {e : E} {n : Int}, e.ok → e.val names nums = some n → -1000000 ≤ n ∧ n ≤ 1000000
  | num m, n, h, hv => by simp only [ok] at h; simp only [val, Option.some.injEq] at hv; omega
  | nam s, n, h, hv => by
    simp only [val] at hv
    split at hv
    · obtain rfl := Option.some.inj hv; exact clampI_bd _
    · cases hv
  | cast _ a, n, h, hv => val_bd (e := a) h hv
  | two o a b, n, h, hv => by
    simp only [val] at hv
    split at hv
    · obtain rfl := Option.some.inj hv
      cases o <;> simp only <;> first | exact clampI_bd _ | (split <;> omega)
    · cases hv
theorem val_bare {names : List Bytes} {nums : List Int} : ∀ e : E, e.bare.val names nums = e.val names nums
  | num _ => rfl
  | nam _ => rfl
  | cast _ a => val_bare a
  | two o a b => by simp only [bare, val]; rw [val_bare a, val_bare b]
end E
end Go.Proofs.YtgakjhaepdigpaaGreatDoor


/- Plain Lean of words in a line: what a word is, how a line is cut into words, and that words with a space between are read back. No program in sight, no condition. -/
namespace Go.Proofs.YtgakjhaepdigpaaGreatDoor
set_option maxRecDepth 100000
set_option linter.unusedSimpArgs false
set_option linter.unusedVariables false
open Go.RowKit

/-- the number that stands in decimals, without needless zeros, up to a million -/
def digVal (s : Bytes) : Nat := s.foldl (fun a c => a * 10 + (c.toNat - 48)) 0
def numB (s : Bytes) : Bool := s.all isDig && decide (1 ≤ s.length) && decide (s.length ≤ 17) && (s.length == 1 || !(s.take 1 == [48])) && decide (digVal s ≤ 1000000)
def markB (s : Bytes) : Bool := s.length == 1 && ([43, 45, 42, 60, 40, 41, 58, 61] : Bytes).any (fun c => s == [c])
def okB (k : Int) (s : Bytes) : Bool := if k = 1 then wordB s else if k = 2 then numB s else if k = 3 then markB s else false
def kindL (s : Bytes) : Nat := if wordB s then 1 else if numB s then 2 else if markB s then 3 else 0

theorem decL_dig : ∀ (n : Nat), ∀ c ∈ decL n, isDig c = true := by
  intro n
  induction n using Nat.strongRecOn with
  | _ n ih =>
    intro c hc
    by_cases h : n < 10
    · rw [decL_lt h, List.mem_singleton] at hc
      subst hc
      simp only [isDig, Bool.and_eq_true, decide_eq_true_eq, UInt8.toNat_ofNat']
      omega
    · rw [decL_ge h, List.mem_append, List.mem_singleton] at hc
      rcases hc with hc | rfl
      · exact ih _ (by omega) c hc
      · simp only [isDig, Bool.and_eq_true, decide_eq_true_eq, UInt8.toNat_ofNat']
        omega
theorem digVal_snoc (s : Bytes) (c : UInt8) : digVal (s ++ [c]) = digVal s * 10 + (c.toNat - 48) := by simp [digVal, List.foldl_append]
theorem digVal_dec (n : Nat) : digVal (decL n) = n := by
  induction n using Nat.strongRecOn with
  | _ n ih =>
    by_cases h : n < 10
    · rw [decL_lt h]
      simp only [digVal, List.foldl_cons, List.foldl_nil, UInt8.toNat_ofNat']
      omega
    · rw [decL_ge h, digVal_snoc, ih _ (by omega)]
      simp only [UInt8.toNat_ofNat']
      omega
theorem decL_head : ∀ n : Nat, 0 < n → ∃ c l, decL n = c :: l ∧ c ≠ 48 := by
  intro n
  induction n using Nat.strongRecOn with
  | _ n ih =>
    intro hn
    by_cases h : n < 10
    · refine ⟨_, [], decL_lt h, fun e => ?_⟩
      have := congrArg UInt8.toNat e
      simp only [UInt8.toNat_ofNat'] at this
      have h2 : (48 : UInt8).toNat = 48 := rfl
      omega
    · obtain ⟨c, l, e, hc⟩ := ih (n / 10) (by omega) (by omega)
      exact ⟨c, _, by rw [decL_ge h, e]; rfl, hc⟩
/-- what reads as a number was written so -/
theorem dec_of_dig : ∀ (s : Bytes), (∀ c ∈ s, isDig c = true) → 1 ≤ s.length → (s.length = 1 ∨ s.take 1 ≠ [48]) → decL (digVal s) = s := by
  intro s
  induction h : s.length using Nat.strongRecOn generalizing s with
  | _ m ih =>
    intro hd h1 h0
    subst h
    obtain ⟨t, c, rfl⟩ : ∃ t c, s = t ++ [c] := by
      refine ⟨s.dropLast, s.getLast (by intro e; subst e; simp at h1), ?_⟩
      rw [List.dropLast_concat_getLast]
    have hc := hd c (by simp)
    simp only [isDig, Bool.and_eq_true, decide_eq_true_eq] at hc
    have e0 : UInt8.ofNat (48 + (c.toNat - 48)) = c := by
      rw [show 48 + (c.toNat - 48) = c.toNat from by omega]
      exact UInt8.ofNat_toNat
    rw [digVal_snoc]
    by_cases ht : t = []
    · subst ht
      have : digVal ([] : Bytes) = 0 := rfl
      rw [this, Nat.zero_mul, Nat.zero_add, decL_lt (by omega), e0]
      rfl
    · have htl : 1 ≤ t.length := by cases t with | nil => exact absurd rfl ht | cons a b => simp
      have ht0 : t.take 1 ≠ [48] := by
        rcases h0 with h0 | h0
        · rw [List.length_append, List.length_singleton] at h0; omega
        · rwa [List.take_append_of_le_length htl] at h0
      have h2 := ih t.length (by rw [List.length_append, List.length_singleton]; omega) t rfl (fun c hc => hd c (by simp [hc])) htl (.inr ht0)
      have h3 : 0 < digVal t := by
        rcases Nat.eq_zero_or_pos (digVal t) with e | e
        · rw [e, decL_lt (by omega)] at h2
          rw [← h2] at ht0
          exact absurd rfl ht0
        · exact e
      have h4 : ¬ digVal t * 10 + (c.toNat - 48) < 10 := by omega
      rw [decL_ge h4, show (digVal t * 10 + (c.toNat - 48)) / 10 = digVal t from by omega, h2, show (digVal t * 10 + (c.toNat - 48)) % 10 = c.toNat - 48 from by omega, e0]
theorem numB_iff {s : Bytes} : numB s = true ↔ ∃ n : Nat, n ≤ 1000000 ∧ s = decL n := by
  constructor
  · intro h
    simp only [numB, Bool.and_eq_true, List.all_eq_true, decide_eq_true_eq, Bool.or_eq_true, beq_iff_eq, Bool.not_eq_true', beq_eq_false_iff_ne] at h
    obtain ⟨⟨⟨⟨h1, h2⟩, h3⟩, h4⟩, h5⟩ := h
    exact ⟨digVal s, h5, (dec_of_dig s h1 h2 h4).symm⟩
  · rintro ⟨n, hn, rfl⟩
    simp only [numB, Bool.and_eq_true, List.all_eq_true, decide_eq_true_eq, Bool.or_eq_true, beq_iff_eq, Bool.not_eq_true', beq_eq_false_iff_ne]
    refine ⟨⟨⟨⟨decL_dig n, decL_pos n⟩, Nat.le_trans (decL_len 6 n (by omega)) (by omega)⟩, ?_⟩, by rw [digVal_dec]; exact hn⟩
    rcases Nat.eq_zero_or_pos n with rfl | h
    · left; rw [decL_lt (by omega)]; rfl
    · right
      obtain ⟨c, l, e, hc⟩ := decL_head n h
      rw [e]
      simpa using hc
theorem decL_inj {n m : Nat} (h : decL n = decL m) : n = m := by rw [← digVal_dec n, h, digVal_dec]

/-! ### a line's words -/
/-- how many bytes at the front are of a sort -/
def runL (p : UInt8 → Bool) (s : Bytes) : Nat := (s.takeWhile p).length
theorem runL_le (p : UInt8 → Bool) (s : Bytes) : runL p s ≤ s.length := by unfold runL; exact (List.takeWhile_sublist p).length_le
structure Tk where
  kind : Int
  s : Bytes
  col : Int
def tkRow (t : Tk) : List Value := [.int .i64 t.kind, .string (bs t.s), .int .i64 t.col]
abbrev SlT := Sl tkRow 3
def wlen (s : Bytes) : Nat := max 1 (max (runL isLet s) (runL isDig s))
def tokL (at_ : Nat) (s : Bytes) : Option (List Tk) :=
  match s with
  | [] => some []
  | c :: r => if c = 32 then tokL (at_ + 1) r
    else if kindL ((c :: r).take (wlen (c :: r))) = 0 then none
    else (tokL (at_ + wlen (c :: r)) ((c :: r).drop (wlen (c :: r)))).map (fun l => ⟨kindL ((c :: r).take (wlen (c :: r))), (c :: r).take (wlen (c :: r)), at_⟩ :: l)
termination_by s.length
decreasing_by
  · simp
  · have : 1 ≤ wlen (c :: r) := by unfold wlen; omega
    simp only [List.length_drop, List.length_cons]
    omega
theorem tokL_nil (a : Nat) : tokL a [] = some [] := by rw [tokL]
theorem tokL_space (a : Nat) (r : Bytes) : tokL a (32 :: r) = tokL (a + 1) r := by rw [tokL, if_pos rfl]
theorem tokL_word {a : Nat} {s : Bytes} (h0 : s ≠ []) (h1 : s.take 1 ≠ [32]) (hk : kindL (s.take (wlen s)) ≠ 0) : tokL a s = (tokL (a + wlen s) (s.drop (wlen s))).map (fun l => ⟨kindL (s.take (wlen s)), s.take (wlen s), a⟩ :: l) := by
  cases s with
  | nil => exact absurd rfl h0
  | cons c r => rw [tokL, if_neg (by simpa using h1), if_neg hk]
theorem tokL_bad {a : Nat} {s : Bytes} (h0 : s ≠ []) (h1 : s.take 1 ≠ [32]) (hk : kindL (s.take (wlen s)) = 0) : tokL a s = none := by
  cases s with
  | nil => exact absurd rfl h0
  | cons c r => rw [tokL, if_neg (by simpa using h1), if_pos hk]

/-- words with one space between -/
def joinL : List Bytes → Bytes
  | [] => []
  | [w] => w
  | w :: v :: l => w ++ 32 :: joinL (v :: l)
theorem joinL_cons (w : Bytes) (l : List Bytes) : joinL (w :: l) = w ++ (match l with | [] => [] | v :: l' => 32 :: joinL (v :: l')) := by cases l <;> simp [joinL]
theorem joinL_snoc {l : List Bytes} (w : Bytes) (h : l ≠ []) : joinL (l ++ [w]) = joinL l ++ 32 :: w := by
  induction l with
  | nil => exact absurd rfl h
  | cons a l ih =>
    cases l with
    | nil => rfl
    | cons b l =>
      have := ih (by simp)
      simp only [List.cons_append, joinL] at this ⊢
      rw [this]
      simp
/-- where each begins -/
def colsL (at_ : Nat) : List Bytes → List Nat
  | [] => []
  | w :: l => at_ :: colsL (at_ + w.length + 1) l
theorem colsL_len (a : Nat) (l : List Bytes) : (colsL a l).length = l.length := by
  induction l generalizing a with
  | nil => rfl
  | cons w l ih => simp [colsL, ih]
def toksL (at_ : Nat) : List Bytes → List Tk
  | [] => []
  | w :: l => ⟨kindL w, w, at_⟩ :: toksL (at_ + w.length + 1) l
theorem toksL_len (a : Nat) (l : List Bytes) : (toksL a l).length = l.length := by
  induction l generalizing a with
  | nil => rfl
  | cons w l ih => simp [toksL, ih]

theorem runL_stop {p : UInt8 → Bool} {w r : Bytes} (hw : ∀ c ∈ w, p c = true) (hr : r = [] ∨ ∃ c r', r = c :: r' ∧ p c = false) : runL p (w ++ r) = w.length := by
  unfold runL
  induction w with
  | nil =>
    rcases hr with rfl | ⟨c, r', rfl, hc⟩
    · rfl
    · simp [hc]
  | cons a w ih =>
    rw [List.cons_append, List.takeWhile_cons, hw a (by simp)]
    simp [ih (fun c hc => hw c (by simp [hc]))]
theorem runL_zero {p : UInt8 → Bool} {c : UInt8} {r : Bytes} (h : p c = false) : runL p (c :: r) = 0 := by simp [runL, h]
theorem let_not_dig {c : UInt8} (h : isLet c = true) : isDig c = false := by
  simp only [isLet, Bool.and_eq_true, decide_eq_true_eq] at h
  simp only [isDig, Bool.and_eq_false_iff, decide_eq_false_iff_not]
  omega
theorem dig_not_let {c : UInt8} (h : isDig c = true) : isLet c = false := by
  simp only [isDig, Bool.and_eq_true, decide_eq_true_eq] at h
  simp only [isLet, Bool.and_eq_false_iff, decide_eq_false_iff_not]
  omega
theorem markB_iff {s : Bytes} : markB s = true ↔ ∃ c ∈ ([43, 45, 42, 60, 40, 41, 58, 61] : Bytes), s = [c] := by
  simp only [markB, Bool.and_eq_true, beq_iff_eq, List.any_eq_true]
  constructor
  · rintro ⟨_, h⟩; exact h
  · rintro ⟨c, hc, rfl⟩; exact ⟨rfl, c, hc, rfl⟩
/-- a word of some kind is cut off whole, if a space or nothing follows -/
theorem wlen_word {w r : Bytes} (hk : kindL w ≠ 0) (hr : r = [] ∨ ∃ r', r = 32 :: r') : wlen (w ++ r) = w.length ∧ w ≠ [] ∧ w.take 1 ≠ [32] := by
  have hr1 : r = [] ∨ ∃ c r', r = c :: r' ∧ isLet c = false := by
    rcases hr with h | ⟨r', h⟩
    · exact .inl h
    · exact .inr ⟨_, r', h, by decide⟩
  have hr2 : r = [] ∨ ∃ c r', r = c :: r' ∧ isDig c = false := by
    rcases hr with h | ⟨r', h⟩
    · exact .inl h
    · exact .inr ⟨_, r', h, by decide⟩
  unfold kindL at hk
  by_cases h1 : wordB w = true
  · simp only [wordB, Bool.and_eq_true, List.all_eq_true, decide_eq_true_eq] at h1
    obtain ⟨⟨ha, hl⟩, hm⟩ := h1
    cases w with
    | nil => simp at hl
    | cons c w' =>
      have hc := ha c (by simp)
      refine ⟨?_, by simp, ?_⟩
      · unfold wlen
        rw [runL_stop ha hr1, List.cons_append, runL_zero (let_not_dig hc)]
        simp only [List.length_cons]
        omega
      · intro e
        simp at e
        subst e
        revert hc; decide
  · rw [if_neg h1] at hk
    by_cases h2 : numB w = true
    · simp only [numB, Bool.and_eq_true, List.all_eq_true, decide_eq_true_eq] at h2
      obtain ⟨⟨⟨⟨ha, hl⟩, _⟩, _⟩, _⟩ := h2
      cases w with
      | nil => simp at hl
      | cons c w' =>
        have hc := ha c (by simp)
        refine ⟨?_, by simp, ?_⟩
        · unfold wlen
          rw [runL_stop ha hr2, List.cons_append, runL_zero (dig_not_let hc)]
          simp only [List.length_cons]
          omega
        · intro e
          simp at e
          subst e
          revert hc; decide
    · rw [if_neg h2] at hk
      by_cases h3 : markB w = true
      · obtain ⟨c, hc, rfl⟩ := markB_iff.1 h3
        refine ⟨?_, by simp, ?_⟩
        · unfold wlen
          have e1 : isLet c = false := by
            simp only [List.mem_cons, List.not_mem_nil, or_false] at hc
            rcases hc with rfl | rfl | rfl | rfl | rfl | rfl | rfl | rfl <;> decide
          have e2 : isDig c = false := by
            simp only [List.mem_cons, List.not_mem_nil, or_false] at hc
            rcases hc with rfl | rfl | rfl | rfl | rfl | rfl | rfl | rfl <;> decide
          rw [List.cons_append, List.nil_append, runL_zero e1, runL_zero e2]
          rfl
        · intro e
          simp at e
          subst e
          revert hc; decide
      · rw [if_neg h3] at hk
        exact absurd rfl hk
/-- words with a space between are read back -/
theorem tok_join : ∀ (l : List Bytes) (a : Nat), (∀ w ∈ l, kindL w ≠ 0) → tokL a (joinL l) = some (toksL a l)
  | [], a, _ => by simp [joinL, toksL, tokL_nil]
  | [w], a, h => by
    obtain ⟨h1, h2, h3⟩ := wlen_word (h w (by simp)) (.inl rfl)
    rw [List.append_nil] at h1
    have hk : kindL (w.take (wlen w)) ≠ 0 := by rw [h1, List.take_length]; exact h w (by simp)
    rw [joinL, tokL_word h2 h3 hk, h1, List.take_length, List.drop_length, tokL_nil]
    rfl
  | w :: v :: l, a, h => by
    obtain ⟨h1, h2, h3⟩ := wlen_word (r := 32 :: joinL (v :: l)) (h w (by simp)) (.inr ⟨_, rfl⟩)
    have hl : 1 ≤ w.length := by cases w with | nil => exact absurd rfl h2 | cons a b => simp
    have hk : kindL ((w ++ 32 :: joinL (v :: l)).take (wlen (w ++ 32 :: joinL (v :: l)))) ≠ 0 := by rw [h1, List.take_left]; exact h w (by simp)
    rw [joinL, tokL_word (by simp [h2]) (by rwa [List.take_append_of_le_length hl]) hk, h1, List.take_left, List.drop_left, tokL_space, tok_join (v :: l) _ (fun x hx => h x (by simp [hx]))]
    rfl
end Go.Proofs.YtgakjhaepdigpaaGreatDoor


/- How the walk reads the string of a list of bytes. No program in sight, no condition. -/
namespace Go.Proofs.YtgakjhaepdigpaaGreatDoor
set_option maxRecDepth 100000
set_option linter.unusedSimpArgs false
set_option linter.unusedVariables false
open Go.RowKit
theorem bs_toList (l : Bytes) : (bs l).toList = l := by rw [ByteArray.toList_eq]; simp [bs]
theorem bs_get (l : Bytes) (i : Nat) (h : i < (bs l).size) : (bs l)[i]'h = l[i]'(by rw [bs_size] at h; exact h) := by simp [bs, ByteArray.getElem_eq_getElem_data]
end Go.Proofs.YtgakjhaepdigpaaGreatDoor


/- Trees in memory of the call's own: which blocks they lie in, and that they are kept. No program in sight, no condition. -/
namespace Go.Proofs.YtgakjhaepdigpaaGreatDoor
set_option maxRecDepth 100000
set_option linter.unusedSimpArgs false
set_option linter.unusedVariables false
open Go.RowKit

/-- a slice of trees of the call's own: the blocks bl hold its parts, each block one row of parts; a row of none lies anywhere -/
inductive ExO (t : TypeId) (w : World) : Value → List Ex → List Nat → Prop
  | nil (A : Option Addr) (c : Nat) (hc : c ≤ maxLen) : ExO t w (.slice A 0 c) [] []
  | mk (g cap : Nat) (cur : Array Value) (fl : List FE) (l : List Ex) (bls : List (List Nat)) (hpos : 0 < l.length) (hc : l.length ≤ cap) (hm : cap ≤ maxLen) (hb : Blk w g t cur) (hfl : fl.length = l.length) (hbl : bls.length = l.length)
      (hcur : ∀ (i : Nat) (f : FE), fl[i]? = some f → ∀ (j : Nat) (x : Value), (feRow f)[j]? = some x → cur[i * 4 + j]? = some x)
      (h1 : ∀ (i : Nat) (f : FE) (e : Ex), fl[i]? = some f → l[i]? = some e → f.kind = e.kind ∧ f.n = e.n ∧ f.s = e.s ∧ f.s.length ≤ 9223372036854775807)
      (h2 : ∀ (i : Nat) (f : FE) (e : Ex) (b : List Nat), fl[i]? = some f → l[i]? = some e → bls[i]? = some b → ExO t w f.kv e.kids b) : ExO t w (.slice (some ⟨g, 0, none⟩) l.length cap) l (g :: bls.flatten)
def ExOV (t : TypeId) (w : World) (v : Value) (e : Ex) (bl : List Nat) : Prop := ∃ kv, v = .agg #[.int .i64 e.kind, .int .i64 e.n, .string (bs e.s), kv] ∧ e.s.length ≤ 9223372036854775807 ∧ ExO t w kv e.kids bl

theorem ExO.exs {t : TypeId} {w : World} {v : Value} {l : List Ex} {bl : List Nat} (h : ExO t w v l bl) : ExS w w.heap.size v l := by
  induction h with
  | nil A c hc => exact .mk _ [] [] ⟨A, c, rfl, Nat.zero_le _, hc, fun h => absurd h (by simp)⟩ rfl (fun _ _ _ h => by simp at h) (fun _ _ _ h => by simp at h)
  | mk g cap cur fl l bls hpos hc hm hb hfl hbl hcur h1 h2 ih =>
    refine .mk _ fl l ⟨_, cap, by rw [hfl], by omega, hm, fun _ => ⟨g, 0, rfl, hb.lt, fun i f hf j x hj => ?_⟩⟩ hfl h1 (fun i f e hf he => ?_)
    · rw [Nat.zero_add, hb.cell]
      exact hcur i f hf j x hj
    · have hi : i < bls.length := by rw [hbl]; exact (List.getElem?_eq_some_iff.1 he).1
      exact ih i f e bls[i] hf he (List.getElem?_eq_getElem hi)
theorem ExOV.exv {t : TypeId} {w : World} {v : Value} {e : Ex} {bl : List Nat} (h : ExOV t w v e bl) : ExV w w.heap.size v e := by
  obtain ⟨kv, h1, h2, h3⟩ := h; exact ⟨kv, h1, h2, h3.exs⟩
theorem ExO.val {t : TypeId} {w : World} {v : Value} {l : List Ex} {bl : List Nat} (h : ExO t w v l bl) : ∃ A c, v = .slice A l.length c := h.exs.val.imp fun _ ⟨c, h, _⟩ => ⟨c, h⟩
/-- all its blocks are there -/
theorem ExO.lt {t : TypeId} {w : World} {v : Value} {l : List Ex} {bl : List Nat} (h : ExO t w v l bl) : ∀ b ∈ bl, b < w.heap.size := by
  induction h with
  | nil A c hc => intro b hb; simp at hb
  | mk g cap cur fl l bls hpos hc hm hb hfl hbl hcur h1 h2 ih =>
    intro b hbm
    rw [List.mem_cons, List.mem_flatten] at hbm
    rcases hbm with rfl | ⟨q, hq, hbq⟩
    · exact hb.lt
    · obtain ⟨i, hi⟩ := List.mem_iff_getElem?.1 hq
      have hil : i < bls.length := (List.getElem?_eq_some_iff.1 hi).1
      exact ih i fl[i] l[i] q (List.getElem?_eq_getElem (by omega)) (List.getElem?_eq_getElem (by omega)) hi b hbq
/-- it stays where its blocks stay -/
theorem ExO.same {t : TypeId} {w w' : World} {v : Value} {l : List Ex} {bl : List Nat} (h : ExO t w v l bl) (hk : ∀ b ∈ bl, w'.heap[b]? = w.heap[b]?) : ExO t w' v l bl := by
  induction h with
  | nil A c hc => exact .nil A c hc
  | mk g cap cur fl l bls hpos hc hm hb hfl hbl hcur h1 h2 ih =>
    refine .mk g cap cur fl l bls hpos hc hm ((hk g (by simp)).trans hb) hfl hbl hcur h1 (fun i f e b hf he hb2 => ih i f e b hf he hb2 (fun x hx => hk x ?_))
    rw [List.mem_cons, List.mem_flatten]
    exact .inr ⟨b, List.mem_of_getElem? hb2, hx⟩
theorem ExO.under {t : TypeId} {B : Nat} {w w' : World} {v : Value} {l : List Ex} {bl : List Nat} (h : ExO t w v l bl) (hb : Below B w w') (hl : ∀ b ∈ bl, b < B) : ExO t w' v l bl := h.same (fun b hbm => hb.block b (hl b hbm))
theorem ExO.ext {t : TypeId} {w w' : World} {v : Value} {l : List Ex} {bl : List Nat} (h : ExO t w v l bl) (hb : Ext w w') : ExO t w' v l bl := h.under hb h.lt
theorem ExOV.ext {t : TypeId} {w w' : World} {v : Value} {e : Ex} {bl : List Nat} (h : ExOV t w v e bl) (hb : Ext w w') : ExOV t w' v e bl := by
  obtain ⟨kv, h1, h2, h3⟩ := h; exact ⟨kv, h1, h2, h3.ext hb⟩
/-- blocks of the call's own: from lo on, each once -/
def Own (lo hi : Nat) (bl : List Nat) : Prop := (∀ b ∈ bl, lo ≤ b ∧ b < hi) ∧ bl.Nodup
theorem Own.nil (lo hi : Nat) : Own lo hi [] := ⟨fun b h => by simp at h, List.nodup_nil⟩
theorem Own.append {a b c d : Nat} {x y : List Nat} (h : Own a b x) (k : Own c d y) (hbc : b ≤ c) (hab : a ≤ c) (hbd : b ≤ d) : Own a d (x ++ y) := by
  refine ⟨fun z hz => ?_, ?_⟩
  · rw [List.mem_append] at hz
    rcases hz with hz | hz
    · have := h.1 z hz; omega
    · have := k.1 z hz; omega
  · rw [List.nodup_append]
    refine ⟨h.2, k.2, fun p hp q hq e => ?_⟩
    have := h.1 p hp
    have := k.1 q hq
    omega
theorem Own.cons {a b c g : Nat} {x : List Nat} (h : Own b c x) (hg : a ≤ g) (hb : g < b) (hgc : g < c) : Own a c (g :: x) := by
  refine ⟨fun z hz => ?_, ?_⟩
  · rw [List.mem_cons] at hz
    rcases hz with rfl | hz
    · omega
    · have := h.1 z hz; omega
  · rw [List.nodup_cons]
    exact ⟨fun hm => by have := h.1 g hm; omega, h.2⟩
theorem Own.widen {a b c d : Nat} {x : List Nat} (h : Own a b x) (h1 : c ≤ a) (h2 : b ≤ d) : Own c d x := ⟨fun z hz => by have := h.1 z hz; omega, h.2⟩
theorem Own.snoc {a b c g : Nat} {x : List Nat} (h : Own a b x) (hg : b ≤ g) (ha : a ≤ g) (hc : g < c) : Own a c (g :: x) := by
  refine ⟨fun z hz => ?_, ?_⟩
  · rw [List.mem_cons] at hz
    rcases hz with rfl | hz
    · omega
    · have := h.1 z hz; omega
  · rw [List.nodup_cons]
    exact ⟨fun hm => by have := h.1 g hm; omega, h.2⟩
end Go.Proofs.YtgakjhaepdigpaaGreatDoor


/- Plain Lean of statements: what is ok, words, text; and how statements lie in memory. No program in sight, no condition. -/
namespace Go.Proofs.YtgakjhaepdigpaaGreatDoor
set_option maxRecDepth 100000
set_option linter.unusedSimpArgs false
set_option linter.unusedVariables false
open Go.RowKit

/-- a statement as it comes -/
structure Sm where
  kind : Int
  name : Bytes
  typ : Bytes
  ex : Ex
  th : Ex
/-- a statement that has the form of one -/
inductive SE where
  | none
  | slet (name : Bytes) (t : Bool) (e : E)
  | say (e : E)
  | when (a b : E)
namespace SE
def sm : SE → Sm
  | none => ⟨0, [], [], Ex.none, Ex.none⟩
  | slet nm t e => ⟨1, nm, tyB t, e.ex, Ex.none⟩
  | say e => ⟨2, [], [], e.ex, Ex.none⟩
  | when a b => ⟨3, [], [], a.ex, b.ex⟩
def words : SE → List Bytes
  | none => []
  | slet nm t e => cLet :: nm :: [58] :: tyB t :: [61] :: e.words 1
  | say e => cSay :: e.words 1
  | when a b => cWhen :: (a.words 1 ++ cSay :: b.words 1)
def form : SE → Prop
  | none => True
  | slet nm _ e => nameB nm = true ∧ e.Ok
  | say e => e.Ok
  | when a b => a.Ok ∧ b.Ok
def text (s : SE) : Bytes := joinL s.words
def ok (s : SE) : Prop := s.form ∧ s.text.length ≤ 116
theorem sm_inj {a b : SE} (h : a.sm = b.sm) : a = b := by
  cases a <;> cases b <;> simp only [sm, Sm.mk.injEq] at h
  all_goals first
    | rfl
    | (exfalso; have := h.1; omega)
    | (rw [h.2.1, tyB_inj h.2.2.1, E.ex_inj h.2.2.2.1])
    | (rw [E.ex_inj h.2.2.2.1, E.ex_inj h.2.2.2.2])
    | (rw [E.ex_inj h.2.2.2.1])
end SE
open Classical in
noncomputable def smOkB (s : Sm) : Bool := decide (∃ t : SE, s = t.sm ∧ t.ok)
theorem smOkB_yes {s : SE} (h : s.ok) : smOkB s.sm = true := by unfold smOkB; simp only [decide_eq_true_eq]; exact ⟨s, rfl, h⟩
theorem smOkB_iff {s : Sm} : smOkB s = true ↔ ∃ t : SE, s = t.sm ∧ t.ok := by unfold smOkB; simp
theorem smOkB_se {s : SE} : smOkB s.sm = true ↔ s.ok := by
  rw [smOkB_iff]
  exact ⟨fun ⟨t, e, h⟩ => by rw [SE.sm_inj e]; exact h, fun h => ⟨s, rfl, h⟩⟩
theorem smOkB_no {s : Sm} (h : ∀ t : SE, s = t.sm → ¬ t.ok) : smOkB s = false := by
  rw [Bool.eq_false_iff]
  intro e
  obtain ⟨t, e1, e2⟩ := smOkB_iff.1 e
  exact h t e1 e2

/-! ### in memory -/
structure FS where
  kind : Int
  name : Bytes
  typ : Bytes
  k1 : Int
  n1 : Int
  s1 : Bytes
  v1 : Value
  k2 : Int
  n2 : Int
  s2 : Bytes
  v2 : Value
def fsRow (f : FS) : List Value := [.int .i64 f.kind, .string (bs f.name), .string (bs f.typ), .int .i64 f.k1, .int .i64 f.n1, .string (bs f.s1), f.v1, .int .i64 f.k2, .int .i64 f.n2, .string (bs f.s2), f.v2]
/-- the cells f are the statement s -/
def FsOk (w : World) (B : Nat) (f : FS) (s : Sm) : Prop :=
  f.kind = s.kind ∧ f.name = s.name ∧ f.typ = s.typ ∧ f.k1 = s.ex.kind ∧ f.n1 = s.ex.n ∧ f.s1 = s.ex.s ∧ f.k2 = s.th.kind ∧ f.n2 = s.th.n ∧ f.s2 = s.th.s ∧
    (bs f.name).size ≤ 9223372036854775807 ∧ (bs f.typ).size ≤ 9223372036854775807 ∧ (bs f.s1).size ≤ 9223372036854775807 ∧ (bs f.s2).size ≤ 9223372036854775807 ∧ ExS w B f.v1 s.ex.kids ∧ ExS w B f.v2 s.th.kids
theorem FsOk.keep {B B' : Nat} {w w' : World} {f : FS} {s : Sm} (h : FsOk w B f s) (hb : Below B' w w') (hB : B ≤ B') : FsOk w' B f s := by
  obtain ⟨h1, h2, h3, h4, h5, h6, h7, h8, h9, h10, h11, h12, h13, h14, h15⟩ := h
  exact ⟨h1, h2, h3, h4, h5, h6, h7, h8, h9, h10, h11, h12, h13, h14.keep hb hB, h15.keep hb hB⟩
theorem FsOk.more {B B' : Nat} {w : World} {f : FS} {s : Sm} (h : FsOk w B f s) (hB : B ≤ B') : FsOk w B' f s := by
  obtain ⟨h1, h2, h3, h4, h5, h6, h7, h8, h9, h10, h11, h12, h13, h14, h15⟩ := h
  exact ⟨h1, h2, h3, h4, h5, h6, h7, h8, h9, h10, h11, h12, h13, h14.more hB, h15.more hB⟩
/-- a statement by value -/
def SmV (w : World) (B : Nat) (v : Value) (s : Sm) : Prop := ∃ f, v = .agg (fsRow f).toArray ∧ FsOk w B f s
def SmS (w : World) (B : Nat) (v : Value) (l : List Sm) : Prop := ∃ fl : List FS, Sl fsRow 11 w B v fl ∧ fl.length = l.length ∧ ∀ (i : Nat) (f : FS) (s : Sm), fl[i]? = some f → l[i]? = some s → FsOk w B f s
theorem SmV.keep {B B' : Nat} {w w' : World} {v : Value} {s : Sm} (h : SmV w B v s) (hb : Below B' w w') (hB : B ≤ B') : SmV w' B v s := by
  obtain ⟨f, h1, h2⟩ := h; exact ⟨f, h1, h2.keep hb hB⟩
theorem SmV.more {B B' : Nat} {w : World} {v : Value} {s : Sm} (h : SmV w B v s) (hB : B ≤ B') : SmV w B' v s := by
  obtain ⟨f, h1, h2⟩ := h; exact ⟨f, h1, h2.more hB⟩
theorem SmV.ext {w w' : World} {v : Value} {s : Sm} (h : SmV w w.heap.size v s) (hb : Ext w w') : SmV w' w'.heap.size v s := (h.keep hb (Nat.le_refl _)).more hb.size
theorem SmS.keep {B B' : Nat} {w w' : World} {v : Value} {l : List Sm} (h : SmS w B v l) (hb : Below B' w w') (hB : B ≤ B') : SmS w' B v l := by
  obtain ⟨fl, h1, h2, h3⟩ := h; exact ⟨fl, h1.below hb hB, h2, fun i f s hf hs => (h3 i f s hf hs).keep hb hB⟩
theorem SmS.more {B B' : Nat} {w : World} {v : Value} {l : List Sm} (h : SmS w B v l) (hB : B ≤ B') : SmS w B' v l := by
  obtain ⟨fl, h1, h2, h3⟩ := h; exact ⟨fl, h1.more hB, h2, fun i f s hf hs => (h3 i f s hf hs).more hB⟩
theorem SmS.ext {w w' : World} {v : Value} {l : List Sm} (h : SmS w w.heap.size v l) (hb : Ext w w') : SmS w' w'.heap.size v l := (h.keep hb (Nat.le_refl _)).more hb.size
theorem SmS.val {w : World} {B : Nat} {v : Value} {l : List Sm} (h : SmS w B v l) : ∃ A c, v = .slice A l.length c ∧ l.length ≤ c ∧ c ≤ 9223372036854775807 := by
  obtain ⟨fl, h1, h2, h3⟩ := h
  obtain ⟨A, c, hv, hc, hm⟩ := h1.val
  exact ⟨A, c, by rw [← h2]; exact hv, by omega, hm⟩
theorem SmV.form {w : World} {B : Nat} {v : Value} {s : Sm} (h : SmV w B v s) : ∃ (v1 v2 : Value), v = .agg #[.int .i64 s.kind, .string (bs s.name), .string (bs s.typ), .int .i64 s.ex.kind, .int .i64 s.ex.n, .string (bs s.ex.s), v1, .int .i64 s.th.kind, .int .i64 s.th.n, .string (bs s.th.s), v2] ∧
    (bs s.name).size ≤ 9223372036854775807 ∧ (bs s.typ).size ≤ 9223372036854775807 ∧ ExV w B (.agg #[.int .i64 s.ex.kind, .int .i64 s.ex.n, .string (bs s.ex.s), v1]) s.ex ∧ ExV w B (.agg #[.int .i64 s.th.kind, .int .i64 s.th.n, .string (bs s.th.s), v2]) s.th := by
  obtain ⟨f, rfl, h1, h2, h3, h4, h5, h6, h7, h8, h9, h10, h11, h12, h13, h14, h15⟩ := h
  refine ⟨f.v1, f.v2, ?_, by rw [← h2]; exact h10, by rw [← h3]; exact h11, ⟨f.v1, rfl, by rw [← h6, ← bs_size]; exact h12, h14⟩, ⟨f.v2, rfl, by rw [← h9, ← bs_size]; exact h13, h15⟩⟩
  rw [← h1, ← h2, ← h3, ← h4, ← h5, ← h6, ← h7, ← h8, ← h9]
  rfl
theorem SmV.form2 {w : World} {B : Nat} {v : Value} {s : Sm} (h : SmV w B v s) : ∃ (A1 A2 : Option Addr) (c1 c2 : Nat), v = .agg #[.int .i64 s.kind, .string (bs s.name), .string (bs s.typ), .int .i64 s.ex.kind, .int .i64 s.ex.n, .string (bs s.ex.s), .slice A1 s.ex.kids.length c1, .int .i64 s.th.kind, .int .i64 s.th.n, .string (bs s.th.s), .slice A2 s.th.kids.length c2] ∧
    s.name.length ≤ 9223372036854775807 ∧ s.typ.length ≤ 9223372036854775807 ∧ ExV w B (.agg #[.int .i64 s.ex.kind, .int .i64 s.ex.n, .string (bs s.ex.s), .slice A1 s.ex.kids.length c1]) s.ex ∧ ExV w B (.agg #[.int .i64 s.th.kind, .int .i64 s.th.n, .string (bs s.th.s), .slice A2 s.th.kids.length c2]) s.th := by
  obtain ⟨v1, v2, rfl, h1, h2, h3, h4⟩ := h.form
  obtain ⟨k1, e1, s1, x1⟩ := h3
  obtain ⟨k2, e2, s2, x2⟩ := h4
  have f1 : v1 = k1 := by simpa using e1
  have f2 : v2 = k2 := by simpa using e2
  subst f1 f2
  obtain ⟨A1, c1, rfl, _, _⟩ := x1.val
  obtain ⟨A2, c2, rfl, _, _⟩ := x2.val
  rw [bs_size] at h1 h2
  exact ⟨A1, A2, c1, c2, rfl, h1, h2, ⟨_, rfl, s1, x1⟩, ⟨_, rfl, s2, x2⟩⟩
/-- the statement i of a slice: its cells, in every later world -/
theorem sm_at {W : World} {B n c : Nat} {A : Option Addr} {l : List Sm} {i : Nat} (h : SmS W B (.slice A n c) l) (hi : i < l.length) :
    ∃ b o f s, A = some ⟨b, o, none⟩ ∧ b < B ∧ l[i]? = some s ∧ FsOk W B f s ∧ (∀ (j : Nat) (v : Value), (fsRow f)[j]? = some v → ∀ x : Later B W, x.w'.cell? ⟨b, o + i * 11 + j, none⟩ = some v) := by
  obtain ⟨fl, ⟨A', c', hv, hc, hm, hh⟩, hl, h3⟩ := h
  obtain ⟨rfl, _, rfl⟩ : A = A' ∧ n = fl.length ∧ c = c' := by injection hv; exact ⟨‹_›, ‹_›, ‹_›⟩
  obtain ⟨b, o, rfl, hb, hcell⟩ := hh (by omega)
  have hg : fl[i]? = some fl[i] := List.getElem?_eq_getElem (by omega)
  have hg2 : l[i]? = some l[i] := List.getElem?_eq_getElem hi
  exact ⟨b, o, _, _, rfl, hb, hg2, h3 i _ _ hg hg2, fun j v hx x => (x.ok.cell (p := ⟨b, o + i * 11 + j, none⟩) (by simpa using hb)).trans (hcell i _ hg j v hx)⟩
end Go.Proofs.YtgakjhaepdigpaaGreatDoor


/- Plain Lean of statements: their form as a test, their words, how long their texts are. No program in sight, no condition. -/
namespace Go.Proofs.YtgakjhaepdigpaaGreatDoor
set_option maxRecDepth 100000
set_option linter.unusedSimpArgs false
set_option linter.unusedVariables false
open Go.RowKit

theorem joinL_le (k : Nat) : ∀ l : List Bytes, (∀ w ∈ l, w.length ≤ k) → (joinL l).length ≤ l.length * (k + 1)
  | [], _ => by simp [joinL]
  | [w], h => by have := h w (by simp); simp only [joinL, List.length_cons, List.length_nil]; omega
  | w :: v :: l, h => by
    have h1 := h w (by simp)
    have h2 := joinL_le k (v :: l) (fun x hx => h x (by simp [hx]))
    rw [joinL, List.length_append, List.length_cons, List.length_cons, Nat.add_mul]
    omega
theorem E.words_zero (e : E) : e.words 0 = e.words 1 := by
  cases e with
  | two o a b =>
    have h1 : ¬ o.lv < 0 := by omega
    have h2 : ¬ o.lv < 1 := by cases o <;> decide
    simp only [E.words]
    rw [if_neg h1, if_neg h2]
  | _ => rfl
theorem nameB_short {s : Bytes} (h : nameB s = true) : 1 ≤ s.length ∧ s.length ≤ 8 := by
  simp only [nameB, wordB, Bool.and_eq_true, decide_eq_true_eq] at h
  exact ⟨h.1.1.2, h.1.2⟩
namespace SE
theorem words_short {s : SE} (h : s.form) : ∀ w ∈ s.words, 1 ≤ w.length ∧ w.length ≤ 8 := by
  intro w hw
  cases s with
  | none => simp [words] at hw
  | slet nm t e =>
    simp only [words, List.mem_cons] at hw
    rcases hw with rfl | rfl | rfl | rfl | rfl | hw
    · decide
    · exact nameB_short h.1
    · decide
    · cases t <;> decide
    · decide
    · exact E.words_short e 1 h.2.1 w hw
  | say e =>
    simp only [words, List.mem_cons] at hw
    rcases hw with rfl | hw
    · decide
    · exact E.words_short e 1 h.1 w hw
  | when a b =>
    simp only [words, List.mem_cons, List.mem_append] at hw
    rcases hw with rfl | hw | rfl | hw
    · decide
    · exact E.words_short a 1 h.1.1 w hw
    · decide
    · exact E.words_short b 1 h.2.1 w hw
theorem words_len {s : SE} (h : s.form) : s.words.length ≤ 130 := by
  cases s with
  | none => simp [words]
  | slet nm t e =>
    have := E.words_len e 1
    have := h.2.2.2
    simp only [words, List.length_cons]
    omega
  | say e =>
    have := E.words_len e 1
    have := h.2.2
    simp only [words, List.length_cons]
    omega
  | when a b =>
    have := E.words_len a 1
    have := E.words_len b 1
    have := h.1.2.2
    have := h.2.2.2
    simp only [words, List.length_cons, List.length_append]
    omega
theorem text_len {s : SE} (h : s.form) : s.text.length ≤ 1170 := by
  have h1 := joinL_le 8 s.words (fun w hw => (words_short h w hw).2)
  have h2 := words_len h
  unfold text
  omega
end SE
noncomputable def noneB (e : Ex) : Bool := decide (e = Ex.none)
/-- a statement has what its kind needs -/
noncomputable def formSB (s : Sm) : Bool :=
  if s.kind = 0 then (s.name == []) && (s.typ == []) && noneB s.ex && noneB s.th
  else if s.kind = 1 then nameB s.name && typeB s.typ && exOkB s.ex && noneB s.th
  else if s.kind = 2 then (s.name == []) && (s.typ == []) && exOkB s.ex && noneB s.th
  else if s.kind = 3 then (s.name == []) && (s.typ == []) && exOkB s.ex && exOkB s.th
  else false
theorem noneB_iff {e : Ex} : noneB e = true ↔ e = Ex.none := by unfold noneB; simp
theorem formSB_iff {s : Sm} : formSB s = true ↔ ∃ t : SE, s = t.sm ∧ t.form := by
  constructor
  · intro h
    obtain ⟨k, nm, ty, ex, th⟩ := s
    unfold formSB at h
    simp only at h
    by_cases e0 : k = 0
    · rw [if_pos e0] at h
      simp only [Bool.and_eq_true, beq_iff_eq, noneB_iff] at h
      obtain ⟨⟨⟨rfl, rfl⟩, rfl⟩, rfl⟩ := h
      exact ⟨.none, by rw [e0]; rfl, trivial⟩
    rw [if_neg e0] at h
    by_cases e1 : k = 1
    · rw [if_pos e1] at h
      simp only [Bool.and_eq_true, noneB_iff] at h
      obtain ⟨⟨⟨h1, h2⟩, h3⟩, rfl⟩ := h
      obtain ⟨t, rfl⟩ := of_typeB h2
      obtain ⟨e, rfl, he⟩ := E.ok_iff.1 h3
      exact ⟨.slet nm t e, by rw [e1]; rfl, h1, he⟩
    rw [if_neg e1] at h
    by_cases e2 : k = 2
    · rw [if_pos e2] at h
      simp only [Bool.and_eq_true, beq_iff_eq, noneB_iff] at h
      obtain ⟨⟨⟨rfl, rfl⟩, h3⟩, rfl⟩ := h
      obtain ⟨e, rfl, he⟩ := E.ok_iff.1 h3
      exact ⟨.say e, by rw [e2]; rfl, he⟩
    rw [if_neg e2] at h
    by_cases e3 : k = 3
    · rw [if_pos e3] at h
      simp only [Bool.and_eq_true, beq_iff_eq] at h
      obtain ⟨⟨⟨rfl, rfl⟩, h3⟩, h4⟩ := h
      obtain ⟨e, rfl, he⟩ := E.ok_iff.1 h3
      obtain ⟨f, rfl, hf⟩ := E.ok_iff.1 h4
      exact ⟨.when e f, by rw [e3]; rfl, he, hf⟩
    rw [if_neg e3] at h
    cases h
  · rintro ⟨t, rfl, h⟩
    cases t with
    | none => simp [formSB, SE.sm, noneB]
    | slet nm t e => simp [formSB, SE.sm, noneB, h.1, typeB_ty, E.ok_iff.2 ⟨e, rfl, h.2⟩]
    | say e => simp [formSB, SE.sm, noneB, E.ok_iff.2 ⟨e, rfl, h⟩]
    | when a b => simp [formSB, SE.sm, E.ok_iff.2 ⟨a, rfl, h.1⟩, E.ok_iff.2 ⟨b, rfl, h.2⟩]
open Classical in
/-- the words of what has the form -/
noncomputable def smWords (s : Sm) : List Bytes := if h : ∃ t : SE, s = t.sm ∧ t.form then h.choose.words else []
theorem smWords_se {t : SE} (h : t.form) : smWords t.sm = t.words := by
  have hx : ∃ u : SE, t.sm = u.sm ∧ u.form := ⟨t, rfl, h⟩
  unfold smWords
  rw [dif_pos hx]
  exact congrArg SE.words (SE.sm_inj hx.choose_spec.1).symm
theorem smWords_short {s : Sm} (h : formSB s = true) : ∀ w ∈ smWords s, 1 ≤ w.length ∧ w.length ≤ 8 := by
  obtain ⟨t, rfl, hf⟩ := formSB_iff.1 h
  rw [smWords_se hf]
  exact SE.words_short hf
theorem smWords_len {s : Sm} (h : formSB s = true) : (smWords s).length ≤ 130 := by
  obtain ⟨t, rfl, hf⟩ := formSB_iff.1 h
  rw [smWords_se hf]
  exact SE.words_len hf
noncomputable def smText (s : Sm) : Bytes := joinL (smWords s)
theorem smText_len {s : Sm} (h : formSB s = true) : (smText s).length ≤ 1170 := by
  obtain ⟨t, rfl, hf⟩ := formSB_iff.1 h
  unfold smText
  rw [smWords_se hf]
  exact SE.text_len hf
theorem smOkB_form (s : Sm) : smOkB s = (formSB s && decide ((smText s).length ≤ 116)) := by
  rw [Bool.eq_iff_iff, smOkB_iff, Bool.and_eq_true, formSB_iff, decide_eq_true_eq]
  constructor
  · rintro ⟨t, rfl, h1, h2⟩
    exact ⟨⟨t, rfl, h1⟩, by unfold smText; rw [smWords_se h1]; exact h2⟩
  · rintro ⟨⟨t, rfl, h1⟩, h2⟩
    unfold smText at h2
    rw [smWords_se h1] at h2
    exact ⟨t, rfl, h1, h2⟩
end Go.Proofs.YtgakjhaepdigpaaGreatDoor


/- Plain Lean: how much a tree holds; trees of the call's own, one after the other. No program in sight, no condition. -/
namespace Go.Proofs.YtgakjhaepdigpaaGreatDoor
set_option maxRecDepth 100000
set_option linter.unusedSimpArgs false
set_option linter.unusedVariables false
open Go.RowKit

/-- how many parts and letters a tree holds below its root -/
def Ex.wt : Ex → Nat
  | .mk _ _ s kids => s.length + kids.length + (kids.attach.map (fun x => Ex.wt x.1)).sum
termination_by e => SizeOf.sizeOf e
decreasing_by
  have := List.sizeOf_lt_of_mem x.2
  simp
  omega
def wtL (l : List Ex) : Nat := l.length + (l.map Ex.wt).sum
theorem Ex.wt_mk (k n : Int) (s : Bytes) (l : List Ex) : (Ex.mk k n s l).wt = s.length + wtL l := by
  rw [Ex.wt, wtL, List.attach_map_val]
  omega
def wtTo (l : List Ex) (i : Nat) : Nat := ((l.take i).map Ex.wt).sum
theorem wtTo_zero (l : List Ex) : wtTo l 0 = 0 := by simp [wtTo]
theorem wtTo_succ {l : List Ex} {i : Nat} {e : Ex} (h : l[i]? = some e) : wtTo l (i + 1) = wtTo l i + e.wt := by
  have hi := (List.getElem?_eq_some_iff.1 h).1
  have he : l[i] = e := by rw [List.getElem?_eq_getElem hi] at h; exact Option.some.inj h
  unfold wtTo
  rw [List.take_succ_eq_append_getElem hi, List.map_append, List.sum_append, he]
  simp
theorem wtTo_all (l : List Ex) : wtL l = l.length + wtTo l l.length := by simp [wtL, wtTo]
theorem wtTo_le (l : List Ex) : ∀ i, wtTo l i ≤ wtTo l l.length := by
  intro i
  unfold wtTo
  rw [List.take_length]
  have h : (l.take i ++ l.drop i) = l := List.take_append_drop i l
  have h2 := congrArg (fun l => (l.map Ex.wt).sum) h
  simp only [List.map_append, List.sum_append] at h2
  omega
theorem wt_mem {l : List Ex} {i : Nat} {e : Ex} (h : l[i]? = some e) : l.length + e.wt ≤ wtL l := by
  have h1 := wtTo_succ h
  have h2 := wtTo_le l (i + 1)
  rw [wtTo_all]
  omega

/-- the first i trees of l stand in cur -/
def TreesTo (t : TypeId) (w : World) (cur : Array Value) (l : List Ex) (i : Nat) (fl : List FE) (bls : List (List Nat)) : Prop :=
  fl.length = i ∧ bls.length = i ∧ (∀ (j : Nat) (f : FE), fl[j]? = some f → ∀ (k : Nat) (x : Value), (feRow f)[k]? = some x → cur[j * 4 + k]? = some x) ∧
    (∀ (j : Nat) (f : FE) (e : Ex), fl[j]? = some f → l[j]? = some e → f.kind = e.kind ∧ f.n = e.n ∧ f.s = e.s ∧ f.s.length ≤ 9223372036854775807) ∧
    (∀ (j : Nat) (f : FE) (e : Ex) (b : List Nat), fl[j]? = some f → l[j]? = some e → bls[j]? = some b → ExO t w f.kv e.kids b)
theorem TreesTo.zero (t : TypeId) (w : World) (cur : Array Value) (l : List Ex) : TreesTo t w cur l 0 [] [] :=
  ⟨rfl, rfl, fun j f h => by simp at h, fun j f e h => by simp at h, fun j f e b h => by simp at h⟩
theorem getElem?_snoc {α : Type} {l : List α} {a x : α} {j : Nat} (h : (l ++ [a])[j]? = some x) : (j < l.length ∧ l[j]? = some x) ∨ (j = l.length ∧ x = a) := by
  by_cases hj : j < l.length
  · rw [List.getElem?_append_left hj] at h
    exact .inl ⟨hj, h⟩
  · rw [List.getElem?_append_right (by omega)] at h
    have hk := (List.getElem?_eq_some_iff.1 h).1
    simp only [List.length_singleton] at hk
    have hj2 : j - l.length = 0 := by omega
    rw [hj2] at h
    exact .inr ⟨by omega, by simpa using h.symm⟩
theorem TreesTo.step {t : TypeId} {w w' : World} {cur : Array Value} {l : List Ex} {i : Nat} {fl : List FE} {bls : List (List Nat)} {f : FE} {e : Ex} {b : List Nat} (h : TreesTo t w cur l i fl bls) (he : l[i]? = some e) (hsz : i * 4 + 4 ≤ cur.size)
    (hf : f.kind = e.kind ∧ f.n = e.n ∧ f.s = e.s ∧ f.s.length ≤ 9223372036854775807) (hO : ExO t w' f.kv e.kids b) (hk : ∀ x ∈ bls.flatten, w'.heap[x]? = w.heap[x]?) : TreesTo t w' (putRow cur (i * 4) (feRow f)) l (i + 1) (fl ++ [f]) (bls ++ [b]) := by
  obtain ⟨h1, h2, h3, h4, h5⟩ := h
  refine ⟨by simp [h1], by simp [h2], fun j f' hj k x hx => ?_, fun j f' e' hj he' => ?_, fun j f' e' b' hj he' hb' => ?_⟩
  · have hkl : k < 4 := (List.getElem?_eq_some_iff.1 hx).1
    rw [putRow_get _ _ _ _ (by exact hsz)]
    rcases getElem?_snoc hj with ⟨hj1, hj2⟩ | ⟨rfl, rfl⟩
    · rw [if_neg (by omega)]
      exact h3 j f' hj2 k x hx
    · rw [h1, if_pos (by simp [feRow]; omega), Nat.add_sub_cancel_left]
      exact hx
  · rcases getElem?_snoc hj with ⟨hj1, hj2⟩ | ⟨rfl, rfl⟩
    · exact h4 j f' e' hj2 he'
    · rw [h1, he] at he'
      obtain rfl := Option.some.inj he'
      exact hf
  · rcases getElem?_snoc hj with ⟨hj1, hj2⟩ | ⟨rfl, rfl⟩
    · rcases getElem?_snoc hb' with ⟨hb1, hb2⟩ | ⟨hb1, rfl⟩
      · exact (h5 j f' e' b' hj2 he' hb2).same (fun x hx => hk x (List.mem_flatten.2 ⟨b', List.mem_of_getElem? hb2, hx⟩))
      · omega
    · rcases getElem?_snoc hb' with ⟨hb1, hb2⟩ | ⟨hb1, rfl⟩
      · omega
      · rw [h1, he] at he'
        obtain rfl := Option.some.inj he'
        exact hO
/-- all stand there -/
theorem TreesTo.all {t : TypeId} {w : World} {cur : Array Value} {l : List Ex} {fl : List FE} {bls : List (List Nat)} {g cap : Nat} (h : TreesTo t w cur l l.length fl bls) (hb : Blk w g t cur) (hc : l.length ≤ cap) (hm : cap ≤ maxLen) :
    ∃ bl, ExO t w (.slice (some ⟨g, 0, none⟩) l.length cap) l bl ∧ (bl = [] ∨ bl = g :: bls.flatten) := by
  obtain ⟨h1, h2, h3, h4, h5⟩ := h
  cases l with
  | nil => exact ⟨[], .nil _ _ hm, .inl rfl⟩
  | cons e l => exact ⟨_, .mk g cap cur fl (e :: l) bls (by simp) hc hm hb h1 h2 h3 h4 h5, .inr rfl⟩
end Go.Proofs.YtgakjhaepdigpaaGreatDoor
