
/- Plain Lean of statements: what is ok, words, text; and how statements lie in memory. No program in sight, no condition. -/
import Derived.Test.YtgfdakgibjplkaaGreatDoorTokP
namespace Go.Proofs.YtgfdakgibjplkaaGreatDoor
set_option maxRecDepth 100000
open Go.RowKit

/-- a statement as it comes -/
structure Sm where
  kind : Int
  name : Bytes
  typ : Bytes
  ex : Ex
  th : Ex
/-- a statement that has the form of one -/
inductive SE where
  | none
  | slet (name : Bytes) (t : Bool) (e : E)
  | say (e : E)
  | when (a b : E)
namespace SE
def sm : SE → Sm
  | none => ⟨0, [], [], Ex.none, Ex.none⟩
  | slet nm t e => ⟨1, nm, tyB t, e.ex, Ex.none⟩
  | say e => ⟨2, [], [], e.ex, Ex.none⟩
  | when a b => ⟨3, [], [], a.ex, b.ex⟩
def words : SE → List Bytes
  | none => []
  | slet nm t e => cLet :: nm :: [58] :: tyB t :: [61] :: e.words 1
  | say e => cSay :: e.words 1
  | when a b => cWhen :: (a.words 1 ++ cSay :: b.words 1)
def form : SE → Prop
  | none => True
  | slet nm _ e => nameB nm = true ∧ e.Ok
  | say e => e.Ok
  | when a b => a.Ok ∧ b.Ok
def text (s : SE) : Bytes := joinL s.words
def ok (s : SE) : Prop := s.form ∧ s.text.length ≤ 116
theorem sm_inj {a b : SE} (h : a.sm = b.sm) : a = b := by
  cases a <;> cases b <;> simp only [sm, Sm.mk.injEq] at h
  all_goals first
    | rfl
    | (exfalso; have := h.1; omega)
    | (rw [h.2.1, tyB_inj h.2.2.1, E.ex_inj h.2.2.2.1])
    | (rw [E.ex_inj h.2.2.2.1, E.ex_inj h.2.2.2.2])
    | (rw [E.ex_inj h.2.2.2.1])
end SE
open Classical in
noncomputable def smOkB (s : Sm) : Bool := decide (∃ t : SE, s = t.sm ∧ t.ok)
theorem smOkB_yes {s : SE} (h : s.ok) : smOkB s.sm = true := by unfold smOkB; simp only [decide_eq_true_eq]; exact ⟨s, rfl, h⟩
theorem smOkB_iff {s : Sm} : smOkB s = true ↔ ∃ t : SE, s = t.sm ∧ t.ok := by unfold smOkB; simp
theorem smOkB_se {s : SE} : smOkB s.sm = true ↔ s.ok := by
  rw [smOkB_iff]
  exact ⟨fun ⟨t, e, h⟩ => by rw [SE.sm_inj e]; exact h, fun h => ⟨s, rfl, h⟩⟩
theorem smOkB_no {s : Sm} (h : ∀ t : SE, s = t.sm → ¬ t.ok) : smOkB s = false := by
  rw [Bool.eq_false_iff]
  intro e
  obtain ⟨t, e1, e2⟩ := smOkB_iff.1 e
  exact h t e1 e2

/-! ### in memory -/
structure FS where
  kind : Int
  name : Bytes
  typ : Bytes
  k1 : Int
  n1 : Int
  s1 : Bytes
  v1 : Value
  k2 : Int
  n2 : Int
  s2 : Bytes
  v2 : Value
def fsRow (f : FS) : List Value := [.int .i64 f.kind, .string (bs f.name), .string (bs f.typ), .int .i64 f.k1, .int .i64 f.n1, .string (bs f.s1), f.v1, .int .i64 f.k2, .int .i64 f.n2, .string (bs f.s2), f.v2]
/-- the cells f are the statement s -/
def FsOk (w : World) (B : Nat) (f : FS) (s : Sm) : Prop :=
  f.kind = s.kind ∧ f.name = s.name ∧ f.typ = s.typ ∧ f.k1 = s.ex.kind ∧ f.n1 = s.ex.n ∧ f.s1 = s.ex.s ∧ f.k2 = s.th.kind ∧ f.n2 = s.th.n ∧ f.s2 = s.th.s ∧
    (bs f.name).size ≤ 9223372036854775807 ∧ (bs f.typ).size ≤ 9223372036854775807 ∧ (bs f.s1).size ≤ 9223372036854775807 ∧ (bs f.s2).size ≤ 9223372036854775807 ∧ ExS w B f.v1 s.ex.kids ∧ ExS w B f.v2 s.th.kids
theorem FsOk.keep {B B' : Nat} {w w' : World} {f : FS} {s : Sm} (h : FsOk w B f s) (hb : Below B' w w') (hB : B ≤ B') : FsOk w' B f s := by
  obtain ⟨h1, h2, h3, h4, h5, h6, h7, h8, h9, h10, h11, h12, h13, h14, h15⟩ := h
  exact ⟨h1, h2, h3, h4, h5, h6, h7, h8, h9, h10, h11, h12, h13, h14.keep hb hB, h15.keep hb hB⟩
theorem FsOk.more {B B' : Nat} {w : World} {f : FS} {s : Sm} (h : FsOk w B f s) (hB : B ≤ B') : FsOk w B' f s := by
  obtain ⟨h1, h2, h3, h4, h5, h6, h7, h8, h9, h10, h11, h12, h13, h14, h15⟩ := h
  exact ⟨h1, h2, h3, h4, h5, h6, h7, h8, h9, h10, h11, h12, h13, h14.more hB, h15.more hB⟩
/-- a statement by value -/
def SmV (w : World) (B : Nat) (v : Value) (s : Sm) : Prop := ∃ f, v = .agg (fsRow f).toArray ∧ FsOk w B f s
def SmS (w : World) (B : Nat) (v : Value) (l : List Sm) : Prop := ∃ fl : List FS, Sl fsRow 11 w B v fl ∧ fl.length = l.length ∧ ∀ (i : Nat) (f : FS) (s : Sm), fl[i]? = some f → l[i]? = some s → FsOk w B f s
theorem SmV.keep {B B' : Nat} {w w' : World} {v : Value} {s : Sm} (h : SmV w B v s) (hb : Below B' w w') (hB : B ≤ B') : SmV w' B v s := by
  obtain ⟨f, h1, h2⟩ := h; exact ⟨f, h1, h2.keep hb hB⟩
theorem SmV.more {B B' : Nat} {w : World} {v : Value} {s : Sm} (h : SmV w B v s) (hB : B ≤ B') : SmV w B' v s := by
  obtain ⟨f, h1, h2⟩ := h; exact ⟨f, h1, h2.more hB⟩
theorem SmV.ext {w w' : World} {v : Value} {s : Sm} (h : SmV w w.heap.size v s) (hb : Ext w w') : SmV w' w'.heap.size v s := (h.keep hb (Nat.le_refl _)).more hb.size
theorem SmS.keep {B B' : Nat} {w w' : World} {v : Value} {l : List Sm} (h : SmS w B v l) (hb : Below B' w w') (hB : B ≤ B') : SmS w' B v l := by
  obtain ⟨fl, h1, h2, h3⟩ := h; exact ⟨fl, h1.below hb hB, h2, fun i f s hf hs => (h3 i f s hf hs).keep hb hB⟩
theorem SmS.more {B B' : Nat} {w : World} {v : Value} {l : List Sm} (h : SmS w B v l) (hB : B ≤ B') : SmS w B' v l := by
  obtain ⟨fl, h1, h2, h3⟩ := h; exact ⟨fl, h1.more hB, h2, fun i f s hf hs => (h3 i f s hf hs).more hB⟩
theorem SmS.ext {w w' : World} {v : Value} {l : List Sm} (h : SmS w w.heap.size v l) (hb : Ext w w') : SmS w' w'.heap.size v l := (h.keep hb (Nat.le_refl _)).more hb.size
theorem SmS.val {w : World} {B : Nat} {v : Value} {l : List Sm} (h : SmS w B v l) : ∃ A c, v = .slice A l.length c ∧ l.length ≤ c ∧ c ≤ 9223372036854775807 := by
  obtain ⟨fl, h1, h2, h3⟩ := h
  obtain ⟨A, c, hv, hc, hm⟩ := h1.val
  exact ⟨A, c, by rw [← h2]; exact hv, by omega, hm⟩
theorem SmV.form {w : World} {B : Nat} {v : Value} {s : Sm} (h : SmV w B v s) : ∃ (v1 v2 : Value), v = .agg #[.int .i64 s.kind, .string (bs s.name), .string (bs s.typ), .int .i64 s.ex.kind, .int .i64 s.ex.n, .string (bs s.ex.s), v1, .int .i64 s.th.kind, .int .i64 s.th.n, .string (bs s.th.s), v2] ∧
    (bs s.name).size ≤ 9223372036854775807 ∧ (bs s.typ).size ≤ 9223372036854775807 ∧ ExV w B (.agg #[.int .i64 s.ex.kind, .int .i64 s.ex.n, .string (bs s.ex.s), v1]) s.ex ∧ ExV w B (.agg #[.int .i64 s.th.kind, .int .i64 s.th.n, .string (bs s.th.s), v2]) s.th := by
  obtain ⟨f, rfl, h1, h2, h3, h4, h5, h6, h7, h8, h9, h10, h11, h12, h13, h14, h15⟩ := h
  refine ⟨f.v1, f.v2, ?_, by rw [← h2]; exact h10, by rw [← h3]; exact h11, ⟨f.v1, rfl, by rw [← h6, ← bs_size]; exact h12, h14⟩, ⟨f.v2, rfl, by rw [← h9, ← bs_size]; exact h13, h15⟩⟩
  rw [← h1, ← h2, ← h3, ← h4, ← h5, ← h6, ← h7, ← h8, ← h9]
  rfl
theorem SmV.form2 {w : World} {B : Nat} {v : Value} {s : Sm} (h : SmV w B v s) : ∃ (A1 A2 : Option Addr) (c1 c2 : Nat), v = .agg #[.int .i64 s.kind, .string (bs s.name), .string (bs s.typ), .int .i64 s.ex.kind, .int .i64 s.ex.n, .string (bs s.ex.s), .slice A1 s.ex.kids.length c1, .int .i64 s.th.kind, .int .i64 s.th.n, .string (bs s.th.s), .slice A2 s.th.kids.length c2] ∧
    s.name.length ≤ 9223372036854775807 ∧ s.typ.length ≤ 9223372036854775807 ∧ ExV w B (.agg #[.int .i64 s.ex.kind, .int .i64 s.ex.n, .string (bs s.ex.s), .slice A1 s.ex.kids.length c1]) s.ex ∧ ExV w B (.agg #[.int .i64 s.th.kind, .int .i64 s.th.n, .string (bs s.th.s), .slice A2 s.th.kids.length c2]) s.th := by
  obtain ⟨v1, v2, rfl, h1, h2, h3, h4⟩ := h.form
  obtain ⟨k1, e1, s1, x1⟩ := h3
  obtain ⟨k2, e2, s2, x2⟩ := h4
  have f1 : v1 = k1 := by simpa using e1
  have f2 : v2 = k2 := by simpa using e2
  subst f1 f2
  obtain ⟨A1, c1, rfl, _, _⟩ := x1.val
  obtain ⟨A2, c2, rfl, _, _⟩ := x2.val
  rw [bs_size] at h1 h2
  exact ⟨A1, A2, c1, c2, rfl, h1, h2, ⟨_, rfl, s1, x1⟩, ⟨_, rfl, s2, x2⟩⟩
/-- the statement i of a slice: its cells, in every later world -/
theorem sm_at {W : World} {B n c : Nat} {A : Option Addr} {l : List Sm} {i : Nat} (h : SmS W B (.slice A n c) l) (hi : i < l.length) :
    ∃ b o f s, A = some ⟨b, o, none⟩ ∧ b < B ∧ l[i]? = some s ∧ FsOk W B f s ∧ (∀ (j : Nat) (v : Value), (fsRow f)[j]? = some v → ∀ x : Later B W, x.w'.cell? ⟨b, o + i * 11 + j, none⟩ = some v) := by
  obtain ⟨fl, ⟨A', c', hv, hc, hm, hh⟩, hl, h3⟩ := h
  obtain ⟨rfl, _, rfl⟩ : A = A' ∧ n = fl.length ∧ c = c' := by injection hv; exact ⟨‹_›, ‹_›, ‹_›⟩
  obtain ⟨b, o, rfl, hb, hcell⟩ := hh (by omega)
  have hg : fl[i]? = some fl[i] := List.getElem?_eq_getElem (by omega)
  have hg2 : l[i]? = some l[i] := List.getElem?_eq_getElem hi
  exact ⟨b, o, _, _, rfl, hb, hg2, h3 i _ _ hg hg2, fun j v hx x => (x.ok.cell (p := ⟨b, o + i * 11 + j, none⟩) (by simpa using hb)).trans (hcell i _ hg j v hx)⟩
end Go.Proofs.YtgfdakgibjplkaaGreatDoor
