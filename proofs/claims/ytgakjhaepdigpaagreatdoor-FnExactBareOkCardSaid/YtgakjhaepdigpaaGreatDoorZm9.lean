/- Append to a row of the call's own what another row holds, be it nothing. A row's element, a row's cells. No condition. -/
import Derived.Test.YtgakjhaepdigpaaGreatDoorZm8
import Derived.Test.YtgakjhaepdigpaaGreatDoorStSp
import Derived.Deep.Upon
import Derived.Test.YtgakjhaepdigpaaGreatDoorBas
namespace Go.Proofs.YtgakjhaepdigpaaGreatDoor
set_option maxRecDepth 100000
set_option linter.unusedSimpArgs false
set_option linter.unusedVariables false
open Go.RowKit

theorem app_gt {α : Type} {row : α → List Value} {k : Nat} {t tS : TypeId} {ops : Array Oper} {rest : List Oper} {o : Oper} {a : Act} {Q : Exit → Act → World → Prop} {w : World} (R : RowTy row k t tS) (hgd : o.guard = none) (s x : Operand) (ho : o.op = .call { callee := .builtin .append, args := #[s, x], argTypes := #[tS, tS] })
    (B : Nat) (v : Value) (l : List α) (hs : a.eval s = v) (hv : Gt row k t B w v l) (B2 : Nat) (u : Value) (l2 : List α) (hx : a.eval x = u) (hu : Gt row k t B2 w u l2) (hl : l.length + l2.length ≤ 1000000) (hB : B ≤ w.heap.size)
    (h : ∀ u' w', Gt row k t B w' u' (l ++ l2) → w.grownBy w' v.ownBlock → wpList Tryz.prog ops Q rest (a.put o.dst u') w') : wpList Tryz.prog ops Q (o :: rest) a w := by
  have key : ∀ {u0 : Value}, _root_.Go.Src Tryz.prog k tS u0 0 [] w → a.eval x = u0 → l2 = [] → wpList Tryz.prog ops Q (o :: rest) a w := by
    intro u0 hsrc hx hl2
    subst hl2
    rw [List.append_nil] at h
    have hq := h v w hv ⟨rfl, rfl, rfl, Nat.le_refl _, fun _ _ _ => rfl⟩
    obtain ⟨A, c, rfl, hc, hm⟩ := hv.val
    obtain ⟨i0, z, b, hi, hz0, hz1, hz2, hb, hzs⟩ := R.info
    have hrun := run_append_nothing (P := Tryz.prog) w tS tS o.type t i0 R.und hi A l.length c hc u0 (by rw [hz1]; exact hsrc)
    refine wpList_plain hgd fun _ hK => ?_
    unfold Oper.wp
    simp [execOp, ho, resolve, invoke, builtin, hs, hx, hrun, Result.andThen]
    exact hK _ _ hq
  rcases hu.2 with ⟨rfl, h0⟩ | ⟨g, cap, cur, rfl, hlo, hbk, hc, hm, hsz, ht⟩
  · exact key (_root_.Go.Src.ofNil w R.und 0) hx (List.length_eq_zero_iff.1 h0)
  · by_cases h0 : l2.length = 0
    · rw [h0] at hx
      exact key (_root_.Go.Src.ofSlice w R.und ⟨g, 0, none⟩ 0 cap [] (by simp) (fun j u h => by simp at h) (fun u h => by cases h)) hx (List.length_eq_zero_iff.1 h0)
    · exact app_plain R hgd s x ho B v l hs hv ⟨g, 0, none⟩ cap l2 hx hu.cells (by omega) hl hB (fun g' cap' w' h1 h2 _ => h _ w' (by
        have e : l.length + l2.length = (l ++ l2).length := by simp
        exact h1) h2)
/-- an element of a slice: its cells, in every later world -/
theorem sl_at {α : Type} {row : α → List Value} {k B n c : Nat} {W : World} {A : Option Addr} {l : List α} {i : Nat} (h : Sl row k W B (.slice A n c) l) (hi : i < l.length) :
    ∃ b o s, A = some ⟨b, o, none⟩ ∧ b < B ∧ l[i]? = some s ∧ ∀ (x : Later B W) (j : Nat) (v : Value), (row s)[j]? = some v → x.w'.cell? ⟨b, o + i * k + j, none⟩ = some v := by
  obtain ⟨A', c', hv, hc, hm, hh⟩ := h
  obtain ⟨rfl, _, rfl⟩ : A = A' ∧ n = l.length ∧ c = c' := by injection hv; exact ⟨‹_›, ‹_›, ‹_›⟩
  obtain ⟨b, o, rfl, hb, hcell⟩ := hh (by omega)
  have hg : l[i]? = some l[i] := List.getElem?_eq_getElem hi
  exact ⟨b, o, l[i], rfl, hb, hg, fun x j v hx => (x.ok.cell (p := ⟨b, o + i * k + j, none⟩) (by simpa using hb)).trans (hcell i _ hg j v hx)⟩
end Go.Proofs.YtgakjhaepdigpaaGreatDoor


/- Plain Lean of reading: words are read as what is reckoned; what was written is read back. No program in sight, no condition. -/
namespace Go.Proofs.YtgakjhaepdigpaaGreatDoor
set_option maxRecDepth 100000
set_option linter.unusedSimpArgs false
set_option linter.unusedVariables false
open Go.RowKit

abbrev PR := Option (Ex × List Bytes)
/-- how tight a mark holds; nought of none -/
def tgP (s : Bytes) : Nat := if s = [60] then 1 else if s = [43] ∨ s = [45] then 2 else if s = [42] then 3 else 0
def loopW (k : Nat) (sub : List Bytes → PR) : Nat → Ex → List Bytes → PR
  | 0, e, l => some (e, l)
  | _ + 1, e, [] => some (e, [])
  | n + 1, e, w :: r => if tgP w = k then (match sub r with | some (x, r') => loopW k sub n (.mk 3 0 w [e, x]) r' | none => none) else some (e, w :: r)
def asW (st : Bool) : Nat → Ex → List Bytes → PR
  | 0, e, l => some (e, l)
  | _ + 1, e, [] => some (e, [])
  | n + 1, e, w :: r => if w = cAs then (match r with | t :: r' => if !st || typeB t then asW st n (.mk 4 0 t [e]) r' else none | [] => none) else some (e, w :: r)
def lv3 (held : List Bytes → PR) (l : List Bytes) : PR := match held l with | some (e, r) => loopW 3 held r.length e r | none => none
def lv2 (held : List Bytes → PR) (l : List Bytes) : PR := match lv3 held l with | some (e, r) => loopW 2 (lv3 held) r.length e r | none => none
def lv1 (st : Bool) (held : List Bytes → PR) (l : List Bytes) : PR := match lv2 held l with | some (e, r) => loopW 1 (lv2 held) (if st then 1 else r.length) e r | none => none
def leafW (st : Bool) (w : Bytes) (r : List Bytes) : PR := if numB w then asW st r.length (.mk 1 (digVal w) [] []) r else if nameB w then asW st r.length (.mk 2 0 w []) r else none
/-- what stands behind a bracket's inside -/
def shutW (st : Bool) : PR → PR
  | some (e, c :: r) => if c = [41] then asW st r.length e r else none
  | _ => none
def atomW (st : Bool) : Nat → List Bytes → PR
  | _, [] => none
  | 0, w :: r => if w = [40] then none else leafW st w r
  | f + 1, w :: r => if w = [40] then shutW st (lv1 st (atomW st f) r) else leafW st w r

theorem loopW_stop {k : Nat} {sub : List Bytes → PR} {n : Nat} {e : Ex} {l : List Bytes} (h : ∀ w r, l = w :: r → tgP w ≠ k) : loopW k sub n e l = some (e, l) := by
  cases n with
  | zero => rfl
  | succ n => cases l with
    | nil => rfl
    | cons w r => simp only [loopW]; rw [if_neg (h w r rfl)]
theorem asW_stop {st : Bool} {n : Nat} {e : Ex} {l : List Bytes} (h : ∀ w r, l = w :: r → w ≠ cAs) : asW st n e l = some (e, l) := by
  cases n with
  | zero => rfl
  | succ n => cases l with
    | nil => rfl
    | cons w r => simp only [asW]; rw [if_neg (h w r rfl)]
def rkW (w : Bytes) : Nat := if w = cAs then 4 else tgP w
def HeadLe (k : Nat) (l : List Bytes) : Prop := ∀ w r, l = w :: r → rkW w ≤ k
theorem HeadLe.mono {k m : Nat} {l : List Bytes} (h : HeadLe k l) (hk : k ≤ m) : HeadLe m l := fun w r e => Nat.le_trans (h w r e) hk
theorem HeadLe.not_as {k : Nat} {l : List Bytes} (h : HeadLe k l) (hk : k ≤ 3) : ∀ w r, l = w :: r → w ≠ cAs := by
  intro w r e h2
  have := h w r e
  unfold rkW at this
  rw [if_pos h2] at this
  omega
theorem HeadLe.not_tg {k m : Nat} {l : List Bytes} (h : HeadLe k l) (hk : k < m) (hm : m ≤ 3) : ∀ w r, l = w :: r → tgP w ≠ m := by
  intro w r e h2
  have := h w r e
  unfold rkW at this
  rw [if_neg (h.not_as (by omega) w r e)] at this
  omega
theorem HeadLe.cons {k : Nat} {w : Bytes} {r : List Bytes} (h : rkW w ≤ k) : HeadLe k (w :: r) := by
  intro w' r' e
  obtain ⟨rfl, rfl⟩ := List.cons.inj e
  exact h
theorem HeadLe.nil (k : Nat) : HeadLe k [] := fun w r e => by cases e
theorem tgP_b (o : Op2) : tgP o.b = o.lv := by cases o <;> decide
theorem rkW_b (o : Op2) : rkW o.b = o.lv := by cases o <;> decide
theorem lv_bd (o : Op2) : 1 ≤ o.lv ∧ o.lv ≤ 3 := by cases o <;> decide
theorem words_low {o : Op2} {a b : E} {t : Nat} (h : t ≤ o.lv) : (E.two o a b).words t = a.words (max o.lv 2) ++ o.b :: b.words (o.lv + 1) := by
  simp only [E.words]; rw [if_neg (by omega)]
theorem words_high {o : Op2} {a b : E} {t : Nat} (h : o.lv < t) : (E.two o a b).words t = [40] :: ((E.two o a b).words 1 ++ [[41]]) := by
  have := lv_bd o
  rw [words_low (t := 1) (by omega)]
  simp only [E.words]
  rw [if_pos h]
  simp

section
variable (st : Bool) (f : Nat)
def Cl4 (e : E) : Prop := ∀ rest, HeadLe 4 rest → ∃ n, rest.length ≤ n ∧ atomW st f (e.words 4 ++ rest) = asW st n e.ex rest
def Cl3 (e : E) : Prop := ∀ rest, HeadLe 3 rest → ∃ n, rest.length ≤ n ∧ lv3 (atomW st f) (e.words 3 ++ rest) = loopW 3 (atomW st f) n e.ex rest
def Cl2 (e : E) : Prop := ∀ rest, HeadLe 2 rest → ∃ n, rest.length ≤ n ∧ lv2 (atomW st f) (e.words 2 ++ rest) = loopW 2 (lv3 (atomW st f)) n e.ex rest
def Cl1 (e : E) : Prop := ∀ rest, HeadLe 0 rest → lv1 st (atomW st f) (e.words 1 ++ rest) = some (e.ex, rest)
structure Cl (e : E) : Prop where
  c4 : Cl4 st f e
  c3 : Cl3 st f e
  c2 : Cl2 st f e
  c1 : Cl1 st f e
end
section
variable {st : Bool} {f : Nat} {e : E}
theorem Cl4.fin (h : Cl4 st f e) {rest : List Bytes} (hr : HeadLe 3 rest) : atomW st f (e.words 4 ++ rest) = some (e.ex, rest) := by
  obtain ⟨n, _, h2⟩ := h rest (hr.mono (by omega))
  rw [h2, asW_stop (hr.not_as (by omega))]
theorem Cl3.fin (h : Cl3 st f e) {rest : List Bytes} (hr : HeadLe 2 rest) : lv3 (atomW st f) (e.words 3 ++ rest) = some (e.ex, rest) := by
  obtain ⟨n, _, h2⟩ := h rest (hr.mono (by omega))
  rw [h2, loopW_stop (hr.not_tg (by omega) (by omega))]
theorem Cl2.fin (h : Cl2 st f e) {rest : List Bytes} (hr : HeadLe 1 rest) : lv2 (atomW st f) (e.words 2 ++ rest) = some (e.ex, rest) := by
  obtain ⟨n, _, h2⟩ := h rest (hr.mono (by omega))
  rw [h2, loopW_stop (hr.not_tg (by omega) (by omega))]
theorem Cl4.down (h : Cl4 st f e) (hw : e.words 3 = e.words 4) : Cl3 st f e := by
  intro rest hr
  refine ⟨rest.length, Nat.le_refl _, ?_⟩
  rw [lv3, hw, h.fin hr]
theorem Cl3.down (h : Cl3 st f e) (hw : e.words 2 = e.words 3) : Cl2 st f e := by
  intro rest hr
  refine ⟨rest.length, Nat.le_refl _, ?_⟩
  rw [lv2, hw, h.fin hr]
theorem Cl2.down (h : Cl2 st f e) (hw : e.words 1 = e.words 2) : Cl1 st f e := by
  intro rest hr
  rw [lv1, hw, h.fin (hr.mono (by omega))]
  exact loopW_stop (hr.not_tg (by omega) (by omega))
/-- the next round of a loop -/
theorem loopW_step {k n : Nat} {sub : List Bytes → PR} {x y : Ex} {w : Bytes} {l r : List Bytes} (hk : tgP w = k) (hs : sub l = some (y, r)) : loopW k sub (n + 1) x (w :: l) = loopW k sub n (.mk 3 0 w [x, y]) r := by
  simp only [loopW]
  rw [if_pos hk, hs]
/-- two parts whose own mark stands without brackets -/
theorem two_low3 {o : Op2} {a b : E} (ho : o.lv = 3) (ha : Cl st f a) (hb : Cl st f b) : Cl3 st f (.two o a b) := by
  intro rest hr
  rw [words_low (by omega), ho, List.append_assoc, List.cons_append]
  obtain ⟨n, hn, h2⟩ := ha.c3 (o.b :: (b.words 4 ++ rest)) (.cons (by rw [rkW_b]; omega))
  simp only [List.length_cons, List.length_append] at hn
  refine ⟨n - 1, by omega, ?_⟩
  rw [show max 3 2 = 3 from rfl, h2]
  obtain ⟨m, rfl⟩ : ∃ m, n = m + 1 := ⟨n - 1, by omega⟩
  rw [loopW_step (by rw [tgP_b, ho]) (hb.c4.fin hr)]
  rfl
theorem two_low2 {o : Op2} {a b : E} (ho : o.lv = 2) (ha : Cl st f a) (hb : Cl st f b) : Cl2 st f (.two o a b) := by
  intro rest hr
  rw [words_low (by omega), ho, List.append_assoc, List.cons_append]
  obtain ⟨n, hn, h2⟩ := ha.c2 (o.b :: (b.words 3 ++ rest)) (.cons (by rw [rkW_b]; omega))
  simp only [List.length_cons, List.length_append] at hn
  refine ⟨n - 1, by omega, ?_⟩
  rw [show max 2 2 = 2 from rfl, h2]
  obtain ⟨m, rfl⟩ : ∃ m, n = m + 1 := ⟨n - 1, by omega⟩
  rw [loopW_step (by rw [tgP_b, ho]) (hb.c3.fin hr)]
  rfl
theorem two_low1 {o : Op2} {a b : E} (ho : o.lv = 1) (ha : Cl st f a) (hb : Cl st f b) : Cl1 st f (.two o a b) := by
  intro rest hr
  rw [words_low (by omega), ho, List.append_assoc, List.cons_append, show max 1 2 = 2 from rfl]
  rw [lv1, ha.c2.fin (.cons (by rw [rkW_b]; omega))]
  simp only
  obtain ⟨m, hm⟩ : ∃ m, (if st then 1 else (o.b :: (b.words 2 ++ rest)).length) = m + 1 := by
    cases st
    · exact ⟨_, rfl⟩
    · exact ⟨0, rfl⟩
  rw [hm, loopW_step (by rw [tgP_b, ho]) (hb.c2.fin (hr.mono (by omega)))]
  exact loopW_stop (hr.not_tg (by omega) (by omega))
theorem two_one {o : Op2} {a b : E} (ha : Cl st f a) (hb : Cl st f b) : Cl1 st f (.two o a b) := by
  have h := lv_bd o
  by_cases h1 : o.lv = 1
  · exact two_low1 h1 ha hb
  · have h2 : Cl2 st f (.two o a b) := by
      by_cases h2 : o.lv = 2
      · exact two_low2 h2 ha hb
      · exact (two_low3 (by omega) ha hb).down (by rw [words_low (by omega), words_low (by omega)])
    exact h2.down (by rw [words_low (by omega), words_low (by omega)])
theorem two_four {o : Op2} {a b : E} (h : Cl1 st f (.two o a b)) : Cl4 st (f + 1) (.two o a b) := by
  have h0 := lv_bd o
  intro rest hr
  refine ⟨rest.length, Nat.le_refl _, ?_⟩
  rw [words_high (by omega), List.cons_append, List.append_assoc]
  simp only [atomW]
  rw [if_pos trivial, List.singleton_append, h _ (.cons (by decide))]
  simp only [shutW]
  rw [if_pos trivial]
end
theorem decL_ne {n : Nat} {w : Bytes} (h : ∃ c ∈ w, isDig c = false) : decL n ≠ w := by
  intro e
  obtain ⟨c, h1, h2⟩ := h
  rw [← e] at h1
  rw [decL_dig n c h1] at h2
  cases h2
theorem nameB_not_num {s : Bytes} (h : nameB s = true) : numB s = false := by
  rw [Bool.eq_false_iff]
  intro h2
  simp only [nameB, wordB, Bool.and_eq_true, decide_eq_true_eq, List.all_eq_true] at h
  simp only [numB, Bool.and_eq_true, List.all_eq_true, decide_eq_true_eq] at h2
  obtain ⟨c, s', rfl⟩ : ∃ c s', s = c :: s' := by
    cases s with
    | nil => exact absurd h.1.1.2 (by simp)
    | cons c s' => exact ⟨c, s', rfl⟩
  have h3 := let_not_dig (h.1.1.1 c (by simp))
  rw [h2.1.1.1.1 c (by simp)] at h3
  cases h3
theorem nameB_ne {s w : Bytes} (h : nameB s = true) (hw : ∃ c ∈ w, isLet c = false) : s ≠ w := by
  rintro rfl
  simp only [nameB, wordB, Bool.and_eq_true, List.all_eq_true] at h
  obtain ⟨c, h1, h2⟩ := hw
  rw [h.1.1.1 c h1] at h2
  cases h2
theorem Cl.of4 {st : Bool} {f : Nat} {e : E} (h : Cl4 st f e) (h3 : e.words 3 = e.words 4) (h2 : e.words 2 = e.words 3) (h1 : e.words 1 = e.words 2) : Cl st f e :=
  ⟨h, h.down h3, (h.down h3).down h2, ((h.down h3).down h2).down h1⟩
theorem atomW_leaf {st : Bool} {f : Nat} {w : Bytes} {r : List Bytes} (h : w ≠ [40]) : atomW st f (w :: r) = leafW st w r := by
  cases f <;> simp only [atomW] <;> rw [if_neg h]
/-- what was written is read back -/
theorem cl_any (st : Bool) : ∀ (e : E) (f : Nat), e.ok → e.ht ≤ f + 1 → Cl st f e
  | .num n, f, h, hf => by
    refine Cl.of4 ?_ rfl rfl rfl
    intro rest hr
    simp only [E.ok] at h
    refine ⟨rest.length, Nat.le_refl _, ?_⟩
    simp only [E.words, List.singleton_append]
    rw [atomW_leaf (decL_ne ⟨40, by simp, by decide⟩), leafW, if_pos (numB_iff.2 ⟨n, h, rfl⟩), digVal_dec]
    rfl
  | .nam s, f, h, hf => by
    refine Cl.of4 ?_ rfl rfl rfl
    intro rest hr
    simp only [E.ok] at h
    refine ⟨rest.length, Nat.le_refl _, ?_⟩
    simp only [E.words, List.singleton_append]
    rw [atomW_leaf (nameB_ne h ⟨40, by simp, by decide⟩), leafW, nameB_not_num h, h]
    rfl
  | .cast t a, f, h, hf => by
    simp only [E.ht] at hf
    refine Cl.of4 ?_ rfl rfl rfl
    intro rest hr
    obtain ⟨n, hn, h2⟩ := (cl_any st a f h (by omega)).c4 (cAs :: tyB t :: rest) (.cons (by decide))
    simp only [List.length_cons] at hn
    refine ⟨n - 1, by omega, ?_⟩
    simp only [E.words, List.append_assoc, List.cons_append, List.nil_append]
    rw [h2]
    obtain ⟨m, rfl⟩ : ∃ m, n = m + 1 := ⟨n - 1, by omega⟩
    simp only [asW]
    rw [if_pos trivial, if_pos (by rw [typeB_ty]; simp)]
    rfl
  | .two o a b, f, h, hf => by
    simp only [E.ht] at hf
    simp only [E.ok] at h
    have ha := cl_any st a f h.1 (by omega)
    have hb := cl_any st b f h.2 (by omega)
    have hp := a.ht_pos
    obtain ⟨g, rfl⟩ : ∃ g, f = g + 1 := ⟨f - 1, by omega⟩
    have h4 : Cl4 st (g + 1) (.two o a b) := two_four (two_one (cl_any st a g h.1 (by omega)) (cl_any st b g h.2 (by omega)))
    have hl := lv_bd o
    have h3 : Cl3 st (g + 1) (.two o a b) := by
      by_cases e : o.lv = 3
      · exact two_low3 e ha hb
      · exact h4.down ((words_high (t := 3) (by omega)).trans (words_high (t := 4) (by omega)).symm)
    have h2 : Cl2 st (g + 1) (.two o a b) := by
      by_cases e : o.lv = 2
      · exact two_low2 e ha hb
      · refine h3.down ?_
        by_cases e3 : o.lv = 3
        · rw [words_low (by omega), words_low (by omega)]
        · exact (words_high (t := 2) (by omega)).trans (words_high (t := 3) (by omega)).symm
    exact ⟨h4, h3, h2, two_one ha hb⟩
theorem read_back (st : Bool) {e : E} (h : e.ok) {f : Nat} (hf : e.ht ≤ f + 1) : lv1 st (atomW st f) (e.words 1) = some (e.ex, []) := by
  have := (cl_any st e f h hf).c1 [] (.nil 0)
  rwa [List.append_nil] at this
/-- words tell what they are of -/
theorem words_inj {e g : E} (he : e.ok) (hg : g.ok) (h : e.words 1 = g.words 1) : e = g := by
  have h1 := read_back true he (f := e.ht + g.ht) (by omega)
  have h2 := read_back true hg (f := e.ht + g.ht) (by omega)
  rw [h, h2] at h1
  exact (E.ex_inj (Prod.mk.inj (Option.some.inj h1)).1).symm
open Classical in
/-- what words are read as -/
noncomputable def rdE (ws : List Bytes) : Option E := if h : ws.length ≤ 40 ∧ ∃ e : E, e.Ok ∧ e.words 1 = ws then some h.2.choose else none
theorem rdE_some {ws : List Bytes} {e : E} (hl : ws.length ≤ 40) (he : e.Ok) (hw : e.words 1 = ws) : rdE ws = some e := by
  have h : ws.length ≤ 40 ∧ ∃ e : E, e.Ok ∧ e.words 1 = ws := ⟨hl, e, he, hw⟩
  unfold rdE
  rw [dif_pos h]
  have hs := h.2.choose_spec
  exact congrArg some (words_inj hs.1.1 he.1 (hs.2.trans hw.symm))
theorem rdE_iff {ws : List Bytes} {e : E} : rdE ws = some e ↔ ws.length ≤ 40 ∧ e.Ok ∧ e.words 1 = ws := by
  constructor
  · intro h
    unfold rdE at h
    split at h
    · rename_i hx
      obtain rfl := Option.some.inj h
      exact ⟨hx.1, hx.2.choose_spec⟩
    · cases h
  · rintro ⟨h1, h2, h3⟩
    exact rdE_some h1 h2 h3
/-- the answer of a reader: the tree, and whether it was one -/
noncomputable def rdX (ws : List Bytes) : Ex := match rdE ws with | some e => e.ex | none => Ex.none
noncomputable def rdOk (ws : List Bytes) : Bool := (rdE ws).isSome
theorem rd_long {ws : List Bytes} (h : ¬ ws.length ≤ 40) : rdE ws = none := by
  unfold rdE
  rw [dif_neg (fun hx => h hx.1)]
/-- read, and asked whether it was written so -/
theorem rd_yes {st : Bool} {f : Nat} {ws : List Bytes} {e : E} (hf : 4 ≤ f) (h : rdE ws = some e) : lv1 st (atomW st f) ws = some (e.ex, []) ∧ e.Ok ∧ e.words 1 = ws := by
  obtain ⟨_, h2, rfl⟩ := rdE_iff.1 h
  exact ⟨read_back st h2.1 (by have := h2.2.1; omega), h2, rfl⟩
end Go.Proofs.YtgakjhaepdigpaaGreatDoor
