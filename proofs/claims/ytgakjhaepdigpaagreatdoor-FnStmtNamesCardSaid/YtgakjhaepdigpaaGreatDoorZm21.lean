/- Whether a line has the types that it must have: plain Lean, and the reference's and the program's. -/
import Derived.Test.YtgakjhaepdigpaaGreatDoorLasts
import Derived.Test.YtgakjhaepdigpaaGreatDoorImSs
import Derived.Test.YtgakjhaepdigpaaGreatDoorBas
namespace Go.Proofs.YtgakjhaepdigpaaGreatDoor
set_option maxRecDepth 100000
set_option linter.unusedSimpArgs false
set_option linter.unusedVariables false
open Go.RowKit
attribute [local go_sem] bs_toList bs_get bs_size

def fitsE (names types : List Bytes) : SE → Bool
  | .none => true
  | .slet _ t e => e.ty names types == tyB t
  | .say e => !(e.ty names types == [])
  | .when a b => a.ty names types == cBool && !(b.ty names types == [])
open Classical in
noncomputable def smFits (s : Sm) (names types : List Bytes) : Bool := if h : ∃ t : SE, s = t.sm ∧ t.form then fitsE names types h.choose else false
theorem smFits_se {t : SE} (h : t.form) (names types : List Bytes) : smFits t.sm names types = fitsE names types t := by
  have hx : ∃ u : SE, t.sm = u.sm ∧ u.form := ⟨t, rfl, h⟩
  unfold smFits
  rw [dif_pos hx]
  exact congrArg (fitsE names types) (SE.sm_inj hx.choose_spec.1).symm
def letN (s : Sm) : List Bytes := if s.kind = 1 then [s.name] else []
def letT (s : Sm) : List Bytes := if s.kind = 1 then [s.typ] else []
/-- the first line that is not as it must be -/
noncomputable def prT : List Sm → Nat → List Bytes → List Bytes → Int
  | [], _, _, _ => -1
  | s :: r, i, names, types => if smFits s names types then prT r (i + 1) (names ++ letN s) (types ++ letT s) else i
theorem prT_no {l : List Sm} {j : Nat} {s : Sm} {names types : List Bytes} (h : l[j]? = some s) (hf : smFits s names types = false) : prT (l.drop j) j names types = j := by
  have hi := (List.getElem?_eq_some_iff.1 h).1
  have he : l[j] = s := by rw [List.getElem?_eq_getElem hi] at h; exact Option.some.inj h
  rw [List.drop_eq_getElem_cons hi, he, prT, hf]
  rfl
theorem prT_yes {l : List Sm} {j : Nat} {s : Sm} {names types : List Bytes} (h : l[j]? = some s) (hf : smFits s names types = true) : prT (l.drop j) j names types = prT (l.drop (j + 1)) (j + 1) (names ++ letN s) (types ++ letT s) := by
  have hi := (List.getElem?_eq_some_iff.1 h).1
  have he : l[j] = s := by rw [List.getElem?_eq_getElem hi] at h; exact Option.some.inj h
  rw [List.drop_eq_getElem_cons hi, he, prT, hf]
  rfl
/-! ### the program's -/
theorem E.ex_ne (e : E) : e.ex ≠ Ex.none := by cases e <;> simp [E.ex, Ex.none]
end Go.Proofs.YtgakjhaepdigpaaGreatDoor


/- A statement in a slice of statements: its eleven cells, in every later world. No condition. -/
namespace Go.Proofs.YtgakjhaepdigpaaGreatDoor
set_option maxRecDepth 100000
set_option linter.unusedSimpArgs false
set_option linter.unusedVariables false
open Go.RowKit

theorem sm_at2 {W : World} {B n c : Nat} {A : Option Addr} {l : List Sm} {i : Nat} (h : SmS W B (.slice A n c) l) (hi : i < l.length) :
    ∃ (b o : Nat) (s : Sm) (A1 A2 : Option Addr) (c1 c2 : Nat), A = some ⟨b, o, none⟩ ∧ b < B ∧ l[i]? = some s ∧ SmV W B (.agg #[.int .i64 s.kind, .string (bs s.name), .string (bs s.typ), .int .i64 s.ex.kind, .int .i64 s.ex.n, .string (bs s.ex.s), .slice A1 s.ex.kids.length c1, .int .i64 s.th.kind, .int .i64 s.th.n, .string (bs s.th.s), .slice A2 s.th.kids.length c2]) s ∧
      (∀ x : Later B W, x.w'.cell? ⟨b, o + i * 11, none⟩ = some (.int .i64 s.kind)) ∧ (∀ x : Later B W, x.w'.cell? ⟨b, o + i * 11 + 1, none⟩ = some (.string (bs s.name))) ∧ (∀ x : Later B W, x.w'.cell? ⟨b, o + i * 11 + 2, none⟩ = some (.string (bs s.typ))) ∧
      (∀ x : Later B W, x.w'.cell? ⟨b, o + i * 11 + 3, none⟩ = some (.int .i64 s.ex.kind)) ∧ (∀ x : Later B W, x.w'.cell? ⟨b, o + i * 11 + 4, none⟩ = some (.int .i64 s.ex.n)) ∧ (∀ x : Later B W, x.w'.cell? ⟨b, o + i * 11 + 5, none⟩ = some (.string (bs s.ex.s))) ∧
      (∀ x : Later B W, x.w'.cell? ⟨b, o + i * 11 + 6, none⟩ = some (.slice A1 s.ex.kids.length c1)) ∧ (∀ x : Later B W, x.w'.cell? ⟨b, o + i * 11 + 7, none⟩ = some (.int .i64 s.th.kind)) ∧ (∀ x : Later B W, x.w'.cell? ⟨b, o + i * 11 + 8, none⟩ = some (.int .i64 s.th.n)) ∧
      (∀ x : Later B W, x.w'.cell? ⟨b, o + i * 11 + 9, none⟩ = some (.string (bs s.th.s))) ∧ (∀ x : Later B W, x.w'.cell? ⟨b, o + i * 11 + 10, none⟩ = some (.slice A2 s.th.kids.length c2)) := by
  obtain ⟨b, o, f, s, hA, hb, hg, hF, hc⟩ := sm_at h hi
  obtain ⟨h1, h2, h3, h4, h5, h6, h7, h8, h9, h10, h11, h12, h13, h14, h15⟩ := hF
  obtain ⟨A1, c1, e1, _, _⟩ := h14.val
  obtain ⟨A2, c2, e2, _, _⟩ := h15.val
  have hrow : fsRow f = [.int .i64 s.kind, .string (bs s.name), .string (bs s.typ), .int .i64 s.ex.kind, .int .i64 s.ex.n, .string (bs s.ex.s), .slice A1 s.ex.kids.length c1, .int .i64 s.th.kind, .int .i64 s.th.n, .string (bs s.th.s), .slice A2 s.th.kids.length c2] := by
    simp only [fsRow, h1, h2, h3, h4, h5, h6, h7, h8, h9, e1, e2]
  rw [hrow] at hc
  exact ⟨b, o, s, A1, A2, c1, c2, hA, hb, hg, ⟨f, by rw [hrow], h1, h2, h3, h4, h5, h6, h7, h8, h9, h10, h11, h12, h13, h14, h15⟩,
    hc 0 _ rfl, hc 1 _ rfl, hc 2 _ rfl, hc 3 _ rfl, hc 4 _ rfl, hc 5 _ rfl, hc 6 _ rfl, hc 7 _ rfl, hc 8 _ rfl, hc 9 _ rfl, hc 10 _ rfl⟩
/-- lines that are a program -/
noncomputable def progOkB (l : List Sm) : Bool := l.all smOkB && decide (1 ≤ l.length) && decide (l.length ≤ 16)
end Go.Proofs.YtgakjhaepdigpaaGreatDoor


/- Programs: the program's and the reference's test. -/
namespace Go.Proofs.YtgakjhaepdigpaaGreatDoor
set_option maxRecDepth 100000
set_option linter.unusedSimpArgs false
set_option linter.unusedVariables false
open Go.RowKit
attribute [local go_sem] bs_toList bs_get bs_size

theorem all_of {l : List Sm} (h : ∀ t x, t < l.length → l[t]? = some x → smOkB x = true) : l.all smOkB = true := by
  rw [List.all_eq_true]
  intro x hx
  obtain ⟨t, ht⟩ := List.mem_iff_getElem?.1 hx
  exact h t x (List.getElem?_eq_some_iff.1 ht).1 ht
theorem not_all_of {l : List Sm} {t : Nat} {x : Sm} (hx : l[t]? = some x) (h : smOkB x = false) : l.all smOkB = false := by
  rw [List.all_eq_false]
  exact ⟨x, List.mem_of_getElem? hx, by rw [h]; decide⟩
theorem spProgOk_any (l : List Sm) (v : Value) (W : World) (hv : SmS W W.heap.size v l) : Calls Tryz.prog 43 #[v] W fun r w' => r = .returned (.bool (progOkB l)) ∧ Below W.heap.size W w' := by
  obtain ⟨A, c, rfl, hc, hm⟩ := hv.val
  go_enter Tryz.func43, Tryz.ntmps43
  go_wp2_with fail
  go_loopg [3] l.length (fun k i wr => ∃ j : Nat, k = l.length - j ∧ j ≤ l.length ∧ i = .int .i64 j ∧ (∀ t x, t < j → l[t]? = some x → smOkB x = true) ∧ Below W.heap.size W wr)
  case atStart => exact ⟨0, by omega, by omega, rfl, fun t x h => by omega, Below.refl _ _⟩
  case round =>
    obtain ⟨j, hk, hj, rfl, ha, hbl⟩ := hrel
    have HK := Lib.hid (And.intro hk ha)
    clear hk ha
    by_cases hlt : j < l.length
    · obtain ⟨b, o, s, A1, A2, c1, c2, rfl, hb, hg, hS, f0, f1, f2, f3, f4, f5, f6, f7, f8, f9, f10⟩ := sm_at2 hv hlt
      have g0 := f0 ⟨wr, hbl⟩; have g1 := f1 ⟨wr, hbl⟩; have g2 := f2 ⟨wr, hbl⟩; have g3 := f3 ⟨wr, hbl⟩; have g4 := f4 ⟨wr, hbl⟩; have g5 := f5 ⟨wr, hbl⟩; have g6 := f6 ⟨wr, hbl⟩; have g7 := f7 ⟨wr, hbl⟩; have g8 := f8 ⟨wr, hbl⟩; have g9 := f9 ⟨wr, hbl⟩; have g10 := f10 ⟨wr, hbl⟩
      have HG := Lib.hid hg
      have hcall := spStmtOk_any s _ wr ((hS.keep hbl (Nat.le_refl _)).more hbl.size)
      clear f0 f1 f2 f3 f4 f5 f6 f7 f8 f9 f10 hg hS
      by_cases ho : smOkB s = true
      · rw [ho] at hcall
        have HC := Lib.hid (And.intro hcall ho)
        clear hcall ho
        go_wp2_with fail
        refine HC.out.1.mono ?_
        rintro r w1 ⟨rfl, hb1⟩
        go_wp2_with fail
        go_roundg (l.length - (j + 1))
        case measure => have := HK.out.1; omega
        case rel => exact ⟨j + 1, rfl, by omega, by go_num, fun t x ht hx => by
          by_cases e : t = j
          · subst e
            rw [HG.out] at hx
            obtain rfl := Option.some.inj hx
            exact HC.out.2
          · exact HK.out.2 t x (by omega) hx, hbl.ext hb1⟩
      · have ho2 : smOkB s = false := by simpa using ho
        rw [ho2] at hcall
        have HC := Lib.hid (And.intro hcall ho2)
        clear hcall ho ho2
        go_wp2_with fail
        refine HC.out.1.mono ?_
        rintro r w1 ⟨rfl, hb1⟩
        go_wp2_with fail
        go_ret
        exact ⟨ret_bool (by unfold progOkB; rw [not_all_of HG.out HC.out.2]; rfl), hbl.ext hb1⟩
    · obtain rfl : j = l.length := by omega
      have hr : progOkB l = (decide (1 ≤ l.length) && decide (l.length ≤ 16)) := by unfold progOkB; rw [all_of HK.out.2, Bool.true_and]
      have HR := Lib.hid hr
      clear hr
      go_wp2_with fail
      all_goals
        go_ret
        refine ⟨ret_bool ?_, hbl⟩
        rw [HR.out, Bool.eq_iff_iff]
        go_light
        simp
        omega
theorem imPOk1_any (s : Sm) (v : Value) (w : World) (hv : SmV w w.heap.size v s) (hE : Env w) : Calls Tryz.prog 108 #[v] w fun r w' => r = .returned (.bool (!smOkB s)) ∧ Below w.heap.size w w' := by
  have C1 := Lib.hid (fun (w' : World) (h : Below w.heap.size w w') => imStmtOk_any s _ w' ((hv.keep h (Nat.le_refl _)).more h.size) (hE.ext h))
  obtain ⟨A1, A2, c1, c2, rfl, hn, ht, hE1, hE2⟩ := hv.form2
  clear hE1 hE2 hE
  generalize smOkB s = so at *
  go_enter Tryz.func108, Tryz.ntmps108
  go_wp2_with fail
  refine (C1.out _ (by (repeat (first | with_reducible assumption | with_reducible exact Below.refl _ _ | with_reducible refine Below.setCell ?_ (by first | omega | (simp; done) | (simp; omega)) _ | with_reducible refine Below.alloc ?_ (by first | omega | (simp; done) | (simp; omega)) _ | with_reducible refine below_drewN ?_ _ | with_reducible refine Below.drew ?_)))).mono ?_
  rintro r w1 ⟨rfl, hb1⟩
  go_wp2_with fail
  go_ret
  exact ⟨rfl, by (repeat (first | with_reducible assumption | with_reducible exact Below.refl _ _ | with_reducible refine Below.setCell ?_ (by first | omega | (simp; done) | (simp; omega)) _ | with_reducible refine Below.alloc ?_ (by first | omega | (simp; done) | (simp; omega)) _ | with_reducible refine below_drewN ?_ _ | with_reducible refine Below.drew ?_ | with_reducible refine Below.trans ?_ (Below.mono hb1 (by first | omega | (simp; done) | (simp; omega)))))⟩
theorem imPIdx_any (l : List Sm) (v : Value) (W : World) (hv : SmS W W.heap.size v l) (hE : Env W) :
    Calls Tryz.prog 148 #[v, .func (.func 108) #[] #[]] W fun r w' => (∃ i : Int, r = .returned (.int .i64 i) ∧ decide (0 ≤ i) = !(l.all smOkB)) ∧ Below W.heap.size W w' := by
  obtain ⟨A, c, rfl, hc, hm⟩ := hv.val
  have EV := Lib.hid (fun (w' : World) (h : Below W.heap.size W w') => hE.ext h)
  clear hE
  go_enter Tryz.func148, Tryz.ntmps148
  go_wp2_with fail
  go_loopg [8] l.length (fun k i wr => ∃ j : Nat, k = l.length - j ∧ j ≤ l.length ∧ i = .int .i64 j ∧ (∀ t x, t < j → l[t]? = some x → smOkB x = true) ∧ Below W.heap.size W wr)
  case atStart => exact ⟨0, by omega, by omega, rfl, fun t x h => by omega, Below.refl _ _⟩
  case round =>
    obtain ⟨j, hk, hj, rfl, ha, hbl⟩ := hrel
    have HK := Lib.hid (And.intro hk ha)
    clear hk ha
    by_cases hlt : j < l.length
    · obtain ⟨b, o, s, A1, A2, c1, c2, rfl, hb, hg, hS, f0, f1, f2, f3, f4, f5, f6, f7, f8, f9, f10⟩ := sm_at2 hv hlt
      have g0 := f0 ⟨wr, hbl⟩; have g1 := f1 ⟨wr, hbl⟩; have g2 := f2 ⟨wr, hbl⟩; have g3 := f3 ⟨wr, hbl⟩; have g4 := f4 ⟨wr, hbl⟩; have g5 := f5 ⟨wr, hbl⟩; have g6 := f6 ⟨wr, hbl⟩; have g7 := f7 ⟨wr, hbl⟩; have g8 := f8 ⟨wr, hbl⟩; have g9 := f9 ⟨wr, hbl⟩; have g10 := f10 ⟨wr, hbl⟩
      have HG := Lib.hid hg
      have hcall := imPOk1_any s _ wr ((hS.keep hbl (Nat.le_refl _)).more hbl.size) (EV.out _ hbl)
      clear f0 f1 f2 f3 f4 f5 f6 f7 f8 f9 f10 hg hS
      by_cases ho : smOkB s = true
      · rw [ho] at hcall
        have HC := Lib.hid (And.intro hcall ho)
        clear hcall ho
        go_wp2_with fail
        refine HC.out.1.mono ?_
        rintro r w1 ⟨rfl, hb1⟩
        go_wp2_with fail
        go_roundg (l.length - (j + 1))
        case measure => have := HK.out.1; omega
        case rel => exact ⟨j + 1, rfl, by omega, by go_num, fun t x ht hx => by
          by_cases e : t = j
          · subst e
            rw [HG.out] at hx
            obtain rfl := Option.some.inj hx
            exact HC.out.2
          · exact HK.out.2 t x (by omega) hx, hbl.ext hb1⟩
      · have ho2 : smOkB s = false := by simpa using ho
        rw [ho2] at hcall
        have HC := Lib.hid (And.intro hcall ho2)
        clear hcall ho ho2
        go_wp2_with fail
        refine HC.out.1.mono ?_
        rintro r w1 ⟨rfl, hb1⟩
        go_wp2_with fail
        go_ret
        exact ⟨⟨_, rfl, by rw [not_all_of HG.out HC.out.2]; simp⟩, hbl.ext hb1⟩
    · obtain rfl : j = l.length := by omega
      go_wp2_with fail
      go_ret
      exact ⟨⟨_, rfl, by rw [all_of HK.out.2]; simp⟩, hbl⟩
theorem imPCon_any (l : List Sm) (v : Value) (W : World) (hv : SmS W W.heap.size v l) (hE : Env W) :
    Calls Tryz.prog 107 #[v, .func (.func 108) #[] #[]] W fun r w' => r = .returned (.bool (!(l.all smOkB))) ∧ Below W.heap.size W w' := by
  have C1 := Lib.hid (imPIdx_any l v W hv hE)
  obtain ⟨A, c, rfl, hc, hm⟩ := hv.val
  generalize l.all smOkB = q at *
  clear hE
  go_enter Tryz.func107, Tryz.ntmps107
  go_wp2_with fail
  refine C1.out.mono ?_
  rintro r w1 ⟨⟨i, rfl, hi⟩, hb1⟩
  go_wp2_with fail
  go_ret
  exact ⟨rfl, hb1⟩
theorem imProgOk_any (l : List Sm) (v : Value) (W : World) (hv : SmS W W.heap.size v l) (hE : Env W) : Calls Tryz.prog 50 #[v] W fun r w' => r = .returned (.bool (progOkB l)) ∧ Below W.heap.size W w' := by
  have C1 := Lib.hid (imPCon_any l v W hv hE)
  obtain ⟨A, c, rfl, hc, hm⟩ := hv.val
  have HR := Lib.hid (show progOkB l = (l.all smOkB && decide (1 ≤ l.length) && decide (l.length ≤ 16)) from rfl)
  generalize l.all smOkB = q at *
  generalize progOkB l = pr at *
  clear hE
  go_enter Tryz.func50, Tryz.ntmps50
  go_wp2_with (first
    | (go_at_call 106; refine (inB_any _ _ _ _).mono ?_; rintro r _ ⟨rfl, rfl⟩)
    | (go_at_call 107; refine C1.out.mono ?_; rintro r w1 ⟨rfl, hb1⟩)
    | fail)
  all_goals
    go_ret
    refine ⟨ret_bool ?_, by (repeat (first | with_reducible assumption | with_reducible exact Below.refl _ _ | with_reducible refine Below.setCell ?_ (by first | omega | (simp; done) | (simp; omega)) _ | with_reducible refine Below.alloc ?_ (by first | omega | (simp; done) | (simp; omega)) _ | with_reducible refine below_drewN ?_ _ | with_reducible refine Below.drew ?_ | with_reducible refine Below.trans ?_ (Below.mono hb1 (by first | omega | (simp; done) | (simp; omega)))))⟩
    rw [HR.out, Bool.eq_iff_iff]
    clear C1 HR
    go_light
    cases q <;> simp_all <;> (try omega)
end Go.Proofs.YtgakjhaepdigpaaGreatDoor
