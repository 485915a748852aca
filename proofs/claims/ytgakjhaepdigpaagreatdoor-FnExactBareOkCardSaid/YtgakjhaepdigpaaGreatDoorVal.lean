
/- What is reckoned comes to: the reference's and the program's. -/
import Derived.Test.YtgakjhaepdigpaaGreatDoorLasts
namespace Go.Proofs.YtgakjhaepdigpaaGreatDoor
set_option maxRecDepth 100000
set_option linter.unusedSimpArgs false
set_option linter.unusedVariables false
open Go.RowKit
attribute [local go_sem] bs_toList bs_get bs_size

def intRow (n : Int) : List Value := [.int .i64 n]
abbrev SlN := Sl intRow 1
theorem num_at {W : World} {B n c : Nat} {A : Option Addr} {l : List Int} {i : Nat} (h : SlN W B (.slice A n c) l) (hi : i < l.length) :
    ∃ b o x, A = some ⟨b, o, none⟩ ∧ b < B ∧ l[i]? = some x ∧ (∀ y : Later B W, y.w'.cell? ⟨b, o + i, none⟩ = some (.int .i64 x)) := by
  obtain ⟨A', c', hv, hc, hm, hh⟩ := h
  obtain ⟨rfl, _, rfl⟩ : A = A' ∧ n = l.length ∧ c = c' := by injection hv; exact ⟨‹_›, ‹_›, ‹_›⟩
  obtain ⟨b, o, rfl, hb, hcell⟩ := hh (by omega)
  have hg : l[i]? = some l[i] := List.getElem?_eq_getElem hi
  refine ⟨b, o, l[i], rfl, hb, hg, fun y => ?_⟩
  have := (y.ok.cell (p := ⟨b, o + i * 1 + 0, none⟩) (by simpa using hb)).trans (hcell i _ hg 0 _ rfl)
  simpa using this
def op2 (o : Op2) (x y : Int) : Int := match o with | .add => clampI (x + y) | .sub => clampI (x - y) | .mul => clampI (x * y) | .lt => if x < y then 1 else 0
namespace E
def va (names : List Bytes) (nums : List Int) : E → Option Int
  | num n => some n
  | nam s => match lastF s names 0 with | some i => some (clampI ((nums[i]?).getD 0)) | none => none
  | cast _ a => a.va names nums
  | two o a b => match a.va names nums, b.va names nums with | some x, some y => some (op2 o x y) | _, _ => none
end E
theorem op2_lt1 {x y : Int} (h : x < y) : op2 .lt x y = 1 := if_pos h
theorem op2_lt0 {x y : Int} (h : y ≤ x) : op2 .lt x y = 0 := if_neg (Int.not_lt.2 h)
theorem op2_bd (o : Op2) (x y : Int) : -1000000 ≤ op2 o x y ∧ op2 o x y ≤ 1000000 := by
  cases o <;> simp only [op2] <;> first | exact E.clampI_bd _ | (split <;> omega)
theorem va_bd {names : List Bytes} {nums : List Int} : ∀ {e : E} {n : Int}, e.ok → e.va names nums = some n → -1000000 ≤ n ∧ n ≤ 1000000
  | .num m, n, h, hv => by simp only [E.ok] at h; simp only [E.va, Option.some.injEq] at hv; omega
  | .nam s, n, h, hv => by
    simp only [E.va] at hv
    split at hv
    · obtain rfl := Option.some.inj hv; exact E.clampI_bd _
    · cases hv
  | .cast _ a, n, h, hv => va_bd (e := a) h hv
  | .two o a b, n, h, hv => by
    simp only [E.va] at hv
    split at hv
    · obtain rfl := Option.some.inj hv; exact op2_bd _ _ _
    · cases hv
theorem mul_bd {x y : Int} (hx : -1000000 ≤ x ∧ x ≤ 1000000) (hy : -1000000 ≤ y ∧ y ≤ 1000000) : -1000000000000 ≤ x * y ∧ x * y ≤ 1000000000000 := by
  have h1 : (x * y).natAbs = x.natAbs * y.natAbs := Int.natAbs_mul x y
  have h2 : x.natAbs * y.natAbs ≤ 1000000 * 1000000 := Nat.mul_le_mul (by omega) (by omega)
  omega
def ofVal (r : Option Int) : Value := match r with | some n => .tuple #[.int .i64 n, .bool true] | none => .tuple #[.int .i64 0, .bool false]
theorem imCut_any (n : Int) (w : World) : Calls Tryz.prog 150 #[.int .i64 n] w fun e w' => e = .returned (.int .i64 (clampI n)) ∧ w = w' := by
  go_enter Tryz.func150, Tryz.ntmps150
  go_wp2_with fail
  all_goals (go_ret; exact ⟨ret_int (by go_light; unfold clampI; omega), rfl⟩)
set_option maxHeartbeats 4000000 in
theorem imVa_any : ∀ (e : E) (v nv tv : Value) (names : List Bytes) (nums : List Int) (w : World), names.length = nums.length → names.length ≤ 1000 → e.ok → ExV w w.heap.size v e.ex → SlB w w.heap.size nv names → SlN w w.heap.size tv nums →
    Calls Tryz.prog 111 #[v, nv, tv] w fun r w' => r = .returned (ofVal (e.va names nums)) ∧ Below w.heap.size w w' := by
  intro e
  induction e with
  | num n =>
    intro v nv tv names nums w hl hn hok hv hnv htv
    clear hl hok
    obtain ⟨kv, rfl, hs, hk⟩ := hv
    obtain ⟨A, c, rfl, hc, hm⟩ := hk.val
    simp only [E.ex, Ex.kind, Ex.n, Ex.s, Ex.kids, List.length_nil]
    clear hk
    go_enter Tryz.func111, Tryz.ntmps111
    go_wp2_with fail
    go_ret2
    exact ⟨rfl, by (repeat (first | with_reducible assumption | with_reducible exact Below.refl _ _ | with_reducible refine Below.setCell ?_ (by first | omega | (simp; done) | (simp; omega)) _ | with_reducible refine Below.alloc ?_ (by first | omega | (simp; done) | (simp; omega)) _ | with_reducible refine below_drewN ?_ _ | with_reducible refine Below.drew ?_))⟩
  | nam s =>
    intro v nv tv names nums w hl hn hok hv hnv htv
    have HL := Lib.hid hl
    clear hl hok
    obtain ⟨kv, rfl, hs, hk⟩ := hv
    obtain ⟨A, c, rfl, hc, hm⟩ := hk.val
    simp only [E.ex, Ex.kind, Ex.n, Ex.s, Ex.kids, List.length_nil]
    clear hk
    have FC := Lib.hid (fun (w' : World) (h : Below w.heap.size w w') => imLast_any names s nv w' (hnv.ext h))
    obtain ⟨An, cn, rfl, _, _⟩ := hnv.val
    cases hlf : lastF s names 0 with
    | none =>
      have hli : lastI names s = -1 := by unfold lastI; rw [hlf]
      rw [hli] at FC
      obtain ⟨At, ct, rfl, _, _⟩ := htv.val
      have HR := Lib.hid (show ofVal ((E.nam s).va names nums) = .tuple #[.int .i64 0, .bool false] by simp only [E.va, hlf]; rfl)
      clear hli hlf
      go_enter Tryz.func111, Tryz.ntmps111
      go_wp2_with fail
      refine (FC.out _ (by (repeat (first | with_reducible assumption | with_reducible exact Below.refl _ _ | with_reducible refine Below.setCell ?_ (by first | omega | (simp; done) | (simp; omega)) _ | with_reducible refine Below.alloc ?_ (by first | omega | (simp; done) | (simp; omega)) _ | with_reducible refine below_drewN ?_ _ | with_reducible refine Below.drew ?_)))).mono ?_
      rintro r w1 ⟨rfl, hb1⟩
      go_wp2_with fail
      go_ret2
      exact ⟨congrArg Ending.returned HR.out.symm, by (repeat (first | with_reducible assumption | with_reducible exact Below.refl _ _ | with_reducible refine Below.setCell ?_ (by first | omega | (simp; done) | (simp; omega)) _ | with_reducible refine Below.alloc ?_ (by first | omega | (simp; done) | (simp; omega)) _ | with_reducible refine below_drewN ?_ _ | with_reducible refine Below.drew ?_ | with_reducible refine Below.trans ?_ (Below.mono hb1 (by first | omega | (simp; done) | (simp; omega)))))⟩
    | some i =>
      have hli : lastI names s = i := by unfold lastI; rw [hlf]
      have hlt := lastF_lt hlf
      rw [hli] at FC
      have htv0 := htv
      obtain ⟨At, ct, rfl, hct, hcm⟩ := htv.val
      have hi : i < nums.length := by have := HL.out; omega
      obtain ⟨b, o, x, rfl, hb, hg, f0⟩ := num_at htv0 hi
      have HR := Lib.hid (show ofVal ((E.nam s).va names nums) = .tuple #[.int .i64 (clampI x), .bool true] by simp only [E.va, hlf, hg]; rfl)
      clear hli hlf hg htv htv0
      go_enter Tryz.func111, Tryz.ntmps111
      go_wp2_with fail
      refine (FC.out _ (by (repeat (first | with_reducible assumption | with_reducible exact Below.refl _ _ | with_reducible refine Below.setCell ?_ (by first | omega | (simp; done) | (simp; omega)) _ | with_reducible refine Below.alloc ?_ (by first | omega | (simp; done) | (simp; omega)) _ | with_reducible refine below_drewN ?_ _ | with_reducible refine Below.drew ?_)))).mono ?_
      rintro r w1 ⟨rfl, hb1⟩
      have hbw : Below w.heap.size w w1 := by (repeat (first | with_reducible assumption | with_reducible exact Below.refl _ _ | with_reducible refine Below.setCell ?_ (by first | omega | (simp; done) | (simp; omega)) _ | with_reducible refine Below.alloc ?_ (by first | omega | (simp; done) | (simp; omega)) _ | with_reducible refine below_drewN ?_ _ | with_reducible refine Below.drew ?_ | with_reducible refine Below.trans ?_ (Below.mono hb1 (by first | omega | (simp; done) | (simp; omega)))))
      have g0 := f0 ⟨w1, hbw⟩
      clear f0
      go_wp2_with (first | (go_at_call 150; refine (imCut_any _ _).mono ?_; rintro r _ ⟨rfl, rfl⟩) | fail)
      go_ret2
      exact ⟨congrArg Ending.returned HR.out.symm, hbw⟩
  | cast t a iha =>
    intro v nv tv names nums w hl hn hok hv hnv htv
    have HL := Lib.hid hl
    clear hl
    obtain ⟨kv, rfl, hs, hk⟩ := hv
    obtain ⟨A, c, rfl, hc, hm⟩ := hk.val
    simp only [E.ex, Ex.kind, Ex.n, Ex.s, Ex.kids, List.length_cons, List.length_nil] at hc hk ⊢
    obtain ⟨b, o, p1, q1, s1, A1, c1, m1, rfl, hb, hg1, hs1, hm1, hc1, hk1, f0, f1, f2, f3⟩ := ex_at (i := 0) hk (by simp)
    have hex : a.ex = .mk p1 q1 s1 m1 := by simpa using hg1
    rw [bs_size] at hs1
    have IH := Lib.hid (show ∀ w' : World, Below w.heap.size w w' → Calls Tryz.prog 111 #[.agg #[.int .i64 p1, .int .i64 q1, .string (bs s1), .slice A1 m1.length c1], nv, tv] w' _ from fun w' h => iha _ nv tv names nums w' HL.out hn hok (by rw [hex]; exact ⟨_, rfl, hs1, hk1.ext h⟩) (hnv.ext h) (htv.ext h))
    obtain ⟨An, cn, rfl, _, _⟩ := hnv.val
    obtain ⟨At, ct, rfl, _, _⟩ := htv.val
    have hbw0 : Below w.heap.size w (w.alloc (.cells #[.int .i64 4, .int .i64 0, .string (bs (tyB t)), .slice (some ⟨b, o, none⟩) 1 c] 24)) := by (repeat (first | with_reducible assumption | with_reducible exact Below.refl _ _ | with_reducible refine Below.setCell ?_ (by first | omega | (simp; done) | (simp; omega)) _ | with_reducible refine Below.alloc ?_ (by first | omega | (simp; done) | (simp; omega)) _ | with_reducible refine below_drewN ?_ _ | with_reducible refine Below.drew ?_))
    have g0 := f0 ⟨_, hbw0⟩; have g1 := f1 ⟨_, hbw0⟩; have g2 := f2 ⟨_, hbw0⟩; have g3 := f3 ⟨_, hbw0⟩
    simp only [Nat.zero_mul, Nat.add_zero] at g0 g1 g2 g3
    clear iha hok
    have HR := Lib.hid (show ofVal ((E.cast t a).va names nums) = ofVal (a.va names nums) from rfl)
    generalize ofVal ((E.cast t a).va names nums) = res at *
    cases hva : a.va names nums
    all_goals
      rw [hva] at IH HR
      unfold ofVal at HR
      go_enter Tryz.func111, Tryz.ntmps111
      go_wp2_with fail
      refine (IH.out _ (by (repeat (first | with_reducible assumption | with_reducible exact Below.refl _ _ | with_reducible refine Below.setCell ?_ (by first | omega | (simp; done) | (simp; omega)) _ | with_reducible refine Below.alloc ?_ (by first | omega | (simp; done) | (simp; omega)) _ | with_reducible refine below_drewN ?_ _ | with_reducible refine Below.drew ?_)))).mono ?_
      rintro r w1 ⟨rfl, hb1⟩
      unfold ofVal
      go_wp2_with fail
      go_ret2
      exact ⟨congrArg Ending.returned HR.out.symm, by (repeat (first | with_reducible assumption | with_reducible exact Below.refl _ _ | with_reducible refine Below.setCell ?_ (by first | omega | (simp; done) | (simp; omega)) _ | with_reducible refine Below.alloc ?_ (by first | omega | (simp; done) | (simp; omega)) _ | with_reducible refine below_drewN ?_ _ | with_reducible refine Below.drew ?_ | with_reducible refine Below.trans ?_ (Below.mono hb1 (by first | omega | (simp; done) | (simp; omega)))))⟩
  | two op a b iha ihb =>
    intro v nv tv names nums w hl hn hok hv hnv htv
    have HL := Lib.hid hl
    clear hl
    obtain ⟨kv, rfl, hs, hk⟩ := hv
    obtain ⟨A, c, rfl, hc, hm⟩ := hk.val
    simp only [E.ex, Ex.kind, Ex.n, Ex.s, Ex.kids, List.length_cons, List.length_nil] at hc hk ⊢
    obtain ⟨b0, o0, p1, q1, s1, A1, c1, m1, rfl, hb, hg1, hs1, hm1, hc1, hk1, f0, f1, f2, f3⟩ := ex_at (i := 0) hk (by simp)
    obtain ⟨b0', o0', p2, q2, s2, A2, c2, m2, hAA, hb', hg2, hs2, hm2, hc2, hk2, e0, e1, e2, e3⟩ := ex_at (i := 1) hk (by simp)
    cases hAA
    have hexa : a.ex = .mk p1 q1 s1 m1 := by simpa using hg1
    have hexb : b.ex = .mk p2 q2 s2 m2 := by simpa using hg2
    rw [bs_size] at hs1 hs2
    have IHa := Lib.hid (show ∀ w' : World, Below w.heap.size w w' → Calls Tryz.prog 111 #[.agg #[.int .i64 p1, .int .i64 q1, .string (bs s1), .slice A1 m1.length c1], nv, tv] w' _ from fun w' h => iha _ nv tv names nums w' HL.out hn hok.1 (by rw [hexa]; exact ⟨_, rfl, hs1, hk1.ext h⟩) (hnv.ext h) (htv.ext h))
    have IHb := Lib.hid (show ∀ w' : World, Below w.heap.size w w' → Calls Tryz.prog 111 #[.agg #[.int .i64 p2, .int .i64 q2, .string (bs s2), .slice A2 m2.length c2], nv, tv] w' _ from fun w' h => ihb _ nv tv names nums w' HL.out hn hok.2 (by rw [hexb]; exact ⟨_, rfl, hs2, hk2.ext h⟩) (hnv.ext h) (htv.ext h))
    obtain ⟨An, cn, rfl, _, _⟩ := hnv.val
    obtain ⟨At, ct, rfl, _, _⟩ := htv.val
    have hbw0 : Below w.heap.size w (w.alloc (.cells #[.int .i64 3, .int .i64 0, .string (bs op.b), .slice (some ⟨b0, o0, none⟩) 2 c] 24)) := by (repeat (first | with_reducible assumption | with_reducible exact Below.refl _ _ | with_reducible refine Below.setCell ?_ (by first | omega | (simp; done) | (simp; omega)) _ | with_reducible refine Below.alloc ?_ (by first | omega | (simp; done) | (simp; omega)) _ | with_reducible refine below_drewN ?_ _ | with_reducible refine Below.drew ?_))
    have g0 := f0 ⟨_, hbw0⟩; have g1 := f1 ⟨_, hbw0⟩; have g2 := f2 ⟨_, hbw0⟩; have g3 := f3 ⟨_, hbw0⟩
    simp only [Nat.zero_mul, Nat.add_zero] at g0 g1 g2 g3
    have HE := Lib.hid (And.intro e0 (And.intro e1 (And.intro e2 e3)))
    have HB1 := Lib.hid (fun n (h : a.va names nums = some n) => va_bd hok.1 h)
    have HB2 := Lib.hid (fun n (h : b.va names nums = some n) => va_bd hok.2 h)
    have HV := Lib.hid (show (E.two op a b).va names nums = match a.va names nums, b.va names nums with | some x, some y => some (op2 op x y) | _, _ => none from rfl)
    clear iha ihb hexa hexb hg1 hg2 hk hk1 hk2 f0 f1 f2 f3 e0 e1 e2 e3 hnv htv hok
    generalize (E.two op a b).va names nums = res at *
    generalize a.va names nums = ra at *
    generalize b.va names nums = rb at *
    obtain rfl := HV.out
    clear HV
    cases ra with
    | none =>
      cases rb
      all_goals
        simp only [] at *
        unfold ofVal at *
        go_enter Tryz.func111, Tryz.ntmps111
        go_wp2_with fail
        refine (IHa.out _ (by (repeat (first | with_reducible assumption | with_reducible exact Below.refl _ _ | with_reducible refine Below.setCell ?_ (by first | omega | (simp; done) | (simp; omega)) _ | with_reducible refine Below.alloc ?_ (by first | omega | (simp; done) | (simp; omega)) _ | with_reducible refine below_drewN ?_ _ | with_reducible refine Below.drew ?_)))).mono ?_
        rintro r w1 ⟨rfl, hb1⟩
        have hz1 := hb1.size
        (try simp at hz1)
        have k1_0 := fun o => hb1.cell (p := ⟨w.heap.size, o, none⟩) (by first | omega | (simp; done) | (simp; omega)); have k1f_0 := fun o => hb1.frozen (p := ⟨w.heap.size, o, none⟩) (by first | omega | (simp; done) | (simp; omega))
        have hbw1 : Below w.heap.size w w1 := by (repeat (first | with_reducible assumption | with_reducible exact Below.refl _ _ | with_reducible refine Below.setCell ?_ (by first | omega | (simp; done) | (simp; omega)) _ | with_reducible refine Below.alloc ?_ (by first | omega | (simp; done) | (simp; omega)) _ | with_reducible refine below_drewN ?_ _ | with_reducible refine Below.drew ?_ | with_reducible refine Below.trans ?_ (Below.mono hb1 (by first | omega | (simp; done) | (simp; omega)))))
        obtain ⟨e0, e1, e2, e3⟩ := HE.out
        have h0 := e0 ⟨_, hbw1⟩; have h1 := e1 ⟨_, hbw1⟩; have h2 := e2 ⟨_, hbw1⟩; have h3 := e3 ⟨_, hbw1⟩
        simp only [Nat.one_mul] at h0 h1 h2 h3
        clear e0 e1 e2 e3 HE
        go_wp2_with fail
        refine (IHb.out _ hbw1).mono ?_
        rintro r w2 ⟨rfl, hb2⟩
        go_wp2_with fail
        go_ret2
        exact ⟨rfl, by (repeat (first | with_reducible assumption | with_reducible exact Below.refl _ _ | with_reducible refine Below.setCell ?_ (by first | omega | (simp; done) | (simp; omega)) _ | with_reducible refine Below.alloc ?_ (by first | omega | (simp; done) | (simp; omega)) _ | with_reducible refine below_drewN ?_ _ | with_reducible refine Below.drew ?_ | with_reducible refine Below.trans ?_ (Below.mono hb2 (by first | omega | (simp; done) | (simp; omega))) | with_reducible refine Below.trans ?_ (Below.mono hbw1 (by first | omega | (simp; done) | (simp; omega)))))⟩
    | some x =>
      cases rb with
      | none =>
        simp only [] at *
        unfold ofVal at *
        go_enter Tryz.func111, Tryz.ntmps111
        go_wp2_with fail
        refine (IHa.out _ (by (repeat (first | with_reducible assumption | with_reducible exact Below.refl _ _ | with_reducible refine Below.setCell ?_ (by first | omega | (simp; done) | (simp; omega)) _ | with_reducible refine Below.alloc ?_ (by first | omega | (simp; done) | (simp; omega)) _ | with_reducible refine below_drewN ?_ _ | with_reducible refine Below.drew ?_)))).mono ?_
        rintro r w1 ⟨rfl, hb1⟩
        have hz1 := hb1.size
        (try simp at hz1)
        have k1_0 := fun o => hb1.cell (p := ⟨w.heap.size, o, none⟩) (by first | omega | (simp; done) | (simp; omega)); have k1f_0 := fun o => hb1.frozen (p := ⟨w.heap.size, o, none⟩) (by first | omega | (simp; done) | (simp; omega))
        have hbw1 : Below w.heap.size w w1 := by (repeat (first | with_reducible assumption | with_reducible exact Below.refl _ _ | with_reducible refine Below.setCell ?_ (by first | omega | (simp; done) | (simp; omega)) _ | with_reducible refine Below.alloc ?_ (by first | omega | (simp; done) | (simp; omega)) _ | with_reducible refine below_drewN ?_ _ | with_reducible refine Below.drew ?_ | with_reducible refine Below.trans ?_ (Below.mono hb1 (by first | omega | (simp; done) | (simp; omega)))))
        obtain ⟨e0, e1, e2, e3⟩ := HE.out
        have h0 := e0 ⟨_, hbw1⟩; have h1 := e1 ⟨_, hbw1⟩; have h2 := e2 ⟨_, hbw1⟩; have h3 := e3 ⟨_, hbw1⟩
        simp only [Nat.one_mul] at h0 h1 h2 h3
        clear e0 e1 e2 e3 HE
        go_wp2_with fail
        refine (IHb.out _ hbw1).mono ?_
        rintro r w2 ⟨rfl, hb2⟩
        go_wp2_with fail
        go_ret2
        exact ⟨rfl, by (repeat (first | with_reducible assumption | with_reducible exact Below.refl _ _ | with_reducible refine Below.setCell ?_ (by first | omega | (simp; done) | (simp; omega)) _ | with_reducible refine Below.alloc ?_ (by first | omega | (simp; done) | (simp; omega)) _ | with_reducible refine below_drewN ?_ _ | with_reducible refine Below.drew ?_ | with_reducible refine Below.trans ?_ (Below.mono hb2 (by first | omega | (simp; done) | (simp; omega))) | with_reducible refine Below.trans ?_ (Below.mono hbw1 (by first | omega | (simp; done) | (simp; omega)))))⟩
      | some y =>
        have hx := HB1.out x rfl
        have hy := HB2.out y rfl
        simp only [] at *
        unfold ofVal at *
        clear HB1 HB2
        have hm := mul_bd hx hy
        have q1 : IntKind.i64.wrap (x + y) = x + y := by rw [IntKind.wrap_i64]; omega
        have q2 : IntKind.i64.wrap (x - y) = x - y := by rw [IntKind.wrap_i64]; omega
        have q3 : IntKind.i64.wrap (x * y) = x * y := by rw [IntKind.wrap_i64]; omega
        clear hm
        cases op
        case lt =>
          by_cases hlt : x < y
          · have d1 : decide (x < y) = true := by simpa using hlt
            have HL := Lib.hid hlt
            clear hlt
            go_enter Tryz.func111, Tryz.ntmps111
            go_wp2_with fail
            refine (IHa.out _ (by (repeat (first | with_reducible assumption | with_reducible exact Below.refl _ _ | with_reducible refine Below.setCell ?_ (by first | omega | (simp; done) | (simp; omega)) _ | with_reducible refine Below.alloc ?_ (by first | omega | (simp; done) | (simp; omega)) _ | with_reducible refine below_drewN ?_ _ | with_reducible refine Below.drew ?_)))).mono ?_
            rintro r w1 ⟨rfl, hb1⟩
            have hz1 := hb1.size
            (try simp at hz1)
            have k1_0 := fun o => hb1.cell (p := ⟨w.heap.size, o, none⟩) (by first | omega | (simp; done) | (simp; omega)); have k1f_0 := fun o => hb1.frozen (p := ⟨w.heap.size, o, none⟩) (by first | omega | (simp; done) | (simp; omega))
            have hbw1 : Below w.heap.size w w1 := by (repeat (first | with_reducible assumption | with_reducible exact Below.refl _ _ | with_reducible refine Below.setCell ?_ (by first | omega | (simp; done) | (simp; omega)) _ | with_reducible refine Below.alloc ?_ (by first | omega | (simp; done) | (simp; omega)) _ | with_reducible refine below_drewN ?_ _ | with_reducible refine Below.drew ?_ | with_reducible refine Below.trans ?_ (Below.mono hb1 (by first | omega | (simp; done) | (simp; omega)))))
            obtain ⟨e0, e1, e2, e3⟩ := HE.out
            have h0 := e0 ⟨_, hbw1⟩; have h1 := e1 ⟨_, hbw1⟩; have h2 := e2 ⟨_, hbw1⟩; have h3 := e3 ⟨_, hbw1⟩
            simp only [Nat.one_mul] at h0 h1 h2 h3
            clear e0 e1 e2 e3 HE
            simp only [Op2.b]
            go_wp2_with fail
            refine (IHb.out _ hbw1).mono ?_
            rintro r w2 ⟨rfl, hb2⟩
            have hz2 := hb2.size
            have k2_0 := fun o => hb2.cell (p := ⟨w.heap.size, o, none⟩) (by first | omega | (simp; done) | (simp; omega)); have k2f_0 := fun o => hb2.frozen (p := ⟨w.heap.size, o, none⟩) (by first | omega | (simp; done) | (simp; omega))
            simp only [Op2.b]
            go_wp2_with fail
            go_ret2
            exact ⟨congrArg (fun n => Ending.returned (.tuple #[.int .i64 n, .bool true])) (op2_lt1 HL.out).symm, by (repeat (first | with_reducible assumption | with_reducible exact Below.refl _ _ | with_reducible refine Below.setCell ?_ (by first | omega | (simp; done) | (simp; omega)) _ | with_reducible refine Below.alloc ?_ (by first | omega | (simp; done) | (simp; omega)) _ | with_reducible refine below_drewN ?_ _ | with_reducible refine Below.drew ?_ | with_reducible refine Below.trans ?_ (Below.mono hb2 (by first | omega | (simp; done) | (simp; omega))) | with_reducible refine Below.trans ?_ (Below.mono hbw1 (by first | omega | (simp; done) | (simp; omega)))))⟩
          · have d1 : decide (x < y) = false := by simpa using hlt
            have HL := Lib.hid (Int.not_lt.1 hlt)
            clear hlt
            go_enter Tryz.func111, Tryz.ntmps111
            go_wp2_with fail
            refine (IHa.out _ (by (repeat (first | with_reducible assumption | with_reducible exact Below.refl _ _ | with_reducible refine Below.setCell ?_ (by first | omega | (simp; done) | (simp; omega)) _ | with_reducible refine Below.alloc ?_ (by first | omega | (simp; done) | (simp; omega)) _ | with_reducible refine below_drewN ?_ _ | with_reducible refine Below.drew ?_)))).mono ?_
            rintro r w1 ⟨rfl, hb1⟩
            have hz1 := hb1.size
            (try simp at hz1)
            have k1_0 := fun o => hb1.cell (p := ⟨w.heap.size, o, none⟩) (by first | omega | (simp; done) | (simp; omega)); have k1f_0 := fun o => hb1.frozen (p := ⟨w.heap.size, o, none⟩) (by first | omega | (simp; done) | (simp; omega))
            have hbw1 : Below w.heap.size w w1 := by (repeat (first | with_reducible assumption | with_reducible exact Below.refl _ _ | with_reducible refine Below.setCell ?_ (by first | omega | (simp; done) | (simp; omega)) _ | with_reducible refine Below.alloc ?_ (by first | omega | (simp; done) | (simp; omega)) _ | with_reducible refine below_drewN ?_ _ | with_reducible refine Below.drew ?_ | with_reducible refine Below.trans ?_ (Below.mono hb1 (by first | omega | (simp; done) | (simp; omega)))))
            obtain ⟨e0, e1, e2, e3⟩ := HE.out
            have h0 := e0 ⟨_, hbw1⟩; have h1 := e1 ⟨_, hbw1⟩; have h2 := e2 ⟨_, hbw1⟩; have h3 := e3 ⟨_, hbw1⟩
            simp only [Nat.one_mul] at h0 h1 h2 h3
            clear e0 e1 e2 e3 HE
            simp only [Op2.b]
            go_wp2_with fail
            refine (IHb.out _ hbw1).mono ?_
            rintro r w2 ⟨rfl, hb2⟩
            have hz2 := hb2.size
            have k2_0 := fun o => hb2.cell (p := ⟨w.heap.size, o, none⟩) (by first | omega | (simp; done) | (simp; omega)); have k2f_0 := fun o => hb2.frozen (p := ⟨w.heap.size, o, none⟩) (by first | omega | (simp; done) | (simp; omega))
            simp only [Op2.b]
            go_wp2_with fail
            go_ret2
            exact ⟨congrArg (fun n => Ending.returned (.tuple #[.int .i64 n, .bool true])) (op2_lt0 HL.out).symm, by (repeat (first | with_reducible assumption | with_reducible exact Below.refl _ _ | with_reducible refine Below.setCell ?_ (by first | omega | (simp; done) | (simp; omega)) _ | with_reducible refine Below.alloc ?_ (by first | omega | (simp; done) | (simp; omega)) _ | with_reducible refine below_drewN ?_ _ | with_reducible refine Below.drew ?_ | with_reducible refine Below.trans ?_ (Below.mono hb2 (by first | omega | (simp; done) | (simp; omega))) | with_reducible refine Below.trans ?_ (Below.mono hbw1 (by first | omega | (simp; done) | (simp; omega)))))⟩
        all_goals
          go_enter Tryz.func111, Tryz.ntmps111
          go_wp2_with fail
          refine (IHa.out _ (by (repeat (first | with_reducible assumption | with_reducible exact Below.refl _ _ | with_reducible refine Below.setCell ?_ (by first | omega | (simp; done) | (simp; omega)) _ | with_reducible refine Below.alloc ?_ (by first | omega | (simp; done) | (simp; omega)) _ | with_reducible refine below_drewN ?_ _ | with_reducible refine Below.drew ?_)))).mono ?_
          rintro r w1 ⟨rfl, hb1⟩
          have hz1 := hb1.size
          (try simp at hz1)
          have k1_0 := fun o => hb1.cell (p := ⟨w.heap.size, o, none⟩) (by first | omega | (simp; done) | (simp; omega)); have k1f_0 := fun o => hb1.frozen (p := ⟨w.heap.size, o, none⟩) (by first | omega | (simp; done) | (simp; omega))
          have hbw1 : Below w.heap.size w w1 := by (repeat (first | with_reducible assumption | with_reducible exact Below.refl _ _ | with_reducible refine Below.setCell ?_ (by first | omega | (simp; done) | (simp; omega)) _ | with_reducible refine Below.alloc ?_ (by first | omega | (simp; done) | (simp; omega)) _ | with_reducible refine below_drewN ?_ _ | with_reducible refine Below.drew ?_ | with_reducible refine Below.trans ?_ (Below.mono hb1 (by first | omega | (simp; done) | (simp; omega)))))
          obtain ⟨e0, e1, e2, e3⟩ := HE.out
          have h0 := e0 ⟨_, hbw1⟩; have h1 := e1 ⟨_, hbw1⟩; have h2 := e2 ⟨_, hbw1⟩; have h3 := e3 ⟨_, hbw1⟩
          simp only [Nat.one_mul] at h0 h1 h2 h3
          clear e0 e1 e2 e3 HE
          simp only [Op2.b]
          go_wp2_with fail
          refine (IHb.out _ hbw1).mono ?_
          rintro r w2 ⟨rfl, hb2⟩
          have hz2 := hb2.size
          have k2_0 := fun o => hb2.cell (p := ⟨w.heap.size, o, none⟩) (by first | omega | (simp; done) | (simp; omega)); have k2f_0 := fun o => hb2.frozen (p := ⟨w.heap.size, o, none⟩) (by first | omega | (simp; done) | (simp; omega))
          simp only [Op2.b]
          go_wp2_with (first | (go_at_call 150; refine (imCut_any _ _).mono ?_; rintro r _ ⟨rfl, rfl⟩) | fail)
          go_ret2
          exact ⟨rfl, by (repeat (first | with_reducible assumption | with_reducible exact Below.refl _ _ | with_reducible refine Below.setCell ?_ (by first | omega | (simp; done) | (simp; omega)) _ | with_reducible refine Below.alloc ?_ (by first | omega | (simp; done) | (simp; omega)) _ | with_reducible refine below_drewN ?_ _ | with_reducible refine Below.drew ?_ | with_reducible refine Below.trans ?_ (Below.mono hb2 (by first | omega | (simp; done) | (simp; omega))) | with_reducible refine Below.trans ?_ (Below.mono hbw1 (by first | omega | (simp; done) | (simp; omega)))))⟩
end Go.Proofs.YtgakjhaepdigpaaGreatDoor
