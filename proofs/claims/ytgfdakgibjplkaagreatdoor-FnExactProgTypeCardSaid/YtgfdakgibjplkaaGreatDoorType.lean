
/- Types of what is reckoned: the reference's and the program's. -/
import Derived.Test.YtgfdakgibjplkaaGreatDoorLast
import Derived.Test.YtgfdakgibjplkaaGreatDoorExO
import Derived.Test.YtgfdakgibjplkaaGreatDoorSeP
namespace Go.Proofs.YtgfdakgibjplkaaGreatDoor
set_option maxRecDepth 100000
open Go.RowKit
attribute [local go_sem] bs_toList bs_get bs_size

namespace E
def ty (names types : List Bytes) : E → Bytes
  | num _ => cInt
  | nam s => match lastF s names 0 with | some i => (types[i]?).getD [] | none => []
  | cast t a => if a.ty names types = [] then [] else tyB t
  | two o a b => if a.ty names types = cInt ∧ b.ty names types = cInt then (if o = .lt then cBool else cInt) else []
end E
theorem spFind2_any (l : List Bytes) (s : Bytes) (v : Value) (w : World) (hv : SlB w w.heap.size v l) : Calls Tryz.prog 93 #[v, .string (bs s)] w fun e w' => e = .returned (.int .i64 (lastI l s)) ∧ Below w.heap.size w w' :=
  (spFind_any l s v w hv).mono fun e w' ⟨h1, h2⟩ => ⟨h1, by rw [← h2]; exact Below.refl _ _⟩
set_option maxHeartbeats 4000000 in
theorem spTy_any : ∀ (e : E) (v nv tv : Value) (names types : List Bytes) (w : World), names.length = types.length → names.length ≤ 1000 → ExV w w.heap.size v e.ex → SlB w w.heap.size nv names → SlB w w.heap.size tv types →
    Calls Tryz.prog 95 #[v, nv, tv] w fun r w' => r = .returned (.string (bs (e.ty names types))) ∧ Below w.heap.size w w' := by
  intro e
  induction e with
  | num n =>
    intro v nv tv names types w hl hn hv hnv htv
    have HL := Lib.hid hl
    clear hl
    obtain ⟨kv, rfl, hs, hk⟩ := hv
    obtain ⟨A, c, rfl, hc, hm⟩ := hk.val
    simp only [E.ex, Ex.kind, Ex.n, Ex.s, Ex.kids, List.length_nil]
    clear hk
    go_enter Tryz.func95, Tryz.ntmps95
    go_wp2_with fail
    go_ret
    exact ⟨rfl, by (repeat (first | with_reducible assumption | with_reducible exact Below.refl _ _ | with_reducible refine Below.setCell ?_ (by first | omega | (simp; done) | (simp; omega)) _ | with_reducible refine Below.alloc ?_ (by first | omega | (simp; done) | (simp; omega)) _ | with_reducible refine below_drewN ?_ _ | with_reducible refine Below.drew ?_))⟩
  | nam s =>
    intro v nv tv names types w hl hn hv hnv htv
    have HL := Lib.hid hl
    clear hl
    obtain ⟨kv, rfl, hs, hk⟩ := hv
    obtain ⟨A, c, rfl, hc, hm⟩ := hk.val
    simp only [E.ex, Ex.kind, Ex.n, Ex.s, Ex.kids, List.length_nil]
    clear hk
    have FC := Lib.hid (fun (w' : World) (h : Below w.heap.size w w') => spFind2_any names s nv w' (hnv.ext h))
    obtain ⟨An, cn, rfl, _, _⟩ := hnv.val
    cases hlf : lastF s names 0 with
    | none =>
      have hli : lastI names s = -1 := by unfold lastI; rw [hlf]
      rw [hli] at FC
      obtain ⟨At, ct, rfl, _, _⟩ := htv.val
      have HR := Lib.hid (show (E.nam s).ty names types = [] by simp only [E.ty, hlf])
      clear hli hlf
      go_enter Tryz.func95, Tryz.ntmps95
      go_wp2_with fail
      refine (FC.out _ (by (repeat (first | with_reducible assumption | with_reducible exact Below.refl _ _ | with_reducible refine Below.setCell ?_ (by first | omega | (simp; done) | (simp; omega)) _ | with_reducible refine Below.alloc ?_ (by first | omega | (simp; done) | (simp; omega)) _ | with_reducible refine below_drewN ?_ _ | with_reducible refine Below.drew ?_)))).mono ?_
      rintro r w1 ⟨rfl, hb1⟩
      go_wp2_with fail
      go_ret
      exact ⟨ret_bs (a := []) HR.out.symm, by (repeat (first | with_reducible assumption | with_reducible exact Below.refl _ _ | with_reducible refine Below.setCell ?_ (by first | omega | (simp; done) | (simp; omega)) _ | with_reducible refine Below.alloc ?_ (by first | omega | (simp; done) | (simp; omega)) _ | with_reducible refine below_drewN ?_ _ | with_reducible refine Below.drew ?_ | with_reducible refine Below.trans ?_ (Below.mono hb1 (by first | omega | (simp; done) | (simp; omega)))))⟩
    | some i =>
      have hli : lastI names s = i := by unfold lastI; rw [hlf]
      have hlt := lastF_lt hlf
      rw [hli] at FC
      have htv0 := htv
      obtain ⟨At, ct, rfl, hct, hcm⟩ := htv.val
      have hi : i < types.length := by have := HL.out; omega
      obtain ⟨b, o, x, rfl, hb, hg, f0⟩ := str_at htv0 hi
      have HR := Lib.hid (show (E.nam s).ty names types = x by simp only [E.ty, hlf, hg]; rfl)
      clear hli hlf hg htv htv0
      go_enter Tryz.func95, Tryz.ntmps95
      go_wp2_with fail
      refine (FC.out _ (by (repeat (first | with_reducible assumption | with_reducible exact Below.refl _ _ | with_reducible refine Below.setCell ?_ (by first | omega | (simp; done) | (simp; omega)) _ | with_reducible refine Below.alloc ?_ (by first | omega | (simp; done) | (simp; omega)) _ | with_reducible refine below_drewN ?_ _ | with_reducible refine Below.drew ?_)))).mono ?_
      rintro r w1 ⟨rfl, hb1⟩
      have hbw : Below w.heap.size w w1 := by (repeat (first | with_reducible assumption | with_reducible exact Below.refl _ _ | with_reducible refine Below.setCell ?_ (by first | omega | (simp; done) | (simp; omega)) _ | with_reducible refine Below.alloc ?_ (by first | omega | (simp; done) | (simp; omega)) _ | with_reducible refine below_drewN ?_ _ | with_reducible refine Below.drew ?_ | with_reducible refine Below.trans ?_ (Below.mono hb1 (by first | omega | (simp; done) | (simp; omega)))))
      have g0 := f0 ⟨w1, hbw⟩
      clear f0
      go_wp2_with fail
      go_ret
      exact ⟨ret_bs HR.out.symm, hbw⟩
  | cast t a iha =>
    intro v nv tv names types w hl hn hv hnv htv
    have HL := Lib.hid hl
    clear hl
    obtain ⟨kv, rfl, hs, hk⟩ := hv
    obtain ⟨A, c, rfl, hc, hm⟩ := hk.val
    simp only [E.ex, Ex.kind, Ex.n, Ex.s, Ex.kids, List.length_cons, List.length_nil] at hc hk ⊢
    obtain ⟨b, o, p1, q1, s1, A1, c1, m1, rfl, hb, hg1, hs1, hm1, hc1, hk1, f0, f1, f2, f3⟩ := ex_at (i := 0) hk (by simp)
    have hex : a.ex = .mk p1 q1 s1 m1 := by simpa using hg1
    rw [bs_size] at hs1
    have IH := Lib.hid (show ∀ w' : World, Below w.heap.size w w' → Calls Tryz.prog 95 #[.agg #[.int .i64 p1, .int .i64 q1, .string (bs s1), .slice A1 m1.length c1], nv, tv] w' _ from fun w' h => iha _ nv tv names types w' HL.out hn (by rw [hex]; exact ⟨_, rfl, hs1, hk1.ext h⟩) (hnv.ext h) (htv.ext h))
    obtain ⟨An, cn, rfl, _, _⟩ := hnv.val
    obtain ⟨At, ct, rfl, _, _⟩ := htv.val
    have hbw0 : Below w.heap.size w (w.alloc (.cells #[.int .i64 4, .int .i64 0, .string (bs (tyB t)), .slice (some ⟨b, o, none⟩) 1 c] 39)) := by (repeat (first | with_reducible assumption | with_reducible exact Below.refl _ _ | with_reducible refine Below.setCell ?_ (by first | omega | (simp; done) | (simp; omega)) _ | with_reducible refine Below.alloc ?_ (by first | omega | (simp; done) | (simp; omega)) _ | with_reducible refine below_drewN ?_ _ | with_reducible refine Below.drew ?_))
    have g0 := f0 ⟨_, hbw0⟩; have g1 := f1 ⟨_, hbw0⟩; have g2 := f2 ⟨_, hbw0⟩; have g3 := f3 ⟨_, hbw0⟩
    simp only [Nat.zero_mul, Nat.add_zero] at g0 g1 g2 g3
    have HR := Lib.hid (show (E.cast t a).ty names types = if a.ty names types = [] then [] else tyB t from rfl)
    clear iha hex hg1 hk hk1 f0 f1 f2 f3 hnv htv
    generalize (E.cast t a).ty names types = res at *
    generalize a.ty names types = ra at *
    generalize tyB t = tb at *
    by_cases hra : ra = []
    · subst hra
      rw [if_pos rfl] at HR
      go_enter Tryz.func95, Tryz.ntmps95
      go_wp2_with fail
      refine (IH.out _ (by (repeat (first | with_reducible assumption | with_reducible exact Below.refl _ _ | with_reducible refine Below.setCell ?_ (by first | omega | (simp; done) | (simp; omega)) _ | with_reducible refine Below.alloc ?_ (by first | omega | (simp; done) | (simp; omega)) _ | with_reducible refine below_drewN ?_ _ | with_reducible refine Below.drew ?_)))).mono ?_
      rintro r w1 ⟨rfl, hb1⟩
      go_wp2_with fail
      go_ret
      exact ⟨ret_bs (a := []) HR.out.symm, by (repeat (first | with_reducible assumption | with_reducible exact Below.refl _ _ | with_reducible refine Below.setCell ?_ (by first | omega | (simp; done) | (simp; omega)) _ | with_reducible refine Below.alloc ?_ (by first | omega | (simp; done) | (simp; omega)) _ | with_reducible refine below_drewN ?_ _ | with_reducible refine Below.drew ?_ | with_reducible refine Below.trans ?_ (Below.mono hb1 (by first | omega | (simp; done) | (simp; omega)))))⟩
    · rw [if_neg hra] at HR
      have d1 : (ra == []) = false := by simpa using hra
      have HN := Lib.hid hra
      clear hra
      go_enter Tryz.func95, Tryz.ntmps95
      go_wp2_with fail
      refine (IH.out _ (by (repeat (first | with_reducible assumption | with_reducible exact Below.refl _ _ | with_reducible refine Below.setCell ?_ (by first | omega | (simp; done) | (simp; omega)) _ | with_reducible refine Below.alloc ?_ (by first | omega | (simp; done) | (simp; omega)) _ | with_reducible refine below_drewN ?_ _ | with_reducible refine Below.drew ?_)))).mono ?_
      rintro r w1 ⟨rfl, hb1⟩
      have hz1 := hb1.size
      (try simp at hz1)
      have k1_0 := fun o => hb1.cell (p := ⟨w.heap.size, o, none⟩) (by first | omega | (simp; done) | (simp; omega)); have k1f_0 := fun o => hb1.frozen (p := ⟨w.heap.size, o, none⟩) (by first | omega | (simp; done) | (simp; omega))
      go_wp2_with fail
      go_ret
      exact ⟨ret_bs HR.out.symm, by (repeat (first | with_reducible assumption | with_reducible exact Below.refl _ _ | with_reducible refine Below.setCell ?_ (by first | omega | (simp; done) | (simp; omega)) _ | with_reducible refine Below.alloc ?_ (by first | omega | (simp; done) | (simp; omega)) _ | with_reducible refine below_drewN ?_ _ | with_reducible refine Below.drew ?_ | with_reducible refine Below.trans ?_ (Below.mono hb1 (by first | omega | (simp; done) | (simp; omega)))))⟩
  | two op a b iha ihb =>
    intro v nv tv names types w hl hn hv hnv htv
    have HL := Lib.hid hl
    clear hl
    obtain ⟨kv, rfl, hs, hk⟩ := hv
    obtain ⟨A, c, rfl, hc, hm⟩ := hk.val
    simp only [E.ex, Ex.kind, Ex.n, Ex.s, Ex.kids, List.length_cons, List.length_nil] at hc hk ⊢
    obtain ⟨b0, o0, p1, q1, s1, A1, c1, m1, rfl, hb, hg1, hs1, hm1, hc1, hk1, f0, f1, f2, f3⟩ := ex_at (i := 0) hk (by simp)
    obtain ⟨b0', o0', p2, q2, s2, A2, c2, m2, hAA, hb', hg2, hs2, hm2, hc2, hk2, e0, e1, e2, e3⟩ := ex_at (i := 1) hk (by simp)
    cases hAA
    have hexa : a.ex = .mk p1 q1 s1 m1 := by simpa using hg1
    have hexb : b.ex = .mk p2 q2 s2 m2 := by simpa using hg2
    rw [bs_size] at hs1 hs2
    have IHa := Lib.hid (show ∀ w' : World, Below w.heap.size w w' → Calls Tryz.prog 95 #[.agg #[.int .i64 p1, .int .i64 q1, .string (bs s1), .slice A1 m1.length c1], nv, tv] w' _ from fun w' h => iha _ nv tv names types w' HL.out hn (by rw [hexa]; exact ⟨_, rfl, hs1, hk1.ext h⟩) (hnv.ext h) (htv.ext h))
    have IHb := Lib.hid (show ∀ w' : World, Below w.heap.size w w' → Calls Tryz.prog 95 #[.agg #[.int .i64 p2, .int .i64 q2, .string (bs s2), .slice A2 m2.length c2], nv, tv] w' _ from fun w' h => ihb _ nv tv names types w' HL.out hn (by rw [hexb]; exact ⟨_, rfl, hs2, hk2.ext h⟩) (hnv.ext h) (htv.ext h))
    obtain ⟨An, cn, rfl, _, _⟩ := hnv.val
    obtain ⟨At, ct, rfl, _, _⟩ := htv.val
    have hbw0 : Below w.heap.size w (w.alloc (.cells #[.int .i64 3, .int .i64 0, .string (bs op.b), .slice (some ⟨b0, o0, none⟩) 2 c] 39)) := by (repeat (first | with_reducible assumption | with_reducible exact Below.refl _ _ | with_reducible refine Below.setCell ?_ (by first | omega | (simp; done) | (simp; omega)) _ | with_reducible refine Below.alloc ?_ (by first | omega | (simp; done) | (simp; omega)) _ | with_reducible refine below_drewN ?_ _ | with_reducible refine Below.drew ?_))
    have g0 := f0 ⟨_, hbw0⟩; have g1 := f1 ⟨_, hbw0⟩; have g2 := f2 ⟨_, hbw0⟩; have g3 := f3 ⟨_, hbw0⟩
    simp only [Nat.zero_mul, Nat.add_zero] at g0 g1 g2 g3
    have HR := Lib.hid (show (E.two op a b).ty names types = if a.ty names types = cInt ∧ b.ty names types = cInt then (if op = .lt then cBool else cInt) else [] from rfl)
    have HE := Lib.hid (And.intro e0 (And.intro e1 (And.intro e2 e3)))
    clear iha ihb hexa hexb hg1 hg2 hk hk1 hk2 f0 f1 f2 f3 e0 e1 e2 e3 hnv htv
    generalize (E.two op a b).ty names types = res at *
    generalize a.ty names types = ra at *
    generalize b.ty names types = rb at *
    by_cases hra : ra = cInt
    rotate_left
    · rw [if_neg (fun h => hra h.1)] at HR
      have d1 : (ra == [105, 110, 116]) = false := by simpa [cInt] using hra
      have HN := Lib.hid hra
      clear hra IHb HE
      go_enter Tryz.func95, Tryz.ntmps95
      go_wp2_with fail
      refine (IHa.out _ (by (repeat (first | with_reducible assumption | with_reducible exact Below.refl _ _ | with_reducible refine Below.setCell ?_ (by first | omega | (simp; done) | (simp; omega)) _ | with_reducible refine Below.alloc ?_ (by first | omega | (simp; done) | (simp; omega)) _ | with_reducible refine below_drewN ?_ _ | with_reducible refine Below.drew ?_)))).mono ?_
      rintro r w1 ⟨rfl, hb1⟩
      go_wp2_with fail
      go_ret
      exact ⟨ret_bs (a := []) HR.out.symm, by (repeat (first | with_reducible assumption | with_reducible exact Below.refl _ _ | with_reducible refine Below.setCell ?_ (by first | omega | (simp; done) | (simp; omega)) _ | with_reducible refine Below.alloc ?_ (by first | omega | (simp; done) | (simp; omega)) _ | with_reducible refine below_drewN ?_ _ | with_reducible refine Below.drew ?_ | with_reducible refine Below.trans ?_ (Below.mono hb1 (by first | omega | (simp; done) | (simp; omega)))))⟩
    · subst hra
      by_cases hrb : rb = cInt
      rotate_left
      · rw [if_neg (fun h => hrb h.2)] at HR
        have d1 : (rb == [105, 110, 116]) = false := by simpa [cInt] using hrb
        have HN := Lib.hid hrb
        clear hrb
        go_enter Tryz.func95, Tryz.ntmps95
        go_wp2_with fail
        refine (IHa.out _ (by (repeat (first | with_reducible assumption | with_reducible exact Below.refl _ _ | with_reducible refine Below.setCell ?_ (by first | omega | (simp; done) | (simp; omega)) _ | with_reducible refine Below.alloc ?_ (by first | omega | (simp; done) | (simp; omega)) _ | with_reducible refine below_drewN ?_ _ | with_reducible refine Below.drew ?_)))).mono ?_
        rintro r w1 ⟨rfl, hb1⟩
        have hz1 := hb1.size
        (try simp at hz1)
        have k1_0 := fun o => hb1.cell (p := ⟨w.heap.size, o, none⟩) (by first | omega | (simp; done) | (simp; omega)); have k1f_0 := fun o => hb1.frozen (p := ⟨w.heap.size, o, none⟩) (by first | omega | (simp; done) | (simp; omega))
        have hbw1 : Below w.heap.size w w1 := by (repeat (first | with_reducible assumption | with_reducible exact Below.refl _ _ | with_reducible refine Below.setCell ?_ (by first | omega | (simp; done) | (simp; omega)) _ | with_reducible refine Below.alloc ?_ (by first | omega | (simp; done) | (simp; omega)) _ | with_reducible refine below_drewN ?_ _ | with_reducible refine Below.drew ?_ | with_reducible refine Below.trans ?_ (Below.mono hb1 (by first | omega | (simp; done) | (simp; omega)))))
        obtain ⟨e0, e1, e2, e3⟩ := HE.out
        have h0 := e0 ⟨_, hbw1⟩; have h1 := e1 ⟨_, hbw1⟩; have h2 := e2 ⟨_, hbw1⟩; have h3 := e3 ⟨_, hbw1⟩
        simp only [Nat.one_mul] at h0 h1 h2 h3
        clear e0 e1 e2 e3 HE
        unfold cInt
        go_wp2_with fail
        refine (IHb.out _ hbw1).mono ?_
        rintro r w2 ⟨rfl, hb2⟩
        go_wp2_with fail
        go_ret
        exact ⟨ret_bs (a := []) HR.out.symm, by (repeat (first | with_reducible assumption | with_reducible exact Below.refl _ _ | with_reducible refine Below.setCell ?_ (by first | omega | (simp; done) | (simp; omega)) _ | with_reducible refine Below.alloc ?_ (by first | omega | (simp; done) | (simp; omega)) _ | with_reducible refine below_drewN ?_ _ | with_reducible refine Below.drew ?_ | with_reducible refine Below.trans ?_ (Below.mono hb2 (by first | omega | (simp; done) | (simp; omega))) | with_reducible refine Below.trans ?_ (Below.mono hbw1 (by first | omega | (simp; done) | (simp; omega)))))⟩
      · subst hrb
        rw [if_pos ⟨rfl, rfl⟩] at HR
        cases op
        all_goals
          go_enter Tryz.func95, Tryz.ntmps95
          go_wp2_with fail
          refine (IHa.out _ (by (repeat (first | with_reducible assumption | with_reducible exact Below.refl _ _ | with_reducible refine Below.setCell ?_ (by first | omega | (simp; done) | (simp; omega)) _ | with_reducible refine Below.alloc ?_ (by first | omega | (simp; done) | (simp; omega)) _ | with_reducible refine below_drewN ?_ _ | with_reducible refine Below.drew ?_)))).mono ?_
          rintro r w1 ⟨rfl, hb1⟩
          have hz1 := hb1.size
          (try simp at hz1)
          have k1_0 := fun o => hb1.cell (p := ⟨w.heap.size, o, none⟩) (by first | omega | (simp; done) | (simp; omega)); have k1f_0 := fun o => hb1.frozen (p := ⟨w.heap.size, o, none⟩) (by first | omega | (simp; done) | (simp; omega))
          have hbw1 : Below w.heap.size w w1 := by (repeat (first | with_reducible assumption | with_reducible exact Below.refl _ _ | with_reducible refine Below.setCell ?_ (by first | omega | (simp; done) | (simp; omega)) _ | with_reducible refine Below.alloc ?_ (by first | omega | (simp; done) | (simp; omega)) _ | with_reducible refine below_drewN ?_ _ | with_reducible refine Below.drew ?_ | with_reducible refine Below.trans ?_ (Below.mono hb1 (by first | omega | (simp; done) | (simp; omega)))))
          obtain ⟨e0, e1, e2, e3⟩ := HE.out
          have h0 := e0 ⟨_, hbw1⟩; have h1 := e1 ⟨_, hbw1⟩; have h2 := e2 ⟨_, hbw1⟩; have h3 := e3 ⟨_, hbw1⟩
          simp only [Nat.one_mul] at h0 h1 h2 h3
          clear e0 e1 e2 e3 HE
          simp only [cInt, Op2.b]
          go_wp2_with fail
          refine (IHb.out _ hbw1).mono ?_
          rintro r w2 ⟨rfl, hb2⟩
          have hz2 := hb2.size
          have k2_0 := fun o => hb2.cell (p := ⟨w.heap.size, o, none⟩) (by first | omega | (simp; done) | (simp; omega)); have k2f_0 := fun o => hb2.frozen (p := ⟨w.heap.size, o, none⟩) (by first | omega | (simp; done) | (simp; omega))
          simp only [cInt, Op2.b]
          go_wp2_with fail
          go_ret
          exact ⟨ret_bs (by rw [HR.out]; decide), by (repeat (first | with_reducible assumption | with_reducible exact Below.refl _ _ | with_reducible refine Below.setCell ?_ (by first | omega | (simp; done) | (simp; omega)) _ | with_reducible refine Below.alloc ?_ (by first | omega | (simp; done) | (simp; omega)) _ | with_reducible refine below_drewN ?_ _ | with_reducible refine Below.drew ?_ | with_reducible refine Below.trans ?_ (Below.mono hb2 (by first | omega | (simp; done) | (simp; omega))) | with_reducible refine Below.trans ?_ (Below.mono hbw1 (by first | omega | (simp; done) | (simp; omega)))))⟩
set_option maxHeartbeats 4000000 in
theorem imTy_any : ∀ (e : E) (v nv tv : Value) (names types : List Bytes) (w : World), names.length = types.length → names.length ≤ 1000 → ExV w w.heap.size v e.ex → SlB w w.heap.size nv names → SlB w w.heap.size tv types →
    Calls Tryz.prog 96 #[v, nv, tv] w fun r w' => r = .returned (.string (bs (e.ty names types))) ∧ Below w.heap.size w w' := by
  intro e
  induction e with
  | num n =>
    intro v nv tv names types w hl hn hv hnv htv
    have HL := Lib.hid hl
    clear hl
    obtain ⟨kv, rfl, hs, hk⟩ := hv
    obtain ⟨A, c, rfl, hc, hm⟩ := hk.val
    simp only [E.ex, Ex.kind, Ex.n, Ex.s, Ex.kids, List.length_nil]
    clear hk
    go_enter Tryz.func96, Tryz.ntmps96
    go_wp2_with fail
    go_ret
    exact ⟨rfl, by (repeat (first | with_reducible assumption | with_reducible exact Below.refl _ _ | with_reducible refine Below.setCell ?_ (by first | omega | (simp; done) | (simp; omega)) _ | with_reducible refine Below.alloc ?_ (by first | omega | (simp; done) | (simp; omega)) _ | with_reducible refine below_drewN ?_ _ | with_reducible refine Below.drew ?_))⟩
  | nam s =>
    intro v nv tv names types w hl hn hv hnv htv
    have HL := Lib.hid hl
    clear hl
    obtain ⟨kv, rfl, hs, hk⟩ := hv
    obtain ⟨A, c, rfl, hc, hm⟩ := hk.val
    simp only [E.ex, Ex.kind, Ex.n, Ex.s, Ex.kids, List.length_nil]
    clear hk
    have FC := Lib.hid (fun (w' : World) (h : Below w.heap.size w w') => imLast_any names s nv w' (hnv.ext h))
    obtain ⟨An, cn, rfl, _, _⟩ := hnv.val
    cases hlf : lastF s names 0 with
    | none =>
      have hli : lastI names s = -1 := by unfold lastI; rw [hlf]
      rw [hli] at FC
      obtain ⟨At, ct, rfl, _, _⟩ := htv.val
      have HR := Lib.hid (show (E.nam s).ty names types = [] by simp only [E.ty, hlf])
      clear hli hlf
      go_enter Tryz.func96, Tryz.ntmps96
      go_wp2_with fail
      refine (FC.out _ (by (repeat (first | with_reducible assumption | with_reducible exact Below.refl _ _ | with_reducible refine Below.setCell ?_ (by first | omega | (simp; done) | (simp; omega)) _ | with_reducible refine Below.alloc ?_ (by first | omega | (simp; done) | (simp; omega)) _ | with_reducible refine below_drewN ?_ _ | with_reducible refine Below.drew ?_)))).mono ?_
      rintro r w1 ⟨rfl, hb1⟩
      go_wp2_with fail
      go_ret
      exact ⟨ret_bs (a := []) HR.out.symm, by (repeat (first | with_reducible assumption | with_reducible exact Below.refl _ _ | with_reducible refine Below.setCell ?_ (by first | omega | (simp; done) | (simp; omega)) _ | with_reducible refine Below.alloc ?_ (by first | omega | (simp; done) | (simp; omega)) _ | with_reducible refine below_drewN ?_ _ | with_reducible refine Below.drew ?_ | with_reducible refine Below.trans ?_ (Below.mono hb1 (by first | omega | (simp; done) | (simp; omega)))))⟩
    | some i =>
      have hli : lastI names s = i := by unfold lastI; rw [hlf]
      have hlt := lastF_lt hlf
      rw [hli] at FC
      have htv0 := htv
      obtain ⟨At, ct, rfl, hct, hcm⟩ := htv.val
      have hi : i < types.length := by have := HL.out; omega
      obtain ⟨b, o, x, rfl, hb, hg, f0⟩ := str_at htv0 hi
      have HR := Lib.hid (show (E.nam s).ty names types = x by simp only [E.ty, hlf, hg]; rfl)
      clear hli hlf hg htv htv0
      go_enter Tryz.func96, Tryz.ntmps96
      go_wp2_with fail
      refine (FC.out _ (by (repeat (first | with_reducible assumption | with_reducible exact Below.refl _ _ | with_reducible refine Below.setCell ?_ (by first | omega | (simp; done) | (simp; omega)) _ | with_reducible refine Below.alloc ?_ (by first | omega | (simp; done) | (simp; omega)) _ | with_reducible refine below_drewN ?_ _ | with_reducible refine Below.drew ?_)))).mono ?_
      rintro r w1 ⟨rfl, hb1⟩
      have hbw : Below w.heap.size w w1 := by (repeat (first | with_reducible assumption | with_reducible exact Below.refl _ _ | with_reducible refine Below.setCell ?_ (by first | omega | (simp; done) | (simp; omega)) _ | with_reducible refine Below.alloc ?_ (by first | omega | (simp; done) | (simp; omega)) _ | with_reducible refine below_drewN ?_ _ | with_reducible refine Below.drew ?_ | with_reducible refine Below.trans ?_ (Below.mono hb1 (by first | omega | (simp; done) | (simp; omega)))))
      have g0 := f0 ⟨w1, hbw⟩
      clear f0
      go_wp2_with fail
      go_ret
      exact ⟨ret_bs HR.out.symm, hbw⟩
  | cast t a iha =>
    intro v nv tv names types w hl hn hv hnv htv
    have HL := Lib.hid hl
    clear hl
    obtain ⟨kv, rfl, hs, hk⟩ := hv
    obtain ⟨A, c, rfl, hc, hm⟩ := hk.val
    simp only [E.ex, Ex.kind, Ex.n, Ex.s, Ex.kids, List.length_cons, List.length_nil] at hc hk ⊢
    obtain ⟨b, o, p1, q1, s1, A1, c1, m1, rfl, hb, hg1, hs1, hm1, hc1, hk1, f0, f1, f2, f3⟩ := ex_at (i := 0) hk (by simp)
    have hex : a.ex = .mk p1 q1 s1 m1 := by simpa using hg1
    rw [bs_size] at hs1
    have IH := Lib.hid (show ∀ w' : World, Below w.heap.size w w' → Calls Tryz.prog 96 #[.agg #[.int .i64 p1, .int .i64 q1, .string (bs s1), .slice A1 m1.length c1], nv, tv] w' _ from fun w' h => iha _ nv tv names types w' HL.out hn (by rw [hex]; exact ⟨_, rfl, hs1, hk1.ext h⟩) (hnv.ext h) (htv.ext h))
    obtain ⟨An, cn, rfl, _, _⟩ := hnv.val
    obtain ⟨At, ct, rfl, _, _⟩ := htv.val
    have hbw0 : Below w.heap.size w (w.alloc (.cells #[.int .i64 4, .int .i64 0, .string (bs (tyB t)), .slice (some ⟨b, o, none⟩) 1 c] 39)) := by (repeat (first | with_reducible assumption | with_reducible exact Below.refl _ _ | with_reducible refine Below.setCell ?_ (by first | omega | (simp; done) | (simp; omega)) _ | with_reducible refine Below.alloc ?_ (by first | omega | (simp; done) | (simp; omega)) _ | with_reducible refine below_drewN ?_ _ | with_reducible refine Below.drew ?_))
    have g0 := f0 ⟨_, hbw0⟩; have g1 := f1 ⟨_, hbw0⟩; have g2 := f2 ⟨_, hbw0⟩; have g3 := f3 ⟨_, hbw0⟩
    simp only [Nat.zero_mul, Nat.add_zero] at g0 g1 g2 g3
    have HR := Lib.hid (show (E.cast t a).ty names types = if a.ty names types = [] then [] else tyB t from rfl)
    clear iha hex hg1 hk hk1 f0 f1 f2 f3 hnv htv
    generalize (E.cast t a).ty names types = res at *
    generalize a.ty names types = ra at *
    generalize tyB t = tb at *
    by_cases hra : ra = []
    · subst hra
      rw [if_pos rfl] at HR
      go_enter Tryz.func96, Tryz.ntmps96
      go_wp2_with fail
      refine (IH.out _ (by (repeat (first | with_reducible assumption | with_reducible exact Below.refl _ _ | with_reducible refine Below.setCell ?_ (by first | omega | (simp; done) | (simp; omega)) _ | with_reducible refine Below.alloc ?_ (by first | omega | (simp; done) | (simp; omega)) _ | with_reducible refine below_drewN ?_ _ | with_reducible refine Below.drew ?_)))).mono ?_
      rintro r w1 ⟨rfl, hb1⟩
      go_wp2_with fail
      go_ret
      exact ⟨ret_bs (a := []) HR.out.symm, by (repeat (first | with_reducible assumption | with_reducible exact Below.refl _ _ | with_reducible refine Below.setCell ?_ (by first | omega | (simp; done) | (simp; omega)) _ | with_reducible refine Below.alloc ?_ (by first | omega | (simp; done) | (simp; omega)) _ | with_reducible refine below_drewN ?_ _ | with_reducible refine Below.drew ?_ | with_reducible refine Below.trans ?_ (Below.mono hb1 (by first | omega | (simp; done) | (simp; omega)))))⟩
    · rw [if_neg hra] at HR
      have d1 : (ra == []) = false := by simpa using hra
      have HN := Lib.hid hra
      clear hra
      go_enter Tryz.func96, Tryz.ntmps96
      go_wp2_with fail
      refine (IH.out _ (by (repeat (first | with_reducible assumption | with_reducible exact Below.refl _ _ | with_reducible refine Below.setCell ?_ (by first | omega | (simp; done) | (simp; omega)) _ | with_reducible refine Below.alloc ?_ (by first | omega | (simp; done) | (simp; omega)) _ | with_reducible refine below_drewN ?_ _ | with_reducible refine Below.drew ?_)))).mono ?_
      rintro r w1 ⟨rfl, hb1⟩
      have hz1 := hb1.size
      (try simp at hz1)
      have k1_0 := fun o => hb1.cell (p := ⟨w.heap.size, o, none⟩) (by first | omega | (simp; done) | (simp; omega)); have k1f_0 := fun o => hb1.frozen (p := ⟨w.heap.size, o, none⟩) (by first | omega | (simp; done) | (simp; omega))
      go_wp2_with fail
      go_ret
      exact ⟨ret_bs HR.out.symm, by (repeat (first | with_reducible assumption | with_reducible exact Below.refl _ _ | with_reducible refine Below.setCell ?_ (by first | omega | (simp; done) | (simp; omega)) _ | with_reducible refine Below.alloc ?_ (by first | omega | (simp; done) | (simp; omega)) _ | with_reducible refine below_drewN ?_ _ | with_reducible refine Below.drew ?_ | with_reducible refine Below.trans ?_ (Below.mono hb1 (by first | omega | (simp; done) | (simp; omega)))))⟩
  | two op a b iha ihb =>
    intro v nv tv names types w hl hn hv hnv htv
    have HL := Lib.hid hl
    clear hl
    obtain ⟨kv, rfl, hs, hk⟩ := hv
    obtain ⟨A, c, rfl, hc, hm⟩ := hk.val
    simp only [E.ex, Ex.kind, Ex.n, Ex.s, Ex.kids, List.length_cons, List.length_nil] at hc hk ⊢
    obtain ⟨b0, o0, p1, q1, s1, A1, c1, m1, rfl, hb, hg1, hs1, hm1, hc1, hk1, f0, f1, f2, f3⟩ := ex_at (i := 0) hk (by simp)
    obtain ⟨b0', o0', p2, q2, s2, A2, c2, m2, hAA, hb', hg2, hs2, hm2, hc2, hk2, e0, e1, e2, e3⟩ := ex_at (i := 1) hk (by simp)
    cases hAA
    have hexa : a.ex = .mk p1 q1 s1 m1 := by simpa using hg1
    have hexb : b.ex = .mk p2 q2 s2 m2 := by simpa using hg2
    rw [bs_size] at hs1 hs2
    have IHa := Lib.hid (show ∀ w' : World, Below w.heap.size w w' → Calls Tryz.prog 96 #[.agg #[.int .i64 p1, .int .i64 q1, .string (bs s1), .slice A1 m1.length c1], nv, tv] w' _ from fun w' h => iha _ nv tv names types w' HL.out hn (by rw [hexa]; exact ⟨_, rfl, hs1, hk1.ext h⟩) (hnv.ext h) (htv.ext h))
    have IHb := Lib.hid (show ∀ w' : World, Below w.heap.size w w' → Calls Tryz.prog 96 #[.agg #[.int .i64 p2, .int .i64 q2, .string (bs s2), .slice A2 m2.length c2], nv, tv] w' _ from fun w' h => ihb _ nv tv names types w' HL.out hn (by rw [hexb]; exact ⟨_, rfl, hs2, hk2.ext h⟩) (hnv.ext h) (htv.ext h))
    obtain ⟨An, cn, rfl, _, _⟩ := hnv.val
    obtain ⟨At, ct, rfl, _, _⟩ := htv.val
    have hbw0 : Below w.heap.size w (w.alloc (.cells #[.int .i64 3, .int .i64 0, .string (bs op.b), .slice (some ⟨b0, o0, none⟩) 2 c] 39)) := by (repeat (first | with_reducible assumption | with_reducible exact Below.refl _ _ | with_reducible refine Below.setCell ?_ (by first | omega | (simp; done) | (simp; omega)) _ | with_reducible refine Below.alloc ?_ (by first | omega | (simp; done) | (simp; omega)) _ | with_reducible refine below_drewN ?_ _ | with_reducible refine Below.drew ?_))
    have g0 := f0 ⟨_, hbw0⟩; have g1 := f1 ⟨_, hbw0⟩; have g2 := f2 ⟨_, hbw0⟩; have g3 := f3 ⟨_, hbw0⟩
    simp only [Nat.zero_mul, Nat.add_zero] at g0 g1 g2 g3
    have HR := Lib.hid (show (E.two op a b).ty names types = if a.ty names types = cInt ∧ b.ty names types = cInt then (if op = .lt then cBool else cInt) else [] from rfl)
    have HE := Lib.hid (And.intro e0 (And.intro e1 (And.intro e2 e3)))
    clear iha ihb hexa hexb hg1 hg2 hk hk1 hk2 f0 f1 f2 f3 e0 e1 e2 e3 hnv htv
    generalize (E.two op a b).ty names types = res at *
    generalize a.ty names types = ra at *
    generalize b.ty names types = rb at *
    by_cases hra : ra = cInt
    rotate_left
    · rw [if_neg (fun h => hra h.1)] at HR
      have d1 : (ra == [105, 110, 116]) = false := by simpa [cInt] using hra
      have HN := Lib.hid hra
      clear hra IHb HE
      go_enter Tryz.func96, Tryz.ntmps96
      go_wp2_with fail
      refine (IHa.out _ (by (repeat (first | with_reducible assumption | with_reducible exact Below.refl _ _ | with_reducible refine Below.setCell ?_ (by first | omega | (simp; done) | (simp; omega)) _ | with_reducible refine Below.alloc ?_ (by first | omega | (simp; done) | (simp; omega)) _ | with_reducible refine below_drewN ?_ _ | with_reducible refine Below.drew ?_)))).mono ?_
      rintro r w1 ⟨rfl, hb1⟩
      go_wp2_with fail
      go_ret
      exact ⟨ret_bs (a := []) HR.out.symm, by (repeat (first | with_reducible assumption | with_reducible exact Below.refl _ _ | with_reducible refine Below.setCell ?_ (by first | omega | (simp; done) | (simp; omega)) _ | with_reducible refine Below.alloc ?_ (by first | omega | (simp; done) | (simp; omega)) _ | with_reducible refine below_drewN ?_ _ | with_reducible refine Below.drew ?_ | with_reducible refine Below.trans ?_ (Below.mono hb1 (by first | omega | (simp; done) | (simp; omega)))))⟩
    · subst hra
      by_cases hrb : rb = cInt
      rotate_left
      · rw [if_neg (fun h => hrb h.2)] at HR
        have d1 : (rb == [105, 110, 116]) = false := by simpa [cInt] using hrb
        have HN := Lib.hid hrb
        clear hrb
        go_enter Tryz.func96, Tryz.ntmps96
        go_wp2_with fail
        refine (IHa.out _ (by (repeat (first | with_reducible assumption | with_reducible exact Below.refl _ _ | with_reducible refine Below.setCell ?_ (by first | omega | (simp; done) | (simp; omega)) _ | with_reducible refine Below.alloc ?_ (by first | omega | (simp; done) | (simp; omega)) _ | with_reducible refine below_drewN ?_ _ | with_reducible refine Below.drew ?_)))).mono ?_
        rintro r w1 ⟨rfl, hb1⟩
        have hz1 := hb1.size
        (try simp at hz1)
        have k1_0 := fun o => hb1.cell (p := ⟨w.heap.size, o, none⟩) (by first | omega | (simp; done) | (simp; omega)); have k1f_0 := fun o => hb1.frozen (p := ⟨w.heap.size, o, none⟩) (by first | omega | (simp; done) | (simp; omega))
        have hbw1 : Below w.heap.size w w1 := by (repeat (first | with_reducible assumption | with_reducible exact Below.refl _ _ | with_reducible refine Below.setCell ?_ (by first | omega | (simp; done) | (simp; omega)) _ | with_reducible refine Below.alloc ?_ (by first | omega | (simp; done) | (simp; omega)) _ | with_reducible refine below_drewN ?_ _ | with_reducible refine Below.drew ?_ | with_reducible refine Below.trans ?_ (Below.mono hb1 (by first | omega | (simp; done) | (simp; omega)))))
        obtain ⟨e0, e1, e2, e3⟩ := HE.out
        have h0 := e0 ⟨_, hbw1⟩; have h1 := e1 ⟨_, hbw1⟩; have h2 := e2 ⟨_, hbw1⟩; have h3 := e3 ⟨_, hbw1⟩
        simp only [Nat.one_mul] at h0 h1 h2 h3
        clear e0 e1 e2 e3 HE
        unfold cInt
        go_wp2_with fail
        refine (IHb.out _ hbw1).mono ?_
        rintro r w2 ⟨rfl, hb2⟩
        go_wp2_with fail
        go_ret
        exact ⟨ret_bs (a := []) HR.out.symm, by (repeat (first | with_reducible assumption | with_reducible exact Below.refl _ _ | with_reducible refine Below.setCell ?_ (by first | omega | (simp; done) | (simp; omega)) _ | with_reducible refine Below.alloc ?_ (by first | omega | (simp; done) | (simp; omega)) _ | with_reducible refine below_drewN ?_ _ | with_reducible refine Below.drew ?_ | with_reducible refine Below.trans ?_ (Below.mono hb2 (by first | omega | (simp; done) | (simp; omega))) | with_reducible refine Below.trans ?_ (Below.mono hbw1 (by first | omega | (simp; done) | (simp; omega)))))⟩
      · subst hrb
        rw [if_pos ⟨rfl, rfl⟩] at HR
        cases op
        all_goals
          go_enter Tryz.func96, Tryz.ntmps96
          go_wp2_with fail
          refine (IHa.out _ (by (repeat (first | with_reducible assumption | with_reducible exact Below.refl _ _ | with_reducible refine Below.setCell ?_ (by first | omega | (simp; done) | (simp; omega)) _ | with_reducible refine Below.alloc ?_ (by first | omega | (simp; done) | (simp; omega)) _ | with_reducible refine below_drewN ?_ _ | with_reducible refine Below.drew ?_)))).mono ?_
          rintro r w1 ⟨rfl, hb1⟩
          have hz1 := hb1.size
          (try simp at hz1)
          have k1_0 := fun o => hb1.cell (p := ⟨w.heap.size, o, none⟩) (by first | omega | (simp; done) | (simp; omega)); have k1f_0 := fun o => hb1.frozen (p := ⟨w.heap.size, o, none⟩) (by first | omega | (simp; done) | (simp; omega))
          have hbw1 : Below w.heap.size w w1 := by (repeat (first | with_reducible assumption | with_reducible exact Below.refl _ _ | with_reducible refine Below.setCell ?_ (by first | omega | (simp; done) | (simp; omega)) _ | with_reducible refine Below.alloc ?_ (by first | omega | (simp; done) | (simp; omega)) _ | with_reducible refine below_drewN ?_ _ | with_reducible refine Below.drew ?_ | with_reducible refine Below.trans ?_ (Below.mono hb1 (by first | omega | (simp; done) | (simp; omega)))))
          obtain ⟨e0, e1, e2, e3⟩ := HE.out
          have h0 := e0 ⟨_, hbw1⟩; have h1 := e1 ⟨_, hbw1⟩; have h2 := e2 ⟨_, hbw1⟩; have h3 := e3 ⟨_, hbw1⟩
          simp only [Nat.one_mul] at h0 h1 h2 h3
          clear e0 e1 e2 e3 HE
          simp only [cInt, Op2.b]
          go_wp2_with fail
          refine (IHb.out _ hbw1).mono ?_
          rintro r w2 ⟨rfl, hb2⟩
          have hz2 := hb2.size
          have k2_0 := fun o => hb2.cell (p := ⟨w.heap.size, o, none⟩) (by first | omega | (simp; done) | (simp; omega)); have k2f_0 := fun o => hb2.frozen (p := ⟨w.heap.size, o, none⟩) (by first | omega | (simp; done) | (simp; omega))
          simp only [cInt, Op2.b]
          go_wp2_with fail
          go_ret
          exact ⟨ret_bs (by rw [HR.out]; decide), by (repeat (first | with_reducible assumption | with_reducible exact Below.refl _ _ | with_reducible refine Below.setCell ?_ (by first | omega | (simp; done) | (simp; omega)) _ | with_reducible refine Below.alloc ?_ (by first | omega | (simp; done) | (simp; omega)) _ | with_reducible refine below_drewN ?_ _ | with_reducible refine Below.drew ?_ | with_reducible refine Below.trans ?_ (Below.mono hb2 (by first | omega | (simp; done) | (simp; omega))) | with_reducible refine Below.trans ?_ (Below.mono hbw1 (by first | omega | (simp; done) | (simp; omega)))))⟩
end Go.Proofs.YtgfdakgibjplkaaGreatDoor
