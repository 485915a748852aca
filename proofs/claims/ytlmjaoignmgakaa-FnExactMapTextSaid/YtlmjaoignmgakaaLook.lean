
/- Looking a place up in segments: the program's and the reference's, as one plain function. -/
import Derived.Test.YtlmjaoignmgakaaIter
import Derived.Test.YtlmjaoignmgakaaOk
namespace Go.Proofs.Ytlmjaoignmgakaa
set_option maxRecDepth 100000
open Go.RowKit

theorem lookL_at {l : List Sg} {p : Ps} {i : Nat} {s : Sg} (h : ∀ (j : Nat) (t : Sg), i < j → l[j]? = some t → ¬ Fits p t) (hs : l[i]? = some s) (hf : Fits p s) : lookL l p = some s.2 := by
  have hi : i < l.length := (List.getElem?_eq_some_iff.1 hs).1
  have e : l = l.take i ++ s :: l.drop (i + 1) := by
    have h1 := List.drop_eq_getElem_cons hi
    have h2 : l[i] = s := by rw [List.getElem?_eq_getElem hi] at hs; exact Option.some.inj hs
    rw [h2] at h1
    rw [← h1, List.take_append_drop]
  unfold lookL
  rw [e]
  simp only [List.reverse_append, List.reverse_cons, List.append_assoc, List.find?_append]
  rw [List.find?_eq_none.2 (by
    intro t ht
    rw [List.mem_reverse, List.mem_iff_getElem?] at ht
    obtain ⟨k, hk⟩ := ht
    rw [List.getElem?_drop] at hk
    simpa using h (i + 1 + k) t (by omega) hk)]
  simp [hf]
theorem lookL_none {l : List Sg} {p : Ps} (h : ∀ (j : Nat) (t : Sg), l[j]? = some t → ¬ Fits p t) : lookL l p = none := by
  unfold lookL
  rw [List.find?_eq_none.2]
  · rfl
  · intro t ht
    rw [List.mem_reverse, List.mem_iff_getElem?] at ht
    obtain ⟨k, hk⟩ := ht
    simpa using h k t hk

/-- none from m on fits -/
def NoneFrom (l : List Sg) (p : Ps) (m : Nat) : Prop := ∀ (j : Nat) (t : Sg), m ≤ j → l[j]? = some t → ¬ Fits p t
theorem NoneFrom.step {l : List Sg} {p : Ps} {i : Nat} {s : Sg} (h : NoneFrom l p (i + 1)) (hs : l[i]? = some s) (hf : ¬ Fits p s) : NoneFrom l p i := fun j t hj ht => by
  by_cases e : j = i
  · subst e; rw [hs] at ht; obtain rfl := Option.some.inj ht; exact hf
  · exact h j t (by omega) ht

theorem spLook_any (v : Value) (l : List Sg) (p1 p2 : Int) (w : World) (hv : SlS w w.heap.size v l) :
    Calls Try.prog 45 #[v, .agg #[.int .i64 p1, .int .i64 p2]] w fun e W' => e = .returned (lookV (lookL l (p1, p2))) ∧ Below w.heap.size w W' := by
  obtain ⟨A, c, rfl, hc, hm⟩ := hv.val
  go_enter Try.func45, Try.ntmps45
  go_wp2
  obtain ⟨W1, hW1⟩ : ∃ W1, W1 = ((w.alloc (Obj.cells #[Value.int IntKind.i64 p1, Value.int IntKind.i64 p2] 33)).alloc (Obj.cells #[Value.int IntKind.i64 0, Value.int IntKind.i64 0] 33)) := ⟨_, rfl⟩
  rw [← hW1]
  have hs1 : w.heap.size + 1 < W1.heap.size := by rw [hW1]; simp
  have hB1 : Below w.heap.size w W1 := by rw [hW1]; (repeat (first | with_reducible assumption | with_reducible exact Below.refl _ _ | with_reducible refine Below.setCell ?_ (by first | omega | (simp; done) | (simp; omega)) _ | with_reducible refine Below.alloc ?_ (by first | omega | (simp; done) | (simp; omega)) _ | with_reducible refine below_drewN ?_ _ | with_reducible refine Below.drew ?_))
  have k0 := Later.of (W := W1) (b := w.heap.size) (o := 0) (v := .int .i64 p1) (by rw [hW1]; simp [go_sem])
  have k1 := Later.of (W := W1) (b := w.heap.size) (o := 1) (v := .int .i64 p2) (by rw [hW1]; simp [go_sem])
  have r0 := Later.of (W := W1) (b := w.heap.size + 1) (o := 0) (v := .int .i64 0) (by rw [hW1]; simp [go_sem])
  have r1 := Later.of (W := W1) (b := w.heap.size + 1) (o := 1) (v := .int .i64 0) (by rw [hW1]; simp [go_sem])
  have z0 : ∀ (x : Later W1.heap.size W1) (j : Nat), x.w'.frozen? ⟨w.heap.size + 1, j, none⟩ = false := fun x j => (x.ok.frozen (p := ⟨w.heap.size + 1, j, none⟩) hs1).trans (by rw [hW1]; simp [go_sem])
  have hvW : SlS W1 W1.heap.size (.slice A l.length c) l := hv.ext hB1
  have HW1 := Lib.hid hW1
  clear hW1
  go_loopg [6] (l.length + 1) (fun k i wr => ∃ m : Nat, k = m + 1 ∧ m ≤ l.length ∧ i = .int .i64 ((m : Int) - 1) ∧ NoneFrom l (p1, p2) m ∧ Below W1.heap.size W1 wr)
  case atStart => exact ⟨l.length, rfl, Nat.le_refl _, rfl, fun j t hj ht => by have := (List.getElem?_eq_some_iff.1 ht).1; omega, Below.refl _ _⟩
  case round =>
    obtain ⟨m, hk, hml, rfl, hno, hbl⟩ := hrel
    have HK := Lib.hid (And.intro hk hno)
    clear hk hno
    obtain ⟨x, rfl⟩ := Later.ex hbl
    by_cases hlt : 0 < m
    · obtain ⟨i, rfl⟩ : ∃ i, m = i + 1 := ⟨m - 1, by omega⟩
      rw [show (((i + 1 : Nat) : Int) - 1) = (i : Int) from by omega]
      have hlt2 : i < l.length := by omega
      obtain ⟨b, o, p, q, r, t, rfl, hb, hg, f0, f1, f2, f3⟩ := sg_at hvW hlt2
      have HG := Lib.hid hg
      clear hg
      by_cases h1 : p = p1
      · have d1 : (p == p1) = true := by simpa using h1
        by_cases h2 : q ≤ p2
        · have d2 : decide (q ≤ p2) = true := by simpa using h2
          have HF : Hid (Fits (p1, p2) ((p, q), (r, t))) := ⟨h1, h2⟩
          clear h1
          go_wp2
          refine wp_region_later hbl (by kernel_rfl) (by kernel_rfl) ?_
          repeat (go_big_quiet_step (fail))
          refine wpQuiet_nil ?_
          rintro _ ⟨y, rfl⟩
          have hy := y.ok
          go_wp2
          have hf : lookL l (p1, p2) = some (r, t) := lookL_at (i := i) (fun j t hj ht => HK.out.2 j t hj ht) HG.out HF.out
          have q0 := World.cell?_setCell_same' y.w' ⟨w.heap.size + 1, 0, none⟩ (.int .i64 r) (by rw [r0 y]; rfl)
          refine bodyPost_ret (v := lookV (lookL l (p1, p2))) (by rw [hf]; simp [results, Try.results45, go_sem, r0, r1, q0, lookV]) rfl ⟨rfl, ?_⟩
          have hB3 := hB1.trans (hy.mono (by omega))
          (repeat (first | with_reducible assumption | with_reducible exact Below.refl _ _ | with_reducible refine Below.setCell ?_ (by first | omega | (simp; done) | (simp; omega)) _ | with_reducible refine Below.alloc ?_ (by first | omega | (simp; done) | (simp; omega)) _ | with_reducible refine below_drewN ?_ _ | with_reducible refine Below.drew ?_ | with_reducible refine Below.trans ?_ (Below.mono hB3 (by first | omega | (simp; done) | (simp; omega)))))
        · have d2 : decide (q ≤ p2) = false := by simpa using h2
          have HF : Hid (¬ Fits (p1, p2) ((p, q), (r, t))) := fun h => h2 h.2
          clear h1 h2
          go_wp2
          refine wp_region_later hbl (by kernel_rfl) (by kernel_rfl) ?_
          repeat (go_big_quiet_step (fail))
          refine wpQuiet_nil ?_
          rintro _ ⟨y, rfl⟩
          have hy := y.ok
          go_wp2
          go_roundg (i + 1)
          case measure => have := HK.out.1; omega
          case rel => exact ⟨i, rfl, by omega, rfl, HK.out.2.step HG.out HF.out, hy⟩
      · have d1 : (p == p1) = false := by simpa using h1
        have HF : Hid (¬ Fits (p1, p2) ((p, q), (r, t))) := fun h => h1 h.1
        clear h1
        go_wp2
        refine wp_region_later hbl (by kernel_rfl) (by kernel_rfl) ?_
        repeat (go_big_quiet_step (fail))
        refine wpQuiet_nil ?_
        rintro _ ⟨y, rfl⟩
        have hy := y.ok
        go_wp2
        go_roundg (i + 1)
        case measure => have := HK.out.1; omega
        case rel => exact ⟨i, rfl, by omega, rfl, HK.out.2.step HG.out HF.out, hy⟩
    · obtain rfl : m = 0 := by omega
      go_wp2
      have hf : lookL l (p1, p2) = none := lookL_none (fun j t ht => HK.out.2 j t (Nat.zero_le _) ht)
      have q0 := World.cell?_setCell_same' x.w' ⟨w.heap.size + 1, 0, none⟩ (.int .i64 0) (by rw [r0 x]; rfl)
      refine bodyPost_ret (v := lookV (lookL l (p1, p2))) (by rw [hf]; simp [results, Try.results45, go_sem, r0, r1, q0, lookV]) rfl ⟨rfl, ?_⟩
      have hB3 := hB1.trans (hbl.mono (by omega))
      (repeat (first | with_reducible assumption | with_reducible exact Below.refl _ _ | with_reducible refine Below.setCell ?_ (by first | omega | (simp; done) | (simp; omega)) _ | with_reducible refine Below.alloc ?_ (by first | omega | (simp; done) | (simp; omega)) _ | with_reducible refine below_drewN ?_ _ | with_reducible refine Below.drew ?_ | with_reducible refine Below.trans ?_ (Below.mono hB3 (by first | omega | (simp; done) | (simp; omega)))))

/-- MapLook of whatever list. -/
noncomputable def mapLookL (l : List Sg) (p : Ps) : Option Ps := if segsOkB l = true then lookL l p else none

theorem imMapLook_any (v : Value) (l : List Sg) (p1 p2 : Int) (w : World) (hv : SlS w w.heap.size v l) :
    Calls Try.prog 23 #[v, .agg #[.int .i64 p1, .int .i64 p2]] w fun e W' => e = .returned (lookV (mapLookL l (p1, p2))) ∧ Below w.heap.size w W' := by
  have hB2 : Below w.heap.size w ((w.alloc (Obj.cells #[Value.int IntKind.i64 p1, Value.int IntKind.i64 p2] 33)).alloc (Obj.cells #[Value.int IntKind.i64 0, Value.int IntKind.i64 0] 33)) := by (repeat (first | with_reducible assumption | with_reducible exact Below.refl _ _ | with_reducible refine Below.setCell ?_ (by first | omega | (simp; done) | (simp; omega)) _ | with_reducible refine Below.alloc ?_ (by first | omega | (simp; done) | (simp; omega)) _ | with_reducible refine below_drewN ?_ _ | with_reducible refine Below.drew ?_))
  have hv2 := hv.ext hB2
  have c1 := imSegsOk_any _ _ l hv2
  by_cases hok : SegsOk l
  · rw [segsOkB_yes hok] at c1
    have C1 := Lib.hid c1
    clear c1
    have hf : mapLookL l (p1, p2) = lookL l (p1, p2) := by unfold mapLookL; rw [segsOkB_yes hok]; rfl
    go_enter Try.func23, Try.ntmps23
    go_wp2_with fail
    refine C1.out.mono ?_
    rintro e w1 ⟨rfl, hb1⟩
    have hz1 := hb1.size
    (try simp at hz1)
    have k1_0 := fun o => hb1.cell (p := ⟨w.heap.size, o, none⟩) (by first | omega | (simp; done) | (simp; omega)); have k1f_0 := fun o => hb1.frozen (p := ⟨w.heap.size, o, none⟩) (by first | omega | (simp; done) | (simp; omega)); have k1_1 := fun o => hb1.cell (p := ⟨w.heap.size + 1, o, none⟩) (by first | omega | (simp; done) | (simp; omega)); have k1f_1 := fun o => hb1.frozen (p := ⟨w.heap.size + 1, o, none⟩) (by first | omega | (simp; done) | (simp; omega))
    go_wp2_with fail
    refine (imLook_any v l p1 p2 w1 (hv2.ext hb1)).mono ?_
    rintro e w2 ⟨rfl, hb2⟩
    have hz2 := hb2.size
    have k2_0 := fun o => hb2.cell (p := ⟨w.heap.size, o, none⟩) (by first | omega | (simp; done) | (simp; omega)); have k2f_0 := fun o => hb2.frozen (p := ⟨w.heap.size, o, none⟩) (by first | omega | (simp; done) | (simp; omega)); have k2_1 := fun o => hb2.cell (p := ⟨w.heap.size + 1, o, none⟩) (by first | omega | (simp; done) | (simp; omega)); have k2f_1 := fun o => hb2.frozen (p := ⟨w.heap.size + 1, o, none⟩) (by first | omega | (simp; done) | (simp; omega))
    obtain ⟨o, ho⟩ : ∃ o, lookL l (p1, p2) = o := ⟨_, rfl⟩
    rw [ho]
    have HF := Lib.hid (hf.trans ho)
    clear ho hf
    cases o with
    | none =>
      unfold lookV
      go_wp2_with fail
      refine bodyPost_ret (v := .tuple #[.agg #[.int .i64 0, .int .i64 0], .bool false]) (by simp [results, Try.results23, go_sem, *]) rfl ⟨by rw [HF.out]; rfl, ?_⟩
      (repeat (first | with_reducible assumption | with_reducible exact Below.refl _ _ | with_reducible refine Below.setCell ?_ (by first | omega | (simp; done) | (simp; omega)) _ | with_reducible refine Below.alloc ?_ (by first | omega | (simp; done) | (simp; omega)) _ | with_reducible refine below_drewN ?_ _ | with_reducible refine Below.drew ?_ | with_reducible refine Below.trans ?_ (Below.mono hb2 (by first | omega | (simp; done) | (simp; omega))) | with_reducible refine Below.trans ?_ (Below.mono hb1 (by first | omega | (simp; done) | (simp; omega)))))
    | some q =>
      obtain ⟨q1, q2⟩ := q
      unfold lookV
      go_wp2_with fail
      refine bodyPost_ret (v := .tuple #[.agg #[.int .i64 q1, .int .i64 q2], .bool true]) (by simp [results, Try.results23, go_sem, *]) rfl ⟨by rw [HF.out]; rfl, ?_⟩
      (repeat (first | with_reducible assumption | with_reducible exact Below.refl _ _ | with_reducible refine Below.setCell ?_ (by first | omega | (simp; done) | (simp; omega)) _ | with_reducible refine Below.alloc ?_ (by first | omega | (simp; done) | (simp; omega)) _ | with_reducible refine below_drewN ?_ _ | with_reducible refine Below.drew ?_ | with_reducible refine Below.trans ?_ (Below.mono hb2 (by first | omega | (simp; done) | (simp; omega))) | with_reducible refine Below.trans ?_ (Below.mono hb1 (by first | omega | (simp; done) | (simp; omega)))))
  · rw [segsOkB_no hok] at c1
    have C1 := Lib.hid c1
    clear c1
    have hf : mapLookL l (p1, p2) = none := by unfold mapLookL; rw [segsOkB_no hok]; rfl
    go_enter Try.func23, Try.ntmps23
    go_wp2_with fail
    refine C1.out.mono ?_
    rintro e w1 ⟨rfl, hb1⟩
    have hz1 := hb1.size
    (try simp at hz1)
    have k1_0 := fun o => hb1.cell (p := ⟨w.heap.size, o, none⟩) (by first | omega | (simp; done) | (simp; omega)); have k1f_0 := fun o => hb1.frozen (p := ⟨w.heap.size, o, none⟩) (by first | omega | (simp; done) | (simp; omega)); have k1_1 := fun o => hb1.cell (p := ⟨w.heap.size + 1, o, none⟩) (by first | omega | (simp; done) | (simp; omega)); have k1f_1 := fun o => hb1.frozen (p := ⟨w.heap.size + 1, o, none⟩) (by first | omega | (simp; done) | (simp; omega))
    have HF := Lib.hid hf
    clear hf
    go_wp2_with fail
    refine bodyPost_ret (v := .tuple #[.agg #[.int .i64 0, .int .i64 0], .bool false]) (by simp [results, Try.results23, go_sem, *]) rfl ⟨by rw [HF.out]; rfl, ?_⟩
    (repeat (first | with_reducible assumption | with_reducible exact Below.refl _ _ | with_reducible refine Below.setCell ?_ (by first | omega | (simp; done) | (simp; omega)) _ | with_reducible refine Below.alloc ?_ (by first | omega | (simp; done) | (simp; omega)) _ | with_reducible refine below_drewN ?_ _ | with_reducible refine Below.drew ?_ | with_reducible refine Below.trans ?_ (Below.mono hb1 (by first | omega | (simp; done) | (simp; omega)))))
theorem spMapLook_any (v : Value) (l : List Sg) (p1 p2 : Int) (w : World) (hv : SlS w w.heap.size v l) :
    Calls Try.prog 24 #[v, .agg #[.int .i64 p1, .int .i64 p2]] w fun e W' => e = .returned (lookV (mapLookL l (p1, p2))) ∧ Below w.heap.size w W' := by
  have hB2 : Below w.heap.size w ((w.alloc (Obj.cells #[Value.int IntKind.i64 p1, Value.int IntKind.i64 p2] 33)).alloc (Obj.cells #[Value.int IntKind.i64 0, Value.int IntKind.i64 0] 33)) := by (repeat (first | with_reducible assumption | with_reducible exact Below.refl _ _ | with_reducible refine Below.setCell ?_ (by first | omega | (simp; done) | (simp; omega)) _ | with_reducible refine Below.alloc ?_ (by first | omega | (simp; done) | (simp; omega)) _ | with_reducible refine below_drewN ?_ _ | with_reducible refine Below.drew ?_))
  have hv2 := hv.ext hB2
  have c1 := spSegsOk_any _ _ l hv2
  by_cases hok : SegsOk l
  · rw [segsOkB_yes hok] at c1
    have C1 := Lib.hid c1
    clear c1
    have hf : mapLookL l (p1, p2) = lookL l (p1, p2) := by unfold mapLookL; rw [segsOkB_yes hok]; rfl
    go_enter Try.func24, Try.ntmps24
    go_wp2_with fail
    refine C1.out.mono ?_
    rintro e w1 ⟨rfl, hb1⟩
    have hz1 := hb1.size
    (try simp at hz1)
    have k1_0 := fun o => hb1.cell (p := ⟨w.heap.size, o, none⟩) (by first | omega | (simp; done) | (simp; omega)); have k1f_0 := fun o => hb1.frozen (p := ⟨w.heap.size, o, none⟩) (by first | omega | (simp; done) | (simp; omega)); have k1_1 := fun o => hb1.cell (p := ⟨w.heap.size + 1, o, none⟩) (by first | omega | (simp; done) | (simp; omega)); have k1f_1 := fun o => hb1.frozen (p := ⟨w.heap.size + 1, o, none⟩) (by first | omega | (simp; done) | (simp; omega))
    go_wp2_with fail
    refine (spLook_any v l p1 p2 w1 (hv2.ext hb1)).mono ?_
    rintro e w2 ⟨rfl, hb2⟩
    have hz2 := hb2.size
    have k2_0 := fun o => hb2.cell (p := ⟨w.heap.size, o, none⟩) (by first | omega | (simp; done) | (simp; omega)); have k2f_0 := fun o => hb2.frozen (p := ⟨w.heap.size, o, none⟩) (by first | omega | (simp; done) | (simp; omega)); have k2_1 := fun o => hb2.cell (p := ⟨w.heap.size + 1, o, none⟩) (by first | omega | (simp; done) | (simp; omega)); have k2f_1 := fun o => hb2.frozen (p := ⟨w.heap.size + 1, o, none⟩) (by first | omega | (simp; done) | (simp; omega))
    obtain ⟨o, ho⟩ : ∃ o, lookL l (p1, p2) = o := ⟨_, rfl⟩
    rw [ho]
    have HF := Lib.hid (hf.trans ho)
    clear ho hf
    cases o with
    | none =>
      unfold lookV
      go_wp2_with fail
      refine bodyPost_ret (v := .tuple #[.agg #[.int .i64 0, .int .i64 0], .bool false]) (by simp [results, Try.results24, go_sem, *]) rfl ⟨by rw [HF.out]; rfl, ?_⟩
      (repeat (first | with_reducible assumption | with_reducible exact Below.refl _ _ | with_reducible refine Below.setCell ?_ (by first | omega | (simp; done) | (simp; omega)) _ | with_reducible refine Below.alloc ?_ (by first | omega | (simp; done) | (simp; omega)) _ | with_reducible refine below_drewN ?_ _ | with_reducible refine Below.drew ?_ | with_reducible refine Below.trans ?_ (Below.mono hb2 (by first | omega | (simp; done) | (simp; omega))) | with_reducible refine Below.trans ?_ (Below.mono hb1 (by first | omega | (simp; done) | (simp; omega)))))
    | some q =>
      obtain ⟨q1, q2⟩ := q
      unfold lookV
      go_wp2_with fail
      refine bodyPost_ret (v := .tuple #[.agg #[.int .i64 q1, .int .i64 q2], .bool true]) (by simp [results, Try.results24, go_sem, *]) rfl ⟨by rw [HF.out]; rfl, ?_⟩
      (repeat (first | with_reducible assumption | with_reducible exact Below.refl _ _ | with_reducible refine Below.setCell ?_ (by first | omega | (simp; done) | (simp; omega)) _ | with_reducible refine Below.alloc ?_ (by first | omega | (simp; done) | (simp; omega)) _ | with_reducible refine below_drewN ?_ _ | with_reducible refine Below.drew ?_ | with_reducible refine Below.trans ?_ (Below.mono hb2 (by first | omega | (simp; done) | (simp; omega))) | with_reducible refine Below.trans ?_ (Below.mono hb1 (by first | omega | (simp; done) | (simp; omega)))))
  · rw [segsOkB_no hok] at c1
    have C1 := Lib.hid c1
    clear c1
    have hf : mapLookL l (p1, p2) = none := by unfold mapLookL; rw [segsOkB_no hok]; rfl
    go_enter Try.func24, Try.ntmps24
    go_wp2_with fail
    refine C1.out.mono ?_
    rintro e w1 ⟨rfl, hb1⟩
    have hz1 := hb1.size
    (try simp at hz1)
    have k1_0 := fun o => hb1.cell (p := ⟨w.heap.size, o, none⟩) (by first | omega | (simp; done) | (simp; omega)); have k1f_0 := fun o => hb1.frozen (p := ⟨w.heap.size, o, none⟩) (by first | omega | (simp; done) | (simp; omega)); have k1_1 := fun o => hb1.cell (p := ⟨w.heap.size + 1, o, none⟩) (by first | omega | (simp; done) | (simp; omega)); have k1f_1 := fun o => hb1.frozen (p := ⟨w.heap.size + 1, o, none⟩) (by first | omega | (simp; done) | (simp; omega))
    have HF := Lib.hid hf
    clear hf
    go_wp2_with fail
    refine bodyPost_ret (v := .tuple #[.agg #[.int .i64 0, .int .i64 0], .bool false]) (by simp [results, Try.results24, go_sem, *]) rfl ⟨by rw [HF.out]; rfl, ?_⟩
    (repeat (first | with_reducible assumption | with_reducible exact Below.refl _ _ | with_reducible refine Below.setCell ?_ (by first | omega | (simp; done) | (simp; omega)) _ | with_reducible refine Below.alloc ?_ (by first | omega | (simp; done) | (simp; omega)) _ | with_reducible refine below_drewN ?_ _ | with_reducible refine Below.drew ?_ | with_reducible refine Below.trans ?_ (Below.mono hb1 (by first | omega | (simp; done) | (simp; omega)))))

theorem lookV_form (o : Option Ps) : ∃ a b t, lookV o = .tuple #[.agg #[.int .i64 a, .int .i64 b], .bool t] := by
  cases o with
  | none => exact ⟨_, _, _, rfl⟩
  | some q => exact ⟨_, _, _, rfl⟩
end Go.Proofs.Ytlmjaoignmgakaa
