
/- The type of a program: the program's. -/
import Derived.Test.YtdobcfekjmobhaaGreatDoorPtyS
import Derived.Deep.CutBlock
namespace Go.Proofs.YtdobcfekjmobhaaGreatDoor
set_option maxRecDepth 100000
set_option linter.unusedSimpArgs false
set_option linter.unusedVariables false
open Go.RowKit
attribute [local go_sem] bs_toList bs_get bs_size

/-- what the types of a line's two parts say of whether it fits -/
noncomputable def fitB (s : Sm) (r1 r2 : Bytes) : Bool := if s.kind = 0 then true else if s.kind = 1 then r1 == s.typ else if s.kind = 2 then !(r1 == []) else (r1 == cBool && !(r2 == []))
theorem ton_both (s : Sm) (nv tv : Value) (names types : List Bytes) (w : World) (A1 A2 : Option Addr) (c1 c2 : Nat) (hf : formSB s = true) (hl : names.length = types.length) (hn0 : names.length ≤ 1000)
    (hE1 : ExV w w.heap.size (.agg #[.int .i64 s.ex.kind, .int .i64 s.ex.n, .string (bs s.ex.s), .slice A1 s.ex.kids.length c1]) s.ex) (hE2 : ExV w w.heap.size (.agg #[.int .i64 s.th.kind, .int .i64 s.th.n, .string (bs s.th.s), .slice A2 s.th.kids.length c2]) s.th) (hnv : SlB w w.heap.size nv names) (htv : SlB w w.heap.size tv types) :
    ∃ r1 r2 : Bytes, (∀ w', Below w.heap.size w w' → Calls Tryz.prog 67 #[.agg #[.int .i64 s.ex.kind, .int .i64 s.ex.n, .string (bs s.ex.s), .slice A1 s.ex.kids.length c1], nv, tv] w' fun r w'' => r = .returned (.string (bs r1)) ∧ Below w'.heap.size w' w'') ∧
      (∀ w', Below w.heap.size w w' → Calls Tryz.prog 67 #[.agg #[.int .i64 s.th.kind, .int .i64 s.th.n, .string (bs s.th.s), .slice A2 s.th.kids.length c2], nv, tv] w' fun r w'' => r = .returned (.string (bs r2)) ∧ Below w'.heap.size w' w'') ∧
      smFits s names types = fitB s r1 r2 ∧ (s.kind = 0 ∨ s.kind = 1 ∨ s.kind = 2 ∨ s.kind = 3) := by
  obtain ⟨t, rfl, h⟩ := formSB_iff.1 hf
  rw [smFits_se h]
  cases t with
  | none =>
    refine ⟨[], [], fun w' hb => imTon_none _ nv tv w' ((hE1.keep hb (Nat.le_refl _)).more hb.size), fun w' hb => imTon_none _ nv tv w' ((hE2.keep hb (Nat.le_refl _)).more hb.size), rfl, .inl rfl⟩
  | slet nm ty e =>
    refine ⟨e.ty names types, [], fun w' hb => imTon_any e _ nv tv names types w' hl hn0 ((hE1.keep hb (Nat.le_refl _)).more hb.size) (hnv.ext hb) (htv.ext hb), fun w' hb => imTon_none _ nv tv w' ((hE2.keep hb (Nat.le_refl _)).more hb.size), ?_, .inr (.inl rfl)⟩
    simp [fitB, fitsE, SE.sm]
  | say e =>
    refine ⟨e.ty names types, [], fun w' hb => imTon_any e _ nv tv names types w' hl hn0 ((hE1.keep hb (Nat.le_refl _)).more hb.size) (hnv.ext hb) (htv.ext hb), fun w' hb => imTon_none _ nv tv w' ((hE2.keep hb (Nat.le_refl _)).more hb.size), ?_, .inr (.inr (.inl rfl))⟩
    simp [fitB, fitsE, SE.sm]
  | when a b =>
    refine ⟨a.ty names types, b.ty names types, fun w' hb => imTon_any a _ nv tv names types w' hl hn0 ((hE1.keep hb (Nat.le_refl _)).more hb.size) (hnv.ext hb) (htv.ext hb), fun w' hb => imTon_any b _ nv tv names types w' hl hn0 ((hE2.keep hb (Nat.le_refl _)).more hb.size) (hnv.ext hb) (htv.ext hb), ?_, .inr (.inr (.inr rfl))⟩
    simp [fitB, fitsE, SE.sm]
theorem own_ne {n t : Value} (h : DJ n t) : t.ownBlock = none ∨ t.ownBlock ≠ n.ownBlock := by
  rcases hq : t.ownBlock with _ | q
  · exact .inl rfl
  · exact .inr (fun e => h q e.symm hq)
theorem own_lt {α : Type} {row : α → List Value} {k B : Nat} {ty : TypeId} {w : World} {u : Value} {m : List α} (h : Gt row k ty B w u m) {b : Nat} (hb : w.heap.size ≤ b) : some b ≠ u.ownBlock := fun e => by
  have := (h.lt e.symm).2
  omega
theorem sm_parts {w : World} {B : Nat} {s : Sm} {A1 A2 : Option Addr} {c1 c2 : Nat} (h : SmV w B (.agg #[.int .i64 s.kind, .string (bs s.name), .string (bs s.typ), .int .i64 s.ex.kind, .int .i64 s.ex.n, .string (bs s.ex.s), .slice A1 s.ex.kids.length c1, .int .i64 s.th.kind, .int .i64 s.th.n, .string (bs s.th.s), .slice A2 s.th.kids.length c2]) s) :
    ExV w B (.agg #[.int .i64 s.ex.kind, .int .i64 s.ex.n, .string (bs s.ex.s), .slice A1 s.ex.kids.length c1]) s.ex ∧ ExV w B (.agg #[.int .i64 s.th.kind, .int .i64 s.th.n, .string (bs s.th.s), .slice A2 s.th.kids.length c2]) s.th := by
  obtain ⟨B1, B2, d1, d2, he, _, _, h1, h2⟩ := h.form2
  simp only [Value.agg.injEq, Array.mk.injEq, List.cons.injEq, Value.slice.injEq, true_and, and_true] at he
  obtain ⟨⟨rfl, rfl⟩, rfl, rfl⟩ := he
  exact ⟨h1, h2⟩
theorem imProgType_zero (l : List Sm) (v : Value) (W : World) (hv : SmS W W.heap.size v l) (hE : Env W) (hok : progOkB l = false) : Calls Tryz.prog 22 #[v] W fun r w' => r = .returned (.int .i64 (prTyp l)) ∧ Below W.heap.size W w' := by
  have C1 := Lib.hid (imProgOk_any l v W hv hE)
  obtain ⟨A, c, rfl, hc, hm⟩ := hv.val
  rw [hok] at C1
  have HO := Lib.hid hok
  clear hok hE
  go_enter Tryz.func22, Tryz.ntmps22
  go_wp2_with fail
  refine C1.out.mono ?_
  rintro r w1 ⟨rfl, hb1⟩
  go_wp2_with fail
  go_ret
  exact ⟨ret_int (by unfold prTyp; rw [HO.out]; rfl), hb1⟩
set_option maxHeartbeats 8000000 in
theorem imProgType_any (l : List Sm) (v : Value) (W : World) (hv : SmS W W.heap.size v l) (hE : Env W) : Calls Tryz.prog 22 #[v] W fun r w' => r = .returned (.int .i64 (prTyp l)) ∧ Below W.heap.size W w' := by
  by_cases hok : progOkB l = true
  rotate_left
  · exact imProgType_zero l v W hv hE (by simpa using hok)
  have C1 := Lib.hid (imProgOk_any l v W hv hE)
  obtain ⟨A, c, rfl, hc, hm⟩ := hv.val
  rw [hok] at C1
  have HO := Lib.hid (show prTyp l = prT l 0 [] [] by unfold prTyp; rw [hok]; rfl)
  have HF := Lib.hid (show ∀ i s, l[i]? = some s → formSB s = true from fun i s h => by
    simp only [progOkB, Bool.and_eq_true, List.all_eq_true] at hok
    have := hok.1.1 s (List.mem_of_getElem? h)
    rw [smOkB_form, Bool.and_eq_true] at this
    exact this.1)
  have hl16 : l.length ≤ 16 := by simp only [progOkB, Bool.and_eq_true, decide_eq_true_eq] at hok; exact hok.2
  clear hok hE
  go_enter Tryz.func22, Tryz.ntmps22
  go_wp2_with fail
  refine C1.out.mono ?_
  rintro r w1 ⟨rfl, hb1⟩
  have hz1 := hb1.size
  go_wp2_with fail
  go_loopg [3, 4, 15] l.length (fun k n t i wr => ∃ (j : Nat) (names types : List Bytes), k = l.length - j ∧ j ≤ l.length ∧ i = .int .i64 j ∧ GtS W.heap.size wr n names ∧ GtS W.heap.size wr t types ∧ DJ n t ∧ names.length = types.length ∧ names.length ≤ j ∧ prT l 0 [] [] = prT (l.drop j) j names types ∧ Below W.heap.size W wr)
  case atStart => exact ⟨0, [], [], by omega, by omega, rfl, Gt.nil _ _ _ _ _, Gt.nil _ _ _ _ _, fun b hb => by simp [Value.ownBlock] at hb, rfl, by simp, rfl, hb1⟩
  case round =>
    obtain ⟨j, names, types, hk, hj, rfl, hN, hT, hD, hlen, hnj, hpr, hbl⟩ := hrel
    have HK := Lib.hid (And.intro hk (And.intro hpr (And.intro hlen hD)))
    have hz := hbl.size
    by_cases hlt : j < l.length
    rotate_left
    · obtain rfl : j = l.length := by omega
      clear hk hpr hlen hD
      go_wp2_with fail
      go_ret
      exact ⟨ret_int (by rw [HO.out, HK.out.2.1, List.drop_length]; rfl), hbl⟩
    · obtain ⟨b, o, s, A1, A2, c1, c2, rfl, hb, hg, hS, f0, f1, f2, f3, f4, f5, f6, f7, f8, f9, f10⟩ := sm_at2 hv hlt
      have g0 := f0 ⟨wr, hbl⟩; have g1 := f1 ⟨wr, hbl⟩; have g2 := f2 ⟨wr, hbl⟩; have g3 := f3 ⟨wr, hbl⟩; have g4 := f4 ⟨wr, hbl⟩; have g5 := f5 ⟨wr, hbl⟩; have g6 := f6 ⟨wr, hbl⟩; have g7 := f7 ⟨wr, hbl⟩; have g8 := f8 ⟨wr, hbl⟩; have g9 := f9 ⟨wr, hbl⟩; have g10 := f10 ⟨wr, hbl⟩
      have hSr := (hS.keep hbl (Nat.le_refl _)).more hz
      obtain ⟨hX1, hX2⟩ := sm_parts hSr
      obtain ⟨r1, r2, D1, D2, hfit, hkd⟩ := ton_both s u3 u4 names types wr A1 A2 c1 c2 (HF.out _ _ hg) hlen (by omega) hX1 hX2 (hN.sl (fun _ => rfl)) (hT.sl (fun _ => rfl))
      have T1 := Lib.hid D1
      have T2 := Lib.hid D2
      have HG := Lib.hid (And.intro hg (And.intro hfit hkd))
      clear f0 f1 f2 f3 f4 f5 f6 f7 f8 f9 f10 hg hS hSr hX1 hX2 D1 D2 hk hpr hlen hD hfit hkd
      go_upto_region 7 with fail
      generalize hWB : World.alloc wr _ = wB
      have hbB : Below wr.heap.size wr wB := by rw [← hWB]; (repeat (first | with_reducible assumption | with_reducible exact Below.refl _ _ | with_reducible refine Below.setCell ?_ (by first | omega | (simp; done) | (simp; omega)) _ | with_reducible refine Below.alloc ?_ (by first | omega | (simp; done) | (simp; omega)) _ | with_reducible refine below_drewN ?_ _ | with_reducible refine Below.drew ?_))
      have hzB : wr.heap.size < wB.heap.size := by rw [← hWB]; simp
      have KEEP : Hid (∀ w', Below (wr.heap.size + 1) wB w' → w'.cell? ⟨wr.heap.size, 0, none⟩ = some (.int .i64 s.kind) ∧ w'.cell? ⟨wr.heap.size, 1, none⟩ = some (.string (bs s.name)) ∧ w'.cell? ⟨wr.heap.size, 2, none⟩ = some (.string (bs s.typ)) ∧ w'.cell? ⟨wr.heap.size, 3, none⟩ = some (.int .i64 s.ex.kind) ∧ w'.cell? ⟨wr.heap.size, 4, none⟩ = some (.int .i64 s.ex.n) ∧ w'.cell? ⟨wr.heap.size, 5, none⟩ = some (.string (bs s.ex.s)) ∧ w'.cell? ⟨wr.heap.size, 6, none⟩ = some (.slice A1 s.ex.kids.length c1) ∧ w'.cell? ⟨wr.heap.size, 7, none⟩ = some (.int .i64 s.th.kind) ∧ w'.cell? ⟨wr.heap.size, 8, none⟩ = some (.int .i64 s.th.n) ∧ w'.cell? ⟨wr.heap.size, 9, none⟩ = some (.string (bs s.th.s)) ∧ w'.cell? ⟨wr.heap.size, 10, none⟩ = some (.slice A2 s.th.kids.length c2)) := Lib.hid (fun w' h => by
        rw [← hWB] at h
        refine ⟨?_, ?_, ?_, ?_, ?_, ?_, ?_, ?_, ?_, ?_, ?_⟩ <;> exact (h.cell (p := ⟨wr.heap.size, _, none⟩) (Nat.lt_succ_self _)).trans (by simp [go_sem]))
      obtain ⟨x0, x1, x2, x3, x4, x5, x6, x7, x8, x9, x10⟩ := KEEP.out wB (Below.refl _ _)
      clear hWB g0 g1 g2 g3 g4 g5 g6 g7 g8 g9 g10
      have tok1 : True := trivial
      go_region_held3 (fun w' => w'.cell? ⟨wr.heap.size, 0, none⟩ = some (.int .i64 s.kind) ∧ w'.cell? ⟨wr.heap.size, 1, none⟩ = some (.string (bs s.name)) ∧ w'.cell? ⟨wr.heap.size, 2, none⟩ = some (.string (bs s.typ)) ∧ w'.cell? ⟨wr.heap.size, 3, none⟩ = some (.int .i64 s.ex.kind) ∧ w'.cell? ⟨wr.heap.size, 4, none⟩ = some (.int .i64 s.ex.n) ∧ w'.cell? ⟨wr.heap.size, 5, none⟩ = some (.string (bs s.ex.s)) ∧ w'.cell? ⟨wr.heap.size, 6, none⟩ = some (.slice A1 s.ex.kids.length c1) ∧ w'.cell? ⟨wr.heap.size, 7, none⟩ = some (.int .i64 s.th.kind) ∧ w'.cell? ⟨wr.heap.size, 8, none⟩ = some (.int .i64 s.th.n) ∧ w'.cell? ⟨wr.heap.size, 9, none⟩ = some (.string (bs s.th.s)) ∧ w'.cell? ⟨wr.heap.size, 10, none⟩ = some (.slice A2 s.th.kids.length c2))
        (first | exact KEEP.out _ (by (repeat (first | with_reducible assumption | with_reducible exact Below.refl _ _ | with_reducible refine Below.setCell ?_ (by first | omega | (simp; done) | (simp; omega)) _ | with_reducible refine Below.alloc ?_ (by first | omega | (simp; done) | (simp; omega)) _ | with_reducible refine below_drewN ?_ _ | with_reducible refine Below.drew ?_ | with_reducible refine Below.trans ?_ (Below.mono hb7 (by first | omega | (simp; done) | (simp; omega))) | with_reducible refine Below.trans ?_ (Below.mono hb6 (by first | omega | (simp; done) | (simp; omega)))))) | go_keep)
        (first
          | (have tk := tok1; go_at_call 67; refine (T1.out _ (by (repeat (first | with_reducible assumption | with_reducible exact Below.refl _ _ | with_reducible refine Below.setCell ?_ (by first | omega | (simp; done) | (simp; omega)) _ | with_reducible refine Below.alloc ?_ (by first | omega | (simp; done) | (simp; omega)) _ | with_reducible refine below_drewN ?_ _ | with_reducible refine Below.drew ?_ | with_reducible refine Below.trans ?_ (Below.mono hbB (by first | omega | (simp; done) | (simp; omega))))))).mono ?_; rintro r w6 ⟨rfl, hb6⟩; clear tk tok1; have hz6 := hb6.size; (try simp at hz6))
          | (have tk := hb6; go_at_call 67; refine (T2.out _ (by (repeat (first | with_reducible assumption | with_reducible exact Below.refl _ _ | with_reducible refine Below.setCell ?_ (by first | omega | (simp; done) | (simp; omega)) _ | with_reducible refine Below.alloc ?_ (by first | omega | (simp; done) | (simp; omega)) _ | with_reducible refine below_drewN ?_ _ | with_reducible refine Below.drew ?_ | with_reducible refine Below.trans ?_ (Below.mono hb6 (by first | omega | (simp; done) | (simp; omega))) | with_reducible refine Below.trans ?_ (Below.mono hbB (by first | omega | (simp; done) | (simp; omega))))))).mono ?_; rintro r w7 ⟨rfl, hb7⟩; clear tk; have hz7 := hb7.size; (try simp at hz7))
          | fail)
      have hbr7 : Below wr.heap.size wr w7 := by (repeat (first | with_reducible assumption | with_reducible exact Below.refl _ _ | with_reducible refine Below.setCell ?_ (by first | omega | (simp; done) | (simp; omega)) _ | with_reducible refine Below.alloc ?_ (by first | omega | (simp; done) | (simp; omega)) _ | with_reducible refine below_drewN ?_ _ | with_reducible refine Below.drew ?_ | with_reducible refine Below.trans ?_ (Below.mono hb7 (by first | omega | (simp; done) | (simp; omega))) | with_reducible refine Below.trans ?_ (Below.mono hb6 (by first | omega | (simp; done) | (simp; omega))) | with_reducible refine Below.trans ?_ (Below.mono hbB (by first | omega | (simp; done) | (simp; omega)))))
      have hb7B : Below (wr.heap.size + 1) wB w7 := by (repeat (first | with_reducible assumption | with_reducible exact Below.refl _ _ | with_reducible refine Below.setCell ?_ (by first | omega | (simp; done) | (simp; omega)) _ | with_reducible refine Below.alloc ?_ (by first | omega | (simp; done) | (simp; omega)) _ | with_reducible refine below_drewN ?_ _ | with_reducible refine Below.drew ?_ | with_reducible refine Below.trans ?_ (Below.mono hb7 (by first | omega | (simp; done) | (simp; omega))) | with_reducible refine Below.trans ?_ (Below.mono hb6 (by first | omega | (simp; done) | (simp; omega)))))
      have hbl7 : Below W.heap.size W w7 := hbl.ext hbr7
      have hN7 := hN.ext hbr7
      have hT7 := hT.ext hbr7
      have hnl : names.length ≤ 16 := by omega
      have htl : types.length ≤ 16 := by have := HK.out.2.2.1; omega
      have hzz7 := hbl7.size
      clear T1 T2 hb6 hb7 x0 x1 x2 x3 x4 x5 x6 x7 x8 x9 x10
      obtain ⟨x0, x1, x2, x3, x4, x5, x6, x7, x8, x9, x10⟩ := KEEP.out w7 hb7B
      go_upto_block 2 with fail
      go_cut [3, 4, 9] (fun s3 s4 s9 wx => s9 = .bool (fitB s r1 r2) ∧ GtS W.heap.size wx s3 (names ++ letN s) ∧ GtS W.heap.size wx s4 (types ++ letT s) ∧ DJ s3 s4 ∧ Below W.heap.size W wx)
      case first =>
        by_cases k1 : s.kind = 1
        · have d1 : (s.kind == 1) = true := by simpa using k1
          have KD := Lib.hid k1
          clear k1
          go_upto_region 12 with fail
          have tok3 : True := trivial
          have hbx7 : wr.heap.size < w7.heap.size := by have := hb7B.size; omega
          go_region_held3 (fun w' => w'.cell? ⟨wr.heap.size, 1, none⟩ = some (.string (bs s.name)) ∧ w'.cell? ⟨wr.heap.size, 2, none⟩ = some (.string (bs s.typ)))
            (first | exact ⟨z1, z2⟩ | exact ⟨y1, y2⟩ | go_keep)
            (first
            | (have tk := tok3; refine aps_step (by rfl) (.tmp 38) (.tmp 41) (by rfl) W.heap.size _ names (by rfl) (hN7.ext (by (repeat (first | with_reducible assumption | with_reducible exact Below.refl _ _ | with_reducible refine Below.setCell ?_ (by first | omega | (simp; done) | (simp; omega)) _ | with_reducible refine Below.alloc ?_ (by first | omega | (simp; done) | (simp; omega)) _ | with_reducible refine below_drewN ?_ _ | with_reducible refine Below.drew ?_)))) ⟨w7.heap.size, 0, none⟩ 1 [s.name] (by rfl) ?_ (Nat.succ_pos 0) ?_ ?_ ?_; exact World.news_of_block (heap_alloc_new w7 _); (first | omega | (simp; done) | (simp only [List.length_cons, List.length_nil, List.length_append]; omega) | (simp; omega)); (first | omega | (simp; done) | (simp only [List.length_cons, List.length_nil, List.length_append]; omega) | (simp; omega)); intro ga capa w8 hG8 hgr8 hat8; clear tk tok3; have hz8 := hgr8.size; (try simp at hz8); have hD8 := DJ.first (q := names.length + [s.name].length) (c := capa) HK.out.2.2.2 (hT7.ext (show Below w7.heap.size w7 _ from by (repeat (first | with_reducible assumption | with_reducible exact Below.refl _ _ | with_reducible refine Below.setCell ?_ (by first | omega | (simp; done) | (simp; omega)) _ | with_reducible refine Below.alloc ?_ (by first | omega | (simp; done) | (simp; omega)) _ | with_reducible refine below_drewN ?_ _ | with_reducible refine Below.drew ?_)))) hat8; have hT8 := (hT7.ext (show Below w7.heap.size w7 _ from by (repeat (first | with_reducible assumption | with_reducible exact Below.refl _ _ | with_reducible refine Below.setCell ?_ (by first | omega | (simp; done) | (simp; omega)) _ | with_reducible refine Below.alloc ?_ (by first | omega | (simp; done) | (simp; omega)) _ | with_reducible refine below_drewN ?_ _ | with_reducible refine Below.drew ?_)))).grown hgr8 (own_ne HK.out.2.2.2); have hB8 : Below W.heap.size W w8 := below_app (show Below W.heap.size W _ from (by (repeat (first | with_reducible assumption | with_reducible exact Below.refl _ _ | with_reducible refine Below.setCell ?_ (by first | omega | (simp; done) | (simp; omega)) _ | with_reducible refine Below.alloc ?_ (by first | omega | (simp; done) | (simp; omega)) _ | with_reducible refine below_drewN ?_ _ | with_reducible refine Below.drew ?_ | with_reducible refine Below.trans ?_ (Below.mono hbl7 (by first | omega | (simp; done) | (simp; omega))))))) hgr8 hN7.less_own (by first | omega | (simp; done) | (simp only [List.length_cons, List.length_nil, List.length_append]; omega) | (simp; omega)); have y1 := hgr8.cell (((show Below w7.heap.size w7 _ from by (repeat (first | with_reducible assumption | with_reducible exact Below.refl _ _ | with_reducible refine Below.setCell ?_ (by first | omega | (simp; done) | (simp; omega)) _ | with_reducible refine Below.alloc ?_ (by first | omega | (simp; done) | (simp; omega)) _ | with_reducible refine below_drewN ?_ _ | with_reducible refine Below.drew ?_))).cell (p := ⟨wr.heap.size, 1, none⟩) hbx7).trans x1) (own_lt hN (Nat.le_refl _)); have y2 := hgr8.cell (((show Below w7.heap.size w7 _ from by (repeat (first | with_reducible assumption | with_reducible exact Below.refl _ _ | with_reducible refine Below.setCell ?_ (by first | omega | (simp; done) | (simp; omega)) _ | with_reducible refine Below.alloc ?_ (by first | omega | (simp; done) | (simp; omega)) _ | with_reducible refine below_drewN ?_ _ | with_reducible refine Below.drew ?_))).cell (p := ⟨wr.heap.size, 2, none⟩) hbx7).trans x2) (own_lt hN (Nat.le_refl _)))
            | (have tk := tok3; refine aps_step (by rfl) (.tmp 38) (.tmp 41) (by rfl) W.heap.size _ names (by rfl) (hN7.ext (by (repeat (first | with_reducible assumption | with_reducible exact Below.refl _ _ | with_reducible refine Below.setCell ?_ (by first | omega | (simp; done) | (simp; omega)) _ | with_reducible refine Below.alloc ?_ (by first | omega | (simp; done) | (simp; omega)) _ | with_reducible refine below_drewN ?_ _ | with_reducible refine Below.drew ?_)))) ⟨w7.heap.size, 0, none⟩ 1 [s.name] (by rfl) ?_ (Nat.succ_pos 0) ?_ ?_ ?_; exact World.news_of_block ((Below.heap_alloc _ _ _ (by simp)).trans (heap_alloc_new w7 _)); (first | omega | (simp; done) | (simp only [List.length_cons, List.length_nil, List.length_append]; omega) | (simp; omega)); (first | omega | (simp; done) | (simp only [List.length_cons, List.length_nil, List.length_append]; omega) | (simp; omega)); intro ga capa w8 hG8 hgr8 hat8; clear tk tok3; have hz8 := hgr8.size; (try simp at hz8); have hD8 := DJ.first (q := names.length + [s.name].length) (c := capa) HK.out.2.2.2 (hT7.ext (show Below w7.heap.size w7 _ from by (repeat (first | with_reducible assumption | with_reducible exact Below.refl _ _ | with_reducible refine Below.setCell ?_ (by first | omega | (simp; done) | (simp; omega)) _ | with_reducible refine Below.alloc ?_ (by first | omega | (simp; done) | (simp; omega)) _ | with_reducible refine below_drewN ?_ _ | with_reducible refine Below.drew ?_)))) hat8; have hT8 := (hT7.ext (show Below w7.heap.size w7 _ from by (repeat (first | with_reducible assumption | with_reducible exact Below.refl _ _ | with_reducible refine Below.setCell ?_ (by first | omega | (simp; done) | (simp; omega)) _ | with_reducible refine Below.alloc ?_ (by first | omega | (simp; done) | (simp; omega)) _ | with_reducible refine below_drewN ?_ _ | with_reducible refine Below.drew ?_)))).grown hgr8 (own_ne HK.out.2.2.2); have hB8 : Below W.heap.size W w8 := below_app (show Below W.heap.size W _ from (by (repeat (first | with_reducible assumption | with_reducible exact Below.refl _ _ | with_reducible refine Below.setCell ?_ (by first | omega | (simp; done) | (simp; omega)) _ | with_reducible refine Below.alloc ?_ (by first | omega | (simp; done) | (simp; omega)) _ | with_reducible refine below_drewN ?_ _ | with_reducible refine Below.drew ?_ | with_reducible refine Below.trans ?_ (Below.mono hbl7 (by first | omega | (simp; done) | (simp; omega))))))) hgr8 hN7.less_own (by first | omega | (simp; done) | (simp only [List.length_cons, List.length_nil, List.length_append]; omega) | (simp; omega)); have y1 := hgr8.cell (((show Below w7.heap.size w7 _ from by (repeat (first | with_reducible assumption | with_reducible exact Below.refl _ _ | with_reducible refine Below.setCell ?_ (by first | omega | (simp; done) | (simp; omega)) _ | with_reducible refine Below.alloc ?_ (by first | omega | (simp; done) | (simp; omega)) _ | with_reducible refine below_drewN ?_ _ | with_reducible refine Below.drew ?_))).cell (p := ⟨wr.heap.size, 1, none⟩) hbx7).trans x1) (own_lt hN (Nat.le_refl _)); have y2 := hgr8.cell (((show Below w7.heap.size w7 _ from by (repeat (first | with_reducible assumption | with_reducible exact Below.refl _ _ | with_reducible refine Below.setCell ?_ (by first | omega | (simp; done) | (simp; omega)) _ | with_reducible refine Below.alloc ?_ (by first | omega | (simp; done) | (simp; omega)) _ | with_reducible refine below_drewN ?_ _ | with_reducible refine Below.drew ?_))).cell (p := ⟨wr.heap.size, 2, none⟩) hbx7).trans x2) (own_lt hN (Nat.le_refl _)))
            | (have tk := tok3; refine aps_step (by rfl) (.tmp 38) (.tmp 41) (by rfl) W.heap.size _ names (by rfl) (hN7.ext (by (repeat (first | with_reducible assumption | with_reducible exact Below.refl _ _ | with_reducible refine Below.setCell ?_ (by first | omega | (simp; done) | (simp; omega)) _ | with_reducible refine Below.alloc ?_ (by first | omega | (simp; done) | (simp; omega)) _ | with_reducible refine below_drewN ?_ _ | with_reducible refine Below.drew ?_)))) ⟨w7.heap.size + 1, 0, none⟩ 1 [s.name] (by rfl) ?_ (Nat.succ_pos 0) ?_ ?_ ?_; exact World.news_of_block (by have h := heap_alloc_new (w7.alloc (.cells #[.string (bs s.typ)] 9)) (.cells #[.string (bs s.name)] 9); rw [World.size_alloc] at h; exact h); (first | omega | (simp; done) | (simp only [List.length_cons, List.length_nil, List.length_append]; omega) | (simp; omega)); (first | omega | (simp; done) | (simp only [List.length_cons, List.length_nil, List.length_append]; omega) | (simp; omega)); intro ga capa w8 hG8 hgr8 hat8; clear tk tok3; have hz8 := hgr8.size; (try simp at hz8); have hD8 := DJ.first (q := names.length + [s.name].length) (c := capa) HK.out.2.2.2 (hT7.ext (show Below w7.heap.size w7 _ from by (repeat (first | with_reducible assumption | with_reducible exact Below.refl _ _ | with_reducible refine Below.setCell ?_ (by first | omega | (simp; done) | (simp; omega)) _ | with_reducible refine Below.alloc ?_ (by first | omega | (simp; done) | (simp; omega)) _ | with_reducible refine below_drewN ?_ _ | with_reducible refine Below.drew ?_)))) hat8; have hT8 := (hT7.ext (show Below w7.heap.size w7 _ from by (repeat (first | with_reducible assumption | with_reducible exact Below.refl _ _ | with_reducible refine Below.setCell ?_ (by first | omega | (simp; done) | (simp; omega)) _ | with_reducible refine Below.alloc ?_ (by first | omega | (simp; done) | (simp; omega)) _ | with_reducible refine below_drewN ?_ _ | with_reducible refine Below.drew ?_)))).grown hgr8 (own_ne HK.out.2.2.2); have hB8 : Below W.heap.size W w8 := below_app (show Below W.heap.size W _ from (by (repeat (first | with_reducible assumption | with_reducible exact Below.refl _ _ | with_reducible refine Below.setCell ?_ (by first | omega | (simp; done) | (simp; omega)) _ | with_reducible refine Below.alloc ?_ (by first | omega | (simp; done) | (simp; omega)) _ | with_reducible refine below_drewN ?_ _ | with_reducible refine Below.drew ?_ | with_reducible refine Below.trans ?_ (Below.mono hbl7 (by first | omega | (simp; done) | (simp; omega))))))) hgr8 hN7.less_own (by first | omega | (simp; done) | (simp only [List.length_cons, List.length_nil, List.length_append]; omega) | (simp; omega)); have y1 := hgr8.cell (((show Below w7.heap.size w7 _ from by (repeat (first | with_reducible assumption | with_reducible exact Below.refl _ _ | with_reducible refine Below.setCell ?_ (by first | omega | (simp; done) | (simp; omega)) _ | with_reducible refine Below.alloc ?_ (by first | omega | (simp; done) | (simp; omega)) _ | with_reducible refine below_drewN ?_ _ | with_reducible refine Below.drew ?_))).cell (p := ⟨wr.heap.size, 1, none⟩) hbx7).trans x1) (own_lt hN (Nat.le_refl _)); have y2 := hgr8.cell (((show Below w7.heap.size w7 _ from by (repeat (first | with_reducible assumption | with_reducible exact Below.refl _ _ | with_reducible refine Below.setCell ?_ (by first | omega | (simp; done) | (simp; omega)) _ | with_reducible refine Below.alloc ?_ (by first | omega | (simp; done) | (simp; omega)) _ | with_reducible refine below_drewN ?_ _ | with_reducible refine Below.drew ?_))).cell (p := ⟨wr.heap.size, 2, none⟩) hbx7).trans x2) (own_lt hN (Nat.le_refl _)))
            | (have tk := hgr8; refine aps_step (by rfl) (.tmp 43) (.tmp 46) (by rfl) W.heap.size _ types (by rfl) (hT8.ext (by (repeat (first | with_reducible assumption | with_reducible exact Below.refl _ _ | with_reducible refine Below.setCell ?_ (by first | omega | (simp; done) | (simp; omega)) _ | with_reducible refine Below.alloc ?_ (by first | omega | (simp; done) | (simp; omega)) _ | with_reducible refine below_drewN ?_ _ | with_reducible refine Below.drew ?_)))) ⟨w8.heap.size, 0, none⟩ 1 [s.typ] (by rfl) ?_ (Nat.succ_pos 0) ?_ ?_ ?_; exact World.news_of_block (heap_alloc_new w8 _); (first | omega | (simp; done) | (simp only [List.length_cons, List.length_nil, List.length_append]; omega) | (simp; omega)); (first | omega | (simp; done) | (simp only [List.length_cons, List.length_nil, List.length_append]; omega) | (simp; omega)); intro gb capb w9 hG9 hgr9 hat9; have hD9 := hD8.second (q2 := types.length + [s.typ].length) (c2 := capb) (hG8.ext (show Below w8.heap.size w8 _ from by (repeat (first | with_reducible assumption | with_reducible exact Below.refl _ _ | with_reducible refine Below.setCell ?_ (by first | omega | (simp; done) | (simp; omega)) _ | with_reducible refine Below.alloc ?_ (by first | omega | (simp; done) | (simp; omega)) _ | with_reducible refine below_drewN ?_ _ | with_reducible refine Below.drew ?_)))) hat9; have hG9n := (hG8.ext (show Below w8.heap.size w8 _ from by (repeat (first | with_reducible assumption | with_reducible exact Below.refl _ _ | with_reducible refine Below.setCell ?_ (by first | omega | (simp; done) | (simp; omega)) _ | with_reducible refine Below.alloc ?_ (by first | omega | (simp; done) | (simp; omega)) _ | with_reducible refine below_drewN ?_ _ | with_reducible refine Below.drew ?_)))).grown hgr9 (.inr (by simp only [Value.ownBlock]; intro e; exact hD8 ga rfl e.symm)); have hB9 : Below W.heap.size W w9 := below_app (show Below W.heap.size W _ from (by (repeat (first | with_reducible assumption | with_reducible exact Below.refl _ _ | with_reducible refine Below.setCell ?_ (by first | omega | (simp; done) | (simp; omega)) _ | with_reducible refine Below.alloc ?_ (by first | omega | (simp; done) | (simp; omega)) _ | with_reducible refine below_drewN ?_ _ | with_reducible refine Below.drew ?_ | with_reducible refine Below.trans ?_ (Below.mono hB8 (by first | omega | (simp; done) | (simp; omega))))))) hgr9 hT8.less_own (by first | omega | (simp; done) | (simp only [List.length_cons, List.length_nil, List.length_append]; omega) | (simp; omega)); have z1 := hgr9.cell (((show Below w8.heap.size w8 _ from by (repeat (first | with_reducible assumption | with_reducible exact Below.refl _ _ | with_reducible refine Below.setCell ?_ (by first | omega | (simp; done) | (simp; omega)) _ | with_reducible refine Below.alloc ?_ (by first | omega | (simp; done) | (simp; omega)) _ | with_reducible refine below_drewN ?_ _ | with_reducible refine Below.drew ?_))).cell (p := ⟨wr.heap.size, 1, none⟩) (Nat.lt_of_lt_of_le hbx7 (by first | omega | (simp; done) | (simp only [List.length_cons, List.length_nil, List.length_append]; omega) | (simp; omega)))).trans y1) (own_lt hT (Nat.le_refl _)); have z2 := hgr9.cell (((show Below w8.heap.size w8 _ from by (repeat (first | with_reducible assumption | with_reducible exact Below.refl _ _ | with_reducible refine Below.setCell ?_ (by first | omega | (simp; done) | (simp; omega)) _ | with_reducible refine Below.alloc ?_ (by first | omega | (simp; done) | (simp; omega)) _ | with_reducible refine below_drewN ?_ _ | with_reducible refine Below.drew ?_))).cell (p := ⟨wr.heap.size, 2, none⟩) (Nat.lt_of_lt_of_le hbx7 (by first | omega | (simp; done) | (simp only [List.length_cons, List.length_nil, List.length_append]; omega) | (simp; omega)))).trans y2) (own_lt hT (Nat.le_refl _)))
            | (have tk := hgr8; refine aps_step (by rfl) (.tmp 43) (.tmp 46) (by rfl) W.heap.size _ types (by rfl) (hT8.ext (by (repeat (first | with_reducible assumption | with_reducible exact Below.refl _ _ | with_reducible refine Below.setCell ?_ (by first | omega | (simp; done) | (simp; omega)) _ | with_reducible refine Below.alloc ?_ (by first | omega | (simp; done) | (simp; omega)) _ | with_reducible refine below_drewN ?_ _ | with_reducible refine Below.drew ?_)))) ⟨w7.heap.size + 1, 0, none⟩ 1 [s.typ] (by rfl) ?_ (Nat.succ_pos 0) ?_ ?_ ?_; exact World.news_of_block ((hgr8.block _ (by first | omega | (simp; done) | (simp only [List.length_cons, List.length_nil, List.length_append]; omega) | (simp; omega)) (own_lt (hN7.ext (show Below w7.heap.size w7 _ from Below.refl _ _)) (by omega))).trans (by have h := heap_alloc_new (w7.alloc (.cells #[.string (bs s.name)] 9)) (.cells #[.string (bs s.typ)] 9); rw [World.size_alloc] at h; exact h)); (first | omega | (simp; done) | (simp only [List.length_cons, List.length_nil, List.length_append]; omega) | (simp; omega)); (first | omega | (simp; done) | (simp only [List.length_cons, List.length_nil, List.length_append]; omega) | (simp; omega)); intro gb capb w9 hG9 hgr9 hat9; have hD9 := hD8.second (q2 := types.length + [s.typ].length) (c2 := capb) (hG8.ext (show Below w8.heap.size w8 _ from by (repeat (first | with_reducible assumption | with_reducible exact Below.refl _ _ | with_reducible refine Below.setCell ?_ (by first | omega | (simp; done) | (simp; omega)) _ | with_reducible refine Below.alloc ?_ (by first | omega | (simp; done) | (simp; omega)) _ | with_reducible refine below_drewN ?_ _ | with_reducible refine Below.drew ?_)))) hat9; have hG9n := (hG8.ext (show Below w8.heap.size w8 _ from by (repeat (first | with_reducible assumption | with_reducible exact Below.refl _ _ | with_reducible refine Below.setCell ?_ (by first | omega | (simp; done) | (simp; omega)) _ | with_reducible refine Below.alloc ?_ (by first | omega | (simp; done) | (simp; omega)) _ | with_reducible refine below_drewN ?_ _ | with_reducible refine Below.drew ?_)))).grown hgr9 (.inr (by simp only [Value.ownBlock]; intro e; exact hD8 ga rfl e.symm)); have hB9 : Below W.heap.size W w9 := below_app (show Below W.heap.size W _ from (by (repeat (first | with_reducible assumption | with_reducible exact Below.refl _ _ | with_reducible refine Below.setCell ?_ (by first | omega | (simp; done) | (simp; omega)) _ | with_reducible refine Below.alloc ?_ (by first | omega | (simp; done) | (simp; omega)) _ | with_reducible refine below_drewN ?_ _ | with_reducible refine Below.drew ?_ | with_reducible refine Below.trans ?_ (Below.mono hB8 (by first | omega | (simp; done) | (simp; omega))))))) hgr9 hT8.less_own (by first | omega | (simp; done) | (simp only [List.length_cons, List.length_nil, List.length_append]; omega) | (simp; omega)); have z1 := hgr9.cell (((show Below w8.heap.size w8 _ from by (repeat (first | with_reducible assumption | with_reducible exact Below.refl _ _ | with_reducible refine Below.setCell ?_ (by first | omega | (simp; done) | (simp; omega)) _ | with_reducible refine Below.alloc ?_ (by first | omega | (simp; done) | (simp; omega)) _ | with_reducible refine below_drewN ?_ _ | with_reducible refine Below.drew ?_))).cell (p := ⟨wr.heap.size, 1, none⟩) (Nat.lt_of_lt_of_le hbx7 (by first | omega | (simp; done) | (simp only [List.length_cons, List.length_nil, List.length_append]; omega) | (simp; omega)))).trans y1) (own_lt hT (Nat.le_refl _)); have z2 := hgr9.cell (((show Below w8.heap.size w8 _ from by (repeat (first | with_reducible assumption | with_reducible exact Below.refl _ _ | with_reducible refine Below.setCell ?_ (by first | omega | (simp; done) | (simp; omega)) _ | with_reducible refine Below.alloc ?_ (by first | omega | (simp; done) | (simp; omega)) _ | with_reducible refine below_drewN ?_ _ | with_reducible refine Below.drew ?_))).cell (p := ⟨wr.heap.size, 2, none⟩) (Nat.lt_of_lt_of_le hbx7 (by first | omega | (simp; done) | (simp only [List.length_cons, List.length_nil, List.length_append]; omega) | (simp; omega)))).trans y2) (own_lt hT (Nat.le_refl _)))
            | (have tk := hgr8; refine aps_step (by rfl) (.tmp 43) (.tmp 46) (by rfl) W.heap.size _ types (by rfl) (hT8.ext (by (repeat (first | with_reducible assumption | with_reducible exact Below.refl _ _ | with_reducible refine Below.setCell ?_ (by first | omega | (simp; done) | (simp; omega)) _ | with_reducible refine Below.alloc ?_ (by first | omega | (simp; done) | (simp; omega)) _ | with_reducible refine below_drewN ?_ _ | with_reducible refine Below.drew ?_)))) ⟨w7.heap.size, 0, none⟩ 1 [s.typ] (by rfl) ?_ (Nat.succ_pos 0) ?_ ?_ ?_; exact World.news_of_block ((hgr8.block _ (by first | omega | (simp; done) | (simp only [List.length_cons, List.length_nil, List.length_append]; omega) | (simp; omega)) (own_lt hN7 (Nat.le_refl _))).trans ((Below.heap_alloc _ _ _ (by simp)).trans (heap_alloc_new w7 _))); (first | omega | (simp; done) | (simp only [List.length_cons, List.length_nil, List.length_append]; omega) | (simp; omega)); (first | omega | (simp; done) | (simp only [List.length_cons, List.length_nil, List.length_append]; omega) | (simp; omega)); intro gb capb w9 hG9 hgr9 hat9; have hD9 := hD8.second (q2 := types.length + [s.typ].length) (c2 := capb) (hG8.ext (show Below w8.heap.size w8 _ from by (repeat (first | with_reducible assumption | with_reducible exact Below.refl _ _ | with_reducible refine Below.setCell ?_ (by first | omega | (simp; done) | (simp; omega)) _ | with_reducible refine Below.alloc ?_ (by first | omega | (simp; done) | (simp; omega)) _ | with_reducible refine below_drewN ?_ _ | with_reducible refine Below.drew ?_)))) hat9; have hG9n := (hG8.ext (show Below w8.heap.size w8 _ from by (repeat (first | with_reducible assumption | with_reducible exact Below.refl _ _ | with_reducible refine Below.setCell ?_ (by first | omega | (simp; done) | (simp; omega)) _ | with_reducible refine Below.alloc ?_ (by first | omega | (simp; done) | (simp; omega)) _ | with_reducible refine below_drewN ?_ _ | with_reducible refine Below.drew ?_)))).grown hgr9 (.inr (by simp only [Value.ownBlock]; intro e; exact hD8 ga rfl e.symm)); have hB9 : Below W.heap.size W w9 := below_app (show Below W.heap.size W _ from (by (repeat (first | with_reducible assumption | with_reducible exact Below.refl _ _ | with_reducible refine Below.setCell ?_ (by first | omega | (simp; done) | (simp; omega)) _ | with_reducible refine Below.alloc ?_ (by first | omega | (simp; done) | (simp; omega)) _ | with_reducible refine below_drewN ?_ _ | with_reducible refine Below.drew ?_ | with_reducible refine Below.trans ?_ (Below.mono hB8 (by first | omega | (simp; done) | (simp; omega))))))) hgr9 hT8.less_own (by first | omega | (simp; done) | (simp only [List.length_cons, List.length_nil, List.length_append]; omega) | (simp; omega)); have z1 := hgr9.cell (((show Below w8.heap.size w8 _ from by (repeat (first | with_reducible assumption | with_reducible exact Below.refl _ _ | with_reducible refine Below.setCell ?_ (by first | omega | (simp; done) | (simp; omega)) _ | with_reducible refine Below.alloc ?_ (by first | omega | (simp; done) | (simp; omega)) _ | with_reducible refine below_drewN ?_ _ | with_reducible refine Below.drew ?_))).cell (p := ⟨wr.heap.size, 1, none⟩) (Nat.lt_of_lt_of_le hbx7 (by first | omega | (simp; done) | (simp only [List.length_cons, List.length_nil, List.length_append]; omega) | (simp; omega)))).trans y1) (own_lt hT (Nat.le_refl _)); have z2 := hgr9.cell (((show Below w8.heap.size w8 _ from by (repeat (first | with_reducible assumption | with_reducible exact Below.refl _ _ | with_reducible refine Below.setCell ?_ (by first | omega | (simp; done) | (simp; omega)) _ | with_reducible refine Below.alloc ?_ (by first | omega | (simp; done) | (simp; omega)) _ | with_reducible refine below_drewN ?_ _ | with_reducible refine Below.drew ?_))).cell (p := ⟨wr.heap.size, 2, none⟩) (Nat.lt_of_lt_of_le hbx7 (by first | omega | (simp; done) | (simp only [List.length_cons, List.length_nil, List.length_append]; omega) | (simp; omega)))).trans y2) (own_lt hT (Nat.le_refl _)))
            | fail)
          all_goals
            go_wp2_with fail
            go_meet
            exact ⟨congrArg Value.bool (by unfold fitB; rw [KD.out]; simp), by unfold letN; rw [if_pos KD.out]; exact hG9n, by unfold letT; rw [if_pos KD.out]; exact hG9, hD9, hB9⟩
        · have e1 : letN s = [] := by unfold letN; rw [if_neg k1]
          have e2 : letT s = [] := by unfold letT; rw [if_neg k1]
          have EE := Lib.hid (And.intro e1 e2)
          have d1 : (s.kind == 1) = false := by simpa using k1
          have K1 := Lib.hid k1
          clear e1 e2 k1
          by_cases k2 : s.kind = 2
          · have d2 : (s.kind == 2) = true := by simpa using k2
            have KD := Lib.hid k2
            clear k2
            go_wp2_with fail
            go_meet
            exact ⟨congrArg Value.bool (by unfold fitB; rw [KD.out]; simp [bne]), by rw [EE.out.1, List.append_nil]; exact hN7, by rw [EE.out.2, List.append_nil]; exact hT7, HK.out.2.2.2, hbl7⟩
          · have d2 : (s.kind == 2) = false := by simpa using k2
            have K2 := Lib.hid k2
            clear k2
            by_cases k3 : s.kind = 3
            · have d3 : (s.kind == 3) = true := by simpa using k3
              have KD := Lib.hid k3
              clear k3
              by_cases hq : r1 = cBool
              · subst hq
                unfold cBool
                go_wp2_with fail
                go_meet
                exact ⟨congrArg Value.bool (by unfold fitB; rw [KD.out]; simp [cBool, bne]), by rw [EE.out.1, List.append_nil]; exact hN7, by rw [EE.out.2, List.append_nil]; exact hT7, HK.out.2.2.2, hbl7⟩
              · have dq : (r1 == [98, 111, 111, 108]) = false := by simpa [cBool] using hq
                have HQ := Lib.hid hq
                clear hq
                go_wp2_with fail
                go_meet
                exact ⟨congrArg Value.bool (by unfold fitB; rw [KD.out, show (r1 == cBool) = false by simpa using HQ.out]; simp), by rw [EE.out.1, List.append_nil]; exact hN7, by rw [EE.out.2, List.append_nil]; exact hT7, HK.out.2.2.2, hbl7⟩
            · have d3 : (s.kind == 3) = false := by simpa using k3
              have K3 := Lib.hid k3
              clear k3
              go_wp2_with fail
              go_meet
              exact ⟨congrArg Value.bool (by unfold fitB; rw [if_pos (by have h1 := HG.out.2.2; have a1 := K1.out; have a2 := K2.out; have a3 := K3.out; omega)]), by rw [EE.out.1, List.append_nil]; exact hN7, by rw [EE.out.2, List.append_nil]; exact hT7, HK.out.2.2.2, hbl7⟩
      case rest =>
        obtain ⟨rfl, hNc, hTc, hDc, hbc⟩ := hcut
        have HC := Lib.hid (And.intro hNc (And.intro hTc hDc))
        clear hNc hTc hDc
        have hfz := HG.out.2.1
        by_cases hff : smFits s names types = true
        · rw [hff] at hfz
          rw [← hfz]
          have HX := Lib.hid hff
          clear hff hfz
          go_wp2_with fail
          go_roundg (l.length - (j + 1))
          case measure => have := HK.out.1; omega
          case rel =>
            exact ⟨j + 1, names ++ letN s, types ++ letT s, rfl, by omega, by go_num, HC.out.1, HC.out.2.1, HC.out.2.2, by have := HK.out.2.2.1; unfold letN letT; split <;> simp <;> omega, by unfold letN; split <;> simp <;> omega, by rw [HK.out.2.1, prT_yes HG.out.1 HX.out], hbc⟩
        · have hff2 : smFits s names types = false := by simpa using hff
          rw [hff2] at hfz
          rw [← hfz]
          have HX := Lib.hid hff2
          clear hff hff2 hfz
          go_wp2_with fail
          go_ret
          exact ⟨ret_int (by rw [HO.out, HK.out.2.1, prT_no HG.out.1 HX.out]), hbc⟩
end Go.Proofs.YtdobcfekjmobhaaGreatDoor
