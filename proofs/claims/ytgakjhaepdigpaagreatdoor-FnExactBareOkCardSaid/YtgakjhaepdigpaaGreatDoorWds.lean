/- The words of what is reckoned: the reference's. -/
import Derived.Test.YtgakjhaepdigpaaGreatDoorZm13
import Derived.Test.YtgakjhaepdigpaaGreatDoorZm8
import Derived.Deep.CutBlock
namespace Go.Proofs.YtgakjhaepdigpaaGreatDoor
set_option maxRecDepth 100000
set_option linter.unusedSimpArgs false
set_option linter.unusedVariables false
open Go.RowKit
attribute [local go_sem] bs_toList bs_get bs_size

/-- an empty row of the call's own, just laid -/
theorem gt_empty {α : Type} (row : α → List Value) (k : Nat) (t : TypeId) {B : Nat} (w w' : World) (hB : B ≤ w.heap.size) (hb : Below (w.heap.size + 1) (w.alloc (.cells #[] t)) w') : Gt row k t B w' (.slice (some ⟨w.heap.size, 0, none⟩) 0 0) [] :=
  ⟨by simp, .inr ⟨w.heap.size, 0, #[], rfl, hB, (hb.block _ (by omega)).trans (heap_alloc_new w _), Nat.le_refl _, by unfold maxLen; omega, by simp, by simp⟩⟩
set_option maxHeartbeats 10000000 in
theorem spTwo_any (k t : Nat) (ob : Bytes) (wa wb : List Bytes) (w : World) (c b0 o0 : Nat) (p1 q1 : Int) (s1 : Bytes) (A1 : Option Addr) (c1 : Nat) (m1 : List Ex) (p2 q2 : Int) (s2 : Bytes) (A2 : Option Addr) (c2 : Nat) (m2 : List Ex)
    (hl1 : 1 ≤ k) (hl3 : k ≤ 3) (ht : t ≤ 4) (hc : 2 ≤ c) (hm : c ≤ 9223372036854775807) (hb : b0 < w.heap.size) (hposa : 1 ≤ wa.length) (hlena : wa.length ≤ 5000) (hposb : 1 ≤ wb.length) (hlenb : wb.length ≤ 5000)
    (f0 : ∀ x : Later w.heap.size w, x.w'.cell? ⟨b0, o0 + 0 * 4, none⟩ = some (.int .i64 p1)) (f1 : ∀ x : Later w.heap.size w, x.w'.cell? ⟨b0, o0 + 0 * 4 + 1, none⟩ = some (.int .i64 q1)) (f2 : ∀ x : Later w.heap.size w, x.w'.cell? ⟨b0, o0 + 0 * 4 + 2, none⟩ = some (.string (bs s1))) (f3 : ∀ x : Later w.heap.size w, x.w'.cell? ⟨b0, o0 + 0 * 4 + 3, none⟩ = some (.slice A1 m1.length c1))
    (e0 : ∀ x : Later w.heap.size w, x.w'.cell? ⟨b0, o0 + 1 * 4, none⟩ = some (.int .i64 p2)) (e1 : ∀ x : Later w.heap.size w, x.w'.cell? ⟨b0, o0 + 1 * 4 + 1, none⟩ = some (.int .i64 q2)) (e2 : ∀ x : Later w.heap.size w, x.w'.cell? ⟨b0, o0 + 1 * 4 + 2, none⟩ = some (.string (bs s2))) (e3 : ∀ x : Later w.heap.size w, x.w'.cell? ⟨b0, o0 + 1 * 4 + 3, none⟩ = some (.slice A2 m2.length c2))
    (IHa : Hid (∀ w' : World, Below w.heap.size w w' → Calls Tryz.prog 116 #[.agg #[.int .i64 p1, .int .i64 q1, .string (bs s1), .slice A1 m1.length c1], .int .i64 (if k = 1 then (2 : Int) else (k : Int))] w' fun r w'' => ∃ u, r = .returned u ∧ GtS w'.heap.size w'' u wa ∧ Below w'.heap.size w' w''))
    (IHb : Hid (∀ w' : World, Below w.heap.size w w' → Calls Tryz.prog 116 #[.agg #[.int .i64 p2, .int .i64 q2, .string (bs s2), .slice A2 m2.length c2], .int .i64 ((k : Int) + 1)] w' fun r w'' => ∃ u, r = .returned u ∧ GtS w'.heap.size w'' u wb ∧ Below w'.heap.size w' w''))
    (HLV : Hid (Calls Tryz.prog 155 #[.agg #[.int .i64 3, .int .i64 0, .string (bs ob), .slice (some ⟨b0, o0, none⟩) 2 c]] ((w.alloc (.cells #[.int .i64 3, .int .i64 0, .string (bs ob), .slice (some ⟨b0, o0, none⟩) 2 c] 24)).alloc (.cells #[] 9)) fun r w' => r = .returned (.int .i64 (k : Int)) ∧ Below ((w.alloc (.cells #[.int .i64 3, .int .i64 0, .string (bs ob), .slice (some ⟨b0, o0, none⟩) 2 c] 24)).alloc (.cells #[] 9)).heap.size ((w.alloc (.cells #[.int .i64 3, .int .i64 0, .string (bs ob), .slice (some ⟨b0, o0, none⟩) 2 c] 24)).alloc (.cells #[] 9)) w')) :
    Calls Tryz.prog 116 #[.agg #[.int .i64 3, .int .i64 0, .string (bs ob), .slice (some ⟨b0, o0, none⟩) 2 c], .int .i64 (t : Int)] w fun r w' => ∃ u, r = .returned u ∧ GtS w.heap.size w' u (if k < t then [40] :: (wa ++ ob :: wb) ++ [[41]] else wa ++ ob :: wb) ∧ Below w.heap.size w w' := by
  go_enter Tryz.func116, Tryz.ntmps116
  go_wp2_with fail
  refine HLV.out.mono ?_
  rintro e w1 ⟨rfl, hb1⟩
  have hz1 := hb1.size
  (try simp at hz1)
  have hbw : Below w.heap.size w w1 := by (repeat (first | with_reducible assumption | with_reducible exact Below.refl _ _ | with_reducible refine Below.setCell ?_ (by first | omega | (simp; done) | (simp; omega)) _ | with_reducible refine Below.alloc ?_ (by first | omega | (simp; done) | (simp; omega)) _ | with_reducible refine below_drewN ?_ _ | with_reducible refine Below.drew ?_ | with_reducible refine Below.trans ?_ (Below.mono hb1 (by first | omega | (simp; done) | (simp; omega)))))
  have c2' : w1.cell? ⟨w.heap.size, 2, none⟩ = some (.string (bs ob)) := (hb1.cell (p := ⟨w.heap.size, 2, none⟩) (by simp; omega)).trans (by simp [go_sem])
  have c3' : w1.cell? ⟨w.heap.size, 3, none⟩ = some (.slice (some ⟨b0, o0, none⟩) 2 c) := (hb1.cell (p := ⟨w.heap.size, 3, none⟩) (by simp; omega)).trans (by simp [go_sem])
  have c0' : w1.cell? ⟨w.heap.size, 0, none⟩ = some (.int .i64 3) := (hb1.cell (p := ⟨w.heap.size, 0, none⟩) (by simp; omega)).trans (by simp [go_sem])
  have g0 := f0 ⟨w1, hbw⟩; have g1 := f1 ⟨w1, hbw⟩; have g2 := f2 ⟨w1, hbw⟩; have g3 := f3 ⟨w1, hbw⟩
  have h0 := e0 ⟨w1, hbw⟩; have h1 := e1 ⟨w1, hbw⟩; have h2 := e2 ⟨w1, hbw⟩; have h3 := e3 ⟨w1, hbw⟩
  simp only [Nat.zero_mul, Nat.add_zero, Nat.one_mul] at g0 g1 g2 g3 h0 h1 h2 h3
  have EMP : Hid (∀ w' : World, Below (w.heap.size + 2) w1 w' → GtS w.heap.size w' (.slice (some ⟨w.heap.size + 1, 0, none⟩) 0 0) []) := Lib.hid (fun (w' : World) (h : Below (w.heap.size + 2) w1 w') => by have h2 := gt_empty strRow 1 9 (B := w.heap.size) (w.alloc (.cells #[.int .i64 3, .int .i64 0, .string (bs ob), .slice (some ⟨b0, o0, none⟩) 2 c] 24)) w' (by simp) ((hb1.mono (by simp)).trans (by simpa using h)); rwa [World.size_alloc] at h2)
  clear f0 f1 f2 f3 e0 e1 e2 e3 hb1 HLV
  go_upto_block 0 with fail
  go_cut [5] (fun s5 wx => ∃ g cap, s5 = .slice (some ⟨g, 0, none⟩) (wa.length + 1 + wb.length) cap ∧ GtS w.heap.size wx s5 (wa ++ ob :: wb) ∧ w.heap.size ≤ g ∧ Below w.heap.size w wx)
  case first =>
    go_upto_if 43 with fail
    go_cut [7] (fun s7 wx => s7 = .int .i64 (if k = 1 then 2 else (k : Int)) ∧ w1 = wx)
    case first =>
      by_cases hk1 : k = 1
      · subst hk1
        go_wp2_with fail
        go_meet
        exact ⟨rfl, rfl⟩
      · have d2 : ((k : Int) == 1) = false := by simp; omega
        go_wp2_with fail
        go_meet
        exact ⟨by rw [if_neg hk1], rfl⟩
    case rest =>
      obtain ⟨rfl, rfl⟩ := hcut
      generalize hki : (if k = 1 then (2 : Int) else (k : Int)) = ki at *
      clear hki
      have hwr : IntKind.i64.wrap ((k : Int) + 1) = (k : Int) + 1 := by
        have : k = 1 ∨ k = 2 ∨ k = 3 := by omega
        rcases this with rfl | rfl | rfl <;> rfl
      have hb1 : True := trivial
      go_upto_region 13 with fail
      have tokA : True := trivial; have tokB : True := trivial; have tok1 : True := trivial; have tok2 : True := trivial
      have KEEP := Lib.hid (show ∀ w' : World, Below (w.heap.size + 1) w1 w' → (w'.cell? ⟨w.heap.size, 2, none⟩ = some (.string (bs ob)) ∧ w'.cell? ⟨w.heap.size, 3, none⟩ = some (.slice (some ⟨b0, o0, none⟩) 2 c) ∧ w'.cell? ⟨b0, o0, none⟩ = some (.int .i64 p1) ∧ w'.cell? ⟨b0, o0 + 1, none⟩ = some (.int .i64 q1) ∧ w'.cell? ⟨b0, o0 + 2, none⟩ = some (.string (bs s1)) ∧ w'.cell? ⟨b0, o0 + 3, none⟩ = some (.slice A1 m1.length c1) ∧ w'.cell? ⟨b0, o0 + 4, none⟩ = some (.int .i64 p2) ∧ w'.cell? ⟨b0, o0 + 4 + 1, none⟩ = some (.int .i64 q2) ∧ w'.cell? ⟨b0, o0 + 4 + 2, none⟩ = some (.string (bs s2)) ∧ w'.cell? ⟨b0, o0 + 4 + 3, none⟩ = some (.slice A2 m2.length c2)) from fun w' h => ⟨(h.cell (p := ⟨w.heap.size, 2, none⟩) (by first | (simp; done) | (simp; omega))).trans c2', (h.cell (p := ⟨w.heap.size, 3, none⟩) (by first | (simp; done) | (simp; omega))).trans c3', (h.cell (p := ⟨b0, o0, none⟩) (by first | (simp; done) | (simp; omega))).trans g0, (h.cell (p := ⟨b0, o0 + 1, none⟩) (by first | (simp; done) | (simp; omega))).trans g1, (h.cell (p := ⟨b0, o0 + 2, none⟩) (by first | (simp; done) | (simp; omega))).trans g2, (h.cell (p := ⟨b0, o0 + 3, none⟩) (by first | (simp; done) | (simp; omega))).trans g3, (h.cell (p := ⟨b0, o0 + 4, none⟩) (by first | (simp; done) | (simp; omega))).trans h0, (h.cell (p := ⟨b0, o0 + 4 + 1, none⟩) (by first | (simp; done) | (simp; omega))).trans h1, (h.cell (p := ⟨b0, o0 + 4 + 2, none⟩) (by first | (simp; done) | (simp; omega))).trans h2, (h.cell (p := ⟨b0, o0 + 4 + 3, none⟩) (by first | (simp; done) | (simp; omega))).trans h3⟩)
      go_region_held3 (fun w' => w'.cell? ⟨w.heap.size, 2, none⟩ = some (.string (bs ob)) ∧ w'.cell? ⟨w.heap.size, 3, none⟩ = some (.slice (some ⟨b0, o0, none⟩) 2 c) ∧ w'.cell? ⟨b0, o0, none⟩ = some (.int .i64 p1) ∧ w'.cell? ⟨b0, o0 + 1, none⟩ = some (.int .i64 q1) ∧ w'.cell? ⟨b0, o0 + 2, none⟩ = some (.string (bs s1)) ∧ w'.cell? ⟨b0, o0 + 3, none⟩ = some (.slice A1 m1.length c1) ∧ w'.cell? ⟨b0, o0 + 4, none⟩ = some (.int .i64 p2) ∧ w'.cell? ⟨b0, o0 + 4 + 1, none⟩ = some (.int .i64 q2) ∧ w'.cell? ⟨b0, o0 + 4 + 2, none⟩ = some (.string (bs s2)) ∧ w'.cell? ⟨b0, o0 + 4 + 3, none⟩ = some (.slice A2 m2.length c2))
        (first | exact KEEP.out _ (by (repeat (first | with_reducible assumption | with_reducible exact Below.refl _ _ | with_reducible refine Below.setCell ?_ (by first | omega | (simp; done) | (simp; omega)) _ | with_reducible refine Below.alloc ?_ (by first | omega | (simp; done) | (simp; omega)) _ | with_reducible refine below_drewN ?_ _ | with_reducible refine Below.drew ?_ | with_reducible refine Below.trans ?_ (Below.mono hb2 (by first | omega | (simp; done) | (simp; omega))) | with_reducible refine Below.trans ?_ (Below.mono hb5 (by first | omega | (simp; done) | (simp; omega))) | with_reducible refine below_app ?_ hgr3 (by intro q hq; simp [Value.ownBlock] at hq; omega) (by first | omega | (simp; done) | (simp; omega)) | with_reducible refine below_app ?_ hgr4 (by intro q hq; simp [Value.ownBlock] at hq; omega) (by first | omega | (simp; done) | (simp; omega)) | with_reducible refine below_app ?_ hgr6 (by intro q hq; simp [Value.ownBlock] at hq; omega) (by first | omega | (simp; done) | (simp; omega))))) | go_keep)
        (first
          | (have tk := tokA; go_at_call 116; refine (IHa.out _ (by (repeat (first | with_reducible assumption | with_reducible exact Below.refl _ _ | with_reducible refine Below.setCell ?_ (by first | omega | (simp; done) | (simp; omega)) _ | with_reducible refine Below.alloc ?_ (by first | omega | (simp; done) | (simp; omega)) _ | with_reducible refine below_drewN ?_ _ | with_reducible refine Below.drew ?_)))).mono ?_; rintro e w2 ⟨u2, rfl, hG2, hb2⟩; clear tk tokA; have hz2 := hb2.size; (try simp at hz2); obtain ⟨gg2, cap2, rfl, hgl2, hgh2⟩ := hG2.block hposa)
          | (have tk := hgr4; have tk2 := tokB; go_at_call 116; refine (IHb.out _ (by (repeat (first | with_reducible assumption | with_reducible exact Below.refl _ _ | with_reducible refine Below.setCell ?_ (by first | omega | (simp; done) | (simp; omega)) _ | with_reducible refine Below.alloc ?_ (by first | omega | (simp; done) | (simp; omega)) _ | with_reducible refine below_drewN ?_ _ | with_reducible refine Below.drew ?_ | with_reducible refine Below.trans ?_ (Below.mono hb2 (by first | omega | (simp; done) | (simp; omega))) | with_reducible refine Below.trans ?_ (Below.mono hbw (by first | omega | (simp; done) | (simp; omega))) | with_reducible refine below_app ?_ hgr3 (by intro q hq; simp [Value.ownBlock] at hq; omega) (by first | omega | (simp; done) | (simp; omega)) | with_reducible refine below_app ?_ hgr4 (by intro q hq; simp [Value.ownBlock] at hq; omega) (by first | omega | (simp; done) | (simp; omega)))))).mono ?_; rintro e w5 ⟨u5, rfl, hG5, hb5⟩; clear tk tk2 tokB; have hz5 := hb5.size; (try simp at hz5); obtain ⟨gg5, cap5, rfl, hgl5, hgh5⟩ := hG5.block hposb)
          | (have tk := tok1; have tk2 := hG2; refine aps0_step (by rfl) (.tmp 44) (.tmp 50) (by rfl) w.heap.size (.slice (some ⟨w.heap.size + 1, 0, none⟩) 0 0) (by rfl) ?_ ⟨gg2, 0, none⟩ cap2 wa (by rfl) ?_ hposa ?_ ?_ ?_; exact EMP.out _ (by (repeat (first | with_reducible assumption | with_reducible exact Below.refl _ _ | with_reducible refine Below.setCell ?_ (by first | omega | (simp; done) | (simp; omega)) _ | with_reducible refine Below.alloc ?_ (by first | omega | (simp; done) | (simp; omega)) _ | with_reducible refine below_drewN ?_ _ | with_reducible refine Below.drew ?_ | with_reducible refine Below.trans ?_ (Below.mono hb2 (by first | omega | (simp; done) | (simp; omega)))))); exact (hG2.ext (by (repeat (first | with_reducible assumption | with_reducible exact Below.refl _ _ | with_reducible refine Below.setCell ?_ (by first | omega | (simp; done) | (simp; omega)) _ | with_reducible refine Below.alloc ?_ (by first | omega | (simp; done) | (simp; omega)) _ | with_reducible refine below_drewN ?_ _ | with_reducible refine Below.drew ?_)))).cells; omega; (first | omega | (simp; omega)); intro g3' cap3 w3 hG3 hgr3 hat3; clear tk tk2 tok1; have hz3 := hgr3.size; (try simp at hz3); have hlo3 : w.heap.size + 1 ≤ g3' := (by rcases hat3 with h | h <;> (try simp [Value.ownBlock] at h) <;> omega))
          | (have tk := tok2; have tk2 := hgr3; refine aps_step (by rfl) (.tmp 51) (.tmp 54) (by rfl) w.heap.size (.slice (some ⟨g3', 0, none⟩) wa.length cap3) wa (by rfl) ?_ ⟨w3.heap.size, 0, none⟩ 1 [ob] (by rfl) ?_ Nat.zero_lt_one ?_ ?_ ?_; exact hG3.ext (by (repeat (first | with_reducible assumption | with_reducible exact Below.refl _ _ | with_reducible refine Below.setCell ?_ (by first | omega | (simp; done) | (simp; omega)) _ | with_reducible refine Below.alloc ?_ (by first | omega | (simp; done) | (simp; omega)) _ | with_reducible refine below_drewN ?_ _ | with_reducible refine Below.drew ?_))); exact World.news_of_block (heap_alloc_new w3 _); (simp; omega); (first | omega | (simp; omega)); intro g4' cap4 w4 hG4 hgr4 hat4; clear tk tk2 tok2; have hz4 := hgr4.size; (try simp at hz4); have hlo4 : w.heap.size + 1 ≤ g4' := (by rcases hat4 with h | h <;> (try simp [Value.ownBlock] at h) <;> omega))
          | (have tk := tok2; have tk2 := hgr3; refine aps_step (by rfl) (.tmp 51) (.tmp 54) (by rfl) w.heap.size (.slice (some ⟨g3', 0, none⟩) wa.length cap3) wa (by rfl) ?_ ⟨w2.heap.size, 0, none⟩ 1 [ob] (by rfl) ?_ Nat.zero_lt_one ?_ ?_ ?_; exact hG3.ext (by (repeat (first | with_reducible assumption | with_reducible exact Below.refl _ _ | with_reducible refine Below.setCell ?_ (by first | omega | (simp; done) | (simp; omega)) _ | with_reducible refine Below.alloc ?_ (by first | omega | (simp; done) | (simp; omega)) _ | with_reducible refine below_drewN ?_ _ | with_reducible refine Below.drew ?_))); exact World.news_of_block ((hgr3.block w2.heap.size (by simp) (by simp [Value.ownBlock]; omega)).trans (heap_alloc_new w2 _)); (simp; omega); (first | omega | (simp; omega)); intro g4' cap4 w4 hG4 hgr4 hat4; clear tk tk2 tok2; have hz4 := hgr4.size; (try simp at hz4); have hlo4 : w.heap.size + 1 ≤ g4' := (by rcases hat4 with h | h <;> (try simp [Value.ownBlock] at h) <;> omega))
          | (have tk := tok2; have tk2 := hgr3; refine aps_step (by rfl) (.tmp 51) (.tmp 54) (by rfl) w.heap.size (.slice (some ⟨g3', 0, none⟩) wa.length cap3) wa (by rfl) ?_ ⟨w1.heap.size, 0, none⟩ 1 [ob] (by rfl) ?_ Nat.zero_lt_one ?_ ?_ ?_; exact hG3.ext (by (repeat (first | with_reducible assumption | with_reducible exact Below.refl _ _ | with_reducible refine Below.setCell ?_ (by first | omega | (simp; done) | (simp; omega)) _ | with_reducible refine Below.alloc ?_ (by first | omega | (simp; done) | (simp; omega)) _ | with_reducible refine below_drewN ?_ _ | with_reducible refine Below.drew ?_))); exact World.news_of_block ((hgr3.block w1.heap.size (by omega) (by simp [Value.ownBlock]; omega)).trans ((hb2.block w1.heap.size (by simp)).trans (heap_alloc_new w1 _))); (simp; omega); (first | omega | (simp; omega)); intro g4' cap4 w4 hG4 hgr4 hat4; clear tk tk2 tok2; have hz4 := hgr4.size; (try simp at hz4); have hlo4 : w.heap.size + 1 ≤ g4' := (by rcases hat4 with h | h <;> (try simp [Value.ownBlock] at h) <;> omega))
          | (have tk := hG5; refine aps_step (by rfl) (.tmp 55) (.tmp 62) (by rfl) w.heap.size (.slice (some ⟨g4', 0, none⟩) (wa.length + 1) cap4) (wa ++ [ob]) (by rfl) ?_ ⟨gg5, 0, none⟩ cap5 wb (by rfl) ?_ hposb ?_ ?_ ?_; exact hG4.ext (by (repeat (first | with_reducible assumption | with_reducible exact Below.refl _ _ | with_reducible refine Below.setCell ?_ (by first | omega | (simp; done) | (simp; omega)) _ | with_reducible refine Below.alloc ?_ (by first | omega | (simp; done) | (simp; omega)) _ | with_reducible refine below_drewN ?_ _ | with_reducible refine Below.drew ?_ | with_reducible refine Below.trans ?_ (Below.mono hb5 (by first | omega | (simp; done) | (simp; omega)))))); exact (hG5.ext (by (repeat (first | with_reducible assumption | with_reducible exact Below.refl _ _ | with_reducible refine Below.setCell ?_ (by first | omega | (simp; done) | (simp; omega)) _ | with_reducible refine Below.alloc ?_ (by first | omega | (simp; done) | (simp; omega)) _ | with_reducible refine below_drewN ?_ _ | with_reducible refine Below.drew ?_)))).cells; (simp; omega); (first | omega | (simp; omega)); intro g6' cap6 w6 hG6 hgr6 hat6; clear tk; have hz6 := hgr6.size; (try simp at hz6); have hlo6 : w.heap.size + 1 ≤ g6' := (by rcases hat6 with h | h <;> (try simp [Value.ownBlock] at h) <;> omega))
          | fail)
      all_goals
        go_wp2_with fail
        go_meet
        refine ⟨_, _, rfl, ?_, by omega, by (repeat (first | with_reducible assumption | with_reducible exact Below.refl _ _ | with_reducible refine Below.setCell ?_ (by first | omega | (simp; done) | (simp; omega)) _ | with_reducible refine Below.alloc ?_ (by first | omega | (simp; done) | (simp; omega)) _ | with_reducible refine below_drewN ?_ _ | with_reducible refine Below.drew ?_ | with_reducible refine Below.trans ?_ (Below.mono hb2 (by first | omega | (simp; done) | (simp; omega))) | with_reducible refine Below.trans ?_ (Below.mono hbw (by first | omega | (simp; done) | (simp; omega))) | with_reducible refine Below.trans ?_ (Below.mono hb5 (by first | omega | (simp; done) | (simp; omega))) | with_reducible refine below_app ?_ hgr3 (by intro q hq; simp [Value.ownBlock] at hq; omega) (by first | omega | (simp; done) | (simp; omega)) | with_reducible refine below_app ?_ hgr4 (by intro q hq; simp [Value.ownBlock] at hq; omega) (by first | omega | (simp; done) | (simp; omega)) | with_reducible refine below_app ?_ hgr6 (by intro q hq; simp [Value.ownBlock] at hq; omega) (by first | omega | (simp; done) | (simp; omega))))⟩
        have h := hG6
        rw [show (wa ++ [ob]).length + wb.length = wa.length + 1 + wb.length from by simp only [List.length_append, List.length_cons, List.length_nil], show wa ++ [ob] ++ wb = wa ++ ob :: wb from by simp] at h
        exact h
  case rest =>
    obtain ⟨g6', cap6, rfl, hG6, hlo6, hbc⟩ := hcut
    by_cases hlt : k < t
    rotate_left
    · have hne := hlt
      have d1 : decide (k < t) = false := by simp; omega
      have d3 : decide ((k : Int) < (t : Int)) = false := by simp; omega
      have HNE := Lib.hid hne
      clear hne hlt
      go_wp2_with fail
      go_ret
      exact ⟨_, rfl, by (try rw [if_neg HNE.out]); exact hG6, hbc⟩
    · have HNE := Lib.hid hlt
      have d1 : decide (k < t) = true := by simp; omega
      have d3 : decide ((k : Int) < (t : Int)) = true := by simp; omega
      have hsz6 := hG6.lt (b := g6') rfl
      have hown7 : GtS w.heap.size (wc.alloc (.cells #[.string ⟨#[40]⟩] 9)) (.slice (some ⟨wc.heap.size, 0, none⟩) 1 1) [[40]] := Gt.built (w' := wc) [[40]] (by decide) (fun _ => rfl) (by decide) (heap_alloc_new wc _) (by omega)
      obtain ⟨out, hout⟩ : ∃ x, x = wa ++ ob :: wb := ⟨_, rfl⟩
      have hLo : out.length = wa.length + 1 + wb.length := by rw [hout]; simp only [List.length_append, List.length_cons, List.length_nil]; omega
      have hGo := hG6
      rw [← hout] at hGo
      have hGo' := hGo.ext (w' := wc.alloc (.cells #[.string ⟨#[40]⟩] 9)) (by (repeat (first | with_reducible assumption | with_reducible exact Below.refl _ _ | with_reducible refine Below.setCell ?_ (by first | omega | (simp; done) | (simp; omega)) _ | with_reducible refine Below.alloc ?_ (by first | omega | (simp; done) | (simp; omega)) _ | with_reducible refine below_drewN ?_ _ | with_reducible refine Below.drew ?_)))
      have hlo : out.length ≤ 10001 := by omega
      have hlo0 : 0 < out.length := by omega
      have HLo := Lib.hid hLo
      have HOut := Lib.hid hout
      have tok7 : True := trivial
      clear hLo hout hGo
      go_wp2_with (first
        | (have tk := tok7; at_builtin; refine aps_plain (by rfl) (.tmp 67) (.tmp 68) (by rfl) w.heap.size (.slice (some ⟨wc.heap.size, 0, none⟩) 1 1) [[40]] (by rfl) hown7 ⟨g6', 0, none⟩ cap6 out ?_ hGo'.cells hlo0 ?_ ?_ ?_; exact congrArg (fun n => Value.slice (some ⟨g6', 0, none⟩) n cap6) HLo.out.symm; (show 1 + out.length ≤ 1000000; omega); (first | omega | (simp; omega)); intro g7 cap7 w7 hG7 hgr7 hat7; clear tk tok7; have hz7 := hgr7.size; (try simp at hz7))
        | (have tk := hgr7; at_builtin; refine aps_plain (by rfl) (.tmp 69) (.tmp 70) (by rfl) w.heap.size (.slice (some ⟨g7, 0, none⟩) (1 + out.length) cap7) ([[40]] ++ out) (by rfl) (hG7.ext (by (repeat (first | with_reducible assumption | with_reducible exact Below.refl _ _ | with_reducible refine Below.setCell ?_ (by first | omega | (simp; done) | (simp; omega)) _ | with_reducible refine Below.alloc ?_ (by first | omega | (simp; done) | (simp; omega)) _ | with_reducible refine below_drewN ?_ _ | with_reducible refine Below.drew ?_)))) ⟨w7.heap.size, 0, none⟩ 1 [[41]] (by rfl) (World.news_of_block (heap_alloc_new w7 _)) (by decide) ?_ ?_ ?_; (simp; omega); (first | omega | (simp; omega)); intro g8 cap8 w8 hG8 hgr8 hat8)
        | fail)
      have hlo7 : w.heap.size ≤ g7 := by rcases hat7 with h | h <;> (try simp [Value.ownBlock] at h) <;> omega
      go_ret
      refine ⟨_, rfl, ?_, by (repeat (first | with_reducible assumption | with_reducible exact Below.refl _ _ | with_reducible refine Below.setCell ?_ (by first | omega | (simp; done) | (simp; omega)) _ | with_reducible refine Below.alloc ?_ (by first | omega | (simp; done) | (simp; omega)) _ | with_reducible refine below_drewN ?_ _ | with_reducible refine Below.drew ?_ | with_reducible refine Below.trans ?_ (Below.mono hbc (by first | omega | (simp; done) | (simp; omega))) | with_reducible refine below_app ?_ hgr7 (by intro q hq; simp [Value.ownBlock] at hq; omega) (by first | omega | (simp; done) | (simp; omega)) | with_reducible refine below_app ?_ hgr8 (by intro q hq; simp [Value.ownBlock] at hq; omega) (by first | omega | (simp; done) | (simp; omega))))⟩
      (try rw [if_pos HNE.out])
      have h := hG8
      have e1 : ([[40]] ++ out).length + ([[41]] : List Bytes).length = out.length + 1 + 1 := by simp
      have e2 : [[40]] ++ out ++ [[41]] = [40] :: (wa ++ ob :: (wb ++ [[41]])) := by rw [HOut.out]; simp
      rw [e1, e2] at h
      exact h
end Go.Proofs.YtgakjhaepdigpaaGreatDoor


/- The words of what is reckoned: the reference's. -/
namespace Go.Proofs.YtgakjhaepdigpaaGreatDoor
set_option maxRecDepth 100000
set_option linter.unusedSimpArgs false
set_option linter.unusedVariables false
open Go.RowKit
attribute [local go_sem] bs_toList bs_get bs_size

set_option maxHeartbeats 4000000 in
theorem spWords_any : ∀ (e : E) (t : Nat) (v : Value) (w : World), e.ok → e.cnt ≤ 1000 → t ≤ 4 → ExV w w.heap.size v e.ex →
    Calls Tryz.prog 116 #[v, .int .i64 (t : Int)] w fun r w' => ∃ u, r = .returned u ∧ GtS w.heap.size w' u (e.words t) ∧ Below w.heap.size w w' := by
  intro e
  induction e with
  | num n =>
    intro t v w hok hcnt ht hv
    have hv0 := hv
    obtain ⟨kv, rfl, hs, hk⟩ := hv
    obtain ⟨A, c, rfl, hc, hm⟩ := hk.val
    simp only [E.ex, Ex.kind, Ex.n, Ex.s, Ex.kids, List.length_nil] at hv0 hc ⊢
    have hlt : decide ((4 : Int) < (t : Int)) = false := by simp; omega
    go_enter Tryz.func116, Tryz.ntmps116
    go_wp2_with fail
    refine (spLevel_any (.num n) _ _ ((hv0.keep (B' := w.heap.size) (by (repeat (first | with_reducible assumption | with_reducible exact Below.refl _ _ | with_reducible refine Below.setCell ?_ (by first | omega | (simp; done) | (simp; omega)) _ | with_reducible refine Below.alloc ?_ (by first | omega | (simp; done) | (simp; omega)) _ | with_reducible refine below_drewN ?_ _ | with_reducible refine Below.drew ?_))) (Nat.le_refl _)).more (by first | omega | (simp; omega)))).mono ?_
    rintro e w1 ⟨rfl, hb1⟩
    have hz1 := hb1.size
    (try simp at hz1)
    have k1_0 := fun o => hb1.cell (p := ⟨w.heap.size, o, none⟩) (by first | omega | (simp; done) | (simp; omega)); have k1f_0 := fun o => hb1.frozen (p := ⟨w.heap.size, o, none⟩) (by first | omega | (simp; done) | (simp; omega)); have k1_1 := fun o => hb1.cell (p := ⟨w.heap.size + 1, o, none⟩) (by first | omega | (simp; done) | (simp; omega)); have k1f_1 := fun o => hb1.frozen (p := ⟨w.heap.size + 1, o, none⟩) (by first | omega | (simp; done) | (simp; omega))
    simp only [E.lv]
    go_wp2_with fail
    refine (spDec_any n hok _).mono ?_
    rintro e w2 ⟨rfl, hb2⟩
    have hz2 := hb2.size
    have hown := gt_empty strRow 1 9 (B := w.heap.size) (w.alloc (.cells #[.int .i64 1, .int .i64 (n : Int), .string (bs []), .slice A 0 c] 24)) (w2.alloc (.cells #[.string (bs (decL n))] 9)) (by simp) (by (repeat (first | with_reducible assumption | with_reducible exact Below.refl _ _ | with_reducible refine Below.setCell ?_ (by first | omega | (simp; done) | (simp; omega)) _ | with_reducible refine Below.alloc ?_ (by first | omega | (simp; done) | (simp; omega)) _ | with_reducible refine below_drewN ?_ _ | with_reducible refine Below.drew ?_ | with_reducible refine Below.trans ?_ (Below.mono hb2 (by first | omega | (simp; done) | (simp; omega))) | with_reducible refine Below.trans ?_ (Below.mono hb1 (by first | omega | (simp; done) | (simp; omega))))))
    rw [World.size_alloc] at hown
    have hnw := World.news_of_block (heap_alloc_new w2 (.cells #[.string (bs (decL n))] 9))
    go_wp2_with (at_builtin; refine aps_plain rfl _ _ rfl w.heap.size (.slice (some ⟨w.heap.size + 1, 0, none⟩) 0 0) [] rfl hown ⟨w2.heap.size, 0, none⟩ 1 [decL n] rfl hnw (Nat.zero_lt_one) (by simp) (by simp; omega) ?_; intro g cap w3 hG hgr hat)
    go_ret
    exact ⟨_, rfl, hG, by (repeat (first | with_reducible assumption | with_reducible exact Below.refl _ _ | with_reducible refine Below.setCell ?_ (by first | omega | (simp; done) | (simp; omega)) _ | with_reducible refine Below.alloc ?_ (by first | omega | (simp; done) | (simp; omega)) _ | with_reducible refine below_drewN ?_ _ | with_reducible refine Below.drew ?_ | with_reducible refine Below.trans ?_ (Below.mono hb2 (by first | omega | (simp; done) | (simp; omega))) | with_reducible refine Below.trans ?_ (Below.mono hb1 (by first | omega | (simp; done) | (simp; omega))) | with_reducible refine below_app ?_ hgr (by intro q hq; simp [Value.ownBlock] at hq; omega) (by first | omega | (simp; done) | (simp; omega))))⟩
  | nam s =>
    intro t v w hok hcnt ht hv
    have hv0 := hv
    obtain ⟨kv, rfl, hs, hk⟩ := hv
    obtain ⟨A, c, rfl, hc, hm⟩ := hk.val
    simp only [E.ex, Ex.kind, Ex.n, Ex.s, Ex.kids, List.length_nil] at hv0 hc ⊢
    have hlt : decide ((4 : Int) < (t : Int)) = false := by simp; omega
    go_enter Tryz.func116, Tryz.ntmps116
    go_wp2_with fail
    refine (spLevel_any (.nam s) _ _ ((hv0.keep (B' := w.heap.size) (by (repeat (first | with_reducible assumption | with_reducible exact Below.refl _ _ | with_reducible refine Below.setCell ?_ (by first | omega | (simp; done) | (simp; omega)) _ | with_reducible refine Below.alloc ?_ (by first | omega | (simp; done) | (simp; omega)) _ | with_reducible refine below_drewN ?_ _ | with_reducible refine Below.drew ?_))) (Nat.le_refl _)).more (by first | omega | (simp; omega)))).mono ?_
    rintro e w1 ⟨rfl, hb1⟩
    have hz1 := hb1.size
    (try simp at hz1)
    have k1_0 := fun o => hb1.cell (p := ⟨w.heap.size, o, none⟩) (by first | omega | (simp; done) | (simp; omega)); have k1f_0 := fun o => hb1.frozen (p := ⟨w.heap.size, o, none⟩) (by first | omega | (simp; done) | (simp; omega)); have k1_1 := fun o => hb1.cell (p := ⟨w.heap.size + 1, o, none⟩) (by first | omega | (simp; done) | (simp; omega)); have k1f_1 := fun o => hb1.frozen (p := ⟨w.heap.size + 1, o, none⟩) (by first | omega | (simp; done) | (simp; omega))
    simp only [E.lv]
    have hown := gt_empty strRow 1 9 (B := w.heap.size) (w.alloc (.cells #[.int .i64 2, .int .i64 0, .string (bs s), .slice A 0 c] 24)) (w1.alloc (.cells #[.string (bs s)] 9)) (by simp) (by (repeat (first | with_reducible assumption | with_reducible exact Below.refl _ _ | with_reducible refine Below.setCell ?_ (by first | omega | (simp; done) | (simp; omega)) _ | with_reducible refine Below.alloc ?_ (by first | omega | (simp; done) | (simp; omega)) _ | with_reducible refine below_drewN ?_ _ | with_reducible refine Below.drew ?_ | with_reducible refine Below.trans ?_ (Below.mono hb1 (by first | omega | (simp; done) | (simp; omega))))))
    rw [World.size_alloc] at hown
    have hnw := World.news_of_block (heap_alloc_new w1 (.cells #[.string (bs s)] 9))
    go_wp2_with (at_builtin; refine aps_plain rfl _ _ rfl w.heap.size (.slice (some ⟨w.heap.size + 1, 0, none⟩) 0 0) [] rfl hown ⟨w1.heap.size, 0, none⟩ 1 [s] rfl hnw (Nat.zero_lt_one) (by simp) (by simp; omega) ?_; intro g cap w3 hG hgr hat)
    go_ret
    exact ⟨_, rfl, hG, by (repeat (first | with_reducible assumption | with_reducible exact Below.refl _ _ | with_reducible refine Below.setCell ?_ (by first | omega | (simp; done) | (simp; omega)) _ | with_reducible refine Below.alloc ?_ (by first | omega | (simp; done) | (simp; omega)) _ | with_reducible refine below_drewN ?_ _ | with_reducible refine Below.drew ?_ | with_reducible refine Below.trans ?_ (Below.mono hb1 (by first | omega | (simp; done) | (simp; omega))) | with_reducible refine below_app ?_ hgr (by intro q hq; simp [Value.ownBlock] at hq; omega) (by first | omega | (simp; done) | (simp; omega))))⟩
  | cast ty a iha =>
    intro t v w hok hcnt ht hv
    have hv0 := hv
    obtain ⟨kv, rfl, hs, hk⟩ := hv
    obtain ⟨A, c, rfl, hc, hm⟩ := hk.val
    simp only [E.ok] at hok
    simp only [E.cnt] at hcnt
    simp only [E.ex, Ex.kind, Ex.n, Ex.s, Ex.kids, List.length_cons, List.length_nil] at hv0 hc hk ⊢
    have hlt : decide ((4 : Int) < (t : Int)) = false := by simp; omega
    obtain ⟨b, o, p1, q1, s1, A1, c1, m1, rfl, hb, hg1, hs1, hm1, hc1, hk1, f0, f1, f2, f3⟩ := ex_at (i := 0) hk (by simp)
    have hex : a.ex = .mk p1 q1 s1 m1 := by simpa using hg1
    rw [bs_size] at hs1
    have hpos := E.words_pos a 4
    have hlen := E.words_len a 4
    have IHa := Lib.hid (fun (w' : World) (h : Below w.heap.size w w') => iha 4 (.agg #[.int .i64 p1, .int .i64 q1, .string (bs s1), .slice A1 m1.length c1]) w' hok (by omega) (by omega) (by rw [hex]; exact ⟨_, rfl, hs1, hk1.ext h⟩))
    have HEX := Lib.hid hex
    clear iha hg1 hex hk hk1
    generalize hwa : a.words 4 = wa at *
    have HWA := Lib.hid hwa
    clear hwa
    go_enter Tryz.func116, Tryz.ntmps116
    go_wp2_with fail
    refine (spLevel_any (.cast ty a) _ _ ((hv0.keep (B' := w.heap.size) (by (repeat (first | with_reducible assumption | with_reducible exact Below.refl _ _ | with_reducible refine Below.setCell ?_ (by first | omega | (simp; done) | (simp; omega)) _ | with_reducible refine Below.alloc ?_ (by first | omega | (simp; done) | (simp; omega)) _ | with_reducible refine below_drewN ?_ _ | with_reducible refine Below.drew ?_))) (Nat.le_refl _)).more (by first | omega | (simp; omega)))).mono ?_
    rintro e w1 ⟨rfl, hb1⟩
    have hz1 := hb1.size
    (try simp at hz1)
    have hbw : Below w.heap.size w w1 := by (repeat (first | with_reducible assumption | with_reducible exact Below.refl _ _ | with_reducible refine Below.setCell ?_ (by first | omega | (simp; done) | (simp; omega)) _ | with_reducible refine Below.alloc ?_ (by first | omega | (simp; done) | (simp; omega)) _ | with_reducible refine below_drewN ?_ _ | with_reducible refine Below.drew ?_ | with_reducible refine Below.trans ?_ (Below.mono hb1 (by first | omega | (simp; done) | (simp; omega)))))
    have c2 : w1.cell? ⟨w.heap.size, 2, none⟩ = some (.string (bs (tyB ty))) := (hb1.cell (p := ⟨w.heap.size, 2, none⟩) (by simp; omega)).trans (by simp [go_sem])
    have c3 : w1.cell? ⟨w.heap.size, 3, none⟩ = some (.slice (some ⟨b, o, none⟩) 1 c) := (hb1.cell (p := ⟨w.heap.size, 3, none⟩) (by simp; omega)).trans (by simp [go_sem])
    have c0 : w1.cell? ⟨w.heap.size, 0, none⟩ = some (.int .i64 4) := (hb1.cell (p := ⟨w.heap.size, 0, none⟩) (by simp; omega)).trans (by simp [go_sem])
    have g0 := f0 ⟨w1, hbw⟩; have g1 := f1 ⟨w1, hbw⟩; have g2 := f2 ⟨w1, hbw⟩; have g3 := f3 ⟨w1, hbw⟩
    have EMP : Hid (∀ w' : World, Below (w.heap.size + 2) w1 w' → GtS w.heap.size w' (.slice (some ⟨w.heap.size + 1, 0, none⟩) 0 0) []) := Lib.hid (fun (w' : World) (h : Below (w.heap.size + 2) w1 w') => by have h2 := gt_empty strRow 1 9 (B := w.heap.size) (w.alloc (.cells #[.int .i64 4, .int .i64 0, .string (bs (tyB ty)), .slice (some ⟨b, o, none⟩) 1 c] 24)) w' (by simp) ((hb1.mono (by simp)).trans (by simpa using h)); rwa [World.size_alloc] at h2)
    clear f0 f1 f2 f3 hb1 hv0
    simp only [Nat.zero_mul, Nat.add_zero] at g0 g1 g2 g3
    rw [show ((E.cast ty a).lv : Int) = 4 from rfl]
    go_wp2_with fail
    go_region_held3 (fun w' => w'.cell? ⟨w.heap.size, 2, none⟩ = some (.string (bs (tyB ty))) ∧ w'.cell? ⟨w.heap.size, 3, none⟩ = some (.slice (some ⟨b, o, none⟩) 1 c) ∧ w'.cell? ⟨b, o, none⟩ = some (.int .i64 p1) ∧ w'.cell? ⟨b, o + 1, none⟩ = some (.int .i64 q1) ∧ w'.cell? ⟨b, o + 2, none⟩ = some (.string (bs s1)) ∧ w'.cell? ⟨b, o + 3, none⟩ = some (.slice A1 m1.length c1))
      (first | go_keep | exact ⟨((show Below (w.heap.size + 1) w1 _ from by (repeat (first | with_reducible assumption | with_reducible exact Below.refl _ _ | with_reducible refine Below.setCell ?_ (by first | omega | (simp; done) | (simp; omega)) _ | with_reducible refine Below.alloc ?_ (by first | omega | (simp; done) | (simp; omega)) _ | with_reducible refine below_drewN ?_ _ | with_reducible refine Below.drew ?_ | with_reducible refine Below.trans ?_ (Below.mono hb2 (by first | omega | (simp; done) | (simp; omega))) | with_reducible refine below_app ?_ hgr3 (by intro q hq; simp [Value.ownBlock] at hq; omega) (by first | omega | (simp; done) | (simp; omega)) | with_reducible refine below_app ?_ hgr4 (by intro q hq; simp [Value.ownBlock] at hq; omega) (by first | omega | (simp; done) | (simp; omega))))).cell (p := ⟨w.heap.size, 2, none⟩) (by first | (simp; done) | (simp; omega))).trans c2, ((show Below (w.heap.size + 1) w1 _ from by (repeat (first | with_reducible assumption | with_reducible exact Below.refl _ _ | with_reducible refine Below.setCell ?_ (by first | omega | (simp; done) | (simp; omega)) _ | with_reducible refine Below.alloc ?_ (by first | omega | (simp; done) | (simp; omega)) _ | with_reducible refine below_drewN ?_ _ | with_reducible refine Below.drew ?_ | with_reducible refine Below.trans ?_ (Below.mono hb2 (by first | omega | (simp; done) | (simp; omega))) | with_reducible refine below_app ?_ hgr3 (by intro q hq; simp [Value.ownBlock] at hq; omega) (by first | omega | (simp; done) | (simp; omega)) | with_reducible refine below_app ?_ hgr4 (by intro q hq; simp [Value.ownBlock] at hq; omega) (by first | omega | (simp; done) | (simp; omega))))).cell (p := ⟨w.heap.size, 3, none⟩) (by first | (simp; done) | (simp; omega))).trans c3, ((show Below (w.heap.size + 1) w1 _ from by (repeat (first | with_reducible assumption | with_reducible exact Below.refl _ _ | with_reducible refine Below.setCell ?_ (by first | omega | (simp; done) | (simp; omega)) _ | with_reducible refine Below.alloc ?_ (by first | omega | (simp; done) | (simp; omega)) _ | with_reducible refine below_drewN ?_ _ | with_reducible refine Below.drew ?_ | with_reducible refine Below.trans ?_ (Below.mono hb2 (by first | omega | (simp; done) | (simp; omega))) | with_reducible refine below_app ?_ hgr3 (by intro q hq; simp [Value.ownBlock] at hq; omega) (by first | omega | (simp; done) | (simp; omega)) | with_reducible refine below_app ?_ hgr4 (by intro q hq; simp [Value.ownBlock] at hq; omega) (by first | omega | (simp; done) | (simp; omega))))).cell (p := ⟨b, o, none⟩) (by first | (simp; done) | (simp; omega))).trans g0, ((show Below (w.heap.size + 1) w1 _ from by (repeat (first | with_reducible assumption | with_reducible exact Below.refl _ _ | with_reducible refine Below.setCell ?_ (by first | omega | (simp; done) | (simp; omega)) _ | with_reducible refine Below.alloc ?_ (by first | omega | (simp; done) | (simp; omega)) _ | with_reducible refine below_drewN ?_ _ | with_reducible refine Below.drew ?_ | with_reducible refine Below.trans ?_ (Below.mono hb2 (by first | omega | (simp; done) | (simp; omega))) | with_reducible refine below_app ?_ hgr3 (by intro q hq; simp [Value.ownBlock] at hq; omega) (by first | omega | (simp; done) | (simp; omega)) | with_reducible refine below_app ?_ hgr4 (by intro q hq; simp [Value.ownBlock] at hq; omega) (by first | omega | (simp; done) | (simp; omega))))).cell (p := ⟨b, o + 1, none⟩) (by first | (simp; done) | (simp; omega))).trans g1, ((show Below (w.heap.size + 1) w1 _ from by (repeat (first | with_reducible assumption | with_reducible exact Below.refl _ _ | with_reducible refine Below.setCell ?_ (by first | omega | (simp; done) | (simp; omega)) _ | with_reducible refine Below.alloc ?_ (by first | omega | (simp; done) | (simp; omega)) _ | with_reducible refine below_drewN ?_ _ | with_reducible refine Below.drew ?_ | with_reducible refine Below.trans ?_ (Below.mono hb2 (by first | omega | (simp; done) | (simp; omega))) | with_reducible refine below_app ?_ hgr3 (by intro q hq; simp [Value.ownBlock] at hq; omega) (by first | omega | (simp; done) | (simp; omega)) | with_reducible refine below_app ?_ hgr4 (by intro q hq; simp [Value.ownBlock] at hq; omega) (by first | omega | (simp; done) | (simp; omega))))).cell (p := ⟨b, o + 2, none⟩) (by first | (simp; done) | (simp; omega))).trans g2, ((show Below (w.heap.size + 1) w1 _ from by (repeat (first | with_reducible assumption | with_reducible exact Below.refl _ _ | with_reducible refine Below.setCell ?_ (by first | omega | (simp; done) | (simp; omega)) _ | with_reducible refine Below.alloc ?_ (by first | omega | (simp; done) | (simp; omega)) _ | with_reducible refine below_drewN ?_ _ | with_reducible refine Below.drew ?_ | with_reducible refine Below.trans ?_ (Below.mono hb2 (by first | omega | (simp; done) | (simp; omega))) | with_reducible refine below_app ?_ hgr3 (by intro q hq; simp [Value.ownBlock] at hq; omega) (by first | omega | (simp; done) | (simp; omega)) | with_reducible refine below_app ?_ hgr4 (by intro q hq; simp [Value.ownBlock] at hq; omega) (by first | omega | (simp; done) | (simp; omega))))).cell (p := ⟨b, o + 3, none⟩) (by first | (simp; done) | (simp; omega))).trans g3⟩)
      (first
        | (go_at_call 116; refine (IHa.out _ (by (repeat (first | with_reducible assumption | with_reducible exact Below.refl _ _ | with_reducible refine Below.setCell ?_ (by first | omega | (simp; done) | (simp; omega)) _ | with_reducible refine Below.alloc ?_ (by first | omega | (simp; done) | (simp; omega)) _ | with_reducible refine below_drewN ?_ _ | with_reducible refine Below.drew ?_)))).mono ?_; rintro e w2 ⟨u2, rfl, hG2, hb2⟩; have hz2 := hb2.size; (try simp at hz2); obtain ⟨gg2, cap2, rfl, hgl2, hgh2⟩ := hG2.block hpos)
        | (refine aps0_step (by rfl) (.tmp 13) (.tmp 18) (by rfl) w.heap.size (.slice (some ⟨w.heap.size + 1, 0, none⟩) 0 0) (by rfl) ?_ ⟨gg2, 0, none⟩ cap2 wa (by rfl) ?_ hpos ?_ ?_ ?_; exact EMP.out _ (by (repeat (first | with_reducible assumption | with_reducible exact Below.refl _ _ | with_reducible refine Below.setCell ?_ (by first | omega | (simp; done) | (simp; omega)) _ | with_reducible refine Below.alloc ?_ (by first | omega | (simp; done) | (simp; omega)) _ | with_reducible refine below_drewN ?_ _ | with_reducible refine Below.drew ?_ | with_reducible refine Below.trans ?_ (Below.mono hb2 (by first | omega | (simp; done) | (simp; omega)))))); exact (hG2.ext (by (repeat (first | with_reducible assumption | with_reducible exact Below.refl _ _ | with_reducible refine Below.setCell ?_ (by first | omega | (simp; done) | (simp; omega)) _ | with_reducible refine Below.alloc ?_ (by first | omega | (simp; done) | (simp; omega)) _ | with_reducible refine below_drewN ?_ _ | with_reducible refine Below.drew ?_)))).cells; omega; (first | omega | (simp; omega)); intro g3' cap3 w3 hG3 hgr3 hat3; have hz3 := hgr3.size; (try simp at hz3); have hlo3 : w.heap.size + 1 ≤ g3' := (by rcases hat3 with h | h <;> (try simp [Value.ownBlock] at h) <;> omega))
        | (refine aps_step (by rfl) (.tmp 19) (.tmp 22) (by rfl) w.heap.size (.slice (some ⟨g3', 0, none⟩) wa.length cap3) wa (by rfl) ?_ ⟨w3.heap.size, 0, none⟩ 2 [cAs, tyB ty] (by rfl) ?_ (Nat.succ_pos 1) ?_ ?_ ?_; exact hG3.ext (by (repeat (first | with_reducible assumption | with_reducible exact Below.refl _ _ | with_reducible refine Below.setCell ?_ (by first | omega | (simp; done) | (simp; omega)) _ | with_reducible refine Below.alloc ?_ (by first | omega | (simp; done) | (simp; omega)) _ | with_reducible refine below_drewN ?_ _ | with_reducible refine Below.drew ?_))); exact World.news_of_block (heap_alloc_new w3 _); (simp; omega); (first | omega | (simp; omega)); intro g4' cap4 w4 hG4 hgr4 hat4; have hz4 := hgr4.size; (try simp at hz4); have hlo4 : w.heap.size + 1 ≤ g4' := (by rcases hat4 with h | h <;> (try simp [Value.ownBlock] at h) <;> omega))
        | (refine aps_step (by rfl) (.tmp 19) (.tmp 22) (by rfl) w.heap.size (.slice (some ⟨g3', 0, none⟩) wa.length cap3) wa (by rfl) ?_ ⟨w2.heap.size, 0, none⟩ 2 [cAs, tyB ty] (by rfl) ?_ (Nat.succ_pos 1) ?_ ?_ ?_; exact hG3.ext (by (repeat (first | with_reducible assumption | with_reducible exact Below.refl _ _ | with_reducible refine Below.setCell ?_ (by first | omega | (simp; done) | (simp; omega)) _ | with_reducible refine Below.alloc ?_ (by first | omega | (simp; done) | (simp; omega)) _ | with_reducible refine below_drewN ?_ _ | with_reducible refine Below.drew ?_))); exact World.news_of_block ((hgr3.block w2.heap.size (by simp) (by simp [Value.ownBlock]; omega)).trans (heap_alloc_new w2 _)); (simp; omega); (first | omega | (simp; omega)); intro g4' cap4 w4 hG4 hgr4 hat4; have hz4 := hgr4.size; (try simp at hz4); have hlo4 : w.heap.size + 1 ≤ g4' := (by rcases hat4 with h | h <;> (try simp [Value.ownBlock] at h) <;> omega))
        | (refine aps_step (by rfl) (.tmp 19) (.tmp 22) (by rfl) w.heap.size (.slice (some ⟨g3', 0, none⟩) wa.length cap3) wa (by rfl) ?_ ⟨w1.heap.size, 0, none⟩ 2 [cAs, tyB ty] (by rfl) ?_ (Nat.succ_pos 1) ?_ ?_ ?_; exact hG3.ext (by (repeat (first | with_reducible assumption | with_reducible exact Below.refl _ _ | with_reducible refine Below.setCell ?_ (by first | omega | (simp; done) | (simp; omega)) _ | with_reducible refine Below.alloc ?_ (by first | omega | (simp; done) | (simp; omega)) _ | with_reducible refine below_drewN ?_ _ | with_reducible refine Below.drew ?_))); exact World.news_of_block ((hgr3.block w1.heap.size (by omega) (by simp [Value.ownBlock]; omega)).trans ((hb2.block w1.heap.size (by simp)).trans (heap_alloc_new w1 _))); (simp; omega); (first | omega | (simp; omega)); intro g4' cap4 w4 hG4 hgr4 hat4; have hz4 := hgr4.size; (try simp at hz4); have hlo4 : w.heap.size + 1 ≤ g4' := (by rcases hat4 with h | h <;> (try simp [Value.ownBlock] at h) <;> omega)))
    all_goals
      go_wp2_with fail
      go_ret
      exact ⟨_, rfl, by rw [E.words, HWA.out]; exact hG4, by (repeat (first | with_reducible assumption | with_reducible exact Below.refl _ _ | with_reducible refine Below.setCell ?_ (by first | omega | (simp; done) | (simp; omega)) _ | with_reducible refine Below.alloc ?_ (by first | omega | (simp; done) | (simp; omega)) _ | with_reducible refine below_drewN ?_ _ | with_reducible refine Below.drew ?_ | with_reducible refine Below.trans ?_ (Below.mono hb2 (by first | omega | (simp; done) | (simp; omega))) | with_reducible refine Below.trans ?_ (Below.mono hbw (by first | omega | (simp; done) | (simp; omega))) | with_reducible refine below_app ?_ hgr3 (by intro q hq; simp [Value.ownBlock] at hq; omega) (by first | omega | (simp; done) | (simp; omega)) | with_reducible refine below_app ?_ hgr4 (by intro q hq; simp [Value.ownBlock] at hq; omega) (by first | omega | (simp; done) | (simp; omega))))⟩
  | two op a b iha ihb =>
    intro t v w hok hcnt ht hv
    have hv0 := hv
    obtain ⟨kv, rfl, hs, hk⟩ := hv
    obtain ⟨A, c, rfl, hc, hm⟩ := hk.val
    obtain ⟨hoka, hokb⟩ := hok
    simp only [E.cnt] at hcnt
    simp only [E.ex, Ex.kind, Ex.n, Ex.s, Ex.kids, List.length_cons, List.length_nil] at hv0 hc hk ⊢
    obtain ⟨b0, o0, p1, q1, s1, A1, c1, m1, rfl, hb, hg1, hs1, hm1, hc1, hk1, f0, f1, f2, f3⟩ := ex_at (i := 0) hk (by simp)
    obtain ⟨b0', o0', p2, q2, s2, A2, c2, m2, hAA, hb', hg2, hs2, hm2, hc2, hk2, e0, e1, e2, e3⟩ := ex_at (i := 1) hk (by simp)
    cases hAA
    have hexa : a.ex = .mk p1 q1 s1 m1 := by simpa using hg1
    have hexb : b.ex = .mk p2 q2 s2 m2 := by simpa using hg2
    rw [bs_size] at hs1 hs2
    have hlena := E.words_len a (max op.lv 2)
    have hlenb := E.words_len b (op.lv + 1)
    have hl3 : op.lv ≤ 3 := by cases op <;> decide
    have hl1 : 1 ≤ op.lv := by cases op <;> decide
    have hmx : ((max op.lv 2 : Nat) : Int) = (if op.lv = 1 then 2 else (op.lv : Int)) := by split <;> omega
    have hlv := spLevel_any (.two op a b) (.agg #[.int .i64 3, .int .i64 0, .string (bs op.b), .slice (some ⟨b0, o0, none⟩) 2 c]) _ ((hv0.keep (B' := w.heap.size) (w' := (w.alloc (.cells #[.int .i64 3, .int .i64 0, .string (bs op.b), .slice (some ⟨b0, o0, none⟩) 2 c] 24)).alloc (.cells #[] 9)) (by (repeat (first | with_reducible assumption | with_reducible exact Below.refl _ _ | with_reducible refine Below.setCell ?_ (by first | omega | (simp; done) | (simp; omega)) _ | with_reducible refine Below.alloc ?_ (by first | omega | (simp; done) | (simp; omega)) _ | with_reducible refine below_drewN ?_ _ | with_reducible refine Below.drew ?_))) (Nat.le_refl _)).more (by first | omega | (simp; omega)))
    have hwd : (E.two op a b).words t = if op.lv < t then [40] :: (a.words (max op.lv 2) ++ op.b :: b.words (op.lv + 1)) ++ [[41]] else a.words (max op.lv 2) ++ op.b :: b.words (op.lv + 1) := rfl
    rw [hwd]
    refine spTwo_any op.lv t op.b (a.words (max op.lv 2)) (b.words (op.lv + 1)) w c b0 o0 p1 q1 s1 A1 c1 m1 p2 q2 s2 A2 c2 m2 hl1 hl3 ht (by omega) hm hb (E.words_pos _ _) (by omega) (E.words_pos _ _) (by omega) f0 f1 f2 f3 e0 e1 e2 e3 ?_ ?_ hlv
    · intro w' h
      have := iha (max op.lv 2) (.agg #[.int .i64 p1, .int .i64 q1, .string (bs s1), .slice A1 m1.length c1]) w' hoka (by omega) (by omega) (by rw [hexa]; exact ⟨_, rfl, hs1, hk1.ext h⟩)
      rw [hmx] at this
      exact this
    · intro w' h
      exact ihb (op.lv + 1) (.agg #[.int .i64 p2, .int .i64 q2, .string (bs s2), .slice A2 m2.length c2]) w' hokb (by omega) (by omega) (by rw [hexb]; exact ⟨_, rfl, hs2, hk2.ext h⟩)
end Go.Proofs.YtgakjhaepdigpaaGreatDoor
