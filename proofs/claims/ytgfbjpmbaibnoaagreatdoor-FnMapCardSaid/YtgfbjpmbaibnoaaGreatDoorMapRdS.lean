
/- A map is read from its text: the reference's walk. -/
import Derived.Test.YtgfbjpmbaibnoaaGreatDoorMapR
import Derived.Test.YtgfbjpmbaibnoaaGreatDoorNrdS
import Derived.Test.YtgfbjpmbaibnoaaGreatDoorAppGs
import Derived.Test.YtgfbjpmbaibnoaaGreatDoorL8S
import Derived.Test.YtgfbjpmbaibnoaaGreatDoorTxts
import Derived.Deep.RegionLaw
namespace Go.Proofs.YtgfbjpmbaibnoaaGreatDoor
set_option maxRecDepth 100000
set_option linter.unusedSimpArgs false
set_option linter.unusedVariables false
open Go.RowKit
attribute [local go_sem] bs_toList bs_get bs_size

abbrev posC (p : Ps) : Array Value := #[.int .i64 p.1, .int .i64 p.2]
/-- what a reader of a line tells -/
def LlP (line : Int) (fr : Ps) (row : Bytes) (w : World) (e : Ending) (w' : World) : Prop := ∃ (u : Value) (l : List Sg) (p : Ps) (ok : Bool), e = .returned (.tuple #[u, .agg (posC p), .bool ok]) ∧ Gt sgRow 4 129 w.heap.size w' u l ∧ l.length ≤ row.length + 1 ∧ ((ok = true ∧ lineM line fr row = some (l, p)) ∨ (ok = false ∧ l = [] ∧ lineM line fr row = none)) ∧ Below w.heap.size w w'
/-- a row of texts that is not empty, as it lies -/
theorem str_src {B : Nat} {w : World} {u : Value} {m : List Bytes} (h : GtS B w u m) (h0 : 0 < m.length) : ∃ g cap, u = .slice (some ⟨g, 0, none⟩) m.length cap ∧ B ≤ g ∧ g < w.heap.size ∧ m.length ≤ cap ∧ cap ≤ 9223372036854775807 ∧ ∀ (j : Nat) (x : Bytes), m[j]? = some x → w.cell? ⟨g, j, none⟩ = some (.string (bs x)) := by
  obtain ⟨g, cap, rfl, h1, h2, h3⟩ := h.src h0
  obtain ⟨A, c, he, h4, h5⟩ := h.val
  have hc : cap = c := by injection he
  subst hc
  refine ⟨g, cap, rfl, h1, h2, h4, h5, fun j x hx => ?_⟩
  have h9 := flat_at' (row := strRow) (k := 1) (fun _ => rfl) m j x hx 0 _ rfl
  rw [Nat.mul_one, Nat.add_zero] at h9
  have hadd : (⟨g, 0, none⟩ : Addr).add j = ⟨g, j, none⟩ := by unfold Addr.add; split <;> simp_all
  rw [← hadd]
  exact h3 j _ h9
/-- three numbers, as they lie -/
theorem three_cells {w : World} {lo : Nat} {u : Value} {a b c : Int} (h : Fr intRow 1 3 w lo u [a, b, c]) : ∃ g cap, u = .slice (some ⟨g, 0, none⟩) 3 cap ∧ lo ≤ g ∧ g < w.heap.size ∧ 3 ≤ cap ∧ cap ≤ 9223372036854775807 ∧ w.cell? ⟨g, 0, none⟩ = some (.int .i64 a) ∧ w.cell? ⟨g, 1, none⟩ = some (.int .i64 b) ∧ w.cell? ⟨g, 2, none⟩ = some (.int .i64 c) := by
  rcases h.form with ⟨_, h0⟩ | ⟨g, cap, cur, rfl, hlo, hc, hm, hB, hx⟩
  · cases h0
  · refine ⟨g, cap, rfl, hlo, hB.lt, by simpa using hc, hm, ?_, ?_, ?_⟩
    · rw [hB.cell]; exact hx 0 a rfl 0 _ rfl
    · rw [hB.cell]; exact hx 1 b rfl 0 _ rfl
    · rw [hB.cell]; exact hx 2 c rfl 0 _ rfl
set_option maxHeartbeats 2000000 in
theorem spL9Line_any (row : Bytes) (line : Int) (p0 q0 : Int) (w : World) (hs : row.length ≤ 20000) : Calls Tryz.prog 127 #[.string (bs row), .int .i64 line, .agg #[.int .i64 p0, .int .i64 q0]] w (LlP line (p0, q0) row w) := by
  have CU := Lib.hid (fun w' : World => spCut_text row 44 w' (by omega))
  have NS := Lib.hid (fun (s : Bytes) (w' : World) (h : s.length ≤ 20000) => spNumsRead_any s w' (by omega))
  unfold NsP at NS
  by_cases hr : row = []
  · subst hr
    clear CU NS
    go_enter Tryz.func127, Tryz.ntmps127
    go_wp2_with fail
    go_region_law (fail)
    all_goals
      go_wp2_with fail
      refine bodyPost_ret (v := .tuple #[.slice (some ⟨w.heap.size + 1 + 1, 0, none⟩) 0 0, .agg #[.int .i64 p0, .int .i64 q0], .bool true]) (by simp [results, Tryz.results127, go_sem, *]) rfl ?_
      refine ⟨_, [], (p0, q0), true, rfl, ?_, by simp, .inl ⟨rfl, by unfold lineM; rw [if_pos rfl]⟩, by (repeat (first | with_reducible assumption | with_reducible exact Below.refl _ _ | with_reducible refine Below.setCell ?_ (by first | omega | (simp; done) | (simp; omega)) _ | with_reducible refine Below.alloc ?_ (by first | omega | (simp; done) | (simp; omega)) _ | with_reducible refine below_drewN ?_ _ | with_reducible refine Below.drew ?_))⟩
      have h := gt_empty sgRow 4 129 (B := w.heap.size) ((w.alloc (.cells #[.int .i64 p0, .int .i64 q0] 68)).alloc (.cells #[.int .i64 p0, .int .i64 q0] 68)) _ (by simp; omega) (Below.drew (Below.refl _ _))
      rw [World.size_alloc, World.size_alloc] at h
      exact h
  · have HR := Lib.hid (show lineM line (p0, q0) row = rowM line 0 (p0, q0) (cutB 44 row) by unfold lineM; rw [if_neg hr])
    have hre : (row == ([] : Bytes)) = false := by simpa using hr
    have hpl : (cutB 44 row).length ≤ row.length + 1 := by
      rw [cutB_len]
      have := List.count_le_length (a := (44 : UInt8)) (l := row)
      omega
    have HPL := Lib.hid (And.intro hpl (fun r h => cutB_mem_len (c := 44) row r h))
    have hcp := cutB_ne 44 row
    generalize cutB 44 row = parts at *
    have hp0 : 0 < parts.length := by rcases parts with _ | _; exact absurd rfl hcp; simp
    clear hr hcp hpl
    go_enter Tryz.func127, Tryz.ntmps127
    go_wp2_with fail
    generalize hW0 : World.alloc _ (.cells #[] 129) = W0
    have hz0 : W0.heap.size = w.heap.size + 3 := by rw [← hW0]; simp
    have hb0 : Below w.heap.size w W0 := by rw [← hW0]; (repeat (first | with_reducible assumption | with_reducible exact Below.refl _ _ | with_reducible refine Below.setCell ?_ (by first | omega | (simp; done) | (simp; omega)) _ | with_reducible refine Below.alloc ?_ (by first | omega | (simp; done) | (simp; omega)) _ | with_reducible refine below_drewN ?_ _ | with_reducible refine Below.drew ?_))
    have hA0 : Blk W0 w.heap.size 68 #[.int .i64 p0, .int .i64 q0] := by rw [← hW0]; exact ((Blk.new _ _ _).alloc _).alloc _
    have hC0 : Blk W0 (w.heap.size + 1) 68 #[.int .i64 0, .int .i64 0] := by
      rw [← hW0]
      have h := (Blk.new (w.alloc (.cells #[.int .i64 p0, .int .i64 q0] 68)) 68 #[.int .i64 0, .int .i64 0]).alloc (.cells #[] 129)
      simpa using h
    have hG0 : Gt sgRow 4 129 (w.heap.size + 2) W0 (.slice (some ⟨w.heap.size + 1 + 1, 0, none⟩) 0 0) [] := by
      rw [← hW0]
      have h := gt_empty sgRow 4 129 (B := w.heap.size + 2) ((w.alloc (.cells #[.int .i64 p0, .int .i64 q0] 68)).alloc (.cells #[.int .i64 0, .int .i64 0] 68)) _ (by simp) (Below.refl _ _)
      simpa using h
    clear hW0
    refine (CU.out _).mono ?_
    rintro r w1 ⟨u1, rfl, hG1, hb1⟩
    obtain ⟨gp, cpp, rfl, hlo1, hlt1, hcc1, hcm1, hcells⟩ := str_src hG1 hp0
    have HX := Lib.hid (And.intro hb1 (And.intro hcells (And.intro hlo1 hlt1)))
    have hA1 := hA0.below hb1 hA0.lt
    have hC1 := hC0.below hb1 hC0.lt
    have hG2 := hG0.ext hb1
    have hbw1 := hb0.ext hb1
    clear hA0 hC0 hG0 hb0 hcells hb1 hG1 CU
    go_wp2_with fail
    go_loopg [9, 10, 12] parts.length (fun n o a i wr => ∃ (j : Nat) (l0 : List Sg) (col : Int) (p q : Int), n = parts.length - j ∧ j ≤ parts.length ∧ a = .int .i64 col ∧ i = .int .i64 (j : Int) ∧ Gt sgRow 4 129 (w.heap.size + 2) wr o l0 ∧ (∀ x, o.ownBlock = some x → x = w.heap.size + 2 ∨ w1.heap.size ≤ x) ∧ l0.length ≤ j ∧ Blk wr w.heap.size 68 #[.int .i64 p, .int .i64 q] ∧ Blk wr (w.heap.size + 1) 68 #[.int .i64 0, .int .i64 0] ∧ (∀ b, w.heap.size + 3 ≤ b → b < w1.heap.size → wr.heap[b]? = w1.heap[b]?) ∧ w1.heap.size ≤ wr.heap.size ∧ rowM line 0 (p0, q0) parts = (rowM line col (p, q) (parts.drop j)).map (fun r => (l0 ++ r.1, r.2)) ∧ Below w.heap.size w wr)
    case atStart => exact ⟨0, [], 0, p0, q0, by omega, by omega, rfl, rfl, hG2, fun x hx => by simp [Value.ownBlock] at hx; omega, by simp, hA1, hC1, fun _ _ _ => rfl, Nat.le_refl _, by rw [List.drop_zero]; cases rowM line 0 (p0, q0) parts <;> rfl, hbw1⟩
    case round =>
      clear hA1 hC1 hG2 hbw1
      obtain ⟨j, l0, col, p, q, hn, hj, rfl, rfl, hG, hob, hl0, hA, hC, hkb, hzw, hrow, hbl⟩ := hrel
      have HK := Lib.hid (And.intro hn (And.intro hob (And.intro hkb hrow)))
      clear hn hob hkb hrow
      by_cases hlt : j < parts.length
      · have hg : parts[j]? = some parts[j] := List.getElem?_eq_getElem hlt
        have hcell : wr.cell? ⟨gp, j, none⟩ = some (.string (bs parts[j])) := by
          have h1 := HX.out.2.1 j _ hg
          rw [← h1]
          exact World.cell?_of_block (HK.out.2.2.1 gp (by omega) hlt1)
        have hdr := List.drop_eq_getElem_cons hlt
        have hpl := HPL.out.2 parts[j] (List.getElem_mem hlt)
        have C := Lib.hid (NS.out parts[j] wr (by omega))
        have HD := Lib.hid (And.intro hG (And.intro hA (And.intro hC (And.intro hbl hdr))))
        generalize parts[j] = t at *
        clear hG hA hC hbl hdr hg hpl
        go_wp2_with fail
        refine C.out.mono ?_
        rintro r w2 ⟨u2, l2, ok, rfl, hF2, hor, hb2⟩
        have hA := HD.out.2.1.below hb2 HD.out.2.1.lt
        have hC := HD.out.2.2.1.below hb2 HD.out.2.2.1.lt
        have hbw2 := HD.out.2.2.2.1.ext hb2
        have a0 := hA.cell 0
        have a1 := hA.cell 1
        have c0 := hC.cell 0
        have c1 := hC.cell 1
        simp at a0 a1 c0 c1
        have za := fun i => hA.frozen i
        have zc := fun i => hC.frozen i
        have hzA := hA.lt
        have hzC := hC.lt
        by_cases h3 : ∃ a b c, rdNs t = some [a, b, c]
        · obtain ⟨a, b, c, hrd3⟩ := h3
          obtain ⟨rfl, rfl⟩ : ok = true ∧ l2 = [a, b, c] := by
            rcases hor with ⟨h1, h2⟩ | ⟨_, _, h2⟩
            · rw [hrd3] at h2; exact ⟨h1, (Option.some.inj h2).symm⟩
            · rw [hrd3] at h2; cases h2
          obtain ⟨g2, cap2, rfl, hlo2, hlt2, hcc2, hcm2, n0, n1, n2⟩ := three_cells hF2
          have HROW := Lib.hid (show rowM line 0 (p0, q0) parts = (rowM line (wr64 (col + a)) (wr64 (p + b), wr64 (q + c)) (parts.drop (j + 1))).map (fun r => ((l0 ++ [((line, wr64 (col + a)), (wr64 (p + b), wr64 (q + c)))]) ++ r.1, r.2)) by
            rw [HK.out.2.2.2, HD.out.2.2.2.2, rowM_yes hrd3, Option.map_map]
            congr 1
            funext r
            simp)
          have HY := Lib.hid (And.intro hA (And.intro hC (And.intro hbw2 (And.intro hb2 hlo2))))
          clear hF2 hor hrd3 hA hC hbw2
          go_wp2_with fail
          go_region
          generalize hW3 : World.drew (World.setCell _ _ _) = W3
          have hg3 : w2.grownBy W3 (some w.heap.size) := by rw [← hW3]; exact grown_dr (grown_st (grown_st (grown_rfl _ _) _ _) _ _)
          have hA3 : Blk W3 w.heap.size 68 #[.int .i64 (wr64 (p + b)), .int .i64 (wr64 (q + c))] := by
            rw [← hW3]
            have h := ((HY.out.1.set_ 0 (.int .i64 (wr64 (p + b)))).set_ 1 (.int .i64 (wr64 (q + c)))).drew
            simpa using h
          have hC3 : Blk W3 (w.heap.size + 1) 68 #[.int .i64 0, .int .i64 0] := blk_gr HY.out.2.1 hg3 (by omega)
          have hz3 := hg3.size
          have hz2 := hb2.size
          have hbw3 : Below w.heap.size w W3 := by rw [← hW3]; exact ((HY.out.2.2.1.setCell (Nat.le_refl _) _).setCell (Nat.le_refl _) _).drew
          have hG3 : Gt sgRow 4 129 (w.heap.size + 2) W3 u9 l0 := (HD.out.1.ext hb2).grown hg3 (by
            cases ho : u9.ownBlock with
            | none => exact .inl rfl
            | some x => refine .inr ?_; intro e; have := HK.out.2.1 x ho; injection e; omega)
          have a0 := hA3.cell 0
          have a1 := hA3.cell 1
          simp at a0 a1
          have HG3 := Lib.hid (And.intro hG3 (And.intro hA3 (And.intro hC3 (And.intro hbw3 hg3))))
          have hl0b : l0.length ≤ 30000 := by have := HPL.out.1; omega
          obtain ⟨Au, cu, hue, _, _⟩ := hG3.val
          clear hG3 hA3 hC3 hbw3 hg3 hW3 n0 n1 n2 c0 c1 za zc
          subst hue
          go_wp2_with (at_builtin; refine app_plain rtSg (by rfl) (.tmp 62) (.tmp 68) (by rfl) (w.heap.size + 2) (.slice Au l0.length cu) l0 (by rfl) (HG3.out.1.ext (by (repeat (first | with_reducible assumption | with_reducible exact Below.refl _ _ | with_reducible refine Below.setCell ?_ (by first | omega | (simp; done) | (simp; omega)) _ | with_reducible refine Below.alloc ?_ (by first | omega | (simp; done) | (simp; omega)) _ | with_reducible refine below_drewN ?_ _ | with_reducible refine Below.drew ?_)))) ⟨W3.heap.size, 0, none⟩ 1 [((line, wr64 (col + a)), (wr64 (p + b), wr64 (q + c)))] (by rfl) (World.news_of_block (heap_alloc_new W3 _)) Nat.zero_lt_one (by simp; omega) (by simp; omega) ?_; intro g' cap' w4 hG4 hgr4 hat4)
          have hown : ∀ x, (Value.slice Au l0.length cu).ownBlock = some x → x = w.heap.size + 2 ∨ w1.heap.size ≤ x := HK.out.2.1
          have hz4 := hgr4.size
          rw [World.size_alloc] at hz4
          go_roundg (parts.length - (j + 1))
          case measure => have := HK.out.1; omega
          case rel =>
            refine ⟨j + 1, _, wr64 (col + a), wr64 (p + b), wr64 (q + c), rfl, by omega, rfl, by go_num, hG4.len (by simp) rfl, ?_, by simp; omega, ?_, ?_, ?_, by omega, HROW.out, ?_⟩
            · intro x hx
              simp [Value.ownBlock] at hx
              subst hx
              rcases hat4 with h | h
              · exact hown _ h
              · rw [h, World.size_alloc]; right; omega
            · exact blk_app (HG3.out.2.1.alloc _) hgr4 (fun x hx => by have := hown x hx; omega)
            · exact blk_app (HG3.out.2.2.1.alloc _) hgr4 (fun x hx => by have := hown x hx; omega)
            · intro x h1 h2
              rw [hgr4.block x (by rw [World.size_alloc]; omega) (by
                intro e
                have h5 := hown x e.symm
                omega), Below.heap_alloc W3 _ x (by omega), HG3.out.2.2.2.2.block x (by omega) (by intro e; injection e; omega), hb2.block x (by omega)]
              exact HK.out.2.2.1 x h1 h2
            · exact below_app (by (repeat (first | with_reducible assumption | with_reducible exact Below.refl _ _ | with_reducible refine Below.setCell ?_ (by first | omega | (simp; done) | (simp; omega)) _ | with_reducible refine Below.alloc ?_ (by first | omega | (simp; done) | (simp; omega)) _ | with_reducible refine below_drewN ?_ _ | with_reducible refine Below.drew ?_ | with_reducible refine Below.trans ?_ (Below.mono HG3.out.2.2.2.1 (by first | omega | (simp; done) | (simp; omega)))))) hgr4 (fun x hx => by have := hown x hx; omega) (by rw [World.size_alloc]; omega)
        · have HN := Lib.hid (show lineM line (p0, q0) row = none by
            rw [HR.out, HK.out.2.2.2, HD.out.2.2.2.2, rowM_no (fun a b c h => h3 ⟨a, b, c, h⟩)]
            rfl)
          have hl3 : ok = true → ¬ l2.length = 3 := by
            intro h1 h2
            rcases hor with ⟨_, h4⟩ | ⟨h4, _⟩
            · match l2, h2 with
              | [a, b, c], _ => exact h3 ⟨a, b, c, h4⟩
            · rw [h1] at h4; cases h4
          obtain ⟨A2, c2, rfl, _, _⟩ := hF2.sl.val
          generalize l2.length = m2 at *
          clear hF2 hor h3
          cases ok
          · clear hl3
            go_wp2_with fail
            go_region_law (fail)
            all_goals
              go_wp2_with fail
              refine bodyPost_ret (v := .tuple #[.slice none 0 0, .agg #[.int .i64 p, .int .i64 q], .bool false]) (by simp [results, Tryz.results127, go_sem, *]) rfl ?_
              exact ⟨_, [], (p, q), false, rfl, Gt.nil _ _ _ _ _, by simp, .inr ⟨rfl, rfl, HN.out⟩, by (repeat (first | with_reducible assumption | with_reducible exact Below.refl _ _ | with_reducible refine Below.setCell ?_ (by first | omega | (simp; done) | (simp; omega)) _ | with_reducible refine Below.alloc ?_ (by first | omega | (simp; done) | (simp; omega)) _ | with_reducible refine below_drewN ?_ _ | with_reducible refine Below.drew ?_ | with_reducible refine Below.trans ?_ (Below.mono hbw2 (by first | omega | (simp; done) | (simp; omega)))))⟩
          · have hl3 := hl3 rfl
            have hl4 : ((m2 : Int) == 3) = false := by rw [beq_eq_false_iff_ne]; omega
            go_wp2_with fail
            go_region_law (fail)
            all_goals
              go_wp2_with fail
              refine bodyPost_ret (v := .tuple #[.slice none 0 0, .agg #[.int .i64 p, .int .i64 q], .bool false]) (by simp [results, Tryz.results127, go_sem, *]) rfl ?_
              exact ⟨_, [], (p, q), false, rfl, Gt.nil _ _ _ _ _, by simp, .inr ⟨rfl, rfl, HN.out⟩, by (repeat (first | with_reducible assumption | with_reducible exact Below.refl _ _ | with_reducible refine Below.setCell ?_ (by first | omega | (simp; done) | (simp; omega)) _ | with_reducible refine Below.alloc ?_ (by first | omega | (simp; done) | (simp; omega)) _ | with_reducible refine below_drewN ?_ _ | with_reducible refine Below.drew ?_ | with_reducible refine Below.trans ?_ (Below.mono hbw2 (by first | omega | (simp; done) | (simp; omega)))))⟩
      · have hje : j = parts.length := by omega
        have HE := Lib.hid (show lineM line (p0, q0) row = some (l0, (p, q)) by rw [HR.out, HK.out.2.2.2, hje, List.drop_length, rowM]; simp)
        clear hje
        have a0 := hA.cell 0
        have a1 := hA.cell 1
        have c0 := hC.cell 0
        have c1 := hC.cell 1
        simp at a0 a1 c0 c1
        have za := fun i => hA.frozen i
        have zc := fun i => hC.frozen i
        have hzA := hA.lt
        have hzC := hC.lt
        obtain ⟨Au, cu, rfl, _, _⟩ := hG.val
        have HG := Lib.hid (And.intro hG (And.intro HPL.out.1 hl0))
        clear hG hA hC
        go_wp2_with fail
        go_region_law (fail)
        all_goals
          go_wp2_with fail
          refine bodyPost_ret (v := .tuple #[.slice Au l0.length cu, .agg #[.int .i64 p, .int .i64 q], .bool true]) (by simp [results, Tryz.results127, go_sem, *]) rfl ?_
          refine ⟨_, l0, (p, q), true, rfl, ?_, by have := HG.out.2.1; have := HG.out.2.2; omega, .inl ⟨rfl, HE.out⟩, by (repeat (first | with_reducible assumption | with_reducible exact Below.refl _ _ | with_reducible refine Below.setCell ?_ (by first | omega | (simp; done) | (simp; omega)) _ | with_reducible refine Below.alloc ?_ (by first | omega | (simp; done) | (simp; omega)) _ | with_reducible refine below_drewN ?_ _ | with_reducible refine Below.drew ?_ | with_reducible refine Below.trans ?_ (Below.mono hbl (by first | omega | (simp; done) | (simp; omega)))))⟩
          refine (HG.out.1.grown (r := some (w.heap.size + 1)) ?_ ?_).less (by omega)
          · (repeat (first | with_reducible exact grown_rfl _ _ | with_reducible refine grown_dr ?_ | with_reducible refine grown_st ?_ _ _))
          · cases ho : (Value.slice Au l0.length cu).ownBlock with
            | none => exact .inl rfl
            | some x =>
              refine .inr ?_
              intro e
              injection e with e
              rcases HK.out.2.1 x ho with h | h
              · omega
              · have := HX.out.2.2.1; have := HX.out.2.2.2; omega
/-- append of what may be nothing; whose block it is -/
theorem app_gt2 {α : Type} {row : α → List Value} {k : Nat} {t tS : TypeId} {ops : Array Oper} {rest : List Oper} {o : Oper} {a : Act} {Q : Exit → Act → World → Prop} {w : World} (R : RowTy row k t tS) (hgd : o.guard = none) (s x : Operand) (ho : o.op = .call { callee := .builtin .append, args := #[s, x], argTypes := #[tS, tS] })
    (B : Nat) (v : Value) (l : List α) (hs : a.eval s = v) (hv : Gt row k t B w v l) (B2 : Nat) (u : Value) (l2 : List α) (hx : a.eval x = u) (hu : Gt row k t B2 w u l2) (hl : l.length + l2.length ≤ 1000000) (hB : B ≤ w.heap.size)
    (h : ∀ u' w', Gt row k t B w' u' (l ++ l2) → w.grownBy w' v.ownBlock → (∀ y, u'.ownBlock = some y → v.ownBlock = some y ∨ y = w.heap.size) → wpList Tryz.prog ops Q rest (a.put o.dst u') w') : wpList Tryz.prog ops Q (o :: rest) a w := by
  by_cases h0 : l2 = []
  · subst h0
    have key : ∀ {u0 : Value}, _root_.Go.Src Tryz.prog k tS u0 0 [] w → a.eval x = u0 → wpList Tryz.prog ops Q (o :: rest) a w := by
      intro u0 hsrc hx
      rw [List.append_nil] at h
      have hq := h v w hv ⟨rfl, rfl, rfl, Nat.le_refl _, fun _ _ _ => rfl⟩ (fun y hy => .inl hy)
      obtain ⟨A, c, rfl, hc, hm⟩ := hv.val
      obtain ⟨i0, z, b, hi, hz0, hz1, hz2, hb, hzs⟩ := R.info
      have hrun := run_append_nothing (P := Tryz.prog) w tS tS o.type t i0 R.und hi A l.length c hc u0 (by rw [hz1]; exact hsrc)
      refine wpList_plain hgd fun _ hK => ?_
      unfold Oper.wp
      simp [execOp, ho, resolve, invoke, builtin, hs, hx, hrun, Result.andThen]
      exact hK _ _ hq
    rcases hu.2 with ⟨rfl, _⟩ | ⟨g, cap, cur, rfl, hlo, hbk, hc, hm, hsz, ht⟩
    · exact key (_root_.Go.Src.ofNil w R.und 0) hx
    · exact key (_root_.Go.Src.ofSlice w R.und ⟨g, 0, none⟩ 0 cap [] (by simp) (fun j u h => by simp at h) (fun u h => by cases h)) hx
  · have h1 : 0 < l2.length := by cases l2; exact absurd rfl h0; simp
    obtain ⟨g, cap, rfl, _, _, _⟩ := hu.src h1
    refine app_plain R hgd s x ho B v l hs hv ⟨g, 0, none⟩ cap l2 hx hu.cells h1 hl hB (fun g' cap' w' h1 h2 h3 => h _ w' (by
      have e : l.length + l2.length = (l ++ l2).length := by simp
      exact h1) h2 (fun y hy => by
      simp [Value.ownBlock] at hy
      subst hy
      exact h3))
/-- what a reader of a map tells -/
def MrP (s : Bytes) (w : World) (e : Ending) (w' : World) : Prop := ∃ u, e = .returned (.tuple #[u, .bool (rdMapB s)]) ∧ Fr sgRow 4 129 w' w.heap.size u (rdMapL s) ∧ Below w.heap.size w w'
theorem MrP.no {s : Bytes} {w w' : World} (h : rdMap s = none) (hb : Below w.heap.size w w') : MrP s w (.returned (.tuple #[.slice none 0 0, .bool false])) w' :=
  ⟨_, by unfold rdMapB; rw [h]; rfl, .inl ⟨rfl, by unfold rdMapL; rw [h]; rfl⟩, hb⟩
set_option maxHeartbeats 4000000 in
theorem spMapRead_any (s : Bytes) (w : World) (hs0 : s.length ≤ 100000000) : Calls Tryz.prog 54 #[.string (bs s)] w (MrP s w) := by
  by_cases hs : s.length ≤ 20000
  rotate_left
  · have HN := Lib.hid (rdMap_long hs)
    have hd : decide ((20000 : Int) < ((s.length : Nat) : Int)) = true := by rw [decide_eq_true_eq]; omega
    clear hs
    go_enter Tryz.func54, Tryz.ntmps54
    go_wp2_with fail
    refine bodyPost_ret (v := .tuple #[.slice none 0 0, .bool false]) (by simp [results, Tryz.results54, go_sem, *]) rfl ?_
    exact MrP.no HN.out (by (repeat (first | with_reducible assumption | with_reducible exact Below.refl _ _ | with_reducible refine Below.setCell ?_ (by first | omega | (simp; done) | (simp; omega)) _ | with_reducible refine Below.alloc ?_ (by first | omega | (simp; done) | (simp; omega)) _ | with_reducible refine below_drewN ?_ _ | with_reducible refine Below.drew ?_)))
  have hd : decide ((20000 : Int) < ((s.length : Nat) : Int)) = false := by rw [decide_eq_false_iff_not]; omega
  have CU := Lib.hid (fun w' : World => spCut_text s 61 w' (by omega))
  have LL := Lib.hid (fun (row : Bytes) (line p q : Int) (w' : World) (h : row.length ≤ 20000) => spL9Line_any row line p q w' h)
  unfold LlP at LL
  have HPL := Lib.hid (And.intro (fun i => cutB_sumR 61 s i) (fun r h => cutB_mem_len (c := 61) s r h))
  have HNO := Lib.hid (fun h => rdMap_none (s := s) false h)
  have HOK := Lib.hid (fun out h1 h2 => rdMap_yes (s := s) (out := out) hs h1 h2)
  have HBD := Lib.hid (fun out h h2 => rdMap_no (s := s) (out := out) false h h2)
  have hro : rowsOf false s = (cutB 61 s).take 16 := rfl
  rw [hro] at HNO HBD
  have hcp := cutB_ne 61 s
  have hrl : (cutB 61 s).length ≤ 20001 := by
    rw [cutB_len]
    have := List.count_le_length (a := (61 : UInt8)) (l := s)
    omega
  clear hro
  generalize cutB 61 s = rows at *
  have hp0 : 0 < rows.length := by rcases rows with _ | _; exact absurd rfl hcp; simp
  clear hcp
  go_enter Tryz.func54, Tryz.ntmps54
  go_wp2_with fail
  generalize hW0 : World.alloc _ (.cells _ 68) = W0
  have hz0 : W0.heap.size = w.heap.size + 2 := by rw [← hW0]; simp
  have hb0 : Below w.heap.size w W0 := by rw [← hW0]; (repeat (first | with_reducible assumption | with_reducible exact Below.refl _ _ | with_reducible refine Below.setCell ?_ (by first | omega | (simp; done) | (simp; omega)) _ | with_reducible refine Below.alloc ?_ (by first | omega | (simp; done) | (simp; omega)) _ | with_reducible refine below_drewN ?_ _ | with_reducible refine Below.drew ?_))
  have hA0 : Blk W0 (w.heap.size + 1) 68 #[.int .i64 0, .int .i64 0] := by
    rw [← hW0]
    have h := Blk.new (w.alloc (.cells #[] 129)) 68 #[.int .i64 0, .int .i64 0]
    simpa using h
  have hG0 : Gt sgRow 4 129 w.heap.size W0 (.slice (some ⟨w.heap.size, 0, none⟩) 0 0) [] := by
    rw [← hW0]
    exact gt_empty sgRow 4 129 (B := w.heap.size) w _ (Nat.le_refl _) ((Below.refl _ _).alloc (by simp) _)
  clear hW0
  refine (CU.out _).mono ?_
  rintro r w1 ⟨u1, rfl, hG1, hb1⟩
  obtain ⟨gp, cpp, rfl, hlo1, hlt1, hcc1, hcm1, hcells⟩ := str_src hG1 hp0
  have HX := Lib.hid (And.intro hcells (And.intro hlo1 hlt1))
  have hA1 := hA0.below hb1 hA0.lt
  have hG2 := hG0.ext hb1
  have hbw1 := hb0.ext hb1
  have hz1 := hb1.size
  clear hA0 hG0 hb0 hcells hb1 hG1 CU
  go_wp2_with fail
  go_loopg [4, 7] rows.length (fun n o i wr => ∃ (j : Nat) (l0 : List Sg) (p q : Int), n = rows.length - j ∧ j ≤ rows.length ∧ j ≤ 16 ∧ i = .int .i64 (j : Int) ∧ Gt sgRow 4 129 w.heap.size wr o l0 ∧ (∀ x, o.ownBlock = some x → x = w.heap.size ∨ w1.heap.size ≤ x) ∧ l0.length ≤ sumR rows j ∧ Blk wr (w.heap.size + 1) 68 #[.int .i64 p, .int .i64 q] ∧ (∀ b, w.heap.size + 2 ≤ b → b < w1.heap.size → wr.heap[b]? = w1.heap[b]?) ∧ w1.heap.size ≤ wr.heap.size ∧ mapM 0 (0, 0) (rows.take 16) = (mapM (j : Int) (p, q) ((rows.take 16).drop j)).map (fun m => l0 ++ m) ∧ Below w.heap.size w wr)
  case atStart => exact ⟨0, [], 0, 0, by omega, by omega, by omega, rfl, hG2, fun x hx => by simp [Value.ownBlock] at hx; omega, by simp, hA1, fun _ _ _ => rfl, Nat.le_refl _, by rw [List.drop_zero]; show _ = (mapM 0 (0, 0) (rows.take 16)).map _; cases mapM 0 (0, 0) (rows.take 16) <;> rfl, hbw1⟩
  case round =>
    clear hA1 hG2 hbw1
    obtain ⟨j, l0, p, q, hn, hj, hj16, rfl, hG, hob, hl0, hA, hkb, hzw, hrow, hbl⟩ := hrel
    obtain ⟨Au, cu, rfl, _, _⟩ := hG.val
    have HK := Lib.hid (And.intro hn (And.intro hob (And.intro hkb (And.intro hrow hl0))))
    clear hn hob hkb hrow hl0
    have a0 := hA.cell 0
    have a1 := hA.cell 1
    simp at a0 a1
    have hzA := hA.lt
    by_cases hlt : j < rows.length ∧ j < 16
    · obtain ⟨hlt, hlt6⟩ := hlt
      have hg : rows[j]? = some rows[j] := List.getElem?_eq_getElem hlt
      have hcell : wr.cell? ⟨gp, j, none⟩ = some (.string (bs rows[j])) := by
        have h1 := HX.out.1 j _ hg
        rw [← h1]
        exact World.cell?_of_block (HK.out.2.2.1 gp (by omega) hlt1)
      have hlt2 : j < (rows.take 16).length := by rw [List.length_take]; omega
      have hdr := List.drop_eq_getElem_cons hlt2
      rw [List.getElem_take] at hdr
      have hpl := HPL.out.2 rows[j] (List.getElem_mem hlt)
      have hsum := sumR_succ hg
      have HD := Lib.hid (And.intro hG (And.intro hA (And.intro hbl (And.intro hdr hsum))))
      generalize rows[j] = t at *
      have C := Lib.hid (fun w' : World => LL.out t (j : Int) p q w' (by omega))
      have KEEP := Lib.hid (show ∀ w' : World, Below wr.heap.size wr w' → (w'.cell? ⟨gp, j, none⟩ = some (.string (bs t)) ∧ w'.cell? ⟨w.heap.size + 1, 0, none⟩ = some (.int .i64 p) ∧ w'.cell? ⟨w.heap.size + 1, 1, none⟩ = some (.int .i64 q)) from fun w' h => ⟨h.keepc hcell, h.keepc a0, h.keepc a1⟩)
      clear hG hA hbl hdr hg hpl hsum LL
      go_wp2_with fail
      go_cut [8, 9, 10] (fun s8 s9 s10 wx => ∃ (u : Value) (l : List Sg) (pp : Ps) (ok : Bool) (g : Nat), s8 = u ∧ s9 = .pointer (some ⟨g, 0, none⟩) ∧ s10 = .bool ok ∧ wr.heap.size ≤ g ∧ Blk wx g 68 (posC pp) ∧ Gt sgRow 4 129 wr.heap.size wx u l ∧ l.length ≤ t.length + 1 ∧ ((ok = true ∧ lineM (j : Int) (p, q) t = some (l, pp)) ∨ (ok = false ∧ l = [] ∧ lineM (j : Int) (p, q) t = none)) ∧ Below wr.heap.size wr wx)
      case first =>
        go_region_held3 (fun w' => w'.cell? ⟨gp, j, none⟩ = some (.string (bs t)) ∧ w'.cell? ⟨w.heap.size + 1, 0, none⟩ = some (.int .i64 p) ∧ w'.cell? ⟨w.heap.size + 1, 1, none⟩ = some (.int .i64 q))
          (first | exact KEEP.out _ (by (repeat (first | with_reducible assumption | with_reducible exact Below.refl _ _ | with_reducible refine Below.setCell ?_ (by first | omega | (simp; done) | (simp; omega)) _ | with_reducible refine Below.alloc ?_ (by first | omega | (simp; done) | (simp; omega)) _ | with_reducible refine below_drewN ?_ _ | with_reducible refine Below.drew ?_ | with_reducible refine Below.trans ?_ (Below.mono hb2 (by first | omega | (simp; done) | (simp; omega)))))) | exact KEEP.out _ (by (repeat (first | with_reducible assumption | with_reducible exact Below.refl _ _ | with_reducible refine Below.setCell ?_ (by first | omega | (simp; done) | (simp; omega)) _ | with_reducible refine Below.alloc ?_ (by first | omega | (simp; done) | (simp; omega)) _ | with_reducible refine below_drewN ?_ _ | with_reducible refine Below.drew ?_))) | go_keep)
          (first
            | (go_at_call 127; refine (C.out (wr.alloc (.cells #[.int .i64 0, .int .i64 0] 68))).mono ?_; rintro r w2 ⟨u2, l2, p2, ok2, rfl, hG2, hl2, hor2, hb2⟩; have hz2 := hb2.size; (try simp at hz2); have hBz := (Blk.new wr 68 #[.int .i64 0, .int .i64 0]).below hb2 (by simp; done); have zz0 := hBz.cell 0; have zz1 := hBz.cell 1; have zf := (fun i => hBz.frozen i); simp at zz0 zz1)
            | (go_at_call 127; refine (C.out ((wr.alloc (.cells #[.int .i64 0, .int .i64 0] 68)).drew)).mono ?_; rintro r w2 ⟨u2, l2, p2, ok2, rfl, hG2, hl2, hor2, hb2⟩; have hz2 := hb2.size; (try simp at hz2); have hBz := ((Blk.new wr 68 #[.int .i64 0, .int .i64 0]).drew).below hb2 (by simp; done); have zz0 := hBz.cell 0; have zz1 := hBz.cell 1; have zf := (fun i => hBz.frozen i); simp at zz0 zz1)
            | (go_at_call 127; refine (C.out (wr.drew.alloc (.cells #[.int .i64 0, .int .i64 0] 68))).mono ?_; rintro r w2 ⟨u2, l2, p2, ok2, rfl, hG2, hl2, hor2, hb2⟩; have hz2 := hb2.size; (try simp at hz2); have hBz := (Blk.new wr.drew 68 #[.int .i64 0, .int .i64 0]).below hb2 (by simp; done); have zz0 := hBz.cell 0; have zz1 := hBz.cell 1; have zf := (fun i => hBz.frozen i); simp at zz0 zz1)
            | (go_at_call 127; refine (C.out (_)).mono ?_; rintro r w2 ⟨u2, l2, p2, ok2, rfl, hG2, hl2, hor2, hb2⟩; have hz2 := hb2.size; (try simp at hz2))
            | fail)
        all_goals
          go_wp2_with fail
          go_meet
          first
            | exact ⟨u2, l2, p2, ok2, w2.heap.size, rfl, rfl, rfl, by omega, Blk.new _ _ _, hG2.ext (by (repeat (first | with_reducible assumption | with_reducible exact Below.refl _ _ | with_reducible refine Below.setCell ?_ (by first | omega | (simp; done) | (simp; omega)) _ | with_reducible refine Below.alloc ?_ (by first | omega | (simp; done) | (simp; omega)) _ | with_reducible refine below_drewN ?_ _ | with_reducible refine Below.drew ?_))), hl2, hor2, by (repeat (first | with_reducible assumption | with_reducible exact Below.refl _ _ | with_reducible refine Below.setCell ?_ (by first | omega | (simp; done) | (simp; omega)) _ | with_reducible refine Below.alloc ?_ (by first | omega | (simp; done) | (simp; omega)) _ | with_reducible refine below_drewN ?_ _ | with_reducible refine Below.drew ?_ | with_reducible refine Below.trans ?_ (Below.mono hb2 (by first | omega | (simp; done) | (simp; omega)))))⟩
            | (refine ⟨u2, l2, p2, ok2, wr.heap.size, rfl, rfl, rfl, by omega, by simpa using (hBz.set_ 0 (.int .i64 p2.1)).set_ 1 (.int .i64 p2.2), ((hG2.grown (r := some wr.heap.size) (grown_st (grown_st (grown_rfl _ _) _ _) _ _) ?_)).less (by simp), hl2, hor2, by (repeat (first | with_reducible assumption | with_reducible exact Below.refl _ _ | with_reducible refine Below.setCell ?_ (by first | omega | (simp; done) | (simp; omega)) _ | with_reducible refine Below.alloc ?_ (by first | omega | (simp; done) | (simp; omega)) _ | with_reducible refine below_drewN ?_ _ | with_reducible refine Below.drew ?_ | with_reducible refine Below.trans ?_ (Below.mono hb2 (by first | omega | (simp; done) | (simp; omega)))))⟩
               cases ho : u2.ownBlock with
               | none => exact .inl rfl
               | some x => refine .inr ?_; intro e; injection e with e; have := (hG2.lt ho).1; simp at this; omega)
      case rest =>
        obtain ⟨u, l, pp, ok, g, rfl, rfl, rfl, hgz, hBg, hGu, hlu, hor, hbc⟩ := hcut
        have hA := HD.out.2.1.below hbc HD.out.2.1.lt
        have hbw := HD.out.2.2.1.ext hbc
        have hGo := HD.out.1.ext hbc
        have hz2 := hbc.size
        cases ok
        · have HN := Lib.hid (show rdMap s = none by
            rcases hor with ⟨h, _⟩ | ⟨_, _, h⟩
            · cases h
            · refine HNO.out ?_
              rw [HK.out.2.2.2.1, HD.out.2.2.2.1, mapM_no h]
              rfl)
          clear hor hA hGo hGu hBg
          go_wp2_with fail
          refine bodyPost_ret (v := .tuple #[.slice none 0 0, .bool false]) (by simp [results, Tryz.results54, go_sem, *]) rfl ?_
          exact MrP.no HN.out hbw
        · obtain ⟨_, hlm⟩ : true = true ∧ lineM (j : Int) (p, q) t = some (l, pp) := by
            rcases hor with h | ⟨h, _⟩
            · exact h
            · cases h
          have HROW := Lib.hid (show mapM 0 (0, 0) (rows.take 16) = (mapM (((j + 1 : Nat)) : Int) pp ((rows.take 16).drop (j + 1))).map (fun m => (l0 ++ l) ++ m) by
            rw [HK.out.2.2.2.1, HD.out.2.2.2.1, mapM_yes hlm, Option.map_map, show ((j + 1 : Nat) : Int) = (j : Int) + 1 by omega]
            congr 1
            funext m
            simp)
          obtain ⟨p1, q1⟩ := pp
          have b0 := hBg.cell 0
          have b1 := hBg.cell 1
          have a0 := hA.cell 0
          have a1 := hA.cell 1
          simp at a0 a1 b0 b1
          have za := fun i => hA.frozen i
          have hzA := hA.lt
          have hzB := hBg.lt
          have hl0b : l0.length + l.length ≤ 30000 := by
            have h1 := HPL.out.1 (j + 1)
            have h2 := HK.out.2.2.2.2
            have h3 := HD.out.2.2.2.2
            omega
          have hown : ∀ x, (Value.slice Au l0.length cu).ownBlock = some x → x = w.heap.size ∨ w1.heap.size ≤ x := HK.out.2.1
          obtain ⟨Ax, cx, rfl, _, _⟩ := hGu.val
          have hne1 : ∀ x, (Value.slice Au l0.length cu).ownBlock = some x → g ≠ x := fun x hx => by have := (HD.out.1.lt hx).2; omega
          have hne2 : ∀ x, (Value.slice Au l0.length cu).ownBlock = some x → w.heap.size + 1 ≠ x := fun x hx => by have := hown x hx; omega
          have HY := Lib.hid (And.intro hA (And.intro hbw (And.intro hGo (And.intro hGu (And.intro hBg (And.intro hne1 hne2))))))
          have hzwc := hbw.size
          clear hA hbw hGo hor hGu hBg hne1 hne2 a0 a1 b0 b1 za
          go_wp2_with (first | (at_builtin; refine app_gt2 rtSg (by rfl) (.tmp 41) (.tmp 42) (by rfl) w.heap.size (.slice Au l0.length cu) l0 (by rfl) HY.out.2.2.1 wr.heap.size (.slice Ax l.length cx) l (by rfl) HY.out.2.2.2.1 (by omega) (by omega) ?_; intro u' w4 hG4 hgr4 hat4; have hB4 := blk_app HY.out.2.2.2.2.1 hgr4 HY.out.2.2.2.2.2.1; have hA4 := blk_app HY.out.1 hgr4 HY.out.2.2.2.2.2.2; have b0 := hB4.cell 0; have b1 := hB4.cell 1; have a0 := hA4.cell 0; have a1 := hA4.cell 1; simp at a0 a1 b0 b1; have za := (fun i => hA4.frozen i)) | fail)
          have hz4 := hgr4.size
          have hg5 : w4.grownBy ((w4.setCell ⟨w.heap.size + 1, 0, none⟩ (.int .i64 p1)).setCell ⟨w.heap.size + 1, 1, none⟩ (.int .i64 q1)) (some (w.heap.size + 1)) := grown_st (grown_st (grown_rfl _ _) _ _) _ _
          go_roundg (rows.length - (j + 1))
          case measure => have := HK.out.1; omega
          case rel =>
            refine ⟨j + 1, l0 ++ l, p1, q1, rfl, by omega, by omega, by go_num, hG4.grown hg5 ?_, ?_, ?_, ?_, ?_, by simp; omega, HROW.out, ?_⟩
            · cases ho : u'.ownBlock with
              | none => exact .inl rfl
              | some x =>
                refine .inr ?_
                intro e
                injection e with e
                rcases hat4 x ho with h | h
                · exact HY.out.2.2.2.2.2.2 x h e.symm
                · omega
            · intro x hx
              rcases hat4 x hx with h | h
              · exact hown x h
              · right; omega
            · have h2 := HK.out.2.2.2.2
              have h3 := HD.out.2.2.2.2
              rw [List.length_append]
              omega
            · have h := (hA4.set_ 0 (.int .i64 p1)).set_ 1 (.int .i64 q1)
              simpa using h
            · intro x h1 h2
              rw [hg5.block x (by omega) (by intro e; injection e; omega), hgr4.block x (by omega) (by
                intro e
                have h5 := hown x e.symm
                omega), hbc.block x (by omega)]
              exact HK.out.2.2.1 x h1 h2
            · exact ((below_app HY.out.2.1 hgr4 (fun x hx => by have := hown x hx; omega) hzwc).setCell (by simp) _).setCell (by simp) _
    · have HMAP := Lib.hid (show mapM 0 (0, 0) (rows.take 16) = some l0 by
        rw [HK.out.2.2.2.1, List.drop_eq_nil_of_le (by rw [List.length_take]; omega), mapM]
        simp)
      have SO := Lib.hid (fun (w' : World) (h : Below wr.heap.size wr w') => spSegsOk_any w' (.slice Au l0.length cu) l0 ((hG.sl (fun _ => rfl)).ext h))
      have TX := Lib.hid (fun (w' : World) (h : Below wr.heap.size wr w') => spText_any (.slice Au l0.length cu) l0 w' ((hG.sl (fun _ => rfl)).ext h))
      have HF := Lib.hid (fun (w' : World) (h : Below wr.heap.size wr w') => show Fr sgRow 4 129 w' w.heap.size (.slice Au l0.length cu) l0 from Fr.of_owns (fun _ => rfl) (hG.ext h))
      have hdj : rows.length ≤ j ∨ (j < rows.length ∧ 16 ≤ j) := by omega
      clear hG hA a0 a1 hlt
      rcases hdj with hd1 | ⟨hd1, hd2⟩
      all_goals
        (try have hd3 : decide ((j : Int) < ((rows.length : Nat) : Int)) = false := by rw [decide_eq_false_iff_not]; omega)
        (try have hd4 : decide ((j : Int) < 16) = false := by rw [decide_eq_false_iff_not]; omega)
        go_wp2_with fail
        refine (SO.out wr (Below.refl _ _)).mono ?_
        rintro r w2 ⟨rfl, hb2⟩
        have hbw2 := hbl.ext hb2
        have TX2 := Lib.hid (TX.out w2 hb2)
        by_cases hok : SegsOk l0
        · rw [segsOkB_yes hok]
          rw [mapTextL_yes hok] at TX2
          by_cases heq : textL l0 = s
          · have HYES := Lib.hid (HOK.out l0 hok heq)
            have hbq : (textL l0 == s) = true := by simpa using heq
            clear hok heq
            generalize textL l0 = tx at *
            go_wp2_with fail
            refine TX2.out.mono ?_
            rintro r w3 ⟨rfl, hb3⟩
            go_wp2_with fail
            refine bodyPost_ret (v := .tuple #[.slice Au l0.length cu, .bool true]) (by simp [results, Tryz.results54, go_sem, *]) rfl ?_
            exact ⟨_, by unfold rdMapB; rw [HYES.out]; rfl, by unfold rdMapL; rw [HYES.out]; exact HF.out w3 (hb2.ext hb3), hbw2.ext hb3⟩
          · have HN := Lib.hid (HBD.out l0 HMAP.out (fun h => heq h.2))
            have hbq : (textL l0 == s) = false := by simpa using heq
            clear hok heq
            generalize textL l0 = tx at *
            go_wp2_with fail
            refine TX2.out.mono ?_
            rintro r w3 ⟨rfl, hb3⟩
            go_wp2_with fail
            refine bodyPost_ret (v := .tuple #[.slice none 0 0, .bool false]) (by simp [results, Tryz.results54, go_sem, *]) rfl ?_
            exact MrP.no HN.out (hbw2.ext hb3)
        · rw [segsOkB_no hok]
          have HN := Lib.hid (HBD.out l0 HMAP.out (fun h => hok h.1))
          clear hok
          go_wp2_with fail
          refine bodyPost_ret (v := .tuple #[.slice none 0 0, .bool false]) (by simp [results, Tryz.results54, go_sem, *]) rfl ?_
          exact MrP.no HN.out hbw2
end Go.Proofs.YtgfbjpmbaibnoaaGreatDoor
