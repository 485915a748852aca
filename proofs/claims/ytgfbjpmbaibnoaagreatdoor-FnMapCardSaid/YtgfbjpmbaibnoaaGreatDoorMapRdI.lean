
/- A map is read from its text: the program's walk. -/
import Derived.Test.YtgfbjpmbaibnoaaGreatDoorMapRdS
import Derived.Test.YtgfbjpmbaibnoaaGreatDoorTexti
import Derived.Deep.CutBlock
namespace Go.Proofs.YtgfbjpmbaibnoaaGreatDoor
set_option maxRecDepth 100000
set_option linter.unusedSimpArgs false
set_option linter.unusedVariables false
open Go.RowKit
attribute [local go_sem] bs_toList bs_get bs_size

/-- a fresh row of texts that is not empty, as it lies -/
theorem str_srcF {B : Nat} {w : World} {u : Value} {m : List Bytes} (h : Fr strRow 1 9 w B u m) (h0 : 0 < m.length) : ∃ g cap, u = .slice (some ⟨g, 0, none⟩) m.length cap ∧ B ≤ g ∧ g < w.heap.size ∧ m.length ≤ cap ∧ cap ≤ 9223372036854775807 ∧ ∀ (j : Nat) (x : Bytes), m[j]? = some x → w.cell? ⟨g, j, none⟩ = some (.string (bs x)) := by
  rcases h.form with ⟨_, h1⟩ | ⟨g, cap, cur, rfl, hlo, hc, hm, hB, hx⟩
  · subst h1; simp at h0
  · refine ⟨g, cap, rfl, hlo, hB.lt, hc, hm, fun j x hj => ?_⟩
    have h9 := hx j x hj 0 _ rfl
    rw [Nat.mul_one, Nat.add_zero] at h9
    rw [hB.cell]
    exact h9
abbrev GtSg := Gt sgRow 4 129
set_option maxHeartbeats 4000000 in
theorem imMapRead_any (s : Bytes) (w : World) (hs0 : s.length ≤ 100000000) (hM : MaxM w) : Calls Tryz.prog 49 #[.string (bs s)] w (MrP s w) := by
  by_cases hs : s.length ≤ 20000
  rotate_left
  · have HN := Lib.hid (rdMap_long hs)
    have hd : decide ((20000 : Int) < ((s.length : Nat) : Int)) = true := by rw [decide_eq_true_eq]; omega
    clear hs hM
    go_enter Tryz.func49, Tryz.ntmps49
    go_wp2_with fail
    refine bodyPost_ret (v := .tuple #[.slice none 0 0, .bool false]) (by simp [results, Tryz.results49, go_sem, *]) rfl ?_
    exact MrP.no HN.out (Below.refl _ _)
  have hd : decide ((20000 : Int) < ((s.length : Nat) : Int)) = false := by rw [decide_eq_false_iff_not]; omega
  have CU := Lib.hid (fun (w' : World) (h : Below w.heap.size w w') => imSplit_any s 61 w' (by omega) (hM.ext h))
  have CV := Lib.hid (fun (t : Bytes) (w' : World) (ht : t.length ≤ 20000) (h : Below w.heap.size w w') => imSplit_any t 44 w' (by omega) (hM.ext h))
  have NS := Lib.hid (fun (t : Bytes) (w' : World) (h : t.length ≤ 20000) => imNumsRead_any t w' (by omega))
  unfold NsP at NS
  have HPL := Lib.hid (And.intro (fun i => cutB_sumR 61 s i) (fun r h => cutB_mem_len (c := 61) s r h))
  have HNO := Lib.hid (fun h => rdMap_none (s := s) true h)
  have HOK := Lib.hid (fun out h1 h2 => rdMap_yes (s := s) (out := out) hs h1 h2)
  have HBD := Lib.hid (fun out h h2 => rdMap_no (s := s) (out := out) true h h2)
  have hro : rowsOf true s = cutB 61 s := rfl
  rw [hro] at HNO HBD
  have hcp := cutB_ne 61 s
  have hrl : (cutB 61 s).length ≤ 20001 := by
    rw [cutB_len]
    have := List.count_le_length (a := (61 : UInt8)) (l := s)
    omega
  clear hro hM
  generalize cutB 61 s = rows at *
  have hp0 : 0 < rows.length := by rcases rows with _ | _; exact absurd rfl hcp; simp
  clear hcp
  go_enter Tryz.func49, Tryz.ntmps49
  go_wp2_with fail
  generalize hW0 : World.alloc _ (.cells _ 68) = W0
  have hz0 : W0.heap.size = w.heap.size + 1 := by rw [← hW0]; simp
  have hb0 : Below w.heap.size w W0 := by rw [← hW0]; (repeat (first | with_reducible assumption | with_reducible exact Below.refl _ _ | with_reducible refine Below.setCell ?_ (by first | omega | (simp; done) | (simp; omega)) _ | with_reducible refine Below.alloc ?_ (by first | omega | (simp; done) | (simp; omega)) _ | with_reducible refine below_drewN ?_ _ | with_reducible refine Below.drew ?_))
  have hA0 : Blk W0 w.heap.size 68 #[.int .i64 0, .int .i64 0] := by rw [← hW0]; exact Blk.new _ _ _
  clear hW0
  refine (CU.out _ hb0).mono ?_
  rintro r w1 ⟨u1, rfl, hG1, hb1⟩
  obtain ⟨gp, cpp, rfl, hlo1, hlt1, hcc1, hcm1, hcells⟩ := str_srcF hG1 hp0
  have HX := Lib.hid (And.intro hcells (And.intro hlo1 hlt1))
  have hA1 := hA0.below hb1 hA0.lt
  have hbw1 := hb0.ext hb1
  have hz1 := hb1.size
  clear hA0 hb0 hcells hb1 hG1 CU
  go_wp2_with fail
  go_loopg [4, 20] rows.length (fun n o i wr => ∃ (j : Nat) (l0 : List Sg) (p q : Int), n = rows.length - j ∧ j ≤ rows.length ∧ i = .int .i64 (j : Int) ∧ GtSg w.heap.size wr o l0 ∧ (∀ x, o.ownBlock = some x → w1.heap.size ≤ x) ∧ l0.length ≤ sumR rows j ∧ Blk wr w.heap.size 68 #[.int .i64 p, .int .i64 q] ∧ (∀ b, w.heap.size + 1 ≤ b → b < w1.heap.size → wr.heap[b]? = w1.heap[b]?) ∧ w1.heap.size ≤ wr.heap.size ∧ mapM 0 (0, 0) rows = (mapM (j : Int) (p, q) (rows.drop j)).map (fun m => l0 ++ m) ∧ Below w.heap.size w wr)
  case atStart => exact ⟨0, [], 0, 0, by omega, by omega, rfl, Gt.nil _ _ _ _ _, fun x hx => by simp [Value.ownBlock] at hx, by simp, hA1, fun _ _ _ => rfl, Nat.le_refl _, by rw [List.drop_zero]; show _ = (mapM 0 (0, 0) rows).map _; cases mapM 0 (0, 0) rows <;> rfl, hbw1⟩
  case round =>
    clear hA1 hbw1
    obtain ⟨j, l0, p, q, hn, hj, rfl, hG, hob, hl0, hA, hkb, hzw, hrow, hbl⟩ := hrel
    obtain ⟨Au, cu, rfl, _, _⟩ := hG.val
    have HK := Lib.hid (And.intro hn (And.intro hob (And.intro hkb (And.intro hrow hl0))))
    clear hn hob hkb hrow hl0
    by_cases hlt : j < rows.length
    · generalize wr = wo at *
      have hdj : decide ((j : Int) < ((rows.length : Nat) : Int)) = true := by rw [decide_eq_true_eq]; omega
      have hg : rows[j]? = some rows[j] := List.getElem?_eq_getElem hlt
      have hcell : wo.cell? ⟨gp, j, none⟩ = some (.string (bs rows[j])) := by
        have h1 := HX.out.1 j _ hg
        rw [← h1]
        exact World.cell?_of_block (HK.out.2.2.1 gp (by omega) hlt1)
      have hdr := List.drop_eq_getElem_cons hlt
      have hpl := HPL.out.2 rows[j] (List.getElem_mem hlt)
      have hsum := sumR_succ hg
      generalize rows[j] = t at *
      have HD := Lib.hid (And.intro hG (And.intro hA (And.intro hbl (And.intro hdr hsum))))
      have C := Lib.hid (fun (w' : World) (h : Below w.heap.size w w') => CV.out t w' (by omega) h)
      have HRW := Lib.hid (show ∀ r, (t = [] → lineM (j : Int) (p, q) t = some ([], (p, q))) ∧ (t ≠ [] → rowM (j : Int) 0 (p, q) (cutB 44 t) = r → lineM (j : Int) (p, q) t = r) from fun r => ⟨fun h => by unfold lineM; rw [if_pos h], fun h h2 => by unfold lineM; rw [if_neg h]; exact h2⟩)
      have HTL := Lib.hid (show (cutB 44 t).length ≤ t.length + 1 by rw [cutB_len]; have := List.count_le_length (a := (44 : UInt8)) (l := t); omega)
      have HTM := Lib.hid (fun r h => cutB_mem_len (c := 44) t r h)
      have hcp := cutB_ne 44 t
      generalize cutB 44 t = parts at *
      have hpp0 : 0 < parts.length := by rcases parts with _ | _; exact absurd rfl hcp; simp
      clear hG hA hdr hg hpl hsum hcp
      go_upto_block 1 with fail
      go_cut [4, 8] (fun o col wx => ∃ (l1 : List Sg) (p' q' : Int), GtSg w.heap.size wx o (l0 ++ l1) ∧ (∀ x, o.ownBlock = some x → w1.heap.size ≤ x) ∧ l1.length ≤ t.length + 1 ∧ Blk wx w.heap.size 68 #[.int .i64 p', .int .i64 q'] ∧ (∀ b, w.heap.size + 1 ≤ b → b < w1.heap.size → wx.heap[b]? = w1.heap[b]?) ∧ w1.heap.size ≤ wx.heap.size ∧ lineM (j : Int) (p, q) t = some (l1, (p', q')) ∧ Below w.heap.size w wx)
      case first =>
        go_upto_block 2 with (first | (go_at_call 119; refine (C.out _ hbl).mono ?_; rintro r w2 ⟨u2, rfl, hF2, hb2⟩; obtain ⟨g2, c2, rfl, hlo2, hlt2, hcc2, hcm2, hcells2⟩ := str_srcF hF2 hpp0) | fail)
        have hA2 := HD.out.2.1.below hb2 HD.out.2.1.lt
        have hbw2 := HD.out.2.2.1.ext hb2
        have hG2 := HD.out.1.ext hb2
        have hz2 := hb2.size
        have hzA := hA2.lt
        have HX2 := Lib.hid (And.intro hcells2 (And.intro hlo2 (And.intro hlt2 (And.intro hb2 (And.intro hG2 (And.intro hA2 (And.intro hbw2 (fun x hx => (HD.out.1.lt (b := x) hx).2))))))))
        clear hcells2 hb2 hF2 hG2 hA2 hbw2 C CV
        go_wp2_with fail
        have hlt2' := HX2.out.2.2.1
        go_loopg [4, 8, 28] parts.length (fun n o a i wi => ∃ (k : Nat) (l1 : List Sg) (col p' q' : Int), n = parts.length - k ∧ k ≤ parts.length ∧ a = .int .i64 col ∧ i = .int .i64 (k : Int) ∧ GtSg w.heap.size wi o (l0 ++ l1) ∧ (∀ x, o.ownBlock = some x → w1.heap.size ≤ x ∧ (x < wo.heap.size ∨ w2.heap.size ≤ x)) ∧ l1.length ≤ k ∧ Blk wi w.heap.size 68 #[.int .i64 p', .int .i64 q'] ∧ (∀ b, w.heap.size + 1 ≤ b → b < w1.heap.size → wi.heap[b]? = w1.heap[b]?) ∧ (∀ b, wo.heap.size ≤ b → b < w2.heap.size → wi.heap[b]? = w2.heap[b]?) ∧ w2.heap.size ≤ wi.heap.size ∧ ((t = [] ∧ k = 0 ∧ l1 = [] ∧ p' = p ∧ q' = q) ∨ (t ≠ [] ∧ rowM (j : Int) 0 (p, q) parts = (rowM (j : Int) col (p', q') (parts.drop k)).map (fun r => (l1 ++ r.1, r.2)))) ∧ Below w.heap.size w wi)
        case atStart =>
          refine ⟨0, [], 0, p, q, by omega, by omega, rfl, rfl, by rw [List.append_nil]; exact HX2.out.2.2.2.2.1, fun x hx => ⟨HK.out.2.1 x hx, .inl (HX2.out.2.2.2.2.2.2.2 x hx)⟩, by simp, HX2.out.2.2.2.2.2.1, fun b h1 h2 => (HX2.out.2.2.2.1.block b (by omega)).trans (HK.out.2.2.1 b h1 h2), fun _ _ _ => rfl, Nat.le_refl _, ?_, HX2.out.2.2.2.2.2.2.1⟩
          by_cases ht : t = []
          · exact .inl ⟨ht, rfl, rfl, rfl, rfl⟩
          · exact .inr ⟨ht, by rw [List.drop_zero]; cases rowM (j : Int) 0 (p, q) parts <;> rfl⟩
        case round =>
          obtain ⟨k, l1, col, p', q', hn2, hk, rfl, rfl, hGi, hobi, hl1, hAi, hk1, hk2, hzi, hrel2, hbli⟩ := hrel
          obtain ⟨ll, hll⟩ : ∃ ll, ll = l0 ++ l1 := ⟨_, rfl⟩
          have hllen : ll.length = l0.length + l1.length := by rw [hll, List.length_append]
          rw [← hll] at hGi
          have HLL := Lib.hid (And.intro hll hllen)
          clear hll hllen
          obtain ⟨Av, cv, rfl, _, _⟩ := hGi.val
          have HK2 := Lib.hid (And.intro hn2 (And.intro hobi (And.intro hk1 (And.intro hk2 hrel2))))
          clear hn2 hobi hk1 hk2 hrel2
          have hl01 : l0.length ≤ 25000 ∧ t.length ≤ 20000 := by
            have h1 := HPL.out.1 j
            have h2 := HK.out.2.2.2.2
            have h3 := HPL.out.1 (j + 1)
            have h4 := HD.out.2.2.2.2
            omega
          have htlb := HTL.out
          by_cases hlt2 : k < parts.length
          · have hg2 : parts[k]? = some parts[k] := List.getElem?_eq_getElem hlt2
            have hcell2 : wr.cell? ⟨g2, k, none⟩ = some (.string (bs parts[k])) := by
              have h1 := HX2.out.1 k _ hg2
              rw [← h1]
              exact World.cell?_of_block (HK2.out.2.2.2.1 g2 HX2.out.2.1 hlt2')
            have hdr2 := List.drop_eq_getElem_cons hlt2
            have hpl2 := HTM.out parts[k] (List.getElem_mem hlt2)
            have C3 := Lib.hid (NS.out parts[k] wr (by omega))
            have HD2 := Lib.hid (And.intro hGi (And.intro hAi (And.intro hbli hdr2)))
            generalize parts[k] = x at *
            clear hGi hAi hbli hdr2 hg2 hpl2
            by_cases ht : t = []
            · have hte : (t == ([] : Bytes)) = true := by simpa using ht
              have HT0 := Lib.hid (show l1 = [] ∧ lineM (j : Int) (p, q) t = some (l1, (p', q')) by
                rcases HK2.out.2.2.2.2 with ⟨_, _, h1, h2, h3⟩ | ⟨h, _⟩
                · subst h1 h2 h3
                  exact ⟨rfl, (HRW.out none).1 ht⟩
                · exact absurd ht h)
              clear ht
              go_wp2_with fail
              refine C3.out.mono ?_
              rintro r w3 ⟨u3, l3, ok, rfl, hF3, hor, hb3⟩
              have HY := Lib.hid hb3
              clear hF3 hor
              go_wp2_with fail
              go_meet
              exact ⟨l1, p', q', by rw [← HLL.out.1]; exact HD2.out.1.ext HY.out, fun y hy => (HK2.out.2.1 y hy).1, by rw [HT0.out.1]; simp, HD2.out.2.1.below HY.out HD2.out.2.1.lt, fun b h1 h2 => (HY.out.block b (by omega)).trans (HK2.out.2.2.1 b h1 h2), by have := HY.out.size; omega, HT0.out.2, HD2.out.2.2.1.ext HY.out⟩
            · have hte : (t == ([] : Bytes)) = false := by simpa using ht
              have HRL := Lib.hid (show rowM (j : Int) 0 (p, q) parts = (rowM (j : Int) col (p', q') (parts.drop k)).map (fun r => (l1 ++ r.1, r.2)) by
                rcases HK2.out.2.2.2.2 with ⟨h, _⟩ | ⟨_, h⟩
                · exact absurd h ht
                · exact h)
              have HRW2 := Lib.hid (fun r h => (HRW.out r).2 ht h)
              have HTN := Lib.hid ht
              clear ht
              go_wp2_with fail
              refine C3.out.mono ?_
              rintro r w3 ⟨u3, l3, ok, rfl, hF3, hor, hb3⟩
              have hA := HD2.out.2.1.below hb3 HD2.out.2.1.lt
              have hbw3 := HD2.out.2.2.1.ext hb3
              have a0 := hA.cell 0
              have a1 := hA.cell 1
              simp at a0 a1
              have za := fun i => hA.frozen i
              have hzA := hA.lt
              by_cases h3 : ∃ a b c, rdNs x = some [a, b, c]
              · obtain ⟨a, b, c, hrd3⟩ := h3
                obtain ⟨rfl, rfl⟩ : ok = true ∧ l3 = [a, b, c] := by
                  rcases hor with ⟨h1, h2⟩ | ⟨_, _, h2⟩
                  · rw [hrd3] at h2; exact ⟨h1, (Option.some.inj h2).symm⟩
                  · rw [hrd3] at h2; cases h2
                obtain ⟨g3, cap3, rfl, hlo3, hlt3, hcc3, hcm3, n0, n1, n2⟩ := three_cells hF3
                have HROW := Lib.hid (show rowM (j : Int) 0 (p, q) parts = (rowM (j : Int) (wr64 (col + a)) (wr64 (p' + b), wr64 (q' + c)) (parts.drop (k + 1))).map (fun r => ((l1 ++ [(((j : Int), wr64 (col + a)), (wr64 (p' + b), wr64 (q' + c)))]) ++ r.1, r.2)) by
                  rw [HRL.out, HD2.out.2.2.2, rowM_yes hrd3, Option.map_map]
                  congr 1
                  funext r
                  simp)
                have HY := Lib.hid (And.intro hA (And.intro hbw3 (And.intro hb3 hlo3)))
                clear hF3 hor hrd3 hA hbw3
                go_wp2_with fail
                go_region
                generalize hW3 : World.drew (World.setCell _ _ _) = W3
                have hg3 : w3.grownBy W3 (some w.heap.size) := by rw [← hW3]; exact grown_dr (grown_st (grown_st (grown_rfl _ _) _ _) _ _)
                have hA3 : Blk W3 w.heap.size 68 #[.int .i64 (wr64 (p' + b)), .int .i64 (wr64 (q' + c))] := by
                  rw [← hW3]
                  have h := ((HY.out.1.set_ 0 (.int .i64 (wr64 (p' + b)))).set_ 1 (.int .i64 (wr64 (q' + c)))).drew
                  simpa using h
                have hz3 := hg3.size
                have hz3' := hb3.size
                have hbw3 : Below w.heap.size w W3 := by rw [← hW3]; exact ((HY.out.2.1.setCell (Nat.le_refl _) _).setCell (Nat.le_refl _) _).drew
                have hown : ∀ y, (Value.slice Av ll.length cv).ownBlock = some y → w1.heap.size ≤ y ∧ (y < wo.heap.size ∨ w2.heap.size ≤ y) := HK2.out.2.1
                have hG3 : GtSg w.heap.size W3 (.slice Av ll.length cv) ll := (HD2.out.1.ext hb3).grown hg3 (by
                  cases ho : (Value.slice Av ll.length cv).ownBlock with
                  | none => exact .inl rfl
                  | some y => refine .inr ?_; intro e; have := hown y ho; injection e; omega)
                have a0 := hA3.cell 0
                have a1 := hA3.cell 1
                simp at a0 a1
                have HG3 := Lib.hid (And.intro hG3 (And.intro hA3 (And.intro hbw3 hg3)))
                have hlen : ll.length ≤ 50000 := by have := HLL.out.2; omega
                clear hG3 hA3 hbw3 hg3 hW3 n0 n1 n2 za
                go_wp2_with (first | (at_builtin; refine app_plain rtSg (by rfl) (.tmp 64) (.tmp 70) (by rfl) w.heap.size (.slice Av ll.length cv) ll (by rfl) (HG3.out.1.ext (by (repeat (first | with_reducible assumption | with_reducible exact Below.refl _ _ | with_reducible refine Below.setCell ?_ (by first | omega | (simp; done) | (simp; omega)) _ | with_reducible refine Below.alloc ?_ (by first | omega | (simp; done) | (simp; omega)) _ | with_reducible refine below_drewN ?_ _ | with_reducible refine Below.drew ?_)))) ⟨W3.heap.size, 0, none⟩ 1 [(((j : Int), wr64 (col + a)), (wr64 (p' + b), wr64 (q' + c)))] (by rfl) (World.news_of_block (heap_alloc_new W3 _)) Nat.zero_lt_one (by simp; omega) (by simp; omega) ?_; intro g' cap' w4 hG4 hgr4 hat4) | fail)
                have hz4 := hgr4.size
                rw [World.size_alloc] at hz4
                go_roundg (parts.length - (k + 1))
                case measure => have := HK2.out.1; omega
                case rel =>
                  refine ⟨k + 1, l1 ++ [(((j : Int), wr64 (col + a)), (wr64 (p' + b), wr64 (q' + c)))], wr64 (col + a), wr64 (p' + b), wr64 (q' + c), rfl, by omega, rfl, by go_num, ?_, ?_, by simp; omega, ?_, ?_, ?_, by omega, .inr ⟨HTN.out, HROW.out⟩, ?_⟩
                  · have h := hG4.len (n' := ll.length + 1) (by simp) rfl
                    rw [← List.append_assoc, ← HLL.out.1]
                    exact h
                  · intro y hy
                    simp [Value.ownBlock] at hy
                    subst hy
                    rcases hat4 with h | h
                    · exact hown _ h
                    · rw [h, World.size_alloc]; exact ⟨by omega, .inr (by omega)⟩
                  · exact blk_app (HG3.out.2.1.alloc _) hgr4 (fun y hy => by have := hown y hy; omega)
                  · intro y h1 h2
                    rw [hgr4.block y (by rw [World.size_alloc]; omega) (by
                      intro e
                      have h5 := hown y e.symm
                      omega), Below.heap_alloc W3 _ y (by omega), HG3.out.2.2.2.block y (by omega) (by intro e; injection e; omega), hb3.block y (by omega)]
                    exact HK2.out.2.2.1 y h1 h2
                  · intro y h1 h2
                    rw [hgr4.block y (by rw [World.size_alloc]; omega) (by
                      intro e
                      have h5 := hown y e.symm
                      omega), Below.heap_alloc W3 _ y (by omega), HG3.out.2.2.2.block y (by omega) (by intro e; injection e; omega), hb3.block y (by omega)]
                    exact HK2.out.2.2.2.1 y h1 h2
                  · exact below_app (by (repeat (first | with_reducible assumption | with_reducible exact Below.refl _ _ | with_reducible refine Below.setCell ?_ (by first | omega | (simp; done) | (simp; omega)) _ | with_reducible refine Below.alloc ?_ (by first | omega | (simp; done) | (simp; omega)) _ | with_reducible refine below_drewN ?_ _ | with_reducible refine Below.drew ?_ | with_reducible refine Below.trans ?_ (Below.mono HG3.out.2.2.1 (by first | omega | (simp; done) | (simp; omega)))))) hgr4 (fun y hy => by have := hown y hy; omega) (by rw [World.size_alloc]; omega)
              · have HN := Lib.hid (show rdMap s = none by
                  refine HNO.out ?_
                  rw [HK.out.2.2.2.1, HD.out.2.2.2.1, mapM_no (HRW2.out none (by
                    rw [HRL.out, HD2.out.2.2.2, rowM_no (fun a b c h => h3 ⟨a, b, c, h⟩)]
                    rfl))]
                  rfl)
                have hl3 : ok = true → ¬ l3.length = 3 := by
                  intro h1 h2
                  rcases hor with ⟨_, h4⟩ | ⟨h4, _⟩
                  · match l3, h2 with
                    | [a, b, c], _ => exact h3 ⟨a, b, c, h4⟩
                  · rw [h1] at h4; cases h4
                obtain ⟨A3, c3, rfl, _, _⟩ := hF3.sl.val
                generalize l3.length = m3 at *
                clear hF3 hor h3
                cases ok
                · clear hl3
                  go_wp2_with fail
                  refine bodyPost_ret (v := .tuple #[.slice none 0 0, .bool false]) (by simp [results, Tryz.results49, go_sem, *]) rfl ?_
                  exact MrP.no HN.out hbw3
                · have hl3 := hl3 rfl
                  have hl4 : ((m3 : Int) == 3) = false := by rw [beq_eq_false_iff_ne]; omega
                  go_wp2_with fail
                  refine bodyPost_ret (v := .tuple #[.slice none 0 0, .bool false]) (by simp [results, Tryz.results49, go_sem, *]) rfl ?_
                  exact MrP.no HN.out hbw3
          · have hge2 : parts.length ≤ k := by omega
            have HEX := Lib.hid (show lineM (j : Int) (p, q) t = some (l1, (p', q')) by
              rcases HK2.out.2.2.2.2 with ⟨_, h, _⟩ | ⟨h, h2⟩
              · omega
              · refine (HRW.out _).2 h ?_
                rw [h2, List.drop_eq_nil_of_le hge2, rowM]
                simp)
            have HD2 := Lib.hid (And.intro hGi (And.intro hAi hbli))
            clear hGi hAi hbli hlt2
            go_wp2_with fail
            go_meet
            exact ⟨l1, p', q', by rw [← HLL.out.1]; exact HD2.out.1, fun y hy => (HK2.out.2.1 y hy).1, by omega, HD2.out.2.1, HK2.out.2.2.1, by omega, HEX.out, HD2.out.2.2⟩
      case rest =>
        obtain ⟨l1, p', q', hGc, hoc, hlc, hAc, hkc, hzc, hlm, hbc⟩ := hcut
        have HROW := Lib.hid (show mapM 0 (0, 0) rows = (mapM (((j + 1 : Nat)) : Int) (p', q') (rows.drop (j + 1))).map (fun m => (l0 ++ l1) ++ m) by
          rw [HK.out.2.2.2.1, HD.out.2.2.2.1, mapM_yes hlm, Option.map_map, show ((j + 1 : Nat) : Int) = (j : Int) + 1 by omega]
          congr 1
          funext m
          simp)
        go_wp2_with fail
        go_roundg (rows.length - (j + 1))
        case measure => have := HK.out.1; omega
        case rel => exact ⟨j + 1, l0 ++ l1, p', q', rfl, by omega, by go_num, hGc, hoc, by have := HK.out.2.2.2.2; have := HD.out.2.2.2.2; rw [List.length_append]; omega, hAc, hkc, hzc, HROW.out, hbc⟩
    · have HMAP := Lib.hid (show mapM 0 (0, 0) rows = some l0 by
        rw [HK.out.2.2.2.1, List.drop_eq_nil_of_le (by omega), mapM]
        simp)
      have hge : rows.length ≤ j := by omega
      have SO := Lib.hid (imSegsOk_any wr (.slice Au l0.length cu) l0 (hG.sl (fun _ => rfl)))
      have TX := Lib.hid (fun (w' : World) (h : Below wr.heap.size wr w') (hok : SegsOk l0) => imText_yes (.slice Au l0.length cu) l0 w' ((hG.sl (fun _ => rfl)).ext h) hok)
      have HF := Lib.hid (fun (w' : World) (h : Below wr.heap.size wr w') => show Fr sgRow 4 129 w' w.heap.size (.slice Au l0.length cu) l0 from Fr.of_owns (fun _ => rfl) (hG.ext h))
      clear hG hA hlt
      go_wp2_with fail
      refine SO.out.mono ?_
      rintro r w2 ⟨rfl, hb2⟩
      have hbw2 := hbl.ext hb2
      by_cases hok : SegsOk l0
      · rw [segsOkB_yes hok]
        have TX2 := Lib.hid (TX.out w2 hb2 hok)
        by_cases heq : textL l0 = s
        · have HYES := Lib.hid (HOK.out l0 hok heq)
          have hbq : (textL l0 == s) = true := by simpa using heq
          clear hok heq
          generalize textL l0 = tx at *
          go_wp2_with fail
          refine TX2.out.mono ?_
          rintro r w3 ⟨rfl, hb3⟩
          go_wp2_with fail
          refine (clipSeg_any _ l0 w.heap.size _ (HF.out w3 (hb2.ext hb3))).mono ?_
          rintro r _ ⟨u4, rfl, hF4, rfl⟩
          obtain ⟨Av, cv, rfl, _, _⟩ := hF4.sl.val
          go_wp2_with fail
          refine bodyPost_ret (v := .tuple #[.slice Av l0.length cv, .bool true]) (by simp [results, Tryz.results49, go_sem, *]) rfl ?_
          exact ⟨_, by unfold rdMapB; rw [HYES.out]; rfl, by unfold rdMapL; rw [HYES.out]; exact hF4, hbw2.ext hb3⟩
        · have HN := Lib.hid (HBD.out l0 HMAP.out (fun h => heq h.2))
          have hbq : (textL l0 == s) = false := by simpa using heq
          clear hok heq
          generalize textL l0 = tx at *
          go_wp2_with fail
          refine TX2.out.mono ?_
          rintro r w3 ⟨rfl, hb3⟩
          go_wp2_with fail
          refine bodyPost_ret (v := .tuple #[.slice none 0 0, .bool false]) (by simp [results, Tryz.results49, go_sem, *]) rfl ?_
          exact MrP.no HN.out (hbw2.ext hb3)
      · rw [segsOkB_no hok]
        have HN := Lib.hid (HBD.out l0 HMAP.out (fun h => hok h.1))
        clear hok
        go_wp2_with fail
        refine bodyPost_ret (v := .tuple #[.slice none 0 0, .bool false]) (by simp [results, Tryz.results49, go_sem, *]) rfl ?_
        exact MrP.no HN.out hbw2
end Go.Proofs.YtgfbjpmbaibnoaaGreatDoor
