
/- The text of a map: the program's and the reference's MapText, as one plain function. -/
import Derived.Test.YtlmjaoignmgakaaNums
import Derived.Test.YtlmjaoignmgakaaMark
namespace Go.Proofs.Ytlmjaoignmgakaa
set_option maxRecDepth 100000
open Go.RowKit

theorem ints_of_block {w : World} {g : Nat} {t : TypeId} {l : List Int} (hB : Blk w g t (l.map (fun n => Value.int .i64 n)).toArray) (hl : l.length ≤ 1000) : SlI w w.heap.size (.slice (some ⟨g, 0, none⟩) l.length l.length) l :=
  ⟨_, _, rfl, Nat.le_refl _, by unfold maxLen; omega, fun _ => ⟨g, 0, rfl, hB.lt, fun i s hs j x hx => by
    have hj : j = 0 := by have := (List.getElem?_eq_some_iff.1 hx).1; simp [intRow] at this; omega
    subst hj
    obtain rfl : Value.int .i64 s = x := by simpa [intRow] using hx
    rw [hB.cell]
    simp [hs]⟩⟩

theorem l9One_any (a b c d col f1 f2 : Int) (w : World) (h1 : -1000 ≤ b ∧ b ≤ 1000) (h2 : -1000 ≤ c ∧ c ≤ 1000) (h3 : -1000 ≤ d ∧ d ≤ 1000) (h4 : -1000 ≤ col ∧ col ≤ 1000) (h5 : -1000 ≤ f1 ∧ f1 ≤ 1000) (h6 : -1000 ≤ f2 ∧ f2 ≤ 1000) :
    Calls Try.prog 30 #[.agg #[.int .i64 a, .int .i64 b, .int .i64 c, .int .i64 d], .int .i64 col, .agg #[.int .i64 f1, .int .i64 f2]] w fun e w' =>
      e = .returned (.string (bs (numsL [b - col, c - f1, d - f2]))) ∧ Below w.heap.size w w' := by
  have hBB : Below w.heap.size w (((w.alloc (.cells #[.int .i64 a, .int .i64 b, .int .i64 c, .int .i64 d] 35)).alloc (.cells #[.int .i64 f1, .int .i64 f2] 33)).alloc (.cells #[.int .i64 (b - col), .int .i64 (c - f1), .int .i64 (d - f2)] 3)) := by (repeat (first | with_reducible assumption | with_reducible exact Below.refl _ _ | with_reducible refine Below.setCell ?_ (by first | omega | (simp; done) | (simp; omega)) _ | with_reducible refine Below.alloc ?_ (by first | omega | (simp; done) | (simp; omega)) _ | with_reducible refine below_drewN ?_ _ | with_reducible refine Below.drew ?_))
  have hs := ints_of_block (l := [b - col, c - f1, d - f2]) (Blk.new ((w.alloc (.cells #[.int .i64 a, .int .i64 b, .int .i64 c, .int .i64 d] 35)).alloc (.cells #[.int .i64 f1, .int .i64 f2] 33)) 3 _) (by simp)
  have c1 := spNums_any _ _ _ hs (by simp)
  rw [show ((w.alloc (.cells #[.int .i64 a, .int .i64 b, .int .i64 c, .int .i64 d] 35)).alloc (.cells #[.int .i64 f1, .int .i64 f2] 33)).heap.size = w.heap.size + 1 + 1 from by simp] at c1
  have C1 := Lib.hid c1
  clear c1 hs
  go_enter Try.func30, Try.ntmps30
  go_wp2_with fail
  refine C1.out.mono ?_
  rintro e _ ⟨rfl, rfl⟩
  go_wp2_with fail
  go_ret
  exact ⟨rfl, hBB⟩
theorem spText_no (v : Value) (l : List Sg) (w : World) (hv : SlS w w.heap.size v l) (hok : ¬ SegsOk l) :
    Calls Try.prog 11 #[v] w fun e w' => e = .returned (.string (bs [])) ∧ Below w.heap.size w w' := by
  obtain ⟨A, c, rfl, hc, hm⟩ := hv.val
  go_enter Try.func11, Try.ntmps11
  go_wp2_with fail
  go_loopg [3, 7] 0 (fun n o ii wr => n = 0 ∧ o = .string ⟨#[]⟩ ∧ ii = .int .i64 0 ∧ Below w.heap.size w wr)
  case atStart => exact ⟨rfl, rfl, rfl, by (repeat (first | with_reducible assumption | with_reducible exact Below.refl _ _ | with_reducible refine Below.setCell ?_ (by first | omega | (simp; done) | (simp; omega)) _ | with_reducible refine Below.alloc ?_ (by first | omega | (simp; done) | (simp; omega)) _ | with_reducible refine below_drewN ?_ _ | with_reducible refine Below.drew ?_))⟩
  case round =>
    obtain ⟨rfl, rfl, rfl, hb⟩ := hrel
    have hv1 := spSegsOk_any wr _ l ((hv.below hb (Nat.le_refl _)).more hb.size)
    rw [segsOkB_no hok] at hv1
    have C1 := Lib.hid hv1
    clear hv1
    by_cases hlt : 0 < l.length
    · go_wp2_with fail
      refine C1.out.mono ?_
      rintro e w1 ⟨rfl, hb1⟩
      go_wp2_with fail
      go_ret
      exact ⟨rfl, hb.ext hb1⟩
    · go_wp2_with fail
      go_ret
      exact ⟨rfl, hb⟩
theorem spText_yes (v : Value) (l : List Sg) (w : World) (hv : SlS w w.heap.size v l) (hok : SegsOk l) :
    Calls Try.prog 11 #[v] w fun e w' => e = .returned (.string (bs (textL l))) ∧ Below w.heap.size w w' := by
  obtain ⟨A, c, rfl, hc, hm⟩ := hv.val
  go_enter Try.func11, Try.ntmps11
  go_wp2_with fail
  go_loopg [3, 4, 5, 7] l.length (fun n o ln cl ii wr => ∃ i : Nat, n = l.length - i ∧ i ≤ l.length ∧ o = .string (bs (textUp l i)) ∧ ln = .int .i64 (stAt l i).1.1 ∧ cl = .int .i64 (stAt l i).1.2 ∧ ii = .int .i64 i ∧
    Blk wr w.heap.size 33 #[.int .i64 (stAt l i).2.1, .int .i64 (stAt l i).2.2] ∧ Below w.heap.size w wr)
  case atStart => exact ⟨0, by omega, by omega, rfl, rfl, rfl, rfl, Blk.new _ _ _, by (repeat (first | with_reducible assumption | with_reducible exact Below.refl _ _ | with_reducible refine Below.setCell ?_ (by first | omega | (simp; done) | (simp; omega)) _ | with_reducible refine Below.alloc ?_ (by first | omega | (simp; done) | (simp; omega)) _ | with_reducible refine below_drewN ?_ _ | with_reducible refine Below.drew ?_))⟩
  case round =>
    obtain ⟨i, hk, hin, rfl, rfl, rfl, rfl, hB, hb⟩ := hrel
    have HK := Lib.hid hk
    clear hk
    have hv1 := spSegsOk_any wr _ l ((hv.below hb (Nat.le_refl _)).more hb.size)
    rw [segsOkB_yes hok] at hv1
    have C1 := Lib.hid hv1
    clear hv1
    by_cases hlt : i < l.length
    · obtain ⟨b, o, p, q, r, t, rfl, hbb, hgt, f0, f1, f2, f3⟩ := sg_at hv hlt
      have hp := hok.1 i hlt _ hgt
      have hst := stAt_ok hok hin
      have hle := stAt_le hok hgt
      obtain ⟨⟨⟨t1, t2⟩, ⟨t3, t4⟩⟩, hT⟩ : ∃ T, stAt l i = T := ⟨_, rfl⟩
      rw [hT] at hst hle hB ⊢
      have HG := Lib.hid (And.intro hgt hT)
      clear hgt hT
      obtain ⟨⟨hp1, hp2⟩, ⟨hp3, hp4⟩, _⟩ := hp
      obtain ⟨⟨ht1, ht2⟩, ht3, ht4⟩ := hst
      simp only at hp1 hp2 hp3 hp4 ht1 ht2 ht3 ht4 hle
      go_wp2_with fail
      refine C1.out.mono ?_
      rintro e w1 ⟨rfl, hb1⟩
      replace hB := hB.below hb1 hB.lt
      replace hb := hb.ext hb1
      have g0 := f0 ⟨w1, hb⟩
      have g1 := f1 ⟨w1, hb⟩
      have g2 := f2 ⟨w1, hb⟩
      have g3 := f3 ⟨w1, hb⟩
      clear f0 f1 f2 f3
      go_wp2_with fail
      go_loopg [3, 4, 5] (p - t1).toNat (fun n o ln cl wr2 => ∃ m : Nat, n = (p - t1).toNat - m ∧ (m : Int) ≤ p - t1 ∧ o = .string (bs (textUp l i ++ List.replicate m 61)) ∧ ln = .int .i64 (t1 + m) ∧ cl = .int .i64 (if m = 0 then t2 else 0) ∧ wr2 = w1.alloc (.cells #[.int .i64 p, .int .i64 q, .int .i64 r, .int .i64 t] 35))
      case atStart => exact ⟨0, by omega, by omega, by simp, by simp, by simp, rfl⟩
      case round =>
        obtain ⟨m, hk2, hm2, rfl, rfl, rfl, rfl⟩ := hrel
        have HK2 := Lib.hid hk2
        clear hk2
        have hlen := textUp_len hok i hin
        have hcat : ¬ 9223372036854775807 < (bs (textUp l i ++ List.replicate m 61)).size + 1 := by
          have := hok.2
          rw [bs_size, List.length_append, List.length_replicate]
          omega
        by_cases hm3 : t1 + m < p
        · have d1 : decide (t1 + (m : Int) < p) = true := by simpa using hm3
          go_wp2_with fail
          go_roundg ((p - t1).toNat - (m + 1))
          case measure => have := HK2.out; omega
          case rel => exact ⟨m + 1, rfl, by omega, by rw [List.replicate_succ', ← List.append_assoc, ← bs_append]; rfl, by go_num, by simp, rfl⟩
        · have hme : (m : Int) = p - t1 := by omega
          have d1 : decide (t1 + (m : Int) < p) = false := by simpa using hm3
          have hW2 : Below w1.heap.size w1 (w1.alloc (.cells #[.int .i64 p, .int .i64 q, .int .i64 r, .int .i64 t] 35)) := by (repeat (first | with_reducible assumption | with_reducible exact Below.refl _ _ | with_reducible refine Below.setCell ?_ (by first | omega | (simp; done) | (simp; omega)) _ | with_reducible refine Below.alloc ?_ (by first | omega | (simp; done) | (simp; omega)) _ | with_reducible refine below_drewN ?_ _ | with_reducible refine Below.drew ?_))
          have hBx := hB.below hW2 hB.lt
          have e0 := hBx.cell 0
          have e1 := hBx.cell 1
          simp at e0 e1
          have hcl : (if m = 0 then t2 else 0) = (if t1 < p then 0 else t2) := by
            by_cases h0 : m = 0
            · rw [if_pos h0, if_neg (by omega)]
            · rw [if_neg h0, if_pos (by omega)]
          have hml : (numsL [q - (if t1 < p then 0 else t2), r - t3, t - t4]).length ≤ 18 := by
            have := numsL_len [q - (if t1 < p then 0 else t2), r - t3, t - t4]
            simpa using this
          have hcb : -1000 ≤ (if t1 < p then 0 else t2) ∧ (if t1 < p then 0 else t2) ≤ 1000 := by split <;> omega
          have hpc : ∀ first, pieceL first ((t1, t2), (t3, t4)) ((p, q), (r, t)) = (if m = 0 then (if first then [] else [44]) else List.replicate m 61) ++ numsL [q - (if t1 < p then 0 else t2), r - t3, t - t4] := by
            intro first
            unfold pieceL
            simp only
            congr 1
            by_cases h0 : m = 0
            · rw [if_neg (by omega), if_pos h0]
            · rw [if_pos (by omega), if_neg h0, show (p - t1).toNat = m from by omega]
          have HPC := Lib.hid hpc
          clear hpc
          rw [hcl]
          generalize (if t1 < p then 0 else t2) = cc at *
          by_cases hi0 : i = 0
          · have d2 : decide ((0 : Int) < (i : Int)) = false := by first | (simp; done) | (simp; omega)
            have d3 : decide (0 < i) = false := by first | (simp; done) | (simp; omega)
            have hn : (if m = 0 then (if decide (i = 0) = true then ([] : Bytes) else [44]) else List.replicate m 61) = List.replicate m 61 := by
              by_cases h0 : m = 0
              · rw [if_pos h0, h0, if_pos (by simpa using hi0)]; rfl
              · rw [if_neg h0]
            have HN := Lib.hid hn
            clear hi0 hn
            go_wp2_with fail
            refine (l9One_any p q r t cc t3 t4 _ ⟨by omega, by omega⟩ ⟨by omega, by omega⟩ ⟨by omega, by omega⟩ hcb ⟨by omega, by omega⟩ ⟨by omega, by omega⟩).mono ?_
            rintro e w2 ⟨rfl, hE2⟩
            have hB2 := hBx.below hE2 hBx.lt
            have hfz := hB2.frozen
            have hbz := hb.size
            have y0 := hB2.cell 0
            have y1 := hB2.cell 1
            simp at y0 y1
            have hS := (Blk.new w1 35 #[.int .i64 p, .int .i64 q, .int .i64 r, .int .i64 t]).below hE2 (by simp)
            have z0 := hS.cell 0
            have z1 := hS.cell 1
            have z2 := hS.cell 2
            have z3 := hS.cell 3
            simp at z0 z1 z2 z3
            have hcat2 : ¬ 9223372036854775807 < (bs (textUp l i ++ List.replicate m 61)).size + (bs (numsL [q - cc, r - t3, t - t4])).size := by
              have := hok.2
              rw [bs_size, bs_size]
              simp
              omega
            go_wp2_with fail
            go_roundg (l.length - (i + 1))
            case measure => have := HK.out; omega
            case rel => exact ⟨i + 1, rfl, by omega, congrArg Value.string (by rw [textUp_step HG.out.1, HG.out.2, HPC.out, HN.out, ← List.append_assoc, bs_append]), by rw [stAt_succ HG.out.1]; simp; omega, by rw [stAt_succ HG.out.1], by go_num, by rw [stAt_succ HG.out.1]; exact (hB2.set_ _ _).set_ _ _, by (repeat (first | with_reducible assumption | with_reducible exact Below.refl _ _ | with_reducible refine Below.setCell ?_ (by first | omega | (simp; done) | (simp; omega)) _ | with_reducible refine Below.alloc ?_ (by first | omega | (simp; done) | (simp; omega)) _ | with_reducible refine below_drewN ?_ _ | with_reducible refine Below.drew ?_ | with_reducible refine Below.trans ?_ (Below.mono hE2 (by first | omega | (simp; done) | (simp; omega))) | with_reducible refine Below.trans ?_ (Below.mono hb (by first | omega | (simp; done) | (simp; omega)))))⟩
          · obtain ⟨k, rfl⟩ : ∃ k, i = k + 1 := ⟨i - 1, by omega⟩
            obtain ⟨b2, o2, p2, q2, r2, s2, hA2, _, hg2, j0, _, _, _⟩ := sg_at hv (i := k) (by omega)
            cases hA2
            have hT2 := HG.out.2
            rw [stAt_succ hg2] at hT2
            obtain ⟨⟨rfl, rfl⟩, rfl, rfl⟩ : (p2 = t1 ∧ q2 = t2) ∧ r2 = t3 ∧ s2 = t4 := by simpa using hT2
            have j1 := j0 ⟨_, hb.ext hW2⟩
            clear j0 hT2 hg2 hi0
            have d2 : decide ((0 : Int) < (k : Int) + 1) = true := by first | (simp; done) | (simp; omega)
            by_cases hm0 : m = 0
            · have hpe : p = p2 := by omega
              have hn : (if m = 0 then (if decide (k + 1 = 0) = true then ([] : Bytes) else [44]) else List.replicate m 61) = List.replicate m 61 ++ [44] := by
                rw [if_pos hm0, hm0]; rfl
              have HN := Lib.hid hn
              clear hn
              have d4 : (p2 == p2 + (m : Int)) = true := by simp; omega
              have d5 : (p2 == p2 + (p - p2)) = true := by simp; omega
              have HM := Lib.hid hm0
              have HP := Lib.hid hpe
              clear hm0 hpe
              go_wp2_with fail
              rw [show bs (textUp l (k + 1) ++ List.replicate m 61) ++ ⟨#[44]⟩ = bs (textUp l (k + 1) ++ (List.replicate m 61 ++ [44])) from by rw [← List.append_assoc, ← bs_append]; rfl]
              refine (l9One_any p q r t cc r2 s2 _ ⟨by omega, by omega⟩ ⟨by omega, by omega⟩ ⟨by omega, by omega⟩ hcb ⟨by omega, by omega⟩ ⟨by omega, by omega⟩).mono ?_
              rintro e w2 ⟨rfl, hE2⟩
              have hB2 := hBx.below hE2 hBx.lt
              have hfz := hB2.frozen
              have hbz := hb.size
              have y0 := hB2.cell 0
              have y1 := hB2.cell 1
              simp at y0 y1
              have hS := (Blk.new w1 35 #[.int .i64 p, .int .i64 q, .int .i64 r, .int .i64 t]).below hE2 (by simp)
              have z0 := hS.cell 0
              have z1 := hS.cell 1
              have z2 := hS.cell 2
              have z3 := hS.cell 3
              simp at z0 z1 z2 z3
              have hcat2 : ¬ 9223372036854775807 < (bs (textUp l (k + 1) ++ (List.replicate m 61 ++ [44]))).size + (bs (numsL [q - cc, r - r2, t - s2])).size := by
                have := hok.2
                rw [bs_size, bs_size]
                simp
                omega
              go_wp2_with fail
              go_roundg (l.length - (k + 1 + 1))
              case measure => have := HK.out; omega
              case rel => exact ⟨k + 1 + 1, rfl, by omega, congrArg Value.string (by rw [textUp_step HG.out.1, HG.out.2, HPC.out, HN.out, bs_append]; simp), by rw [stAt_succ HG.out.1]; simp; omega, by rw [stAt_succ HG.out.1], by go_num, by rw [stAt_succ HG.out.1]; exact (hB2.set_ _ _).set_ _ _, by (repeat (first | with_reducible assumption | with_reducible exact Below.refl _ _ | with_reducible refine Below.setCell ?_ (by first | omega | (simp; done) | (simp; omega)) _ | with_reducible refine Below.alloc ?_ (by first | omega | (simp; done) | (simp; omega)) _ | with_reducible refine below_drewN ?_ _ | with_reducible refine Below.drew ?_ | with_reducible refine Below.trans ?_ (Below.mono hE2 (by first | omega | (simp; done) | (simp; omega))) | with_reducible refine Below.trans ?_ (Below.mono hb (by first | omega | (simp; done) | (simp; omega)))))⟩
            · have hn : (if m = 0 then (if decide (k + 1 = 0) = true then ([] : Bytes) else [44]) else List.replicate m 61) = List.replicate m 61 := by rw [if_neg hm0]
              have HN := Lib.hid hn
              clear hn
              have d4 : (p2 == p2 + (m : Int)) = false := by simp; omega
              have d5 : (p2 == p2 + (p - p2)) = false := by simp; omega
              clear hm0
              go_wp2_with fail
              refine (l9One_any p q r t cc r2 s2 _ ⟨by omega, by omega⟩ ⟨by omega, by omega⟩ ⟨by omega, by omega⟩ hcb ⟨by omega, by omega⟩ ⟨by omega, by omega⟩).mono ?_
              rintro e w2 ⟨rfl, hE2⟩
              have hB2 := hBx.below hE2 hBx.lt
              have hfz := hB2.frozen
              have hbz := hb.size
              have y0 := hB2.cell 0
              have y1 := hB2.cell 1
              simp at y0 y1
              have hS := (Blk.new w1 35 #[.int .i64 p, .int .i64 q, .int .i64 r, .int .i64 t]).below hE2 (by simp)
              have z0 := hS.cell 0
              have z1 := hS.cell 1
              have z2 := hS.cell 2
              have z3 := hS.cell 3
              simp at z0 z1 z2 z3
              have hcat2 : ¬ 9223372036854775807 < (bs (textUp l (k + 1) ++ List.replicate m 61)).size + (bs (numsL [q - cc, r - r2, t - s2])).size := by
                have := hok.2
                rw [bs_size, bs_size]
                simp
                omega
              go_wp2_with fail
              go_roundg (l.length - (k + 1 + 1))
              case measure => have := HK.out; omega
              case rel => exact ⟨k + 1 + 1, rfl, by omega, congrArg Value.string (by rw [textUp_step HG.out.1, HG.out.2, HPC.out, HN.out, ← List.append_assoc, bs_append]), by rw [stAt_succ HG.out.1]; simp; omega, by rw [stAt_succ HG.out.1], by go_num, by rw [stAt_succ HG.out.1]; exact (hB2.set_ _ _).set_ _ _, by (repeat (first | with_reducible assumption | with_reducible exact Below.refl _ _ | with_reducible refine Below.setCell ?_ (by first | omega | (simp; done) | (simp; omega)) _ | with_reducible refine Below.alloc ?_ (by first | omega | (simp; done) | (simp; omega)) _ | with_reducible refine below_drewN ?_ _ | with_reducible refine Below.drew ?_ | with_reducible refine Below.trans ?_ (Below.mono hE2 (by first | omega | (simp; done) | (simp; omega))) | with_reducible refine Below.trans ?_ (Below.mono hb (by first | omega | (simp; done) | (simp; omega)))))⟩
    · obtain rfl : i = l.length := by omega
      go_wp2_with fail
      go_ret
      exact ⟨rfl, hb⟩
theorem spText_any (v : Value) (l : List Sg) (w : World) (hv : SlS w w.heap.size v l) :
    Calls Try.prog 11 #[v] w fun e w' => e = .returned (.string (bs (mapTextL l))) ∧ Below w.heap.size w w' := by
  by_cases hok : SegsOk l
  · unfold mapTextL
    rw [if_pos (segsOkB_yes hok)]
    exact spText_yes v l w hv hok
  · unfold mapTextL
    rw [if_neg (by rw [segsOkB_no hok]; decide)]
    exact spText_no v l w hv hok
end Go.Proofs.Ytlmjaoignmgakaa
