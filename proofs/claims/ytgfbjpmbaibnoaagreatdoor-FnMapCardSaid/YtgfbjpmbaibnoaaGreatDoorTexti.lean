
/- The text of a map: the program's MapText. -/
import Derived.Test.YtgfbjpmbaibnoaaGreatDoorTxts
import Derived.Deep.RegionHeld3
namespace Go.Proofs.YtgfbjpmbaibnoaaGreatDoor
set_option maxRecDepth 100000
set_option linter.unusedSimpArgs false
set_option linter.unusedVariables false
open Go.RowKit

theorem Blk.kept {w w' : World} {g b : Nat} {t : TypeId} {cs : Array Value} (h : Blk w g t cs) (hk : Kept b w w') (hg : g ≠ b) (ht : t ≠ 5) : Blk w' g t cs :=
  hk g _ h (by simpa using hg) (fun c fz e => ht (by injection e))
theorem ne_pos8 : (68 : TypeId) ≠ 5 := by decide
theorem ne_seg8 : (129 : TypeId) ≠ 5 := by decide
/-- what stands ahead of the loop's round: the builder, the last From, the element at hand -/
def Held (w : World) (l : Bytes) (f1 f2 : Int) (wr : World) : Prop :=
  Bld w.heap.size w.heap.size l wr ∧ Blk wr (w.heap.size + 1) 68 #[.int .i64 f1, .int .i64 f2] ∧ Below w.heap.size w wr
/-- a builder stays one where a block of another type is written -/
theorem Bld.far {B b k : Nat} {l : Bytes} {w : World} {t : TypeId} {cs : Array Value} (h : Bld B b l w) (hk : Blk w k t cs) (ht : t ≠ 5) (hb : k ≠ b) (j : Nat) (v : Value) : Bld B b l (w.setCell ⟨k, j, none⟩ v) := by
  have hg : w.grownBy (w.setCell ⟨k, j, none⟩ v) (some k) := grown_set (grown_refl _ _) _ _
  have hne : ∀ (u : Value) n xs, w.ownsRowF B 5 1 u n xs → u.ownBlock = none ∨ u.ownBlock ≠ some k := by
    intro u n xs ho
    rcases ho.2 with ⟨rfl, _⟩ | ⟨g, cap, cur, fr, rfl, hlo, hgg, _⟩
    · exact .inl rfl
    · refine .inr fun e => ?_
      simp [Value.ownBlock] at e
      subst e
      unfold Blk at hk
      rw [hk] at hgg
      injection hgg with hgg
      injection hgg with _ e2 _
      exact ht e2
  rcases h with ⟨hB, u, hh, hown, hn⟩ | ⟨hB, u, hh, hown, hn⟩
  · exact .inl ⟨hB, u, (Below.heap_setCell w ⟨k, j, none⟩ v b (fun e => hb e.symm)).trans hh, hown.kept hg (hne _ _ _ hown), hn⟩
  · exact .inr ⟨hB, u, (Below.heap_setCell w ⟨k, j, none⟩ v b (fun e => hb e.symm)).trans hh, hown.kept hg (hne _ _ _ hown), hn⟩
set_option maxHeartbeats 4000000 in
theorem imText_yes (v : Value) (l : List Sg) (w : World) (hv : SlS w w.heap.size v l) (hok : SegsOk l) :
    Calls Tryz.prog 112 #[v] w fun e w' => e = .returned (.string (bs (textL l))) ∧ Below w.heap.size w w' := by
  obtain ⟨A, c, rfl, hc, hm⟩ := hv.val
  go_enter Tryz.func112, Tryz.ntmps112
  go_wp2_with fail
  go_loopg [4, 5, 12] l.length (fun n ln cl ii wr => ∃ i : Nat, n = l.length - i ∧ i ≤ l.length ∧ ln = .int .i64 (stAt l i).1.1 ∧ cl = .int .i64 (stAt l i).1.2 ∧ ii = .int .i64 i ∧
    Held w (textUp l i) (stAt l i).2.1 (stAt l i).2.2 wr)
  case atStart => exact ⟨0, by omega, by omega, rfl, rfl, rfl, (Bld.new (Nat.le_refl _)).ext (Below.alloc (Below.refl _ _) (Nat.le_refl _) _), by simpa [stAt] using Blk.new (w.alloc (.cells #[.pointer none, .slice none 0 0] 155)) 68 #[.int .i64 0, .int .i64 0], by (repeat (first | with_reducible assumption | with_reducible exact Below.refl _ _ | with_reducible refine Below.setCell ?_ (by first | omega | (simp; done) | (simp; omega)) _ | with_reducible refine Below.alloc ?_ (by first | omega | (simp; done) | (simp; omega)) _ | with_reducible refine below_drewN ?_ _ | with_reducible refine Below.drew ?_))⟩
  case round =>
    obtain ⟨i, hk, hin, rfl, rfl, rfl, hB, hF, hb⟩ := hrel
    obtain ⟨wO, rfl⟩ : ∃ x, x = wr := ⟨_, rfl⟩
    have HK := Lib.hid hk
    clear hk
    by_cases hlt : i < l.length
    · obtain ⟨b, o, p, q, r, t, rfl, hbb, hgt, f0, f1, f2, f3⟩ := sg_at hv hlt
      have hp := hok.1 i hlt _ hgt
      have hst := stAt_ok hok hin
      have hle := stAt_le hok hgt
      obtain ⟨⟨⟨t1, t2⟩, ⟨t3, t4⟩⟩, hT⟩ : ∃ T, stAt l i = T := ⟨_, rfl⟩
      rw [hT] at hst hle hF ⊢
      have HG := Lib.hid (And.intro hgt hT)
      clear hgt hT
      obtain ⟨⟨hp1, hp2⟩, ⟨hp3, hp4⟩, _⟩ := hp
      obtain ⟨⟨ht1, ht2⟩, ht3, ht4⟩ := hst
      simp only at hp1 hp2 hp3 hp4 ht1 ht2 ht3 ht4 hle
      have g0 := f0 ⟨wO, hb⟩
      have g1 := f1 ⟨wO, hb⟩
      have g2 := f2 ⟨wO, hb⟩
      have g3 := f3 ⟨wO, hb⟩
      clear f0 f1 f2 f3
      obtain ⟨W2, hW2⟩ : ∃ W2, W2 = wO.alloc (.cells #[.int .i64 p, .int .i64 q, .int .i64 r, .int .i64 t] 129) := ⟨_, rfl⟩
      have hE : Below wO.heap.size wO W2 := by rw [hW2]; (repeat (first | with_reducible assumption | with_reducible exact Below.refl _ _ | with_reducible refine Below.setCell ?_ (by first | omega | (simp; done) | (simp; omega)) _ | with_reducible refine Below.alloc ?_ (by first | omega | (simp; done) | (simp; omega)) _ | with_reducible refine below_drewN ?_ _ | with_reducible refine Below.drew ?_))
      have hS : Blk W2 wO.heap.size 129 #[.int .i64 p, .int .i64 q, .int .i64 r, .int .i64 t] := by rw [hW2]; exact Blk.new _ _ _
      have hbs := hF.lt
      replace hB := hB.ext hE
      replace hF := hF.below hE hF.lt
      replace hb := hb.ext hE
      have hlen := textUp_len hok i hin
      have hlk := hok.2
      have HW2 := Lib.hid hW2
      clear hW2
      by_cases hi0 : 0 < i
      rotate_left
      · have d2 : decide ((0 : Int) < (i : Int)) = false := by simp; omega
        have d3 : decide (0 < i) = false := by simp; omega
        have hn : (if p = t1 then (if decide (i = 0) = true then ([] : Bytes) else [44]) else []) = [] := by
          split
          · rw [if_pos (by simp; omega)]
          · rfl
        have HN := Lib.hid hn
        clear hn hi0
        go_wp2_with fail
        rw [← HW2.out]
        go_loopg [4, 5] (p - t1).toNat (fun n ln cl wr2 => ∃ m : Nat, n = (p - t1).toNat - m ∧ (m : Int) ≤ p - t1 ∧ ln = .int .i64 (t1 + m) ∧ cl = .int .i64 (if m = 0 then t2 else 0) ∧
          Bld w.heap.size w.heap.size (textUp l i ++ List.replicate m 61) wr2 ∧ Blk wr2 (w.heap.size + 1) 68 #[.int .i64 t3, .int .i64 t4] ∧ Blk wr2 wO.heap.size 129 #[.int .i64 p, .int .i64 q, .int .i64 r, .int .i64 t] ∧ Below w.heap.size w wr2)
        case atStart => exact ⟨0, by omega, by omega, by simp, by simp, by simpa using hB, hF, hS, hb⟩
        case round =>
          obtain ⟨m, hk2, hm2, rfl, rfl, hB3, hF3, hS3, hb3⟩ := hrel
          have HK2 := Lib.hid hk2
          clear hk2
          have s0 := hS3.cell 0
          have s1 := hS3.cell 1
          have s2 := hS3.cell 2
          have s3 := hS3.cell 3
          have y0 := hF3.cell 0
          have y1 := hF3.cell 1
          simp at s0 s1 s2 s3 y0 y1
          have hfz := hF3.frozen
          have hcl : (if m = 0 then t2 else 0) = (if t1 + (m : Int) = t1 then t2 else 0) := by
            by_cases h0 : m = 0
            · rw [if_pos h0, if_pos (by omega)]
            · rw [if_neg h0, if_neg (by omega)]
          have hcb : -1000 ≤ (if m = 0 then t2 else 0) ∧ (if m = 0 then t2 else 0) ≤ 1000 := by split <;> omega
          have hcm : ∀ cc, cc = (if m = 0 then t2 else 0) → (m : Int) = p - t1 → pieceL (decide (i = 0)) ((t1, t2), (t3, t4)) ((p, q), (r, t)) = (if p = t1 then (if decide (i = 0) = true then [] else [44]) else []) ++ List.replicate m 61 ++ numsL [q - cc, r - t3, t - t4] := by
            intro cc hcc hmm
            unfold pieceL
            simp only
            congr 1
            · by_cases h0 : m = 0
              · rw [if_neg (by omega), if_pos (show p = t1 by omega), h0]; simp
              · rw [if_pos (by omega), if_neg (show ¬ p = t1 by omega), show (p - t1).toNat = m from by omega]; rfl
            · rw [hcc]
              by_cases h0 : m = 0
              · rw [if_pos h0, if_neg (by omega)]
              · rw [if_neg h0, if_pos (by omega)]
          clear hcl
          obtain ⟨cc, hcc⟩ : ∃ cc, cc = (if m = 0 then t2 else 0) := ⟨_, rfl⟩
          rw [← hcc] at hcb ⊢
          have HCM := Lib.hid (hcm cc hcc)
          clear hcm hcc
          by_cases hm3 : t1 + m < p
          · have d1 : decide (t1 + (m : Int) < p) = true := by simpa using hm3
            go_wp2_with fail
            refine (bldString _ _ _ [61] _ hB3 (by simp; omega) hb3.size).mono ?_
            rintro e w4 ⟨rfl, hB4, hE4, hK4⟩
            go_wp2_with fail
            go_roundg ((p - t1).toNat - (m + 1))
            case measure => have := HK2.out; omega
            case rel => exact ⟨m + 1, rfl, by omega, by go_num, by simp, by rw [List.replicate_succ', ← List.append_assoc]; exact hB4, hF3.kept hK4 (by omega) ne_pos8, hS3.kept hK4 (by omega) ne_seg8, hb3.trans hE4⟩
          · have d1 : decide (t1 + (m : Int) < p) = false := by simpa using hm3
            have HP := Lib.hid (HCM.out (by omega))
            clear HCM
            go_wp2_with fail
            have hsl := ints_of_block (l := [q - cc, r - t3, t - t4]) (Blk.new wr 3 _) (by simp)
            refine (imNums_any _ _ _ hsl (by simp)).mono ?_
            rintro e w5 ⟨rfl, hE5⟩
            have hE6 : Below wr.heap.size wr w5 := by (repeat (first | with_reducible assumption | with_reducible exact Below.refl _ _ | with_reducible refine Below.setCell ?_ (by first | omega | (simp; done) | (simp; omega)) _ | with_reducible refine Below.alloc ?_ (by first | omega | (simp; done) | (simp; omega)) _ | with_reducible refine below_drewN ?_ _ | with_reducible refine Below.drew ?_ | with_reducible refine Below.trans ?_ (Below.mono hE5 (by first | omega | (simp; done) | (simp; omega)))))
            have hnl := numsL_len [q - cc, r - t3, t - t4]
            go_wp2_with fail
            refine (bldString _ _ _ _ _ (hB3.ext hE6) (by simp at hnl ⊢; omega) ((hb3.ext hE6).size)).mono ?_
            rintro e w6 ⟨rfl, hB6, hE7, hK7⟩
            have hF6 := (hF3.below hE6 hF3.lt).kept hK7 (by omega) ne_pos8
            have hS6 := (hS3.below hE6 hS3.lt).kept hK7 (by omega) ne_seg8
            have hb6 := (hb3.ext hE6).trans hE7
            have hfz6 := hF6.frozen
            have u0 := hF6.cell 0
            have u1 := hF6.cell 1
            have x0 := hS6.cell 0
            have x1 := hS6.cell 1
            have x2 := hS6.cell 2
            have x3 := hS6.cell 3
            simp at u0 u1 x0 x1 x2 x3
            go_wp2_with fail
            have hwo : wO.heap.size ≠ w.heap.size + 1 := by omega
            have hwo2 : w.heap.size + 1 ≠ wO.heap.size := by omega
            go_region_held3 (fun w' => w'.cell? ⟨wO.heap.size, 1, none⟩ = some (.int .i64 q) ∧ w'.cell? ⟨wO.heap.size, 2, none⟩ = some (.int .i64 r) ∧ w'.cell? ⟨wO.heap.size, 3, none⟩ = some (.int .i64 t)) (first | go_keep | (simp [go_sem, *]; done)) (fail)
            go_wp2_with fail
            go_roundg (l.length - (i + 1))
            case measure => have := HK.out; omega
            case rel => exact ⟨i + 1, rfl, by omega, by rw [stAt_succ HG.out.1]; simp; omega, by rw [stAt_succ HG.out.1], by go_num, by
              rw [stAt_succ HG.out.1]
              refine ⟨?_, (hF6.set_ _ _).set_ _ _, by (repeat (first | with_reducible assumption | with_reducible exact Below.refl _ _ | with_reducible refine Below.setCell ?_ (by first | omega | (simp; done) | (simp; omega)) _ | with_reducible refine Below.alloc ?_ (by first | omega | (simp; done) | (simp; omega)) _ | with_reducible refine below_drewN ?_ _ | with_reducible refine Below.drew ?_ | with_reducible refine Below.trans ?_ (Below.mono hb6 (by first | omega | (simp; done) | (simp; omega)))))⟩
              rw [textUp_step HG.out.1, HG.out.2, HP.out, HN.out]
              refine ((?_ : Bld _ _ _ w6).far hF6 ne_pos8 (by omega) 0 _).far (hF6.set_ _ _) ne_pos8 (by omega) 1 _
              simpa using hB6⟩
      · have d2 : decide ((0 : Int) < (i : Int)) = true := by simp; omega
        have d3 : decide (0 < i) = true := by simp; omega
        by_cases hpt : p = t1
        · have d4 : (p == t1) = true := by simpa using hpt
          have hn : (if p = t1 then (if decide (i = 0) = true then ([] : Bytes) else [44]) else []) = [44] := by
            rw [if_pos hpt, if_neg (by simp; omega)]
          have HN := Lib.hid hn
          have HPT := Lib.hid hpt
          clear hn hpt
          go_wp2_with fail
          rw [← HW2.out]
          refine (bldString _ _ _ [44] _ hB (by simp; omega) hb.size).mono ?_
          rintro e w1 ⟨rfl, hB1, hE1, hK1⟩
          replace hb := hb.trans hE1
          replace hF := hF.kept hK1 (by omega) ne_pos8
          replace hS := hS.kept hK1 (by omega) ne_seg8
          clear hB
          have hB := hB1
          go_wp2_with fail
          go_loopg [4, 5] (p - t1).toNat (fun n ln cl wr2 => ∃ m : Nat, n = (p - t1).toNat - m ∧ (m : Int) ≤ p - t1 ∧ ln = .int .i64 (t1 + m) ∧ cl = .int .i64 (if m = 0 then t2 else 0) ∧
            Bld w.heap.size w.heap.size (textUp l i ++ [44] ++ List.replicate m 61) wr2 ∧ Blk wr2 (w.heap.size + 1) 68 #[.int .i64 t3, .int .i64 t4] ∧ Blk wr2 wO.heap.size 129 #[.int .i64 p, .int .i64 q, .int .i64 r, .int .i64 t] ∧ Below w.heap.size w wr2)
          case atStart => exact ⟨0, by omega, by omega, by simp, by simp, by simpa using hB, hF, hS, hb⟩
          case round =>
            obtain ⟨m, hk2, hm2, rfl, rfl, hB3, hF3, hS3, hb3⟩ := hrel
            have HK2 := Lib.hid hk2
            clear hk2
            have s0 := hS3.cell 0
            have s1 := hS3.cell 1
            have s2 := hS3.cell 2
            have s3 := hS3.cell 3
            have y0 := hF3.cell 0
            have y1 := hF3.cell 1
            simp at s0 s1 s2 s3 y0 y1
            have hfz := hF3.frozen
            have hcl : (if m = 0 then t2 else 0) = (if t1 + (m : Int) = t1 then t2 else 0) := by
              by_cases h0 : m = 0
              · rw [if_pos h0, if_pos (by omega)]
              · rw [if_neg h0, if_neg (by omega)]
            have hcb : -1000 ≤ (if m = 0 then t2 else 0) ∧ (if m = 0 then t2 else 0) ≤ 1000 := by split <;> omega
            have hcm : ∀ cc, cc = (if m = 0 then t2 else 0) → (m : Int) = p - t1 → pieceL (decide (i = 0)) ((t1, t2), (t3, t4)) ((p, q), (r, t)) = (if p = t1 then (if decide (i = 0) = true then [] else [44]) else []) ++ List.replicate m 61 ++ numsL [q - cc, r - t3, t - t4] := by
              intro cc hcc hmm
              unfold pieceL
              simp only
              congr 1
              · by_cases h0 : m = 0
                · rw [if_neg (by omega), if_pos (show p = t1 by omega), h0]; simp
                · rw [if_pos (by omega), if_neg (show ¬ p = t1 by omega), show (p - t1).toNat = m from by omega]; rfl
              · rw [hcc]
                by_cases h0 : m = 0
                · rw [if_pos h0, if_neg (by omega)]
                · rw [if_neg h0, if_pos (by omega)]
            clear hcl
            obtain ⟨cc, hcc⟩ : ∃ cc, cc = (if m = 0 then t2 else 0) := ⟨_, rfl⟩
            rw [← hcc] at hcb ⊢
            have HCM := Lib.hid (hcm cc hcc)
            clear hcm hcc
            by_cases hm3 : t1 + m < p
            · have d1 : decide (t1 + (m : Int) < p) = true := by simpa using hm3
              go_wp2_with fail
              refine (bldString _ _ _ [61] _ hB3 (by simp; omega) hb3.size).mono ?_
              rintro e w4 ⟨rfl, hB4, hE4, hK4⟩
              go_wp2_with fail
              go_roundg ((p - t1).toNat - (m + 1))
              case measure => have := HK2.out; omega
              case rel => exact ⟨m + 1, rfl, by omega, by go_num, by simp, by rw [List.replicate_succ', ← List.append_assoc]; exact hB4, hF3.kept hK4 (by omega) ne_pos8, hS3.kept hK4 (by omega) ne_seg8, hb3.trans hE4⟩
            · have d1 : decide (t1 + (m : Int) < p) = false := by simpa using hm3
              have HP := Lib.hid (HCM.out (by omega))
              clear HCM
              go_wp2_with fail
              have hsl := ints_of_block (l := [q - cc, r - t3, t - t4]) (Blk.new wr 3 _) (by simp)
              refine (imNums_any _ _ _ hsl (by simp)).mono ?_
              rintro e w5 ⟨rfl, hE5⟩
              have hE6 : Below wr.heap.size wr w5 := by (repeat (first | with_reducible assumption | with_reducible exact Below.refl _ _ | with_reducible refine Below.setCell ?_ (by first | omega | (simp; done) | (simp; omega)) _ | with_reducible refine Below.alloc ?_ (by first | omega | (simp; done) | (simp; omega)) _ | with_reducible refine below_drewN ?_ _ | with_reducible refine Below.drew ?_ | with_reducible refine Below.trans ?_ (Below.mono hE5 (by first | omega | (simp; done) | (simp; omega)))))
              have hnl := numsL_len [q - cc, r - t3, t - t4]
              go_wp2_with fail
              refine (bldString _ _ _ _ _ (hB3.ext hE6) (by simp at hnl ⊢; omega) ((hb3.ext hE6).size)).mono ?_
              rintro e w6 ⟨rfl, hB6, hE7, hK7⟩
              have hF6 := (hF3.below hE6 hF3.lt).kept hK7 (by omega) ne_pos8
              have hS6 := (hS3.below hE6 hS3.lt).kept hK7 (by omega) ne_seg8
              have hb6 := (hb3.ext hE6).trans hE7
              have hfz6 := hF6.frozen
              have u0 := hF6.cell 0
              have u1 := hF6.cell 1
              have x0 := hS6.cell 0
              have x1 := hS6.cell 1
              have x2 := hS6.cell 2
              have x3 := hS6.cell 3
              simp at u0 u1 x0 x1 x2 x3
              go_wp2_with fail
              have hwo : wO.heap.size ≠ w.heap.size + 1 := by omega
              have hwo2 : w.heap.size + 1 ≠ wO.heap.size := by omega
              go_region_held3 (fun w' => w'.cell? ⟨wO.heap.size, 1, none⟩ = some (.int .i64 q) ∧ w'.cell? ⟨wO.heap.size, 2, none⟩ = some (.int .i64 r) ∧ w'.cell? ⟨wO.heap.size, 3, none⟩ = some (.int .i64 t)) (first | go_keep | (simp [go_sem, *]; done)) (fail)
              go_wp2_with fail
              go_roundg (l.length - (i + 1))
              case measure => have := HK.out; omega
              case rel => exact ⟨i + 1, rfl, by omega, by rw [stAt_succ HG.out.1]; simp; omega, by rw [stAt_succ HG.out.1], by go_num, by
                rw [stAt_succ HG.out.1]
                refine ⟨?_, (hF6.set_ _ _).set_ _ _, by (repeat (first | with_reducible assumption | with_reducible exact Below.refl _ _ | with_reducible refine Below.setCell ?_ (by first | omega | (simp; done) | (simp; omega)) _ | with_reducible refine Below.alloc ?_ (by first | omega | (simp; done) | (simp; omega)) _ | with_reducible refine below_drewN ?_ _ | with_reducible refine Below.drew ?_ | with_reducible refine Below.trans ?_ (Below.mono hb6 (by first | omega | (simp; done) | (simp; omega)))))⟩
                rw [textUp_step HG.out.1, HG.out.2, HP.out, HN.out]
                refine ((?_ : Bld _ _ _ w6).far hF6 ne_pos8 (by omega) 0 _).far (hF6.set_ _ _) ne_pos8 (by omega) 1 _
                simpa using hB6⟩
        · have d4 : (p == t1) = false := by simpa using hpt
          have hn : (if p = t1 then (if decide (i = 0) = true then ([] : Bytes) else [44]) else []) = [] := by rw [if_neg hpt]
          have HN := Lib.hid hn
          clear hn
          go_wp2_with fail
          rw [← HW2.out]
          go_loopg [4, 5] (p - t1).toNat (fun n ln cl wr2 => ∃ m : Nat, n = (p - t1).toNat - m ∧ (m : Int) ≤ p - t1 ∧ ln = .int .i64 (t1 + m) ∧ cl = .int .i64 (if m = 0 then t2 else 0) ∧
            Bld w.heap.size w.heap.size (textUp l i ++ List.replicate m 61) wr2 ∧ Blk wr2 (w.heap.size + 1) 68 #[.int .i64 t3, .int .i64 t4] ∧ Blk wr2 wO.heap.size 129 #[.int .i64 p, .int .i64 q, .int .i64 r, .int .i64 t] ∧ Below w.heap.size w wr2)
          case atStart => exact ⟨0, by omega, by omega, by simp, by simp, by simpa using hB, hF, hS, hb⟩
          case round =>
            obtain ⟨m, hk2, hm2, rfl, rfl, hB3, hF3, hS3, hb3⟩ := hrel
            have HK2 := Lib.hid hk2
            clear hk2
            have s0 := hS3.cell 0
            have s1 := hS3.cell 1
            have s2 := hS3.cell 2
            have s3 := hS3.cell 3
            have y0 := hF3.cell 0
            have y1 := hF3.cell 1
            simp at s0 s1 s2 s3 y0 y1
            have hfz := hF3.frozen
            have hcl : (if m = 0 then t2 else 0) = (if t1 + (m : Int) = t1 then t2 else 0) := by
              by_cases h0 : m = 0
              · rw [if_pos h0, if_pos (by omega)]
              · rw [if_neg h0, if_neg (by omega)]
            have hcb : -1000 ≤ (if m = 0 then t2 else 0) ∧ (if m = 0 then t2 else 0) ≤ 1000 := by split <;> omega
            have hcm : ∀ cc, cc = (if m = 0 then t2 else 0) → (m : Int) = p - t1 → pieceL (decide (i = 0)) ((t1, t2), (t3, t4)) ((p, q), (r, t)) = (if p = t1 then (if decide (i = 0) = true then [] else [44]) else []) ++ List.replicate m 61 ++ numsL [q - cc, r - t3, t - t4] := by
              intro cc hcc hmm
              unfold pieceL
              simp only
              congr 1
              · by_cases h0 : m = 0
                · rw [if_neg (by omega), if_pos (show p = t1 by omega), h0]; simp
                · rw [if_pos (by omega), if_neg (show ¬ p = t1 by omega), show (p - t1).toNat = m from by omega]; rfl
              · rw [hcc]
                by_cases h0 : m = 0
                · rw [if_pos h0, if_neg (by omega)]
                · rw [if_neg h0, if_pos (by omega)]
            clear hcl
            obtain ⟨cc, hcc⟩ : ∃ cc, cc = (if m = 0 then t2 else 0) := ⟨_, rfl⟩
            rw [← hcc] at hcb ⊢
            have HCM := Lib.hid (hcm cc hcc)
            clear hcm hcc
            by_cases hm3 : t1 + m < p
            · have d1 : decide (t1 + (m : Int) < p) = true := by simpa using hm3
              go_wp2_with fail
              refine (bldString _ _ _ [61] _ hB3 (by simp; omega) hb3.size).mono ?_
              rintro e w4 ⟨rfl, hB4, hE4, hK4⟩
              go_wp2_with fail
              go_roundg ((p - t1).toNat - (m + 1))
              case measure => have := HK2.out; omega
              case rel => exact ⟨m + 1, rfl, by omega, by go_num, by simp, by rw [List.replicate_succ', ← List.append_assoc]; exact hB4, hF3.kept hK4 (by omega) ne_pos8, hS3.kept hK4 (by omega) ne_seg8, hb3.trans hE4⟩
            · have d1 : decide (t1 + (m : Int) < p) = false := by simpa using hm3
              have HP := Lib.hid (HCM.out (by omega))
              clear HCM
              go_wp2_with fail
              have hsl := ints_of_block (l := [q - cc, r - t3, t - t4]) (Blk.new wr 3 _) (by simp)
              refine (imNums_any _ _ _ hsl (by simp)).mono ?_
              rintro e w5 ⟨rfl, hE5⟩
              have hE6 : Below wr.heap.size wr w5 := by (repeat (first | with_reducible assumption | with_reducible exact Below.refl _ _ | with_reducible refine Below.setCell ?_ (by first | omega | (simp; done) | (simp; omega)) _ | with_reducible refine Below.alloc ?_ (by first | omega | (simp; done) | (simp; omega)) _ | with_reducible refine below_drewN ?_ _ | with_reducible refine Below.drew ?_ | with_reducible refine Below.trans ?_ (Below.mono hE5 (by first | omega | (simp; done) | (simp; omega)))))
              have hnl := numsL_len [q - cc, r - t3, t - t4]
              go_wp2_with fail
              refine (bldString _ _ _ _ _ (hB3.ext hE6) (by simp at hnl ⊢; omega) ((hb3.ext hE6).size)).mono ?_
              rintro e w6 ⟨rfl, hB6, hE7, hK7⟩
              have hF6 := (hF3.below hE6 hF3.lt).kept hK7 (by omega) ne_pos8
              have hS6 := (hS3.below hE6 hS3.lt).kept hK7 (by omega) ne_seg8
              have hb6 := (hb3.ext hE6).trans hE7
              have hfz6 := hF6.frozen
              have u0 := hF6.cell 0
              have u1 := hF6.cell 1
              have x0 := hS6.cell 0
              have x1 := hS6.cell 1
              have x2 := hS6.cell 2
              have x3 := hS6.cell 3
              simp at u0 u1 x0 x1 x2 x3
              go_wp2_with fail
              have hwo : wO.heap.size ≠ w.heap.size + 1 := by omega
              have hwo2 : w.heap.size + 1 ≠ wO.heap.size := by omega
              go_region_held3 (fun w' => w'.cell? ⟨wO.heap.size, 1, none⟩ = some (.int .i64 q) ∧ w'.cell? ⟨wO.heap.size, 2, none⟩ = some (.int .i64 r) ∧ w'.cell? ⟨wO.heap.size, 3, none⟩ = some (.int .i64 t)) (first | go_keep | (simp [go_sem, *]; done)) (fail)
              go_wp2_with fail
              go_roundg (l.length - (i + 1))
              case measure => have := HK.out; omega
              case rel => exact ⟨i + 1, rfl, by omega, by rw [stAt_succ HG.out.1]; simp; omega, by rw [stAt_succ HG.out.1], by go_num, by
                rw [stAt_succ HG.out.1]
                refine ⟨?_, (hF6.set_ _ _).set_ _ _, by (repeat (first | with_reducible assumption | with_reducible exact Below.refl _ _ | with_reducible refine Below.setCell ?_ (by first | omega | (simp; done) | (simp; omega)) _ | with_reducible refine Below.alloc ?_ (by first | omega | (simp; done) | (simp; omega)) _ | with_reducible refine below_drewN ?_ _ | with_reducible refine Below.drew ?_ | with_reducible refine Below.trans ?_ (Below.mono hb6 (by first | omega | (simp; done) | (simp; omega)))))⟩
                rw [textUp_step HG.out.1, HG.out.2, HP.out, HN.out]
                refine ((?_ : Bld _ _ _ w6).far hF6 ne_pos8 (by omega) 0 _).far (hF6.set_ _ _) ne_pos8 (by omega) 1 _
                simpa using hB6⟩
    · obtain rfl : i = l.length := by omega
      go_wp2_with fail
      refine (bldRead _ _ _ _ hB hb.size).mono ?_
      rintro e w2 ⟨rfl, hE2⟩
      go_wp2_with fail
      go_ret
      exact ⟨rfl, hb.trans hE2⟩
end Go.Proofs.YtgfbjpmbaibnoaaGreatDoor
