
/- The letters of numbers: the program's and the reference's, as one plain function. -/
import Derived.Test.YtlmjaoignmgakaaShelf
namespace Go.Proofs.Ytlmjaoignmgakaa
set_option maxRecDepth 100000
open Go.RowKit

def letter (d : Nat) : UInt8 := if d < 16 then lo d else hi (d - 16)

theorem spIn_any (n : Int) (w : World) : Calls Try.prog 58 #[.int .i64 n] w fun e w' => e = .returned (.bool (decide (NumIn n))) ∧ w = w' := by
  by_cases h1 : -1000000 ≤ n
  · go_enter Try.func58, Try.ntmps58
    go_wp2
    go_ret
    exact ⟨ret_bool (by first | rfl | (rw [Bool.eq_iff_iff]; (try simp only [decide_eq_true_eq]); first | (simp [NumIn]; done) | (simp [NumIn]; omega))), rfl⟩
  · have d1 : decide (-1000000 ≤ n) = false := by simpa using h1
    go_enter Try.func58, Try.ntmps58
    go_wp2
    go_ret
    exact ⟨ret_bool (by first | rfl | (rw [Bool.eq_iff_iff]; (try simp only [decide_eq_true_eq]); first | (simp [NumIn]; done) | (simp [NumIn]; omega))), rfl⟩
theorem imIn_any (n : Int) (w : World) : Calls Try.prog 61 #[.int .i64 n] w fun e w' => e = .returned (.bool (decide (NumIn n))) ∧ w = w' := by
  go_enter Try.func61, Try.ntmps61
  go_wp2_with fail
  refine (in_any _ _ _ _).mono ?_
  rintro e _ ⟨rfl, rfl⟩
  go_wp2_with fail
  go_ret
  exact ⟨ret_bool (by first | rfl | (rw [Bool.eq_iff_iff]; (try simp only [decide_eq_true_eq]); first | (simp [NumIn]; done) | (simp [NumIn]; omega))), rfl⟩
def lettersB : ByteArray := bs ((List.range 32).map letter)
theorem lettersB_size : lettersB.size = 32 := by unfold lettersB; rw [bs_size]; simp
theorem lettersB_cut : ∀ d : Nat, d < 32 → lettersB.extract d (d + 1) = bs [letter d] := by
  intro d hd
  apply ByteArray.ext
  have h : ∀ d, d < 32 → (lettersB.extract d (d + 1)).data = (bs [letter d]).data := by decide +kernel
  exact h d hd
theorem letters_any (w : World) : Calls Try.prog 87 #[] w fun e w' => e = .returned (.string lettersB) ∧ w = w' := by
  go_enter Try.func87, Try.ntmps87
  go_wp2
  go_ret
  exact ⟨congrArg Ending.returned (congrArg Value.string (by kernel_rfl)), rfl⟩
theorem Bld.new {B : Nat} {w : World} (h : B ≤ w.heap.size) : Bld B w.heap.size [] (w.alloc (.cells #[.pointer none, .slice none 0 0] 68)) :=
  Lib.IsBuilderF.of (.inl ⟨h, _, heap_alloc_new w _, World.ownsRow_nil _ _ _ _, by simp [Value.ownBlock]⟩)

theorem numLetter_any (d : Nat) (hd : d < 32) (w : World) : Calls Try.prog 76 #[.int .i64 (d : Int)] w fun e w' => e = .returned (.string (bs [letter d])) ∧ w = w' := by
  have d1 : decide ((d : Int) < 0) = false := by simp
  have d2 : decide ((31 : Int) < d) = false := by simp; omega
  go_enter Try.func76, Try.ntmps76
  go_wp2_with fail
  refine (letters_any _).mono ?_
  rintro e _ ⟨rfl, rfl⟩
  have hs := lettersB_size
  have he := lettersB_cut d hd
  go_wp2_with fail
  go_ret
  exact ⟨rfl, rfl⟩
theorem letters_get (d : Nat) (h : d < (⟨#[97, 98, 99, 100, 101, 102, 103, 104, 105, 106, 107, 108, 109, 110, 111, 112, 65, 66, 67, 68, 69, 70, 71, 72, 73, 74, 75, 76, 77, 78, 79, 80]⟩ : ByteArray).size) : (⟨#[97, 98, 99, 100, 101, 102, 103, 104, 105, 106, 107, 108, 109, 110, 111, 112, 65, 66, 67, 68, 69, 70, 71, 72, 73, 74, 75, 76, 77, 78, 79, 80]⟩ : ByteArray)[d]'h = letter d := by
  have h2 : d < 32 := h
  have k : ∀ d : Nat, d < 32 → (#[97, 98, 99, 100, 101, 102, 103, 104, 105, 106, 107, 108, 109, 110, 111, 112, 65, 66, 67, 68, 69, 70, 71, 72, 73, 74, 75, 76, 77, 78, 79, 80] : Array UInt8)[d]? = some (letter d) := by decide +kernel
  have k2 := k d h2
  rw [Array.getElem?_eq_getElem (by simpa using h2)] at k2
  exact Option.some.inj k2
theorem letter_lo {d : Nat} (h : d < 16) : letter d = lo d := by unfold letter; rw [if_pos h]
theorem letter_hi (d : Nat) : letter (d % 16 + 16) = hi (d % 16) := by unfold letter; rw [if_neg (by omega), Nat.add_sub_cancel]
theorem imNumText_any (n : Int) (w : World) : Calls Try.prog 62 #[.int .i64 n] w fun e w' => e = .returned (.string (bs (numL n))) ∧ Below w.heap.size w w' := by
  by_cases h1 : NumIn n
  · obtain ⟨a1, a2⟩ := id h1
    have hz : numL n = digL (zig n) := by unfold numL; rw [if_pos h1]
    have hzl := zig_le h1
    have HZ := Lib.hid hz
    clear hz
    by_cases h0 : n < 0
    · have hzv : -2 * n + 1 = (zig n : Int) := by unfold zig; rw [if_pos h0]; omega
      go_enter Try.func62, Try.ntmps62
      go_wp2_with fail
      refine (imIn_any _ _).mono ?_
      rintro e _ ⟨rfl, rfl⟩
      rw [decide_eq_true h1]
      go_wp2_with fail
      generalize zig n = v0 at *
      go_loopg [3] v0 (fun k s wr => ∃ l : Bytes, s = .int .i64 k ∧ k ≤ 2000001 ∧ l ++ digL k = digL v0 ∧ l.length ≤ 6 ∧ Bld w.heap.size w.heap.size l wr ∧ Below w.heap.size w wr)
      case atStart => exact ⟨[], rfl, hzl, rfl, by simp, Bld.new (Nat.le_refl _), by (repeat (first | with_reducible assumption | with_reducible exact Below.refl _ _ | with_reducible refine Below.setCell ?_ (by first | omega | (simp; done) | (simp; omega)) _ | with_reducible refine Below.alloc ?_ (by first | omega | (simp; done) | (simp; omega)) _ | with_reducible refine below_drewN ?_ _ | with_reducible refine Below.drew ?_))⟩
      case round =>
        obtain ⟨l, rfl, hv, hl, hll, hB, hb⟩ := hrel
        have hbs := hb.size
        by_cases h16 : gk < 16
        · have d1 : decide ((16 : Int) ≤ gk) = false := by simp; omega
          go_wp2_with fail
          rw [letters_get]
          refine (bldByte _ _ l (letter gk) _ hB (by omega) hbs).mono ?_
          rintro e w1 ⟨rfl, hB1, hb1, _⟩
          rw [letter_lo h16, ← digL_lt h16, hl] at hB1
          have hs1 := (hb.trans hb1).size
          go_wp2_with fail
          refine (bldRead _ _ _ _ hB1 hs1).mono ?_
          rintro e w2 ⟨rfl, hb2⟩
          go_wp2_with fail
          go_ret
          exact ⟨by rw [HZ.out]; rfl, (hb.trans hb1).trans hb2⟩
        · have d1 : decide ((16 : Int) ≤ gk) = true := by simp; omega
          go_wp2_with fail
          rw [letters_get]
          refine (bldByte _ _ l (letter (gk % 16 + 16)) _ hB (by omega) hbs).mono ?_
          rintro e w1 ⟨rfl, hB1, hb1, _⟩
          rw [letter_hi] at hB1
          rw [digL_ge h16, List.append_cons] at hl
          go_wp2_with fail
          go_roundg (gk / 16)
          case measure => omega
          case rel => exact ⟨l ++ [hi (gk % 16)], by go_num, by omega, hl, by
            have h1 := congrArg List.length hl
            have h2 := digL_pos (gk / 16)
            have h3 := digL_len 5 v0 (by omega)
            simp only [List.length_append] at h1 ⊢
            omega, hB1, hb.trans hb1⟩
    · have hzv : 2 * n = (zig n : Int) := by unfold zig; rw [if_neg h0]; omega
      go_enter Try.func62, Try.ntmps62
      go_wp2_with fail
      refine (imIn_any _ _).mono ?_
      rintro e _ ⟨rfl, rfl⟩
      rw [decide_eq_true h1]
      go_wp2_with fail
      generalize zig n = v0 at *
      go_loopg [3] v0 (fun k s wr => ∃ l : Bytes, s = .int .i64 k ∧ k ≤ 2000001 ∧ l ++ digL k = digL v0 ∧ l.length ≤ 6 ∧ Bld w.heap.size w.heap.size l wr ∧ Below w.heap.size w wr)
      case atStart => exact ⟨[], rfl, hzl, rfl, by simp, Bld.new (Nat.le_refl _), by (repeat (first | with_reducible assumption | with_reducible exact Below.refl _ _ | with_reducible refine Below.setCell ?_ (by first | omega | (simp; done) | (simp; omega)) _ | with_reducible refine Below.alloc ?_ (by first | omega | (simp; done) | (simp; omega)) _ | with_reducible refine below_drewN ?_ _ | with_reducible refine Below.drew ?_))⟩
      case round =>
        obtain ⟨l, rfl, hv, hl, hll, hB, hb⟩ := hrel
        have hbs := hb.size
        by_cases h16 : gk < 16
        · have d1 : decide ((16 : Int) ≤ gk) = false := by simp; omega
          go_wp2_with fail
          rw [letters_get]
          refine (bldByte _ _ l (letter gk) _ hB (by omega) hbs).mono ?_
          rintro e w1 ⟨rfl, hB1, hb1, _⟩
          rw [letter_lo h16, ← digL_lt h16, hl] at hB1
          have hs1 := (hb.trans hb1).size
          go_wp2_with fail
          refine (bldRead _ _ _ _ hB1 hs1).mono ?_
          rintro e w2 ⟨rfl, hb2⟩
          go_wp2_with fail
          go_ret
          exact ⟨by rw [HZ.out]; rfl, (hb.trans hb1).trans hb2⟩
        · have d1 : decide ((16 : Int) ≤ gk) = true := by simp; omega
          go_wp2_with fail
          rw [letters_get]
          refine (bldByte _ _ l (letter (gk % 16 + 16)) _ hB (by omega) hbs).mono ?_
          rintro e w1 ⟨rfl, hB1, hb1, _⟩
          rw [letter_hi] at hB1
          rw [digL_ge h16, List.append_cons] at hl
          go_wp2_with fail
          go_roundg (gk / 16)
          case measure => omega
          case rel => exact ⟨l ++ [hi (gk % 16)], by go_num, by omega, hl, by
            have h1 := congrArg List.length hl
            have h2 := digL_pos (gk / 16)
            have h3 := digL_len 5 v0 (by omega)
            simp only [List.length_append] at h1 ⊢
            omega, hB1, hb.trans hb1⟩
  · go_enter Try.func62, Try.ntmps62
    go_wp2_with fail
    refine (imIn_any _ _).mono ?_
    rintro e _ ⟨rfl, rfl⟩
    rw [decide_eq_false h1]
    go_wp2_with fail
    go_ret
    exact ⟨by unfold numL; rw [if_neg h1]; rfl, Below.refl _ _⟩
theorem spDigits_any : ∀ (m n : Nat) (w : World), n ≤ m → n ≤ 2000001 → Calls Try.prog 67 #[.int .i64 (n : Int)] w fun e w' => e = .returned (.string (bs (digL n))) ∧ w = w' := by
  intro m
  induction m with
  | zero =>
    intro n w hn _
    obtain rfl : n = 0 := by omega
    go_enter Try.func67, Try.ntmps67
    go_wp2_with fail
    refine (numLetter_any 0 (by omega) _).mono ?_
    rintro e _ ⟨rfl, rfl⟩
    go_wp2_with fail
    go_ret
    exact ⟨by rw [digL_lt (by omega)]; rfl, rfl⟩
  | succ m ih =>
    intro n w hn hb
    by_cases h : n < 16
    · have d1 : decide ((n : Int) < 16) = true := by simp; omega
      go_enter Try.func67, Try.ntmps67
      go_wp2_with fail
      refine (numLetter_any n (by omega) _).mono ?_
      rintro e _ ⟨rfl, rfl⟩
      go_wp2_with fail
      go_ret
      exact ⟨by rw [digL_lt h, letter_lo h]; rfl, rfl⟩
    · have d1 : decide ((n : Int) < 16) = false := by simp; omega
      have C1 := Lib.hid (fun w => numLetter_any (n % 16 + 16) (by omega) w)
      have C2 := Lib.hid (fun w => ih (n / 16) w (by omega) (by omega))
      clear ih
      go_enter Try.func67, Try.ntmps67
      go_wp2_with fail
      rw [show (16 : Int) + (n : Int) % 16 = ((n % 16 + 16 : Nat) : Int) from by omega]
      refine (C1.out _).mono ?_
      rintro e _ ⟨rfl, rfl⟩
      go_wp2_with fail
      rw [show (n : Int) / 16 = ((n / 16 : Nat) : Int) from by omega]
      refine (C2.out _).mono ?_
      rintro e _ ⟨rfl, rfl⟩
      have hcat : ¬ 9223372036854775807 < (bs [letter (n % 16 + 16)]).size + (bs (digL (n / 16))).size := by
        have := digL_len 5 (n / 16) (by omega)
        rw [bs_size, bs_size, List.length_singleton]
        omega
      go_wp2_with fail
      go_ret
      exact ⟨ret_cat (by rw [digL_ge h, letter_hi]; rfl), rfl⟩

theorem spNumText_any (n : Int) (w : World) : Calls Try.prog 59 #[.int .i64 n] w fun e w' => e = .returned (.string (bs (numL n))) ∧ w = w' := by
  by_cases h1 : NumIn n
  · obtain ⟨a1, a2⟩ := id h1
    have hz : numL n = digL (zig n) := by unfold numL; rw [if_pos h1]
    have hzl := zig_le h1
    have HZ := Lib.hid hz
    clear hz
    by_cases h0 : n < 0
    · have hzv : -2 * n + 1 = (zig n : Int) := by unfold zig; rw [if_pos h0]; omega
      go_enter Try.func59, Try.ntmps59
      go_wp2_with fail
      refine (spIn_any _ _).mono ?_
      rintro e _ ⟨rfl, rfl⟩
      rw [decide_eq_true h1]
      go_wp2_with fail
      refine (spDigits_any _ _ _ (Nat.le_refl _) hzl).mono ?_
      rintro e _ ⟨rfl, rfl⟩
      go_wp2_with fail
      go_ret
      exact ⟨by rw [HZ.out]; rfl, rfl⟩
    · have hzv : 2 * n = (zig n : Int) := by unfold zig; rw [if_neg h0]; omega
      go_enter Try.func59, Try.ntmps59
      go_wp2_with fail
      refine (spIn_any _ _).mono ?_
      rintro e _ ⟨rfl, rfl⟩
      rw [decide_eq_true h1]
      go_wp2_with fail
      refine (spDigits_any _ _ _ (Nat.le_refl _) hzl).mono ?_
      rintro e _ ⟨rfl, rfl⟩
      go_wp2_with fail
      go_ret
      exact ⟨by rw [HZ.out]; rfl, rfl⟩
  · go_enter Try.func59, Try.ntmps59
    go_wp2_with fail
    refine (spIn_any _ _).mono ?_
    rintro e _ ⟨rfl, rfl⟩
    rw [decide_eq_false h1]
    go_wp2_with fail
    go_ret
    exact ⟨by unfold numL; rw [if_neg h1]; rfl, rfl⟩
end Go.Proofs.Ytlmjaoignmgakaa
