/- Plain Lean of texts: letters of numbers, the text of a map. No program in sight, no condition. -/
import Derived.Test.YtgfbjpmbaibnoaaGreatDoorMaps
import Derived.Test.YtgfbjpmbaibnoaaGreatDoorBas
import Derived.Shelf.Strings.BuilderK
import Derived.Test.YtgfbjpmbaibnoaaGreatDoorZm8
namespace Go.Proofs.YtgfbjpmbaibnoaaGreatDoor
set_option maxRecDepth 100000
set_option linter.unusedSimpArgs false
set_option linter.unusedVariables false
open Go.RowKit
/-! ### letters of numbers -/
def lo (k : Nat) : UInt8 := UInt8.ofNat (97 + k)
def hi (k : Nat) : UInt8 := UInt8.ofNat (65 + k)
def digL (n : Nat) : Bytes := if n < 16 then [lo n] else hi (n % 16) :: digL (n / 16)
termination_by n
decreasing_by omega
theorem digL_lt {n : Nat} (h : n < 16) : digL n = [lo n] := by rw [digL, if_pos h]
theorem digL_ge {n : Nat} (h : ¬ n < 16) : digL n = hi (n % 16) :: digL (n / 16) := by rw [digL, if_neg h]
theorem digL_len : ∀ (k n : Nat), n < 16 ^ (k + 1) → (digL n).length ≤ k + 1
  | 0, n, h => by rw [digL_lt (by simpa using h)]; simp
  | k + 1, n, h => by
    by_cases h1 : n < 16
    · rw [digL_lt h1]; simp
    · rw [digL_ge h1, List.length_cons]
      have h2 : n / 16 < 16 ^ (k + 1) := Nat.div_lt_of_lt_mul (by rw [Nat.pow_succ] at h; omega)
      have := digL_len k _ h2
      omega
theorem digL_pos (n : Nat) : 0 < (digL n).length := by
  by_cases h1 : n < 16
  · rw [digL_lt h1]; simp
  · rw [digL_ge h1]; simp
def NumIn (n : Int) : Prop := -1000000 ≤ n ∧ n ≤ 1000000
instance (n : Int) : Decidable (NumIn n) := inferInstanceAs (Decidable (_ ∧ _))
/-- a number, turned so that it is not below 0 -/
def zig (n : Int) : Nat := if n < 0 then (-2 * n + 1).toNat else (2 * n).toNat
def numL (n : Int) : Bytes := if NumIn n then digL (zig n) else []
theorem zig_le {n : Int} (h : NumIn n) : zig n ≤ 2000001 := by
  unfold zig
  have := h.1; have := h.2
  split <;> omega
theorem numL_len (n : Int) : (numL n).length ≤ 6 := by
  unfold numL
  split
  · next h => exact digL_len 5 _ (by have := zig_le h; omega)
  · simp
/-- the letters of numbers -/
def numsL (l : List Int) : Bytes := if (∀ n ∈ l, NumIn n) then l.flatMap numL else []
theorem numsL_len (l : List Int) : (numsL l).length ≤ l.length * 6 := by
  unfold numsL
  split
  · rename_i h
    clear h
    induction l with
    | nil => simp
    | cons a l ih =>
      rw [List.flatMap_cons, List.length_append, List.length_cons, Nat.add_mul]
      have := numL_len a
      omega
  · simp

/-! ### the text of a map -/
/-- where the writing stands ahead of the element i -/
def stAt (l : List Sg) (i : Nat) : Sg := if i = 0 then ((0, 0), (0, 0)) else (l[i - 1]?).getD ((0, 0), (0, 0))
/-- what is written of an element, by the one ahead of it -/
def pieceL (first : Bool) (t s : Sg) : Bytes :=
  (if t.1.1 < s.1.1 then List.replicate (s.1.1 - t.1.1).toNat 61 else if first then [] else [44]) ++ numsL [s.1.2 - (if t.1.1 < s.1.1 then 0 else t.1.2), s.2.1 - t.2.1, s.2.2 - t.2.2]
def textUp (l : List Sg) : Nat → Bytes
  | 0 => []
  | i + 1 => textUp l i ++ (match l[i]? with | some s => pieceL (decide (i = 0)) (stAt l i) s | none => [])
def textL (l : List Sg) : Bytes := textUp l l.length
noncomputable def mapTextL (l : List Sg) : Bytes := if segsOkB l = true then textL l else []
theorem textUp_step {l : List Sg} {i : Nat} {s : Sg} (h : l[i]? = some s) : textUp l (i + 1) = textUp l i ++ pieceL (decide (i = 0)) (stAt l i) s := by simp [textUp, h]
theorem stAt_succ {l : List Sg} {i : Nat} {s : Sg} (h : l[i]? = some s) : stAt l (i + 1) = s := by simp [stAt, h]
theorem stAt_ok {l : List Sg} (hl : SegsOk l) {i : Nat} (hi : i ≤ l.length) : PosOk (stAt l i).1 ∧ PosOk (stAt l i).2 := by
  unfold stAt
  by_cases h0 : i = 0
  · rw [if_pos h0]; decide
  · rw [if_neg h0]
    have hs : l[i - 1]? = some (l[i - 1]'(by omega)) := List.getElem?_eq_getElem _
    rw [hs]
    have := hl.1 (i - 1) (by omega) _ hs
    exact ⟨this.1, this.2.1⟩
/-- the lines only grow -/
theorem stAt_le {l : List Sg} (hl : SegsOk l) {i : Nat} {s : Sg} (h : l[i]? = some s) : (stAt l i).1.1 ≤ s.1.1 := by
  have hi : i < l.length := (List.getElem?_eq_some_iff.1 h).1
  have hg := hl.1 i hi s h
  unfold stAt
  by_cases h0 : i = 0
  · rw [if_pos h0]; exact hg.1.1
  · rw [if_neg h0]
    have hs : l[i - 1]? = some (l[i - 1]'(by omega)) := List.getElem?_eq_getElem _
    rw [hs]
    rcases hg.2.2 _ (by omega) hs with h1 | h1
    · exact Int.le_of_lt h1
    · exact Int.le_of_eq h1.1
theorem pieceL_len {first : Bool} {t s : Sg} (h1 : PosOk s.1) (h2 : PosOk t.1) : (pieceL first t s).length ≤ 40 := by
  have a := h1.2.1
  have b := h2.1
  unfold pieceL
  have h := numsL_len [s.1.2 - (if t.1.1 < s.1.1 then 0 else t.1.2), s.2.1 - t.2.1, s.2.2 - t.2.2]
  simp only [List.length_cons, List.length_nil] at h
  rw [List.length_append]
  split
  · rw [List.length_replicate]
    rename_i hlt
    rw [if_pos hlt] at h
    omega
  · rename_i hlt
    rw [if_neg hlt] at h
    split
    · simp only [List.length_nil]; omega
    · simp only [List.length_cons, List.length_nil]; omega
theorem textUp_len {l : List Sg} (hl : SegsOk l) : ∀ i, i ≤ l.length → (textUp l i).length ≤ i * 40
  | 0, _ => by simp [textUp]
  | i + 1, h => by
    have hi : i < l.length := by omega
    have hs : l[i]? = some l[i] := List.getElem?_eq_getElem hi
    rw [textUp_step hs, List.length_append]
    have h1 := textUp_len hl i (by omega)
    have h2 := pieceL_len (first := decide (i = 0)) (t := stAt l i) (s := l[i]) (hl.1 i hi _ hs).1 (stAt_ok hl (by omega)).1
    omega
end Go.Proofs.YtgfbjpmbaibnoaaGreatDoor


/- The contracts of strings.Builder, as theorems of this program: by the kit's own, proved once. No condition. -/
namespace Go.Proofs.YtgfbjpmbaibnoaaGreatDoor
set_option maxRecDepth 100000
set_option linter.unusedSimpArgs false
set_option linter.unusedVariables false
open Go.RowKit Go.Shelf

def renB : Go.Shelf.Ren := ⟨fun | 166 => 144 | 167 => 226 | 169 => 145 | 240 => 185 | 276 => 212 | n => n, fun | 0 => 0 | 3 => 3 | 4 => 4 | 5 => 5 | 9 => 9 | 20 => 20 | 37 => 22 | 70 => 153 | 72 => 155 | 75 => 158 | 164 => 203 | 127 => 188 | 80 => 105 | n => n, fun | n => n⟩
theorem lays166 : Go.Proofs.Lays.n166 Tryz.prog renB := {
  mixed := by kernel_rfl
  f166 := Tryz.func144.trans (congrArg some (by kernel_rfl))
  f240 := Tryz.func185.trans (congrArg some (by kernel_rfl))
  f276 := Tryz.func212.trans (congrArg some (by kernel_rfl))
  t0 := Tryz.underlying0
  a0 := Tryz.isAgg0
  z0 := Tryz.sizeOf0
  v0 := Tryz.zeroValue0
  t3 := Tryz.underlying3
  a3 := Tryz.isAgg3
  z3 := Tryz.sizeOf3
  v3 := Tryz.zeroValue3
  t4 := Tryz.underlying4
  a4 := Tryz.isAgg4
  z4 := Tryz.sizeOf4
  v4 := Tryz.zeroValue4
  t9 := Tryz.underlying9
  a9 := Tryz.isAgg9
  z9 := Tryz.sizeOf9
  v9 := Tryz.zeroValue9
  t20 := Tryz.underlying20
  a20 := Tryz.isAgg20
  z20 := Tryz.sizeOf20
  v20 := Tryz.zeroValue20
  t37 := Tryz.underlying22
  a37 := Tryz.isAgg22
  z37 := Tryz.sizeOf22
  v37 := Tryz.zeroValue22
  t70 := Tryz.underlying153
  a70 := Tryz.isAgg153
  z70 := Tryz.sizeOf153
  v70 := Tryz.zeroValue153
  t72 := Tryz.underlying155
  a72 := Tryz.isAgg155
  z72 := Tryz.sizeOf155
  v72 := Tryz.zeroValue155
  t75 := Tryz.underlying158
  a75 := Tryz.isAgg158
  z75 := Tryz.sizeOf158
  v75 := Tryz.zeroValue158
  t164 := Tryz.underlying203
  a164 := Tryz.isAgg203
  z164 := Tryz.sizeOf203
  v164 := Tryz.zeroValue203 }
theorem lays167 : Go.Proofs.Lays.n167 Tryz.prog renB := {
  mixed := by kernel_rfl
  f167 := Tryz.func226.trans (congrArg some (by kernel_rfl))
  f240 := Tryz.func185.trans (congrArg some (by kernel_rfl))
  f276 := Tryz.func212.trans (congrArg some (by kernel_rfl))
  t0 := Tryz.underlying0
  a0 := Tryz.isAgg0
  z0 := Tryz.sizeOf0
  v0 := Tryz.zeroValue0
  t4 := Tryz.underlying4
  a4 := Tryz.isAgg4
  z4 := Tryz.sizeOf4
  v4 := Tryz.zeroValue4
  t5 := Tryz.underlying5
  a5 := Tryz.isAgg5
  z5 := Tryz.sizeOf5
  v5 := Tryz.zeroValue5
  t9 := Tryz.underlying9
  a9 := Tryz.isAgg9
  z9 := Tryz.sizeOf9
  v9 := Tryz.zeroValue9
  t20 := Tryz.underlying20
  a20 := Tryz.isAgg20
  z20 := Tryz.sizeOf20
  v20 := Tryz.zeroValue20
  t37 := Tryz.underlying22
  a37 := Tryz.isAgg22
  z37 := Tryz.sizeOf22
  v37 := Tryz.zeroValue22
  t70 := Tryz.underlying153
  a70 := Tryz.isAgg153
  z70 := Tryz.sizeOf153
  v70 := Tryz.zeroValue153
  t72 := Tryz.underlying155
  a72 := Tryz.isAgg155
  z72 := Tryz.sizeOf155
  v72 := Tryz.zeroValue155
  t75 := Tryz.underlying158
  a75 := Tryz.isAgg158
  z75 := Tryz.sizeOf158
  v75 := Tryz.zeroValue158
  t164 := Tryz.underlying203
  a164 := Tryz.isAgg203
  z164 := Tryz.sizeOf203
  v164 := Tryz.zeroValue203 }
theorem lays169 : Go.Proofs.Lays.n169 Tryz.prog renB := {
  mixed := by kernel_rfl
  f169 := Tryz.func145.trans (congrArg some (by kernel_rfl))
  t0 := Tryz.underlying0
  a0 := Tryz.isAgg0
  z0 := Tryz.sizeOf0
  v0 := Tryz.zeroValue0
  t3 := Tryz.underlying3
  a3 := Tryz.isAgg3
  z3 := Tryz.sizeOf3
  v3 := Tryz.zeroValue3
  t9 := Tryz.underlying9
  a9 := Tryz.isAgg9
  z9 := Tryz.sizeOf9
  v9 := Tryz.zeroValue9
  t37 := Tryz.underlying22
  a37 := Tryz.isAgg22
  z37 := Tryz.sizeOf22
  v37 := Tryz.zeroValue22
  t70 := Tryz.underlying153
  a70 := Tryz.isAgg153
  z70 := Tryz.sizeOf153
  v70 := Tryz.zeroValue153
  t72 := Tryz.underlying155
  a72 := Tryz.isAgg155
  z72 := Tryz.sizeOf155
  v72 := Tryz.zeroValue155
  t127 := Tryz.underlying188
  a127 := Tryz.isAgg188
  z127 := Tryz.sizeOf188
  v127 := Tryz.zeroValue188 }
theorem extraB : Builder.Extra Tryz.prog renB := {
  sizeBuilder := by kernel_rfl
  liesBuilder := by kernel_rfl
  t5 := Tryz.underlying5
  a5 := Tryz.isAgg5
  z5 := Tryz.sizeOf5
  v5 := Tryz.zeroValue5
  infoByte := by kernel_rfl
  cellsByte := by kernel_rfl
  sizeByte := by kernel_rfl
  neB5 := by decide }

/-- A builder at block b, its row from B on, that holds some bytes. -/
def Bld (B b : Nat) (l : Bytes) (w : World) : Prop := Lib.IsBuilderF 155 5 B b (Lib.byteCells l) w
/-- what a write into the builder at b keeps -/
abbrev Kept (b : Nat) (w w' : World) : Prop := Lib.OthersKept 5 (some b) w w'

theorem strCells_bs (l : Bytes) : Lib.strCells (bs l) = Lib.byteCells l := by
  simp [Lib.strCells, Lib.byteCells, bs]
theorem bldByte (B b : Nat) (l : Bytes) (c : UInt8) (w : World) (h : Bld B b l w) (hlen : l.length + 1 ≤ 140737488355328) (hBw : B ≤ w.heap.size) :
    Calls Tryz.prog 226 #[.pointer (some ⟨b, 0, none⟩), .int .u8 c.toNat] w fun e w' => e = .returned .nilIface ∧ Bld B b (l ++ [c]) w' ∧ Below B w w' ∧ Kept b w w' :=
  (Any.Builder_WriteByte_k lays167 extraB B b _ _ w h (by simpa [Lib.byteCells] using hlen) hBw).mono fun _ _ ⟨he, hb, hB, hk⟩ => ⟨he, .inr (by rw [show Lib.byteCells (l ++ [c]) = Lib.byteCells l ++ [.int .u8 c.toNat] from by simp [Lib.byteCells]]; exact hb), hB, hk⟩
theorem bldString (B b : Nat) (l m : Bytes) (w : World) (h : Bld B b l w) (hlen : l.length + m.length ≤ 140737488355328) (hBw : B ≤ w.heap.size) :
    Calls Tryz.prog 144 #[.pointer (some ⟨b, 0, none⟩), .string (bs m)] w fun e w' => e = .returned (.tuple #[.int .i64 m.length, .nilIface]) ∧ Bld B b (l ++ m) w' ∧ Below B w w' ∧ Kept b w w' :=
  (Any.Builder_WriteString_k lays166 extraB B b _ (bs m) w h (by rw [bs_size]; simpa [Lib.byteCells] using hlen) hBw).mono fun _ _ ⟨he, hb, hB, hk⟩ => ⟨by rw [he, bs_size], .inr (by rw [strCells_bs] at hb; rw [show Lib.byteCells (l ++ m) = Lib.byteCells l ++ Lib.byteCells m from by simp [Lib.byteCells]]; exact hb), hB, hk⟩
theorem bldRead (B b : Nat) (l : Bytes) (w : World) (h : Bld B b l w) (hBw : B ≤ w.heap.size) :
    Calls Tryz.prog 145 #[.pointer (some ⟨b, 0, none⟩)] w fun e w' => e = .returned (.string (bs l)) ∧ Below B w w' :=
  (Any.Builder_String_any_k lays169 extraB B b l w h hBw).mono fun _ _ ⟨he, _, hB, _⟩ => ⟨he, hB⟩
end Go.Proofs.YtgfbjpmbaibnoaaGreatDoor


/- The letters of numbers: the program's and the reference's, as one plain function. -/
namespace Go.Proofs.YtgfbjpmbaibnoaaGreatDoor
set_option maxRecDepth 100000
set_option linter.unusedSimpArgs false
set_option linter.unusedVariables false
open Go.RowKit

def letter (d : Nat) : UInt8 := if d < 16 then lo d else hi (d - 16)

theorem spIn_any (n : Int) (w : World) : Calls Tryz.prog 205 #[.int .i64 n] w fun e w' => e = .returned (.bool (decide (NumIn n))) ∧ w = w' := by
  by_cases h1 : -1000000 ≤ n
  · go_enter Tryz.func205, Tryz.ntmps205
    go_wp2
    go_ret
    exact ⟨ret_bool (by first | rfl | (rw [Bool.eq_iff_iff]; (try simp only [decide_eq_true_eq]); first | (simp [NumIn]; done) | (simp [NumIn]; omega))), rfl⟩
  · have d1 : decide (-1000000 ≤ n) = false := by simpa using h1
    go_enter Tryz.func205, Tryz.ntmps205
    go_wp2
    go_ret
    exact ⟨ret_bool (by first | rfl | (rw [Bool.eq_iff_iff]; (try simp only [decide_eq_true_eq]); first | (simp [NumIn]; done) | (simp [NumIn]; omega))), rfl⟩
theorem imIn_any (n : Int) (w : World) : Calls Tryz.prog 202 #[.int .i64 n] w fun e w' => e = .returned (.bool (decide (NumIn n))) ∧ w = w' := by
  go_enter Tryz.func202, Tryz.ntmps202
  go_wp2_with fail
  refine (in_any _ _ _ _).mono ?_
  rintro e _ ⟨rfl, rfl⟩
  go_wp2_with fail
  go_ret
  exact ⟨ret_bool (by first | rfl | (rw [Bool.eq_iff_iff]; (try simp only [decide_eq_true_eq]); first | (simp [NumIn]; done) | (simp [NumIn]; omega))), rfl⟩
def lettersB : ByteArray := bs ((List.range 32).map letter)
theorem lettersB_size : lettersB.size = 32 := by unfold lettersB; rw [bs_size]; simp
theorem lettersB_cut : ∀ d : Nat, d < 32 → lettersB.extract d (d + 1) = bs [letter d] := by
  intro d hd
  apply ByteArray.ext
  have h : ∀ d, d < 32 → (lettersB.extract d (d + 1)).data = (bs [letter d]).data := by decide +kernel
  exact h d hd
theorem letters_any (w : World) : Calls Tryz.prog 254 #[] w fun e w' => e = .returned (.string lettersB) ∧ w = w' := by
  go_enter Tryz.func254, Tryz.ntmps254
  go_wp2
  go_ret
  exact ⟨congrArg Ending.returned (congrArg Value.string (by kernel_rfl)), rfl⟩
theorem Bld.new {B : Nat} {w : World} (h : B ≤ w.heap.size) : Bld B w.heap.size [] (w.alloc (.cells #[.pointer none, .slice none 0 0] 155)) :=
  Lib.IsBuilderF.of (.inl ⟨h, _, heap_alloc_new w _, World.ownsRow_nil _ _ _ _, by simp [Value.ownBlock]⟩)

theorem numLetter_any (d : Nat) (hd : d < 32) (w : World) : Calls Tryz.prog 251 #[.int .i64 (d : Int)] w fun e w' => e = .returned (.string (bs [letter d])) ∧ w = w' := by
  have d1 : decide ((d : Int) < 0) = false := by simp
  have d2 : decide ((31 : Int) < d) = false := by simp; omega
  go_enter Tryz.func251, Tryz.ntmps251
  go_wp2_with fail
  refine (letters_any _).mono ?_
  rintro e _ ⟨rfl, rfl⟩
  have hs := lettersB_size
  have he := lettersB_cut d hd
  go_wp2_with fail
  go_ret
  exact ⟨rfl, rfl⟩
theorem letters_get (d : Nat) (h : d < (⟨#[97, 98, 99, 100, 101, 102, 103, 104, 105, 106, 107, 108, 109, 110, 111, 112, 65, 66, 67, 68, 69, 70, 71, 72, 73, 74, 75, 76, 77, 78, 79, 80]⟩ : ByteArray).size) : (⟨#[97, 98, 99, 100, 101, 102, 103, 104, 105, 106, 107, 108, 109, 110, 111, 112, 65, 66, 67, 68, 69, 70, 71, 72, 73, 74, 75, 76, 77, 78, 79, 80]⟩ : ByteArray)[d]'h = letter d := by
  have h2 : d < 32 := h
  have k : ∀ d : Nat, d < 32 → (#[97, 98, 99, 100, 101, 102, 103, 104, 105, 106, 107, 108, 109, 110, 111, 112, 65, 66, 67, 68, 69, 70, 71, 72, 73, 74, 75, 76, 77, 78, 79, 80] : Array UInt8)[d]? = some (letter d) := by decide +kernel
  have k2 := k d h2
  rw [Array.getElem?_eq_getElem (by simpa using h2)] at k2
  exact Option.some.inj k2
theorem letter_lo {d : Nat} (h : d < 16) : letter d = lo d := by unfold letter; rw [if_pos h]
theorem letter_hi (d : Nat) : letter (d % 16 + 16) = hi (d % 16) := by unfold letter; rw [if_neg (by omega), Nat.add_sub_cancel]
theorem imNumText_any (n : Int) (w : World) : Calls Tryz.prog 203 #[.int .i64 n] w fun e w' => e = .returned (.string (bs (numL n))) ∧ Below w.heap.size w w' := by
  by_cases h1 : NumIn n
  · obtain ⟨a1, a2⟩ := id h1
    have hz : numL n = digL (zig n) := by unfold numL; rw [if_pos h1]
    have hzl := zig_le h1
    have HZ := Lib.hid hz
    clear hz
    by_cases h0 : n < 0
    · have hzv : -2 * n + 1 = (zig n : Int) := by unfold zig; rw [if_pos h0]; omega
      go_enter Tryz.func203, Tryz.ntmps203
      go_wp2_with fail
      refine (imIn_any _ _).mono ?_
      rintro e _ ⟨rfl, rfl⟩
      rw [decide_eq_true h1]
      go_wp2_with fail
      generalize zig n = v0 at *
      go_loopg [3] v0 (fun k s wr => ∃ l : Bytes, s = .int .i64 k ∧ k ≤ 2000001 ∧ l ++ digL k = digL v0 ∧ l.length ≤ 6 ∧ Bld w.heap.size w.heap.size l wr ∧ Below w.heap.size w wr)
      case atStart => exact ⟨[], rfl, hzl, rfl, by simp, Bld.new (Nat.le_refl _), by (repeat (first | with_reducible assumption | with_reducible exact Below.refl _ _ | with_reducible refine Below.setCell ?_ (by first | omega | (simp; done) | (simp; omega)) _ | with_reducible refine Below.alloc ?_ (by first | omega | (simp; done) | (simp; omega)) _ | with_reducible refine below_drewN ?_ _ | with_reducible refine Below.drew ?_))⟩
      case round =>
        obtain ⟨l, rfl, hv, hl, hll, hB, hb⟩ := hrel
        have hbs := hb.size
        by_cases h16 : gk < 16
        · have d1 : decide ((16 : Int) ≤ gk) = false := by simp; omega
          go_wp2_with fail
          rw [letters_get]
          refine (bldByte _ _ l (letter gk) _ hB (by omega) hbs).mono ?_
          rintro e w1 ⟨rfl, hB1, hb1, _⟩
          rw [letter_lo h16, ← digL_lt h16, hl] at hB1
          have hs1 := (hb.trans hb1).size
          go_wp2_with fail
          refine (bldRead _ _ _ _ hB1 hs1).mono ?_
          rintro e w2 ⟨rfl, hb2⟩
          go_wp2_with fail
          go_ret
          exact ⟨by rw [HZ.out]; rfl, (hb.trans hb1).trans hb2⟩
        · have d1 : decide ((16 : Int) ≤ gk) = true := by simp; omega
          go_wp2_with fail
          rw [letters_get]
          refine (bldByte _ _ l (letter (gk % 16 + 16)) _ hB (by omega) hbs).mono ?_
          rintro e w1 ⟨rfl, hB1, hb1, _⟩
          rw [letter_hi] at hB1
          rw [digL_ge h16, List.append_cons] at hl
          go_wp2_with fail
          go_roundg (gk / 16)
          case measure => omega
          case rel => exact ⟨l ++ [hi (gk % 16)], by go_num, by omega, hl, by
            have h1 := congrArg List.length hl
            have h2 := digL_pos (gk / 16)
            have h3 := digL_len 5 v0 (by omega)
            simp only [List.length_append] at h1 ⊢
            omega, hB1, hb.trans hb1⟩
    · have hzv : 2 * n = (zig n : Int) := by unfold zig; rw [if_neg h0]; omega
      go_enter Tryz.func203, Tryz.ntmps203
      go_wp2_with fail
      refine (imIn_any _ _).mono ?_
      rintro e _ ⟨rfl, rfl⟩
      rw [decide_eq_true h1]
      go_wp2_with fail
      generalize zig n = v0 at *
      go_loopg [3] v0 (fun k s wr => ∃ l : Bytes, s = .int .i64 k ∧ k ≤ 2000001 ∧ l ++ digL k = digL v0 ∧ l.length ≤ 6 ∧ Bld w.heap.size w.heap.size l wr ∧ Below w.heap.size w wr)
      case atStart => exact ⟨[], rfl, hzl, rfl, by simp, Bld.new (Nat.le_refl _), by (repeat (first | with_reducible assumption | with_reducible exact Below.refl _ _ | with_reducible refine Below.setCell ?_ (by first | omega | (simp; done) | (simp; omega)) _ | with_reducible refine Below.alloc ?_ (by first | omega | (simp; done) | (simp; omega)) _ | with_reducible refine below_drewN ?_ _ | with_reducible refine Below.drew ?_))⟩
      case round =>
        obtain ⟨l, rfl, hv, hl, hll, hB, hb⟩ := hrel
        have hbs := hb.size
        by_cases h16 : gk < 16
        · have d1 : decide ((16 : Int) ≤ gk) = false := by simp; omega
          go_wp2_with fail
          rw [letters_get]
          refine (bldByte _ _ l (letter gk) _ hB (by omega) hbs).mono ?_
          rintro e w1 ⟨rfl, hB1, hb1, _⟩
          rw [letter_lo h16, ← digL_lt h16, hl] at hB1
          have hs1 := (hb.trans hb1).size
          go_wp2_with fail
          refine (bldRead _ _ _ _ hB1 hs1).mono ?_
          rintro e w2 ⟨rfl, hb2⟩
          go_wp2_with fail
          go_ret
          exact ⟨by rw [HZ.out]; rfl, (hb.trans hb1).trans hb2⟩
        · have d1 : decide ((16 : Int) ≤ gk) = true := by simp; omega
          go_wp2_with fail
          rw [letters_get]
          refine (bldByte _ _ l (letter (gk % 16 + 16)) _ hB (by omega) hbs).mono ?_
          rintro e w1 ⟨rfl, hB1, hb1, _⟩
          rw [letter_hi] at hB1
          rw [digL_ge h16, List.append_cons] at hl
          go_wp2_with fail
          go_roundg (gk / 16)
          case measure => omega
          case rel => exact ⟨l ++ [hi (gk % 16)], by go_num, by omega, hl, by
            have h1 := congrArg List.length hl
            have h2 := digL_pos (gk / 16)
            have h3 := digL_len 5 v0 (by omega)
            simp only [List.length_append] at h1 ⊢
            omega, hB1, hb.trans hb1⟩
  · go_enter Tryz.func203, Tryz.ntmps203
    go_wp2_with fail
    refine (imIn_any _ _).mono ?_
    rintro e _ ⟨rfl, rfl⟩
    rw [decide_eq_false h1]
    go_wp2_with fail
    go_ret
    exact ⟨by unfold numL; rw [if_neg h1]; rfl, Below.refl _ _⟩
theorem spDigits_any : ∀ (m n : Nat) (w : World), n ≤ m → n ≤ 2000001 → Calls Tryz.prog 227 #[.int .i64 (n : Int)] w fun e w' => e = .returned (.string (bs (digL n))) ∧ w = w' := by
  intro m
  induction m with
  | zero =>
    intro n w hn _
    obtain rfl : n = 0 := by omega
    go_enter Tryz.func227, Tryz.ntmps227
    go_wp2_with fail
    refine (numLetter_any 0 (by omega) _).mono ?_
    rintro e _ ⟨rfl, rfl⟩
    go_wp2_with fail
    go_ret
    exact ⟨by rw [digL_lt (by omega)]; rfl, rfl⟩
  | succ m ih =>
    intro n w hn hb
    by_cases h : n < 16
    · have d1 : decide ((n : Int) < 16) = true := by simp; omega
      go_enter Tryz.func227, Tryz.ntmps227
      go_wp2_with fail
      refine (numLetter_any n (by omega) _).mono ?_
      rintro e _ ⟨rfl, rfl⟩
      go_wp2_with fail
      go_ret
      exact ⟨by rw [digL_lt h, letter_lo h]; rfl, rfl⟩
    · have d1 : decide ((n : Int) < 16) = false := by simp; omega
      have C1 := Lib.hid (fun w => numLetter_any (n % 16 + 16) (by omega) w)
      have C2 := Lib.hid (fun w => ih (n / 16) w (by omega) (by omega))
      clear ih
      go_enter Tryz.func227, Tryz.ntmps227
      go_wp2_with fail
      rw [show (16 : Int) + (n : Int) % 16 = ((n % 16 + 16 : Nat) : Int) from by omega]
      refine (C1.out _).mono ?_
      rintro e _ ⟨rfl, rfl⟩
      go_wp2_with fail
      rw [show (n : Int) / 16 = ((n / 16 : Nat) : Int) from by omega]
      refine (C2.out _).mono ?_
      rintro e _ ⟨rfl, rfl⟩
      have hcat : ¬ 9223372036854775807 < (bs [letter (n % 16 + 16)]).size + (bs (digL (n / 16))).size := by
        have := digL_len 5 (n / 16) (by omega)
        rw [bs_size, bs_size, List.length_singleton]
        omega
      go_wp2_with fail
      go_ret
      exact ⟨ret_cat (by rw [digL_ge h, letter_hi]; rfl), rfl⟩

theorem spNumText_any (n : Int) (w : World) : Calls Tryz.prog 206 #[.int .i64 n] w fun e w' => e = .returned (.string (bs (numL n))) ∧ w = w' := by
  by_cases h1 : NumIn n
  · obtain ⟨a1, a2⟩ := id h1
    have hz : numL n = digL (zig n) := by unfold numL; rw [if_pos h1]
    have hzl := zig_le h1
    have HZ := Lib.hid hz
    clear hz
    by_cases h0 : n < 0
    · have hzv : -2 * n + 1 = (zig n : Int) := by unfold zig; rw [if_pos h0]; omega
      go_enter Tryz.func206, Tryz.ntmps206
      go_wp2_with fail
      refine (spIn_any _ _).mono ?_
      rintro e _ ⟨rfl, rfl⟩
      rw [decide_eq_true h1]
      go_wp2_with fail
      refine (spDigits_any _ _ _ (Nat.le_refl _) hzl).mono ?_
      rintro e _ ⟨rfl, rfl⟩
      go_wp2_with fail
      go_ret
      exact ⟨by rw [HZ.out]; rfl, rfl⟩
    · have hzv : 2 * n = (zig n : Int) := by unfold zig; rw [if_neg h0]; omega
      go_enter Tryz.func206, Tryz.ntmps206
      go_wp2_with fail
      refine (spIn_any _ _).mono ?_
      rintro e _ ⟨rfl, rfl⟩
      rw [decide_eq_true h1]
      go_wp2_with fail
      refine (spDigits_any _ _ _ (Nat.le_refl _) hzl).mono ?_
      rintro e _ ⟨rfl, rfl⟩
      go_wp2_with fail
      go_ret
      exact ⟨by rw [HZ.out]; rfl, rfl⟩
  · go_enter Tryz.func206, Tryz.ntmps206
    go_wp2_with fail
    refine (spIn_any _ _).mono ?_
    rintro e _ ⟨rfl, rfl⟩
    rw [decide_eq_false h1]
    go_wp2_with fail
    go_ret
    exact ⟨by unfold numL; rw [if_neg h1]; rfl, rfl⟩
end Go.Proofs.YtgfbjpmbaibnoaaGreatDoor


/- The letters of several numbers: the program's and the reference's. -/
namespace Go.Proofs.YtgfbjpmbaibnoaaGreatDoor
set_option maxRecDepth 100000
set_option linter.unusedSimpArgs false
set_option linter.unusedVariables false
open Go.RowKit

def intRowN (n : Int) : List Value := [.int .i64 n]
abbrev SlI := Sl intRowN 1
theorem int_at {W : World} {B n c : Nat} {A : Option Addr} {l : List Int} {i : Nat} (h : SlI W B (.slice A n c) l) (hi : i < l.length) :
    ∃ b o x, A = some ⟨b, o, none⟩ ∧ b < B ∧ l[i]? = some x ∧ (∀ y : Later B W, y.w'.cell? ⟨b, o + i, none⟩ = some (.int .i64 x)) := by
  obtain ⟨A', c', hv, hc, hm, hh⟩ := h
  obtain ⟨rfl, _, rfl⟩ : A = A' ∧ n = l.length ∧ c = c' := by injection hv; exact ⟨‹_›, ‹_›, ‹_›⟩
  obtain ⟨b, o, rfl, hb, hcell⟩ := hh (by omega)
  have hg : l[i]? = some l[i] := List.getElem?_eq_getElem hi
  refine ⟨b, o, l[i], rfl, hb, hg, fun y => ?_⟩
  have := (y.ok.cell (p := ⟨b, o + i * 1 + 0, none⟩) (by simpa using hb)).trans (hcell i _ hg 0 _ rfl)
  simpa using this

def AllIn (l : List Int) (i : Nat) : Prop := ∀ n ∈ l.take i, NumIn n
theorem AllIn.step {l : List Int} {i : Nat} {n : Int} (h : AllIn l i) (hg : l[i]? = some n) (hn : NumIn n) : AllIn l (i + 1) := by
  have hi : i < l.length := (List.getElem?_eq_some_iff.1 hg).1
  have hs : l[i] = n := by rw [List.getElem?_eq_getElem hi] at hg; exact Option.some.inj hg
  intro m hm
  rw [List.take_succ_eq_append_getElem hi, List.mem_append, List.mem_singleton] at hm
  rcases hm with hm | rfl
  · exact h m hm
  · rw [hs]; exact hn
theorem flat_step {l : List Int} {i : Nat} {n : Int} (hg : l[i]? = some n) : (l.take (i + 1)).flatMap numL = (l.take i).flatMap numL ++ numL n := by
  have hi : i < l.length := (List.getElem?_eq_some_iff.1 hg).1
  have hs : l[i] = n := by rw [List.getElem?_eq_getElem hi] at hg; exact Option.some.inj hg
  rw [List.take_succ_eq_append_getElem hi, List.flatMap_append, hs]
  simp
theorem numsFlat_len (l : List Int) (i : Nat) : ((l.take i).flatMap numL).length ≤ i * 6 := by
  have h : ∀ l : List Int, (l.flatMap numL).length ≤ l.length * 6 := by
    intro l
    induction l with
    | nil => simp
    | cons a l ih =>
      rw [List.flatMap_cons, List.length_append, List.length_cons, Nat.add_mul]
      have := numL_len a
      omega
  have h1 := h (l.take i)
  have h2 : (l.take i).length ≤ i := List.length_take_le _ _
  have h3 : (l.take i).length * 6 ≤ i * 6 := Nat.mul_le_mul_right _ h2
  omega
theorem numsL_yes {l : List Int} (h : AllIn l l.length) : numsL l = (l.take l.length).flatMap numL := by
  unfold numsL
  rw [List.take_length]
  unfold AllIn at h
  rw [List.take_length] at h
  rw [if_pos h]
theorem numsL_no {l : List Int} {i : Nat} {n : Int} (hg : l[i]? = some n) (hn : ¬ NumIn n) : numsL l = [] := by
  unfold numsL
  rw [if_neg]
  intro h
  exact hn (h n (List.mem_of_getElem? hg))

/-- a builder of w stays one in what comes later -/
theorem Bld.ext {B b : Nat} {l : Bytes} {w w' : World} (h : Bld B b l w) (hb : Below w.heap.size w w') : Bld B b l w' := by
  have hlt : ∀ x : Obj, w.heap[b]? = some x → b < w.heap.size := fun x hx => by
    rcases Nat.lt_or_ge b w.heap.size with h | h
    · exact h
    · rw [Array.getElem?_eq_none h] at hx; cases hx
  have hg : w.grownBy w' none := ⟨hb.os, hb.tape, hb.output, hb.size, fun k hk _ => hb.block k hk⟩
  rcases h with ⟨hB, v, hk, hown, hne⟩ | ⟨hB, v, hk, hown, hne⟩
  · exact .inl ⟨hB, v, (hb.block b (hlt _ hk)).trans hk, hown.kept hg (by cases v.ownBlock <;> simp), hne⟩
  · exact .inr ⟨hB, v, (hb.block b (hlt _ hk)).trans hk, hown.kept hg (by cases v.ownBlock <;> simp), hne⟩

theorem spNums_any (v : Value) (l : List Int) (w : World) (hv : SlI w w.heap.size v l) (hl : l.length ≤ 1000000) :
    Calls Tryz.prog 175 #[v] w fun e w' => e = .returned (.string (bs (numsL l))) ∧ w = w' := by
  obtain ⟨A, c, rfl, hc, hm⟩ := hv.val
  go_enter Tryz.func175, Tryz.ntmps175
  go_wp2
  go_loopg [3, 4] l.length (fun k s m wr => ∃ i : Nat, k = l.length - i ∧ i ≤ l.length ∧ s = .string (bs ((l.take i).flatMap numL)) ∧ m = .int .i64 i ∧ AllIn l i ∧ wr = w)
  case atStart => exact ⟨0, by omega, by omega, by simp [bs], rfl, fun n h => by simp at h, rfl⟩
  case round =>
    obtain ⟨i, hk, hin, rfl, rfl, ha, rfl⟩ := hrel
    have HK := Lib.hid (And.intro hk ha)
    clear hk ha
    by_cases hlt : i < l.length
    · obtain ⟨b, o, n, rfl, hb, hg, f0⟩ := int_at hv hlt
      have g0 := f0 ⟨wr, Below.refl _ _⟩
      have HG := Lib.hid hg
      clear f0 hg
      go_wp2_with fail
      refine (spIn_any _ _).mono ?_
      rintro e _ ⟨rfl, rfl⟩
      by_cases hn : NumIn n
      · rw [decide_eq_true hn]
        have HN := Lib.hid hn
        clear hn
        have hcat : ¬ 9223372036854775807 < (bs ((l.take i).flatMap numL)).size + (bs (numL n)).size := by
          have h1 := numsFlat_len l i
          have h2 := numL_len n
          rw [bs_size, bs_size]
          omega
        go_wp2_with fail
        refine (spNumText_any _ _).mono ?_
        rintro e _ ⟨rfl, rfl⟩
        go_wp2_with fail
        go_roundg (l.length - (i + 1))
        case measure => have := HK.out.1; omega
        case rel => exact ⟨i + 1, rfl, by omega, by rw [flat_step HG.out, ← bs_append], by go_num, HK.out.2.step HG.out HN.out, rfl⟩
      · rw [decide_eq_false hn]
        have HN := Lib.hid hn
        clear hn
        go_wp2_with fail
        go_ret
        exact ⟨ret_bs (a := []) (numsL_no HG.out HN.out).symm, rfl⟩
    · obtain rfl : i = l.length := by omega
      go_wp2_with fail
      go_ret
      exact ⟨ret_bs (numsL_yes HK.out.2).symm, rfl⟩
theorem imNums_any (v : Value) (l : List Int) (w : World) (hv : SlI w w.heap.size v l) (hl : l.length ≤ 1000000) :
    Calls Tryz.prog 173 #[v] w fun e w' => e = .returned (.string (bs (numsL l))) ∧ Below w.heap.size w w' := by
  obtain ⟨A, c, rfl, hc, hm⟩ := hv.val
  go_enter Tryz.func173, Tryz.ntmps173
  go_wp2
  go_loopg [8] l.length (fun k m wr => ∃ i : Nat, k = l.length - i ∧ i ≤ l.length ∧ m = .int .i64 i ∧ AllIn l i ∧ Bld w.heap.size w.heap.size ((l.take i).flatMap numL) wr ∧ Below w.heap.size w wr)
  case atStart => exact ⟨0, by omega, by omega, rfl, fun n h => by simp at h, by simpa using Bld.new (Nat.le_refl _), by (repeat (first | with_reducible assumption | with_reducible exact Below.refl _ _ | with_reducible refine Below.setCell ?_ (by first | omega | (simp; done) | (simp; omega)) _ | with_reducible refine Below.alloc ?_ (by first | omega | (simp; done) | (simp; omega)) _ | with_reducible refine below_drewN ?_ _ | with_reducible refine Below.drew ?_))⟩
  case round =>
    obtain ⟨i, hk, hin, rfl, ha, hB, hb⟩ := hrel
    have HK := Lib.hid (And.intro hk ha)
    clear hk ha
    have hz := hb.size
    by_cases hlt : i < l.length
    · obtain ⟨b, o, n, rfl, hbb, hg, f0⟩ := int_at hv hlt
      have g0 := f0 ⟨wr, hb⟩
      have HG := Lib.hid hg
      clear f0 hg
      go_wp2_with fail
      refine (imIn_any _ _).mono ?_
      rintro e _ ⟨rfl, rfl⟩
      by_cases hn : NumIn n
      · rw [decide_eq_true hn]
        have HN := Lib.hid hn
        clear hn
        go_wp2_with fail
        refine (imNumText_any _ _).mono ?_
        rintro e w1 ⟨rfl, hE1⟩
        go_wp2_with fail
        refine (bldString _ _ _ _ _ (hB.ext hE1) (by have h1 := numsFlat_len l i; have h2 := numL_len n; omega) (Nat.le_trans hz hE1.size)).mono ?_
        rintro e w2 ⟨rfl, hB2, hE2, _⟩
        go_wp2_with fail
        go_roundg (l.length - (i + 1))
        case measure => have := HK.out.1; omega
        case rel => exact ⟨i + 1, rfl, by omega, by go_num, HK.out.2.step HG.out HN.out, by rw [flat_step HG.out]; exact hB2, (hb.ext hE1).trans hE2⟩
      · rw [decide_eq_false hn]
        have HN := Lib.hid hn
        clear hn
        go_wp2_with fail
        go_ret
        exact ⟨ret_bs (a := []) (numsL_no HG.out HN.out).symm, hb⟩
    · obtain rfl : i = l.length := by omega
      rw [List.take_length] at hB
      go_wp2_with fail
      refine (bldRead _ _ _ _ hB hz).mono ?_
      rintro e w2 ⟨rfl, hE2⟩
      go_wp2_with fail
      go_ret
      exact ⟨ret_bs (by rw [numsL_yes HK.out.2, List.take_length]), hb.trans hE2⟩
end Go.Proofs.YtgfbjpmbaibnoaaGreatDoor


/- The text of a map: the program's and the reference's MapText, as one plain function. -/
namespace Go.Proofs.YtgfbjpmbaibnoaaGreatDoor
set_option maxRecDepth 100000
set_option linter.unusedSimpArgs false
set_option linter.unusedVariables false
open Go.RowKit

theorem ints_of_block {w : World} {g : Nat} {t : TypeId} {l : List Int} (hB : Blk w g t (l.map (fun n => Value.int .i64 n)).toArray) (hl : l.length ≤ 1000) : SlI w w.heap.size (.slice (some ⟨g, 0, none⟩) l.length l.length) l :=
  ⟨_, _, rfl, Nat.le_refl _, by unfold maxLen; omega, fun _ => ⟨g, 0, rfl, hB.lt, fun i s hs j x hx => by
    have hj : j = 0 := by have := (List.getElem?_eq_some_iff.1 hx).1; simp [intRowN] at this; omega
    subst hj
    obtain rfl : Value.int .i64 s = x := by simpa [intRowN] using hx
    rw [hB.cell]
    simp [hs]⟩⟩

theorem l9One_any (a b c d col f1 f2 : Int) (w : World) (h1 : -1000 ≤ b ∧ b ≤ 1000) (h2 : -1000 ≤ c ∧ c ≤ 1000) (h3 : -1000 ≤ d ∧ d ≤ 1000) (h4 : -1000 ≤ col ∧ col ≤ 1000) (h5 : -1000 ≤ f1 ∧ f1 ≤ 1000) (h6 : -1000 ≤ f2 ∧ f2 ≤ 1000) :
    Calls Tryz.prog 115 #[.agg #[.int .i64 a, .int .i64 b, .int .i64 c, .int .i64 d], .int .i64 col, .agg #[.int .i64 f1, .int .i64 f2]] w fun e w' =>
      e = .returned (.string (bs (numsL [b - col, c - f1, d - f2]))) ∧ Below w.heap.size w w' := by
  have hBB : Below w.heap.size w (((w.alloc (.cells #[.int .i64 a, .int .i64 b, .int .i64 c, .int .i64 d] 129)).alloc (.cells #[.int .i64 f1, .int .i64 f2] 68)).alloc (.cells #[.int .i64 (b - col), .int .i64 (c - f1), .int .i64 (d - f2)] 3)) := by (repeat (first | with_reducible assumption | with_reducible exact Below.refl _ _ | with_reducible refine Below.setCell ?_ (by first | omega | (simp; done) | (simp; omega)) _ | with_reducible refine Below.alloc ?_ (by first | omega | (simp; done) | (simp; omega)) _ | with_reducible refine below_drewN ?_ _ | with_reducible refine Below.drew ?_))
  have hs := ints_of_block (l := [b - col, c - f1, d - f2]) (Blk.new ((w.alloc (.cells #[.int .i64 a, .int .i64 b, .int .i64 c, .int .i64 d] 129)).alloc (.cells #[.int .i64 f1, .int .i64 f2] 68)) 3 _) (by simp)
  have c1 := spNums_any _ _ _ hs (by simp)
  rw [show ((w.alloc (.cells #[.int .i64 a, .int .i64 b, .int .i64 c, .int .i64 d] 129)).alloc (.cells #[.int .i64 f1, .int .i64 f2] 68)).heap.size = w.heap.size + 1 + 1 from by simp] at c1
  have C1 := Lib.hid c1
  clear c1 hs
  go_enter Tryz.func115, Tryz.ntmps115
  go_wp2_with fail
  refine C1.out.mono ?_
  rintro e _ ⟨rfl, rfl⟩
  go_wp2_with fail
  go_ret
  exact ⟨rfl, hBB⟩
theorem spText_no (v : Value) (l : List Sg) (w : World) (hv : SlS w w.heap.size v l) (hok : ¬ SegsOk l) :
    Calls Tryz.prog 46 #[v] w fun e w' => e = .returned (.string (bs [])) ∧ Below w.heap.size w w' := by
  obtain ⟨A, c, rfl, hc, hm⟩ := hv.val
  go_enter Tryz.func46, Tryz.ntmps46
  go_wp2_with fail
  go_loopg [3, 7] 0 (fun n o ii wr => n = 0 ∧ o = .string ⟨#[]⟩ ∧ ii = .int .i64 0 ∧ Below w.heap.size w wr)
  case atStart => exact ⟨rfl, rfl, rfl, by (repeat (first | with_reducible assumption | with_reducible exact Below.refl _ _ | with_reducible refine Below.setCell ?_ (by first | omega | (simp; done) | (simp; omega)) _ | with_reducible refine Below.alloc ?_ (by first | omega | (simp; done) | (simp; omega)) _ | with_reducible refine below_drewN ?_ _ | with_reducible refine Below.drew ?_))⟩
  case round =>
    obtain ⟨rfl, rfl, rfl, hb⟩ := hrel
    have hv1 := spSegsOk_any wr _ l ((hv.below hb (Nat.le_refl _)).more hb.size)
    rw [segsOkB_no hok] at hv1
    have C1 := Lib.hid hv1
    clear hv1
    by_cases hlt : 0 < l.length
    · go_wp2_with fail
      refine C1.out.mono ?_
      rintro e w1 ⟨rfl, hb1⟩
      go_wp2_with fail
      go_ret
      exact ⟨rfl, hb.ext hb1⟩
    · go_wp2_with fail
      go_ret
      exact ⟨rfl, hb⟩
theorem spText_yes (v : Value) (l : List Sg) (w : World) (hv : SlS w w.heap.size v l) (hok : SegsOk l) :
    Calls Tryz.prog 46 #[v] w fun e w' => e = .returned (.string (bs (textL l))) ∧ Below w.heap.size w w' := by
  obtain ⟨A, c, rfl, hc, hm⟩ := hv.val
  go_enter Tryz.func46, Tryz.ntmps46
  go_wp2_with fail
  go_loopg [3, 4, 5, 7] l.length (fun n o ln cl ii wr => ∃ i : Nat, n = l.length - i ∧ i ≤ l.length ∧ o = .string (bs (textUp l i)) ∧ ln = .int .i64 (stAt l i).1.1 ∧ cl = .int .i64 (stAt l i).1.2 ∧ ii = .int .i64 i ∧
    Blk wr w.heap.size 68 #[.int .i64 (stAt l i).2.1, .int .i64 (stAt l i).2.2] ∧ Below w.heap.size w wr)
  case atStart => exact ⟨0, by omega, by omega, rfl, rfl, rfl, rfl, Blk.new _ _ _, by (repeat (first | with_reducible assumption | with_reducible exact Below.refl _ _ | with_reducible refine Below.setCell ?_ (by first | omega | (simp; done) | (simp; omega)) _ | with_reducible refine Below.alloc ?_ (by first | omega | (simp; done) | (simp; omega)) _ | with_reducible refine below_drewN ?_ _ | with_reducible refine Below.drew ?_))⟩
  case round =>
    obtain ⟨i, hk, hin, rfl, rfl, rfl, rfl, hB, hb⟩ := hrel
    have HK := Lib.hid hk
    clear hk
    have hv1 := spSegsOk_any wr _ l ((hv.below hb (Nat.le_refl _)).more hb.size)
    rw [segsOkB_yes hok] at hv1
    have C1 := Lib.hid hv1
    clear hv1
    by_cases hlt : i < l.length
    · obtain ⟨b, o, p, q, r, t, rfl, hbb, hgt, f0, f1, f2, f3⟩ := sg_at hv hlt
      have hp := hok.1 i hlt _ hgt
      have hst := stAt_ok hok hin
      have hle := stAt_le hok hgt
      obtain ⟨⟨⟨t1, t2⟩, ⟨t3, t4⟩⟩, hT⟩ : ∃ T, stAt l i = T := ⟨_, rfl⟩
      rw [hT] at hst hle hB ⊢
      have HG := Lib.hid (And.intro hgt hT)
      clear hgt hT
      obtain ⟨⟨hp1, hp2⟩, ⟨hp3, hp4⟩, _⟩ := hp
      obtain ⟨⟨ht1, ht2⟩, ht3, ht4⟩ := hst
      simp only at hp1 hp2 hp3 hp4 ht1 ht2 ht3 ht4 hle
      go_wp2_with fail
      refine C1.out.mono ?_
      rintro e w1 ⟨rfl, hb1⟩
      replace hB := hB.below hb1 hB.lt
      replace hb := hb.ext hb1
      have g0 := f0 ⟨w1, hb⟩
      have g1 := f1 ⟨w1, hb⟩
      have g2 := f2 ⟨w1, hb⟩
      have g3 := f3 ⟨w1, hb⟩
      clear f0 f1 f2 f3
      go_wp2_with fail
      go_loopg [3, 4, 5] (p - t1).toNat (fun n o ln cl wr2 => ∃ m : Nat, n = (p - t1).toNat - m ∧ (m : Int) ≤ p - t1 ∧ o = .string (bs (textUp l i ++ List.replicate m 61)) ∧ ln = .int .i64 (t1 + m) ∧ cl = .int .i64 (if m = 0 then t2 else 0) ∧ wr2 = w1.alloc (.cells #[.int .i64 p, .int .i64 q, .int .i64 r, .int .i64 t] 129))
      case atStart => exact ⟨0, by omega, by omega, by simp, by simp, by simp, rfl⟩
      case round =>
        obtain ⟨m, hk2, hm2, rfl, rfl, rfl, rfl⟩ := hrel
        have HK2 := Lib.hid hk2
        clear hk2
        have hlen := textUp_len hok i hin
        have hcat : ¬ 9223372036854775807 < (bs (textUp l i ++ List.replicate m 61)).size + 1 := by
          have := hok.2
          rw [bs_size, List.length_append, List.length_replicate]
          omega
        by_cases hm3 : t1 + m < p
        · have d1 : decide (t1 + (m : Int) < p) = true := by simpa using hm3
          go_wp2_with fail
          go_roundg ((p - t1).toNat - (m + 1))
          case measure => have := HK2.out; omega
          case rel => exact ⟨m + 1, rfl, by omega, by rw [List.replicate_succ', ← List.append_assoc, ← bs_append]; rfl, by go_num, by simp, rfl⟩
        · have hme : (m : Int) = p - t1 := by omega
          have d1 : decide (t1 + (m : Int) < p) = false := by simpa using hm3
          have hW2 : Below w1.heap.size w1 (w1.alloc (.cells #[.int .i64 p, .int .i64 q, .int .i64 r, .int .i64 t] 129)) := by (repeat (first | with_reducible assumption | with_reducible exact Below.refl _ _ | with_reducible refine Below.setCell ?_ (by first | omega | (simp; done) | (simp; omega)) _ | with_reducible refine Below.alloc ?_ (by first | omega | (simp; done) | (simp; omega)) _ | with_reducible refine below_drewN ?_ _ | with_reducible refine Below.drew ?_))
          have hBx := hB.below hW2 hB.lt
          have e0 := hBx.cell 0
          have e1 := hBx.cell 1
          simp at e0 e1
          have hcl : (if m = 0 then t2 else 0) = (if t1 < p then 0 else t2) := by
            by_cases h0 : m = 0
            · rw [if_pos h0, if_neg (by omega)]
            · rw [if_neg h0, if_pos (by omega)]
          have hml : (numsL [q - (if t1 < p then 0 else t2), r - t3, t - t4]).length ≤ 18 := by
            have := numsL_len [q - (if t1 < p then 0 else t2), r - t3, t - t4]
            simpa using this
          have hcb : -1000 ≤ (if t1 < p then 0 else t2) ∧ (if t1 < p then 0 else t2) ≤ 1000 := by split <;> omega
          have hpc : ∀ first, pieceL first ((t1, t2), (t3, t4)) ((p, q), (r, t)) = (if m = 0 then (if first then [] else [44]) else List.replicate m 61) ++ numsL [q - (if t1 < p then 0 else t2), r - t3, t - t4] := by
            intro first
            unfold pieceL
            simp only
            congr 1
            by_cases h0 : m = 0
            · rw [if_neg (by omega), if_pos h0]
            · rw [if_pos (by omega), if_neg h0, show (p - t1).toNat = m from by omega]
          have HPC := Lib.hid hpc
          clear hpc
          rw [hcl]
          generalize (if t1 < p then 0 else t2) = cc at *
          by_cases hi0 : i = 0
          · have d2 : decide ((0 : Int) < (i : Int)) = false := by first | (simp; done) | (simp; omega)
            have d3 : decide (0 < i) = false := by first | (simp; done) | (simp; omega)
            have hn : (if m = 0 then (if decide (i = 0) = true then ([] : Bytes) else [44]) else List.replicate m 61) = List.replicate m 61 := by
              by_cases h0 : m = 0
              · rw [if_pos h0, h0, if_pos (by simpa using hi0)]; rfl
              · rw [if_neg h0]
            have HN := Lib.hid hn
            clear hi0 hn
            go_wp2_with fail
            refine (l9One_any p q r t cc t3 t4 _ ⟨by omega, by omega⟩ ⟨by omega, by omega⟩ ⟨by omega, by omega⟩ hcb ⟨by omega, by omega⟩ ⟨by omega, by omega⟩).mono ?_
            rintro e w2 ⟨rfl, hE2⟩
            have hB2 := hBx.below hE2 hBx.lt
            have hfz := hB2.frozen
            have hbz := hb.size
            have y0 := hB2.cell 0
            have y1 := hB2.cell 1
            simp at y0 y1
            have hS := (Blk.new w1 129 #[.int .i64 p, .int .i64 q, .int .i64 r, .int .i64 t]).below hE2 (by simp)
            have z0 := hS.cell 0
            have z1 := hS.cell 1
            have z2 := hS.cell 2
            have z3 := hS.cell 3
            simp at z0 z1 z2 z3
            have hcat2 : ¬ 9223372036854775807 < (bs (textUp l i ++ List.replicate m 61)).size + (bs (numsL [q - cc, r - t3, t - t4])).size := by
              have := hok.2
              rw [bs_size, bs_size]
              simp
              omega
            go_wp2_with fail
            go_roundg (l.length - (i + 1))
            case measure => have := HK.out; omega
            case rel => exact ⟨i + 1, rfl, by omega, congrArg Value.string (by rw [textUp_step HG.out.1, HG.out.2, HPC.out, HN.out, ← List.append_assoc, bs_append]), by rw [stAt_succ HG.out.1]; simp; omega, by rw [stAt_succ HG.out.1], by go_num, by rw [stAt_succ HG.out.1]; exact (hB2.set_ _ _).set_ _ _, by (repeat (first | with_reducible assumption | with_reducible exact Below.refl _ _ | with_reducible refine Below.setCell ?_ (by first | omega | (simp; done) | (simp; omega)) _ | with_reducible refine Below.alloc ?_ (by first | omega | (simp; done) | (simp; omega)) _ | with_reducible refine below_drewN ?_ _ | with_reducible refine Below.drew ?_ | with_reducible refine Below.trans ?_ (Below.mono hE2 (by first | omega | (simp; done) | (simp; omega))) | with_reducible refine Below.trans ?_ (Below.mono hb (by first | omega | (simp; done) | (simp; omega)))))⟩
          · obtain ⟨k, rfl⟩ : ∃ k, i = k + 1 := ⟨i - 1, by omega⟩
            obtain ⟨b2, o2, p2, q2, r2, s2, hA2, _, hg2, j0, _, _, _⟩ := sg_at hv (i := k) (by omega)
            cases hA2
            have hT2 := HG.out.2
            rw [stAt_succ hg2] at hT2
            obtain ⟨⟨rfl, rfl⟩, rfl, rfl⟩ : (p2 = t1 ∧ q2 = t2) ∧ r2 = t3 ∧ s2 = t4 := by simpa using hT2
            have j1 := j0 ⟨_, hb.ext hW2⟩
            clear j0 hT2 hg2 hi0
            have d2 : decide ((0 : Int) < (k : Int) + 1) = true := by first | (simp; done) | (simp; omega)
            by_cases hm0 : m = 0
            · have hpe : p = p2 := by omega
              have hn : (if m = 0 then (if decide (k + 1 = 0) = true then ([] : Bytes) else [44]) else List.replicate m 61) = List.replicate m 61 ++ [44] := by
                rw [if_pos hm0, hm0]; rfl
              have HN := Lib.hid hn
              clear hn
              have d4 : (p2 == p2 + (m : Int)) = true := by simp; omega
              have d5 : (p2 == p2 + (p - p2)) = true := by simp; omega
              have HM := Lib.hid hm0
              have HP := Lib.hid hpe
              clear hm0 hpe
              go_wp2_with fail
              rw [show bs (textUp l (k + 1) ++ List.replicate m 61) ++ ⟨#[44]⟩ = bs (textUp l (k + 1) ++ (List.replicate m 61 ++ [44])) from by rw [← List.append_assoc, ← bs_append]; rfl]
              refine (l9One_any p q r t cc r2 s2 _ ⟨by omega, by omega⟩ ⟨by omega, by omega⟩ ⟨by omega, by omega⟩ hcb ⟨by omega, by omega⟩ ⟨by omega, by omega⟩).mono ?_
              rintro e w2 ⟨rfl, hE2⟩
              have hB2 := hBx.below hE2 hBx.lt
              have hfz := hB2.frozen
              have hbz := hb.size
              have y0 := hB2.cell 0
              have y1 := hB2.cell 1
              simp at y0 y1
              have hS := (Blk.new w1 129 #[.int .i64 p, .int .i64 q, .int .i64 r, .int .i64 t]).below hE2 (by simp)
              have z0 := hS.cell 0
              have z1 := hS.cell 1
              have z2 := hS.cell 2
              have z3 := hS.cell 3
              simp at z0 z1 z2 z3
              have hcat2 : ¬ 9223372036854775807 < (bs (textUp l (k + 1) ++ (List.replicate m 61 ++ [44]))).size + (bs (numsL [q - cc, r - r2, t - s2])).size := by
                have := hok.2
                rw [bs_size, bs_size]
                simp
                omega
              go_wp2_with fail
              go_roundg (l.length - (k + 1 + 1))
              case measure => have := HK.out; omega
              case rel => exact ⟨k + 1 + 1, rfl, by omega, congrArg Value.string (by rw [textUp_step HG.out.1, HG.out.2, HPC.out, HN.out, bs_append]; simp), by rw [stAt_succ HG.out.1]; simp; omega, by rw [stAt_succ HG.out.1], by go_num, by rw [stAt_succ HG.out.1]; exact (hB2.set_ _ _).set_ _ _, by (repeat (first | with_reducible assumption | with_reducible exact Below.refl _ _ | with_reducible refine Below.setCell ?_ (by first | omega | (simp; done) | (simp; omega)) _ | with_reducible refine Below.alloc ?_ (by first | omega | (simp; done) | (simp; omega)) _ | with_reducible refine below_drewN ?_ _ | with_reducible refine Below.drew ?_ | with_reducible refine Below.trans ?_ (Below.mono hE2 (by first | omega | (simp; done) | (simp; omega))) | with_reducible refine Below.trans ?_ (Below.mono hb (by first | omega | (simp; done) | (simp; omega)))))⟩
            · have hn : (if m = 0 then (if decide (k + 1 = 0) = true then ([] : Bytes) else [44]) else List.replicate m 61) = List.replicate m 61 := by rw [if_neg hm0]
              have HN := Lib.hid hn
              clear hn
              have d4 : (p2 == p2 + (m : Int)) = false := by simp; omega
              have d5 : (p2 == p2 + (p - p2)) = false := by simp; omega
              clear hm0
              go_wp2_with fail
              refine (l9One_any p q r t cc r2 s2 _ ⟨by omega, by omega⟩ ⟨by omega, by omega⟩ ⟨by omega, by omega⟩ hcb ⟨by omega, by omega⟩ ⟨by omega, by omega⟩).mono ?_
              rintro e w2 ⟨rfl, hE2⟩
              have hB2 := hBx.below hE2 hBx.lt
              have hfz := hB2.frozen
              have hbz := hb.size
              have y0 := hB2.cell 0
              have y1 := hB2.cell 1
              simp at y0 y1
              have hS := (Blk.new w1 129 #[.int .i64 p, .int .i64 q, .int .i64 r, .int .i64 t]).below hE2 (by simp)
              have z0 := hS.cell 0
              have z1 := hS.cell 1
              have z2 := hS.cell 2
              have z3 := hS.cell 3
              simp at z0 z1 z2 z3
              have hcat2 : ¬ 9223372036854775807 < (bs (textUp l (k + 1) ++ List.replicate m 61)).size + (bs (numsL [q - cc, r - r2, t - s2])).size := by
                have := hok.2
                rw [bs_size, bs_size]
                simp
                omega
              go_wp2_with fail
              go_roundg (l.length - (k + 1 + 1))
              case measure => have := HK.out; omega
              case rel => exact ⟨k + 1 + 1, rfl, by omega, congrArg Value.string (by rw [textUp_step HG.out.1, HG.out.2, HPC.out, HN.out, ← List.append_assoc, bs_append]), by rw [stAt_succ HG.out.1]; simp; omega, by rw [stAt_succ HG.out.1], by go_num, by rw [stAt_succ HG.out.1]; exact (hB2.set_ _ _).set_ _ _, by (repeat (first | with_reducible assumption | with_reducible exact Below.refl _ _ | with_reducible refine Below.setCell ?_ (by first | omega | (simp; done) | (simp; omega)) _ | with_reducible refine Below.alloc ?_ (by first | omega | (simp; done) | (simp; omega)) _ | with_reducible refine below_drewN ?_ _ | with_reducible refine Below.drew ?_ | with_reducible refine Below.trans ?_ (Below.mono hE2 (by first | omega | (simp; done) | (simp; omega))) | with_reducible refine Below.trans ?_ (Below.mono hb (by first | omega | (simp; done) | (simp; omega)))))⟩
    · obtain rfl : i = l.length := by omega
      go_wp2_with fail
      go_ret
      exact ⟨rfl, hb⟩
theorem spText_any (v : Value) (l : List Sg) (w : World) (hv : SlS w w.heap.size v l) :
    Calls Tryz.prog 46 #[v] w fun e w' => e = .returned (.string (bs (mapTextL l))) ∧ Below w.heap.size w w' := by
  by_cases hok : SegsOk l
  · unfold mapTextL
    rw [if_pos (segsOkB_yes hok)]
    exact spText_yes v l w hv hok
  · unfold mapTextL
    rw [if_neg (by rw [segsOkB_no hok]; decide)]
    exact spText_no v l w hv hok
end Go.Proofs.YtgfbjpmbaibnoaaGreatDoor
