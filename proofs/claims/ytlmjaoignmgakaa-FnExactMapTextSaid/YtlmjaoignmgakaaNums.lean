
/- The letters of several numbers: the program's and the reference's. -/
import Derived.Test.YtlmjaoignmgakaaNum
namespace Go.Proofs.Ytlmjaoignmgakaa
set_option maxRecDepth 100000
open Go.RowKit

def intRow (n : Int) : List Value := [.int .i64 n]
abbrev SlI := Sl intRow 1
theorem int_at {W : World} {B n c : Nat} {A : Option Addr} {l : List Int} {i : Nat} (h : SlI W B (.slice A n c) l) (hi : i < l.length) :
    ∃ b o x, A = some ⟨b, o, none⟩ ∧ b < B ∧ l[i]? = some x ∧ (∀ y : Later B W, y.w'.cell? ⟨b, o + i, none⟩ = some (.int .i64 x)) := by
  obtain ⟨A', c', hv, hc, hm, hh⟩ := h
  obtain ⟨rfl, _, rfl⟩ : A = A' ∧ n = l.length ∧ c = c' := by injection hv; exact ⟨‹_›, ‹_›, ‹_›⟩
  obtain ⟨b, o, rfl, hb, hcell⟩ := hh (by omega)
  have hg : l[i]? = some l[i] := List.getElem?_eq_getElem hi
  refine ⟨b, o, l[i], rfl, hb, hg, fun y => ?_⟩
  have := (y.ok.cell (p := ⟨b, o + i * 1 + 0, none⟩) (by simpa using hb)).trans (hcell i _ hg 0 _ rfl)
  simpa using this

def AllIn (l : List Int) (i : Nat) : Prop := ∀ n ∈ l.take i, NumIn n
theorem AllIn.step {l : List Int} {i : Nat} {n : Int} (h : AllIn l i) (hg : l[i]? = some n) (hn : NumIn n) : AllIn l (i + 1) := by
  have hi : i < l.length := (List.getElem?_eq_some_iff.1 hg).1
  have hs : l[i] = n := by rw [List.getElem?_eq_getElem hi] at hg; exact Option.some.inj hg
  intro m hm
  rw [List.take_succ_eq_append_getElem hi, List.mem_append, List.mem_singleton] at hm
  rcases hm with hm | rfl
  · exact h m hm
  · rw [hs]; exact hn
theorem flat_step {l : List Int} {i : Nat} {n : Int} (hg : l[i]? = some n) : (l.take (i + 1)).flatMap numL = (l.take i).flatMap numL ++ numL n := by
  have hi : i < l.length := (List.getElem?_eq_some_iff.1 hg).1
  have hs : l[i] = n := by rw [List.getElem?_eq_getElem hi] at hg; exact Option.some.inj hg
  rw [List.take_succ_eq_append_getElem hi, List.flatMap_append, hs]
  simp
theorem flat_len (l : List Int) (i : Nat) : ((l.take i).flatMap numL).length ≤ i * 6 := by
  have h : ∀ l : List Int, (l.flatMap numL).length ≤ l.length * 6 := by
    intro l
    induction l with
    | nil => simp
    | cons a l ih =>
      rw [List.flatMap_cons, List.length_append, List.length_cons, Nat.add_mul]
      have := numL_len a
      omega
  have h1 := h (l.take i)
  have h2 : (l.take i).length ≤ i := List.length_take_le _ _
  have h3 : (l.take i).length * 6 ≤ i * 6 := Nat.mul_le_mul_right _ h2
  omega
theorem numsL_yes {l : List Int} (h : AllIn l l.length) : numsL l = (l.take l.length).flatMap numL := by
  unfold numsL
  rw [List.take_length]
  unfold AllIn at h
  rw [List.take_length] at h
  rw [if_pos h]
theorem numsL_no {l : List Int} {i : Nat} {n : Int} (hg : l[i]? = some n) (hn : ¬ NumIn n) : numsL l = [] := by
  unfold numsL
  rw [if_neg]
  intro h
  exact hn (h n (List.mem_of_getElem? hg))

/-- a builder of w stays one in what comes later -/
theorem Bld.ext {B b : Nat} {l : Bytes} {w w' : World} (h : Bld B b l w) (hb : Below w.heap.size w w') : Bld B b l w' := by
  have hlt : ∀ x : Obj, w.heap[b]? = some x → b < w.heap.size := fun x hx => by
    rcases Nat.lt_or_ge b w.heap.size with h | h
    · exact h
    · rw [Array.getElem?_eq_none h] at hx; cases hx
  have hg : w.grownBy w' none := ⟨hb.os, hb.tape, hb.output, hb.size, fun k hk _ => hb.block k hk⟩
  rcases h with ⟨hB, v, hk, hown, hne⟩ | ⟨hB, v, hk, hown, hne⟩
  · exact .inl ⟨hB, v, (hb.block b (hlt _ hk)).trans hk, hown.kept hg (by cases v.ownBlock <;> simp), hne⟩
  · exact .inr ⟨hB, v, (hb.block b (hlt _ hk)).trans hk, hown.kept hg (by cases v.ownBlock <;> simp), hne⟩

theorem spNums_any (v : Value) (l : List Int) (w : World) (hv : SlI w w.heap.size v l) (hl : l.length ≤ 1000000) :
    Calls Try.prog 47 #[v] w fun e w' => e = .returned (.string (bs (numsL l))) ∧ w = w' := by
  obtain ⟨A, c, rfl, hc, hm⟩ := hv.val
  go_enter Try.func47, Try.ntmps47
  go_wp2
  go_loopg [3, 4] l.length (fun k s m wr => ∃ i : Nat, k = l.length - i ∧ i ≤ l.length ∧ s = .string (bs ((l.take i).flatMap numL)) ∧ m = .int .i64 i ∧ AllIn l i ∧ wr = w)
  case atStart => exact ⟨0, by omega, by omega, by simp [bs], rfl, fun n h => by simp at h, rfl⟩
  case round =>
    obtain ⟨i, hk, hin, rfl, rfl, ha, rfl⟩ := hrel
    have HK := Lib.hid (And.intro hk ha)
    clear hk ha
    by_cases hlt : i < l.length
    · obtain ⟨b, o, n, rfl, hb, hg, f0⟩ := int_at hv hlt
      have g0 := f0 ⟨wr, Below.refl _ _⟩
      have HG := Lib.hid hg
      clear f0 hg
      go_wp2_with fail
      refine (spIn_any _ _).mono ?_
      rintro e _ ⟨rfl, rfl⟩
      by_cases hn : NumIn n
      · rw [decide_eq_true hn]
        have HN := Lib.hid hn
        clear hn
        have hcat : ¬ 9223372036854775807 < (bs ((l.take i).flatMap numL)).size + (bs (numL n)).size := by
          have h1 := flat_len l i
          have h2 := numL_len n
          rw [bs_size, bs_size]
          omega
        go_wp2_with fail
        refine (spNumText_any _ _).mono ?_
        rintro e _ ⟨rfl, rfl⟩
        go_wp2_with fail
        go_roundg (l.length - (i + 1))
        case measure => have := HK.out.1; omega
        case rel => exact ⟨i + 1, rfl, by omega, by rw [flat_step HG.out, ← bs_append], by go_num, HK.out.2.step HG.out HN.out, rfl⟩
      · rw [decide_eq_false hn]
        have HN := Lib.hid hn
        clear hn
        go_wp2_with fail
        go_ret
        exact ⟨ret_bs (a := []) (numsL_no HG.out HN.out).symm, rfl⟩
    · obtain rfl : i = l.length := by omega
      go_wp2_with fail
      go_ret
      exact ⟨ret_bs (numsL_yes HK.out.2).symm, rfl⟩
theorem imNums_any (v : Value) (l : List Int) (w : World) (hv : SlI w w.heap.size v l) (hl : l.length ≤ 1000000) :
    Calls Try.prog 50 #[v] w fun e w' => e = .returned (.string (bs (numsL l))) ∧ Below w.heap.size w w' := by
  obtain ⟨A, c, rfl, hc, hm⟩ := hv.val
  go_enter Try.func50, Try.ntmps50
  go_wp2
  go_loopg [8] l.length (fun k m wr => ∃ i : Nat, k = l.length - i ∧ i ≤ l.length ∧ m = .int .i64 i ∧ AllIn l i ∧ Bld w.heap.size w.heap.size ((l.take i).flatMap numL) wr ∧ Below w.heap.size w wr)
  case atStart => exact ⟨0, by omega, by omega, rfl, fun n h => by simp at h, by simpa using Bld.new (Nat.le_refl _), by (repeat (first | with_reducible assumption | with_reducible exact Below.refl _ _ | with_reducible refine Below.setCell ?_ (by first | omega | (simp; done) | (simp; omega)) _ | with_reducible refine Below.alloc ?_ (by first | omega | (simp; done) | (simp; omega)) _ | with_reducible refine below_drewN ?_ _ | with_reducible refine Below.drew ?_))⟩
  case round =>
    obtain ⟨i, hk, hin, rfl, ha, hB, hb⟩ := hrel
    have HK := Lib.hid (And.intro hk ha)
    clear hk ha
    have hz := hb.size
    by_cases hlt : i < l.length
    · obtain ⟨b, o, n, rfl, hbb, hg, f0⟩ := int_at hv hlt
      have g0 := f0 ⟨wr, hb⟩
      have HG := Lib.hid hg
      clear f0 hg
      go_wp2_with fail
      refine (imIn_any _ _).mono ?_
      rintro e _ ⟨rfl, rfl⟩
      by_cases hn : NumIn n
      · rw [decide_eq_true hn]
        have HN := Lib.hid hn
        clear hn
        go_wp2_with fail
        refine (imNumText_any _ _).mono ?_
        rintro e w1 ⟨rfl, hE1⟩
        go_wp2_with fail
        refine (bldString _ _ _ _ _ (hB.ext hE1) (by have h1 := flat_len l i; have h2 := numL_len n; omega) (Nat.le_trans hz hE1.size)).mono ?_
        rintro e w2 ⟨rfl, hB2, hE2, _⟩
        go_wp2_with fail
        go_roundg (l.length - (i + 1))
        case measure => have := HK.out.1; omega
        case rel => exact ⟨i + 1, rfl, by omega, by go_num, HK.out.2.step HG.out HN.out, by rw [flat_step HG.out]; exact hB2, (hb.ext hE1).trans hE2⟩
      · rw [decide_eq_false hn]
        have HN := Lib.hid hn
        clear hn
        go_wp2_with fail
        go_ret
        exact ⟨ret_bs (a := []) (numsL_no HG.out HN.out).symm, hb⟩
    · obtain rfl : i = l.length := by omega
      rw [List.take_length] at hB
      go_wp2_with fail
      refine (bldRead _ _ _ _ hB hz).mono ?_
      rintro e w2 ⟨rfl, hE2⟩
      go_wp2_with fail
      go_ret
      exact ⟨ret_bs (by rw [numsL_yes HK.out.2, List.take_length]), hb.trans hE2⟩
end Go.Proofs.Ytlmjaoignmgakaa
