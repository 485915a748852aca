/- The reference's words of a line: TokLine. -/
import Derived.Test.YtgakjhaepdigpaaGreatDoorTokNM
import Derived.Test.YtgakjhaepdigpaaGreatDoorZm8
import Derived.Test.YtgakjhaepdigpaaGreatDoorWds
import Derived.Test.YtgakjhaepdigpaaGreatDoorStSp
import Derived.Test.YtgakjhaepdigpaaGreatDoorRows
import Derived.Test.YtgakjhaepdigpaaGreatDoorLib
import Derived.Deep.AppendLies
namespace Go.Proofs.YtgakjhaepdigpaaGreatDoor
set_option maxRecDepth 100000
set_option linter.unusedSimpArgs false
set_option linter.unusedVariables false
open Go.RowKit
attribute [local go_sem] bs_toList bs_get bs_size

theorem class_let {c : UInt8} : (classL c == 1) = isLet c := by
  unfold classL
  cases h : isLet c
  · simp only [Bool.false_eq_true, if_false]
    split
    · rfl
    · split
      · rfl
      · split <;> rfl
  · simp
theorem class_dig {c : UInt8} : (classL c == 2) = isDig c := by
  unfold classL
  cases h : isLet c
  · simp only [Bool.false_eq_true, if_false]
    cases h2 : isDig c
    · simp only [Bool.false_eq_true, if_false]
      split
      · rfl
      · split <;> rfl
    · simp
  · have := let_not_dig h
    rw [this]
    simp
theorem endL_wlen {c : UInt8} {r : Bytes} (h : classL c ≠ 0) : endL (c :: r) = wlen (c :: r) := by
  unfold wlen
  by_cases h1 : isLet c = true
  · have e : classL c = 1 := by have := class_let (c := c); rw [h1] at this; simpa using this
    have hz : runL isDig (c :: r) = 0 := runL_zero (let_not_dig h1)
    have hf : (fun x => classL x == 1) = isLet := funext fun x => class_let
    simp only [endL, e]
    rw [hz, hf, if_pos (show (1 : Nat) < 3 by omega)]
    unfold runL
    simp only [List.takeWhile_cons, h1, if_true, List.length_cons]
    omega
  · by_cases h2 : isDig c = true
    · have e : classL c = 2 := by have := class_dig (c := c); rw [h2] at this; simpa using this
      have hz : runL isLet (c :: r) = 0 := runL_zero (by simpa using h1)
      have hf : (fun x => classL x == 2) = isDig := funext fun x => class_dig
      simp only [endL, e]
      rw [hz, hf, if_pos (show (2 : Nat) < 3 by omega)]
      unfold runL
      simp only [List.takeWhile_cons, h2, if_true, List.length_cons]
      omega
    · have hz : runL isLet (c :: r) = 0 := runL_zero (by simpa using h1)
      have hz2 : runL isDig (c :: r) = 0 := runL_zero (by simpa using h2)
      have hc : ¬ classL c < 3 := by
        have a1 := class_let (c := c)
        have a2 := class_dig (c := c)
        have h1' : isLet c = false := by simpa using h1
        have h2' : isDig c = false := by simpa using h2
        rw [h1'] at a1
        rw [h2'] at a2
        simp at a1 a2
        omega
      simp only [endL, if_neg hc]
      rw [hz, hz2]
      rfl
theorem class_zero {c : UInt8} (h : classL c = 0) : isLet c = false ∧ isDig c = false ∧ marksL.any (fun x => x == c) = false ∧ c ≠ 32 := by
  unfold classL at h
  split at h
  · cases h
  · split at h
    · cases h
    · split at h
      · cases h
      · split at h
        · cases h
        · exact ⟨Bool.eq_false_iff.2 ‹¬ isLet c = true›, Bool.eq_false_iff.2 ‹¬ isDig c = true›, Bool.eq_false_iff.2 ‹¬ marksL.any (fun x => x == c) = true›, ‹¬ c = 32›⟩
theorem kind_zero {c : UInt8} (h : classL c = 0) (l : Bytes) : kindL (c :: l) = 0 := by
  obtain ⟨h1, h2, h3, _⟩ := class_zero h
  unfold kindL
  have a : wordB (c :: l) = false := by unfold wordB; simp [h1]
  have b : numB (c :: l) = false := by unfold numB; simp [h2]
  have d : markB (c :: l) = false := by
    cases l with
    | nil => rw [mark_one]; exact h3
    | cons x l => exact mark_not (by simp)
  rw [a, b, d]
  simp
theorem endL_pos {s : Bytes} (h : s ≠ []) : 1 ≤ endL s := by
  cases s with
  | nil => exact absurd rfl h
  | cons c r => simp only [endL]; split <;> omega
theorem endL_le (s : Bytes) : endL s ≤ s.length := by
  cases s with
  | nil => simp [endL]
  | cons c r =>
    simp only [endL, List.length_cons]
    have := (List.takeWhile_sublist (l := r) (fun x => classL x == classL c)).length_le
    split <;> omega
/-- one word more -/
theorem tokL_step {a : Nat} {c : UInt8} {r : Bytes} (h32 : c ≠ 32) : tokL a (c :: r) = if kindL ((c :: r).take (endL (c :: r))) = 0 then none else (tokL (a + endL (c :: r)) ((c :: r).drop (endL (c :: r)))).map (fun l => ⟨kindL ((c :: r).take (endL (c :: r))), (c :: r).take (endL (c :: r)), a⟩ :: l) := by
  by_cases h0 : classL c = 0
  · have hp := endL_pos (s := c :: r) (by simp)
    have hw : 1 ≤ wlen (c :: r) := by unfold wlen; omega
    have k1 : kindL ((c :: r).take (endL (c :: r))) = 0 := by
      obtain ⟨n, hn⟩ : ∃ n, endL (c :: r) = n + 1 := ⟨endL (c :: r) - 1, by omega⟩
      rw [hn, List.take_succ_cons]
      exact kind_zero h0 _
    have k2 : kindL ((c :: r).take (wlen (c :: r))) = 0 := by
      obtain ⟨n, hn⟩ : ∃ n, wlen (c :: r) = n + 1 := ⟨wlen (c :: r) - 1, by omega⟩
      rw [hn, List.take_succ_cons]
      exact kind_zero h0 _
    rw [if_pos k1]
    exact tokL_bad (by simp) (by simpa using h32) k2
  · rw [endL_wlen h0]
    by_cases hk : kindL ((c :: r).take (wlen (c :: r))) = 0
    · rw [if_pos hk]
      exact tokL_bad (by simp) (by simpa using h32) hk
    · rw [if_neg hk]
      exact tokL_word (by simp) (by simpa using h32) hk
theorem bs_ext (s : Bytes) (i j : Nat) : (bs s).extract i j = bs ((s.drop i).take (j - i)) := by
  apply ByteArray.ext
  rw [ByteArray.data_extract]
  simp [bs]
theorem infoTk : (Tryz.prog.info? 44).map (fun i => (i.zero, i.size, i.bytes)) = some (some (.agg #[.int .i64 0, .string ⟨#[]⟩, .int .i64 0]), 3, 32) := by kernel_rfl
theorem rtTk : RowTy tkRow 3 44 40 := .of_info (fun _ => rfl) (fun s u hu => by simp [tkRow] at hu; rcases hu with rfl | rfl | rfl <;> rfl) (by decide) Tryz.underlying40 infoTk (by decide) rfl
abbrev GtT := Gt tkRow 3 44
/-- what TokLine gives -/
def TlP (line : Bytes) (w : World) (e : Ending) (w' : World) : Prop := ∃ (u : Value) (l : List Tk) (ok : Bool), e = .returned (.tuple #[u, .bool ok]) ∧ GtT w.heap.size w' u l ∧ ((ok = true ∧ line.length ≤ 120 ∧ tokL 0 line = some l) ∨ (ok = false ∧ l = [] ∧ (120 < line.length ∨ tokL 0 line = none))) ∧ Below w.heap.size w w'
set_option maxHeartbeats 1000000 in
theorem spTokLine_any (s : Bytes) (w : World) (hs : s.length ≤ 100000000) : Calls Tryz.prog 113 #[.string (bs s)] w (TlP s w) := by
  have KD := Lib.hid (fun (t : Bytes) (w' : World) (ht : t.length ≤ 100000000) => spTokKind_any t w' ht)
  by_cases hl : (120 : Int) < ((s.length : Nat) : Int)
  · have hd : decide ((120 : Int) < ((s.length : Nat) : Int)) = true := by rw [decide_eq_true_eq]; exact hl
    go_enter Tryz.func113, Tryz.ntmps113
    go_wp2_with fail
    refine bodyPost_ret (v := .tuple #[.slice (some ⟨w.heap.size + 1, 0, none⟩) 0 0, .bool false]) (by simp [results, Tryz.results113, go_sem, *]) rfl ?_
    refine ⟨_, [], false, rfl, ?_, .inr ⟨rfl, rfl, .inl (by omega)⟩, by (repeat (first | with_reducible assumption | with_reducible exact Below.refl _ _ | with_reducible refine Below.setCell ?_ (by first | omega | (simp; done) | (simp; omega)) _ | with_reducible refine Below.alloc ?_ (by first | omega | (simp; done) | (simp; omega)) _ | with_reducible refine below_drewN ?_ _ | with_reducible refine Below.drew ?_))⟩
    have h := gt_empty tkRow 3 44 (B := w.heap.size) (w.alloc (.cells #[] 44)) _ (by simp) (Below.refl _ _)
    rw [World.size_alloc] at h
    exact h
  have hd : decide ((120 : Int) < ((s.length : Nat) : Int)) = false := by rw [decide_eq_false_iff_not]; exact hl
  have hl2 : s.length ≤ 120 := by omega
  have EN := Lib.hid (fun (a : Nat) (w' : World) (h : a < s.length) => spEnd_any s a w' h (by omega))
  clear hl
  go_enter Tryz.func113, Tryz.ntmps113
  go_wp2_with fail
  go_loopg [4, 5] s.length (fun n o a wr => ∃ (at_ : Nat) (l0 : List Tk), n = s.length - at_ ∧ at_ ≤ s.length ∧ a = .int .i64 (at_ : Int) ∧ GtT w.heap.size wr o l0 ∧ l0.length ≤ at_ ∧ tokL 0 s = (tokL at_ (s.drop at_)).map (fun l => l0 ++ l) ∧ Below w.heap.size w wr)
  case atStart => exact ⟨0, [], by omega, by omega, rfl, gt_empty tkRow 3 44 w _ (Nat.le_refl _) (Below.refl _ _), by simp, by rw [List.drop_zero]; cases tokL 0 s <;> rfl, by (repeat (first | with_reducible assumption | with_reducible exact Below.refl _ _ | with_reducible refine Below.setCell ?_ (by first | omega | (simp; done) | (simp; omega)) _ | with_reducible refine Below.alloc ?_ (by first | omega | (simp; done) | (simp; omega)) _ | with_reducible refine below_drewN ?_ _ | with_reducible refine Below.drew ?_))⟩
  case round =>
    obtain ⟨at_, l0, hn, ha, rfl, hG, hl0, ht, hbl⟩ := hrel
    have HK := Lib.hid (And.intro hn ht)
    clear hn ht
    by_cases hlt : at_ < s.length
    · have E1 := Lib.hid (EN.out at_ wr hlt)
      go_wp2_with fail
      refine E1.out.mono ?_
      rintro r _ ⟨rfl, rfl⟩
      have hdr := List.drop_eq_getElem_cons hlt
      have hle := endL_le (s.drop at_)
      rw [List.length_drop] at hle
      have hpo := endL_pos (s := s.drop at_) (by intro h; have := congrArg List.length h; simp at this; omega)
      by_cases h32 : s[at_] = 32
      · have hq : s[at_].toNat = 32 := by simp [h32]
        have he1 : endL (s.drop at_) = 1 := endL_one hlt (by rw [h32]; decide)
        have HT := Lib.hid (show tokL 0 s = (tokL (at_ + 1) (s.drop (at_ + 1))).map (fun l => l0 ++ l) by rw [HK.out.2, hdr, h32, tokL_space])
        rw [he1]
        clear h32 he1 hle hpo hdr
        go_wp2_with fail
        go_roundg (s.length - (at_ + 1))
        case measure => have := HK.out.1; omega
        case rel => exact ⟨at_ + 1, l0, rfl, by omega, by go_num, hG, by omega, HT.out, hbl⟩
      · have hq : ¬ s[at_].toNat = 32 := fun h => h32 (UInt8.toNat_inj.1 (by rw [h]; decide))
        have hst := tokL_step (a := at_) (r := s.drop (at_ + 1)) h32
        rw [← hdr] at hst
        have HST := Lib.hid hst
        clear hst hdr h32
        have hx : (bs s).extract at_ (at_ + endL (s.drop at_)) = bs ((s.drop at_).take (endL (s.drop at_))) := by rw [bs_ext]; simp
        have hdd : (s.drop at_).drop (endL (s.drop at_)) = s.drop (at_ + endL (s.drop at_)) := by rw [List.drop_drop]
        rw [hdd] at HST
        have htl : ((s.drop at_).take (endL (s.drop at_))).length ≤ 100000000 := by simp; omega
        have K1 := Lib.hid (KD.out ((s.drop at_).take (endL (s.drop at_))) wr htl)
        clear hdd htl
        generalize (s.drop at_).take (endL (s.drop at_)) = t at *
        generalize endL (s.drop at_) = n at *
        have hto : at_ + n ≤ s.length := by omega
        obtain ⟨Au, cu, rfl, _, _⟩ := hG.val
        by_cases hk : kindL t = 0
        · have HN := Lib.hid (show tokL 0 s = none by rw [HK.out.2, HST.out, if_pos hk]; rfl)
          rw [hk] at K1
          clear hk
          go_wp2_with fail
          refine K1.out.mono ?_
          rintro r w2 ⟨rfl, hb2⟩
          have hbw2 := hbl.ext hb2
          have hz2 := hbw2.size
          go_wp2_with fail
          refine bodyPost_ret (v := .tuple #[.slice (some ⟨w2.heap.size, 0, none⟩) 0 0, .bool false]) (by simp [results, Tryz.results113, go_sem, *]) rfl ?_
          exact ⟨_, [], false, rfl, gt_empty tkRow 3 44 w2 _ hbw2.size (Below.refl _ _), .inr ⟨rfl, rfl, .inr HN.out⟩, by (repeat (first | with_reducible assumption | with_reducible exact Below.refl _ _ | with_reducible refine Below.setCell ?_ (by first | omega | (simp; done) | (simp; omega)) _ | with_reducible refine Below.alloc ?_ (by first | omega | (simp; done) | (simp; omega)) _ | with_reducible refine below_drewN ?_ _ | with_reducible refine Below.drew ?_ | with_reducible refine Below.trans ?_ (Below.mono hbw2 (by first | omega | (simp; done) | (simp; omega)))))⟩
        · have HY := Lib.hid (show tokL 0 s = (tokL (at_ + n) (s.drop (at_ + n))).map (fun l => (l0 ++ [⟨kindL t, t, at_⟩]) ++ l) by
            rw [HK.out.2, HST.out, if_neg hk, Option.map_map]
            congr 1
            funext l
            simp)
          have hk2 : ((kindL t : Int) == 0) = false := by rw [beq_eq_false_iff_ne]; omega
          have hk3 : ¬ kindL t = 0 := hk
          clear hk
          generalize kindL t = kt at *
          have HG := Lib.hid hG
          clear hG
          go_wp2_with fail
          refine K1.out.mono ?_
          rintro r w2 ⟨rfl, hb2⟩
          have hbw2 := hbl.ext hb2
          have hz2 := hbw2.size
          go_wp2_with (first | (at_builtin; refine app_plain rtTk (by rfl) (.tmp 32) (.tmp 40) (by rfl) w.heap.size (.slice Au l0.length cu) l0 (by rfl) ((HG.out.ext hb2).ext (by (repeat (first | with_reducible assumption | with_reducible exact Below.refl _ _ | with_reducible refine Below.setCell ?_ (by first | omega | (simp; done) | (simp; omega)) _ | with_reducible refine Below.alloc ?_ (by first | omega | (simp; done) | (simp; omega)) _ | with_reducible refine below_drewN ?_ _ | with_reducible refine Below.drew ?_)))) ⟨w2.heap.size, 0, none⟩ 1 [⟨kt, t, at_⟩] (by rfl) (World.news_of_block (heap_alloc_new w2 _)) Nat.zero_lt_one (by simp; omega) (by simp; omega) ?_; intro g' cap' w3 hG3 hgr3 hat3) | fail)
          go_roundg (s.length - (at_ + n))
          case measure => have := HK.out.1; omega
          case rel => exact ⟨at_ + n, _, rfl, hto, by go_num, hG3.len (by simp) rfl, by simp; omega, HY.out, below_app (by (repeat (first | with_reducible assumption | with_reducible exact Below.refl _ _ | with_reducible refine Below.setCell ?_ (by first | omega | (simp; done) | (simp; omega)) _ | with_reducible refine Below.alloc ?_ (by first | omega | (simp; done) | (simp; omega)) _ | with_reducible refine below_drewN ?_ _ | with_reducible refine Below.drew ?_ | with_reducible refine Below.trans ?_ (Below.mono hbw2 (by first | omega | (simp; done) | (simp; omega)))))) hgr3 (fun q hq => (HG.out.lt hq).1) (by simp; omega)⟩
    · have hat : at_ = s.length := by omega
      have HT := Lib.hid (show tokL 0 s = some l0 by rw [HK.out.2, hat, List.drop_length, tokL_nil]; simp)
      obtain ⟨Au, cu, rfl, _, _⟩ := hG.val
      clear hat
      go_wp2_with fail
      refine bodyPost_ret (v := .tuple #[.slice Au l0.length cu, .bool true]) (by simp [results, Tryz.results113, go_sem, *]) rfl ?_
      exact ⟨_, l0, true, rfl, hG, .inl ⟨rfl, hl2, HT.out⟩, hbl⟩
end Go.Proofs.YtgakjhaepdigpaaGreatDoor


/- Segments: equality of two lists, as the laws, the reference and the library ask it. -/
namespace Go.Proofs.YtgakjhaepdigpaaGreatDoor
set_option maxRecDepth 100000
set_option linter.unusedSimpArgs false
set_option linter.unusedVariables false
open Go.RowKit

end Go.Proofs.YtgakjhaepdigpaaGreatDoor


/- Marks in a call's own memory: what is written in place, and what stays. No condition. -/
namespace Go.Proofs.YtgakjhaepdigpaaGreatDoor
set_option maxRecDepth 100000
set_option linter.unusedSimpArgs false
set_option linter.unusedVariables false
open Go.RowKit

theorem own_ext {w w' : World} {base : Nat} {e : TypeId} {size : Nat} {v : Value} {n : Nat} {xs : List Value} (h : w.ownsRow base e size v n xs) (hb : Below w.heap.size w w') : w'.ownsRow base e size v n xs :=
  h.kept (row := none) ⟨hb.os, hb.tape, hb.output, hb.size, fun k hk _ => hb.block k hk⟩ (by cases v.ownBlock <;> simp)

/-- what only one row of the call's own was turned in -/
theorem below_grown {B : Nat} {a b c : World} {row : Option Nat} (h : Below B a b) (hg : b.grownBy c row) (hB : B ≤ b.heap.size) (hr : ∀ k, row = some k → B ≤ k) : Below B a c :=
  h.trans ⟨hg.os, hg.tape, hg.output, hg.size, fun k hk => hg.block k (by omega) (fun e => by have := hr k e.symm; omega)⟩
theorem grown_trans {a w w' : World} {row : Option Nat} (h : a.grownBy w row) (k : w.grownBy w' row) : a.grownBy w' row :=
  ⟨k.os.trans h.os, k.tape.trans h.tape, k.output.trans h.output, Nat.le_trans h.size k.size, fun i hi hr => (k.block i (Nat.lt_of_lt_of_le hi h.size) hr).trans (h.block i hi hr)⟩
theorem grown_below {a w w' : World} {row : Option Nat} (h : a.grownBy w row) (hb : Below w.heap.size w w') : a.grownBy w' row :=
  grown_trans h ⟨hb.os, hb.tape, hb.output, hb.size, fun i hi _ => hb.block i hi⟩
theorem grown_refl (w : World) (row : Option Nat) : w.grownBy w row := ⟨rfl, rfl, rfl, Nat.le_refl _, fun _ _ _ => rfl⟩
theorem grown_set {a w : World} {b : Nat} (h : a.grownBy w (some b)) (i : Nat) (v : Value) : a.grownBy (w.setCell ⟨b, i, none⟩ v) (some b) :=
  grown_trans h ⟨rfl, rfl, rfl, by simp [World.setCell], fun k hk hr => Below.heap_setCell w ⟨b, i, none⟩ v k (fun e => hr (by rw [e]))⟩
theorem grown_cell {w w' : World} {row : Option Nat} {b o : Nat} {x : Value} (hg : w.grownBy w' row) (h : w.cell? ⟨b, o, none⟩ = some x) (hne : row ≠ some b) : w'.cell? ⟨b, o, none⟩ = some x :=
  hg.cell h (fun e => hne e.symm)

section
variable {α : Type} {row : α → List Value} {k lo : Nat} {t : TypeId} {w w' : World} {v : Value} {l : List α}
theorem Fr.lt (h : Fr row k t w lo v l) {b : Nat} (hb : v.ownBlock = some b) : lo ≤ b ∧ b < w.heap.size := by
  rcases h with ⟨rfl, _⟩ | ⟨g, cap, cur, rfl, hlo, hc, hm, hk, hx⟩
  · simp [Value.ownBlock] at hb
  · simp [Value.ownBlock] at hb
    subst hb
    exact ⟨hlo, hk.lt⟩
theorem Fr.grown {r : Option Nat} (h : Fr row k t w lo v l) (hg : w.grownBy w' r) (hr : v.ownBlock = none ∨ v.ownBlock ≠ r) : Fr row k t w' lo v l := by
  rcases h with h | ⟨g, cap, cur, rfl, hlo, hc, hm, hk, hx⟩
  · exact .inl h
  · refine .inr ⟨g, cap, cur, rfl, hlo, hc, hm, ?_, hx⟩
    exact (hg.block g hk.lt (by simpa [Value.ownBlock] using hr)).trans hk
theorem flat_at (hk : ∀ s, (row s).length = k) : ∀ (l : List α) (i : Nat) (s : α), l[i]? = some s → ∀ (j : Nat) (x : Value), (row s)[j]? = some x → (l.flatMap row)[i * k + j]? = some x
  | [], i, s, h, _, _, _ => by simp at h
  | a :: l, 0, s, h, j, x, hx => by
    simp at h
    subst h
    have hj : j < (row a).length := (List.getElem?_eq_some_iff.1 hx).1
    rw [List.flatMap_cons, Nat.zero_mul, Nat.zero_add, List.getElem?_append_left hj]
    exact hx
  | a :: l, i + 1, s, h, j, x, hx => by
    simp at h
    have e : (i + 1) * k + j = (row a).length + (i * k + j) := by rw [hk, Nat.add_mul]; omega
    rw [List.flatMap_cons, e, List.getElem?_append_right (by omega), Nat.add_sub_cancel_left]
    exact flat_at hk l i s h j x hx
theorem Fr.of_owns (hk : ∀ s, (row s).length = k) (h : w.ownsRow lo t k v l.length (l.flatMap row)) : Fr row k t w lo v l := by
  rcases h.2 with ⟨rfl, h0⟩ | ⟨g, cap, cur, rfl, hlo, hb, hc, hm, hsz, ht⟩
  · exact .inl ⟨rfl, List.eq_nil_of_length_eq_zero h0⟩
  · refine .inr ⟨g, cap, cur, rfl, hlo, hc, hm, hb, fun i s hs j x hx => ?_⟩
    have h1 := flat_at hk l i s hs j x hx
    rw [← ht] at h1
    rw [List.getElem?_take] at h1
    split at h1
    · simpa using h1
    · cases h1
/-- the same, with its capacity cut to its length -/
theorem Fr.clip {A : Option Addr} {n c : Nat} (h : Fr row k t w lo (.slice A n c) l) : Fr row k t w lo (.slice A n n) l := by
  rcases h with ⟨h1, h2⟩ | ⟨g, cap, cur, hv, hlo, hc, hm, hk, hx⟩
  · injection h1 with h3 h4 h5
    subst h3 h4
    exact .inl ⟨rfl, h2⟩
  · injection hv with h3 h4 h5
    subst h3 h4
    exact .inr ⟨g, l.length, cur, rfl, hlo, Nat.le_refl _, by omega, hk, hx⟩
/-- what it looks like -/
theorem Fr.form (h : Fr row k t w lo v l) : (v = .slice none 0 0 ∧ l = []) ∨ ∃ g cap cur, v = .slice (some ⟨g, 0, none⟩) l.length cap ∧ lo ≤ g ∧ l.length ≤ cap ∧ cap ≤ 9223372036854775807 ∧ Blk w g t cur ∧ ∀ (i : Nat) (s : α), l[i]? = some s → ∀ (j : Nat) (x : Value), (row s)[j]? = some x → cur[i * k + j]? = some x := by
  rcases h with h | ⟨g, cap, cur, rfl, hlo, hc, hm, hk, hx⟩
  · exact .inl h
  · exact .inr ⟨g, cap, cur, rfl, hlo, hc, by unfold maxLen at hm; omega, hk, hx⟩
end

/-- fresh memory behind W1, and nothing of W1 turned -/
def Made {α : Type} (row : α → List Value) (k : Nat) (t : TypeId) (W1 : World) (m : List α) (u : Value) (w : World) : Prop := Fr row k t w W1.heap.size u m ∧ Below W1.heap.size W1 w

theorem apart {α β : Type} {row : α → List Value} {k : Nat} {t : TypeId} {row' : β → List Value} {k' : Nat} {t' : TypeId} {w w' : World} {lo lo' : Nat} {v v' : Value} {l : List α} {l' : List β}
    (h : Fr row k t w lo v l) (h' : Fr row' k' t' w' lo' v' l') (hl : w.heap.size ≤ lo') : (v.ownBlock = none ∨ v.ownBlock ≠ v'.ownBlock) ∧ (v'.ownBlock = none ∨ v'.ownBlock ≠ v.ownBlock) := by
  cases e : v.ownBlock with
  | none => exact ⟨.inl rfl, by cases e' : v'.ownBlock <;> simp⟩
  | some b =>
    cases e' : v'.ownBlock with
    | none => exact ⟨.inr (by simp), .inl rfl⟩
    | some b' =>
      have h1 := (h.lt e).2
      have h2 := (h'.lt e').1
      exact ⟨.inr (by simp; omega), .inr (by simp; omega)⟩

/-! ### lists of marks -/
def mkSg (k : Int) : Sg := ((k, k + 1), (k + 1 + 1, k + 1 + 1 + 1))
def mkPs (k : Int) : Ps := (k, k + 1)
def markSg (k : Int) (n : Nat) : List Sg := (List.range n).map (fun i : Nat => mkSg (k + (i : Int) * 4))
def markPs (k : Int) (n : Nat) : List Ps := (List.range n).map (fun i : Nat => mkPs (k + (i : Int) * 2))
theorem markSg_len (k : Int) (n : Nat) : (markSg k n).length = n := by simp [markSg]
theorem markPs_len (k : Int) (n : Nat) : (markPs k n).length = n := by simp [markPs]
theorem markSg_at (k : Int) {n i : Nat} (h : i < n) : (markSg k n)[i]? = some (mkSg (k + i * 4)) := by simp [markSg, h]
theorem markPs_at (k : Int) {n i : Nat} (h : i < n) : (markPs k n)[i]? = some (mkPs (k + i * 2)) := by simp [markPs, h]
theorem full_of_cells {α : Type} {row : α → List Value} {k : Nat} {l : List α} {cur : Array Value} (hk : ∀ s, (row s).length = k) (hk0 : 0 < k) (h : ∀ (i : Nat) (s : α), l[i]? = some s → ∀ (j : Nat) (x : Value), (row s)[j]? = some x → cur[i * k + j]? = some x) : l.length * k ≤ cur.size := by
  rcases Nat.eq_zero_or_pos l.length with h0 | h0
  · rw [h0]; omega
  · obtain ⟨m, hm⟩ : ∃ m, l.length = m + 1 := ⟨l.length - 1, by omega⟩
    have hs : l[m]? = some (l[m]'(by omega)) := List.getElem?_eq_getElem _
    have hj : (row (l[m]'(by omega)))[k - 1]? = some ((row (l[m]'(by omega)))[k - 1]'(by rw [hk]; omega)) := List.getElem?_eq_getElem _
    have := (Array.getElem?_eq_some_iff.1 (h m _ hs _ _ hj)).1
    rw [hm, Nat.add_mul]
    omega

end Go.Proofs.YtgakjhaepdigpaaGreatDoor
