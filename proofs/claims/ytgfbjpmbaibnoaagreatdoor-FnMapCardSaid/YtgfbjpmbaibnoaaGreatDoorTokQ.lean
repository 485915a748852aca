
/- The reference's words of a line: TokLine. -/
import Derived.Test.YtgfbjpmbaibnoaaGreatDoorTokNM
import Derived.Test.YtgfbjpmbaibnoaaGreatDoorZm11
import Derived.Test.YtgfbjpmbaibnoaaGreatDoorWds
import Derived.Test.YtgfbjpmbaibnoaaGreatDoorStSp
namespace Go.Proofs.YtgfbjpmbaibnoaaGreatDoor
set_option maxRecDepth 100000
set_option linter.unusedSimpArgs false
set_option linter.unusedVariables false
open Go.RowKit
attribute [local go_sem] bs_toList bs_get bs_size

theorem class_let {c : UInt8} : (classL c == 1) = isLet c := by
  unfold classL
  cases h : isLet c
  · simp only [Bool.false_eq_true, if_false]
    split
    · rfl
    · split
      · rfl
      · split <;> rfl
  · simp
theorem class_dig {c : UInt8} : (classL c == 2) = isDig c := by
  unfold classL
  cases h : isLet c
  · simp only [Bool.false_eq_true, if_false]
    cases h2 : isDig c
    · simp only [Bool.false_eq_true, if_false]
      split
      · rfl
      · split <;> rfl
    · simp
  · have := let_not_dig h
    rw [this]
    simp
theorem endL_wlen {c : UInt8} {r : Bytes} (h : classL c ≠ 0) : endL (c :: r) = wlen (c :: r) := by
  unfold wlen
  by_cases h1 : isLet c = true
  · have e : classL c = 1 := by have := class_let (c := c); rw [h1] at this; simpa using this
    have hz : runL isDig (c :: r) = 0 := runL_zero (let_not_dig h1)
    have hf : (fun x => classL x == 1) = isLet := funext fun x => class_let
    simp only [endL, e]
    rw [hz, hf, if_pos (show (1 : Nat) < 3 by omega)]
    unfold runL
    simp only [List.takeWhile_cons, h1, if_true, List.length_cons]
    omega
  · by_cases h2 : isDig c = true
    · have e : classL c = 2 := by have := class_dig (c := c); rw [h2] at this; simpa using this
      have hz : runL isLet (c :: r) = 0 := runL_zero (by simpa using h1)
      have hf : (fun x => classL x == 2) = isDig := funext fun x => class_dig
      simp only [endL, e]
      rw [hz, hf, if_pos (show (2 : Nat) < 3 by omega)]
      unfold runL
      simp only [List.takeWhile_cons, h2, if_true, List.length_cons]
      omega
    · have hz : runL isLet (c :: r) = 0 := runL_zero (by simpa using h1)
      have hz2 : runL isDig (c :: r) = 0 := runL_zero (by simpa using h2)
      have hc : ¬ classL c < 3 := by
        have a1 := class_let (c := c)
        have a2 := class_dig (c := c)
        have h1' : isLet c = false := by simpa using h1
        have h2' : isDig c = false := by simpa using h2
        rw [h1'] at a1
        rw [h2'] at a2
        simp at a1 a2
        omega
      simp only [endL, if_neg hc]
      rw [hz, hz2]
      rfl
theorem class_zero {c : UInt8} (h : classL c = 0) : isLet c = false ∧ isDig c = false ∧ marksL.any (fun x => x == c) = false ∧ c ≠ 32 := by
  unfold classL at h
  split at h
  · cases h
  · split at h
    · cases h
    · split at h
      · cases h
      · split at h
        · cases h
        · exact ⟨Bool.eq_false_iff.2 ‹¬ isLet c = true›, Bool.eq_false_iff.2 ‹¬ isDig c = true›, Bool.eq_false_iff.2 ‹¬ marksL.any (fun x => x == c) = true›, ‹¬ c = 32›⟩
theorem kind_zero {c : UInt8} (h : classL c = 0) (l : Bytes) : kindL (c :: l) = 0 := by
  obtain ⟨h1, h2, h3, _⟩ := class_zero h
  unfold kindL
  have a : wordB (c :: l) = false := by unfold wordB; simp [h1]
  have b : numB (c :: l) = false := by unfold numB; simp [h2]
  have d : markB (c :: l) = false := by
    cases l with
    | nil => rw [mark_one]; exact h3
    | cons x l => exact mark_not (by simp)
  rw [a, b, d]
  simp
theorem endL_pos {s : Bytes} (h : s ≠ []) : 1 ≤ endL s := by
  cases s with
  | nil => exact absurd rfl h
  | cons c r => simp only [endL]; split <;> omega
theorem endL_le (s : Bytes) : endL s ≤ s.length := by
  cases s with
  | nil => simp [endL]
  | cons c r =>
    simp only [endL, List.length_cons]
    have := (List.takeWhile_sublist (l := r) (fun x => classL x == classL c)).length_le
    split <;> omega
/-- one word more -/
theorem tokL_step {a : Nat} {c : UInt8} {r : Bytes} (h32 : c ≠ 32) : tokL a (c :: r) = if kindL ((c :: r).take (endL (c :: r))) = 0 then none else (tokL (a + endL (c :: r)) ((c :: r).drop (endL (c :: r)))).map (fun l => ⟨kindL ((c :: r).take (endL (c :: r))), (c :: r).take (endL (c :: r)), a⟩ :: l) := by
  by_cases h0 : classL c = 0
  · have hp := endL_pos (s := c :: r) (by simp)
    have hw : 1 ≤ wlen (c :: r) := by unfold wlen; omega
    have k1 : kindL ((c :: r).take (endL (c :: r))) = 0 := by
      obtain ⟨n, hn⟩ : ∃ n, endL (c :: r) = n + 1 := ⟨endL (c :: r) - 1, by omega⟩
      rw [hn, List.take_succ_cons]
      exact kind_zero h0 _
    have k2 : kindL ((c :: r).take (wlen (c :: r))) = 0 := by
      obtain ⟨n, hn⟩ : ∃ n, wlen (c :: r) = n + 1 := ⟨wlen (c :: r) - 1, by omega⟩
      rw [hn, List.take_succ_cons]
      exact kind_zero h0 _
    rw [if_pos k1]
    exact tokL_bad (by simp) (by simpa using h32) k2
  · rw [endL_wlen h0]
    by_cases hk : kindL ((c :: r).take (wlen (c :: r))) = 0
    · rw [if_pos hk]
      exact tokL_bad (by simp) (by simpa using h32) hk
    · rw [if_neg hk]
      exact tokL_word (by simp) (by simpa using h32) hk
theorem bs_ext (s : Bytes) (i j : Nat) : (bs s).extract i j = bs ((s.drop i).take (j - i)) := by
  apply ByteArray.ext
  rw [ByteArray.data_extract]
  simp [bs]
theorem infoTk : (Tryz.prog.info? 56).map (fun i => (i.zero, i.size, i.bytes)) = some (some (.agg #[.int .i64 0, .string ⟨#[]⟩, .int .i64 0]), 3, 32) := by kernel_rfl
theorem rtTk : RowTy tkRow 3 56 51 := .of_info (fun _ => rfl) (fun s u hu => by simp [tkRow] at hu; rcases hu with rfl | rfl | rfl <;> rfl) (by decide) Tryz.underlying51 infoTk (by decide) rfl
abbrev GtT := Gt tkRow 3 56
/-- what TokLine gives -/
def TlP (line : Bytes) (w : World) (e : Ending) (w' : World) : Prop := ∃ (u : Value) (l : List Tk) (ok : Bool), e = .returned (.tuple #[u, .bool ok]) ∧ GtT w.heap.size w' u l ∧ ((ok = true ∧ line.length ≤ 120 ∧ tokL 0 line = some l) ∨ (ok = false ∧ l = [] ∧ (120 < line.length ∨ tokL 0 line = none))) ∧ Below w.heap.size w w'
set_option maxHeartbeats 1000000 in
theorem spTokLine_any (s : Bytes) (w : World) (hs : s.length ≤ 100000000) : Calls Tryz.prog 167 #[.string (bs s)] w (TlP s w) := by
  have KD := Lib.hid (fun (t : Bytes) (w' : World) (ht : t.length ≤ 100000000) => spTokKind_any t w' ht)
  by_cases hl : (120 : Int) < ((s.length : Nat) : Int)
  · have hd : decide ((120 : Int) < ((s.length : Nat) : Int)) = true := by rw [decide_eq_true_eq]; exact hl
    go_enter Tryz.func167, Tryz.ntmps167
    go_wp2_with fail
    refine bodyPost_ret (v := .tuple #[.slice (some ⟨w.heap.size + 1, 0, none⟩) 0 0, .bool false]) (by simp [results, Tryz.results167, go_sem, *]) rfl ?_
    refine ⟨_, [], false, rfl, ?_, .inr ⟨rfl, rfl, .inl (by omega)⟩, by (repeat (first | with_reducible assumption | with_reducible exact Below.refl _ _ | with_reducible refine Below.setCell ?_ (by first | omega | (simp; done) | (simp; omega)) _ | with_reducible refine Below.alloc ?_ (by first | omega | (simp; done) | (simp; omega)) _ | with_reducible refine below_drewN ?_ _ | with_reducible refine Below.drew ?_))⟩
    have h := gt_empty tkRow 3 56 (B := w.heap.size) (w.alloc (.cells #[] 56)) _ (by simp) (Below.refl _ _)
    rw [World.size_alloc] at h
    exact h
  have hd : decide ((120 : Int) < ((s.length : Nat) : Int)) = false := by rw [decide_eq_false_iff_not]; exact hl
  have hl2 : s.length ≤ 120 := by omega
  have EN := Lib.hid (fun (a : Nat) (w' : World) (h : a < s.length) => spEnd_any s a w' h (by omega))
  clear hl
  go_enter Tryz.func167, Tryz.ntmps167
  go_wp2_with fail
  go_loopg [4, 5] s.length (fun n o a wr => ∃ (at_ : Nat) (l0 : List Tk), n = s.length - at_ ∧ at_ ≤ s.length ∧ a = .int .i64 (at_ : Int) ∧ GtT w.heap.size wr o l0 ∧ l0.length ≤ at_ ∧ tokL 0 s = (tokL at_ (s.drop at_)).map (fun l => l0 ++ l) ∧ Below w.heap.size w wr)
  case atStart => exact ⟨0, [], by omega, by omega, rfl, gt_empty tkRow 3 56 w _ (Nat.le_refl _) (Below.refl _ _), by simp, by rw [List.drop_zero]; cases tokL 0 s <;> rfl, by (repeat (first | with_reducible assumption | with_reducible exact Below.refl _ _ | with_reducible refine Below.setCell ?_ (by first | omega | (simp; done) | (simp; omega)) _ | with_reducible refine Below.alloc ?_ (by first | omega | (simp; done) | (simp; omega)) _ | with_reducible refine below_drewN ?_ _ | with_reducible refine Below.drew ?_))⟩
  case round =>
    obtain ⟨at_, l0, hn, ha, rfl, hG, hl0, ht, hbl⟩ := hrel
    have HK := Lib.hid (And.intro hn ht)
    clear hn ht
    by_cases hlt : at_ < s.length
    · have E1 := Lib.hid (EN.out at_ wr hlt)
      go_wp2_with fail
      refine E1.out.mono ?_
      rintro r _ ⟨rfl, rfl⟩
      have hdr := List.drop_eq_getElem_cons hlt
      have hle := endL_le (s.drop at_)
      rw [List.length_drop] at hle
      have hpo := endL_pos (s := s.drop at_) (by intro h; have := congrArg List.length h; simp at this; omega)
      by_cases h32 : s[at_] = 32
      · have hq : s[at_].toNat = 32 := by simp [h32]
        have he1 : endL (s.drop at_) = 1 := endL_one hlt (by rw [h32]; decide)
        have HT := Lib.hid (show tokL 0 s = (tokL (at_ + 1) (s.drop (at_ + 1))).map (fun l => l0 ++ l) by rw [HK.out.2, hdr, h32, tokL_space])
        rw [he1]
        clear h32 he1 hle hpo hdr
        go_wp2_with fail
        go_roundg (s.length - (at_ + 1))
        case measure => have := HK.out.1; omega
        case rel => exact ⟨at_ + 1, l0, rfl, by omega, by go_num, hG, by omega, HT.out, hbl⟩
      · have hq : ¬ s[at_].toNat = 32 := fun h => h32 (UInt8.toNat_inj.1 (by rw [h]; decide))
        have hst := tokL_step (a := at_) (r := s.drop (at_ + 1)) h32
        rw [← hdr] at hst
        have HST := Lib.hid hst
        clear hst hdr h32
        have hx : (bs s).extract at_ (at_ + endL (s.drop at_)) = bs ((s.drop at_).take (endL (s.drop at_))) := by rw [bs_ext]; simp
        have hdd : (s.drop at_).drop (endL (s.drop at_)) = s.drop (at_ + endL (s.drop at_)) := by rw [List.drop_drop]
        rw [hdd] at HST
        have htl : ((s.drop at_).take (endL (s.drop at_))).length ≤ 100000000 := by simp; omega
        have K1 := Lib.hid (KD.out ((s.drop at_).take (endL (s.drop at_))) wr htl)
        clear hdd htl
        generalize (s.drop at_).take (endL (s.drop at_)) = t at *
        generalize endL (s.drop at_) = n at *
        have hto : at_ + n ≤ s.length := by omega
        obtain ⟨Au, cu, rfl, _, _⟩ := hG.val
        by_cases hk : kindL t = 0
        · have HN := Lib.hid (show tokL 0 s = none by rw [HK.out.2, HST.out, if_pos hk]; rfl)
          rw [hk] at K1
          clear hk
          go_wp2_with fail
          refine K1.out.mono ?_
          rintro r w2 ⟨rfl, hb2⟩
          have hbw2 := hbl.ext hb2
          have hz2 := hbw2.size
          go_wp2_with fail
          refine bodyPost_ret (v := .tuple #[.slice (some ⟨w2.heap.size, 0, none⟩) 0 0, .bool false]) (by simp [results, Tryz.results167, go_sem, *]) rfl ?_
          exact ⟨_, [], false, rfl, gt_empty tkRow 3 56 w2 _ hbw2.size (Below.refl _ _), .inr ⟨rfl, rfl, .inr HN.out⟩, by (repeat (first | with_reducible assumption | with_reducible exact Below.refl _ _ | with_reducible refine Below.setCell ?_ (by first | omega | (simp; done) | (simp; omega)) _ | with_reducible refine Below.alloc ?_ (by first | omega | (simp; done) | (simp; omega)) _ | with_reducible refine below_drewN ?_ _ | with_reducible refine Below.drew ?_ | with_reducible refine Below.trans ?_ (Below.mono hbw2 (by first | omega | (simp; done) | (simp; omega)))))⟩
        · have HY := Lib.hid (show tokL 0 s = (tokL (at_ + n) (s.drop (at_ + n))).map (fun l => (l0 ++ [⟨kindL t, t, at_⟩]) ++ l) by
            rw [HK.out.2, HST.out, if_neg hk, Option.map_map]
            congr 1
            funext l
            simp)
          have hk2 : ((kindL t : Int) == 0) = false := by rw [beq_eq_false_iff_ne]; omega
          have hk3 : ¬ kindL t = 0 := hk
          clear hk
          generalize kindL t = kt at *
          have HG := Lib.hid hG
          clear hG
          go_wp2_with fail
          refine K1.out.mono ?_
          rintro r w2 ⟨rfl, hb2⟩
          have hbw2 := hbl.ext hb2
          have hz2 := hbw2.size
          go_wp2_with (first | (at_builtin; refine app_plain rtTk (by rfl) (.tmp 32) (.tmp 40) (by rfl) w.heap.size (.slice Au l0.length cu) l0 (by rfl) ((HG.out.ext hb2).ext (by (repeat (first | with_reducible assumption | with_reducible exact Below.refl _ _ | with_reducible refine Below.setCell ?_ (by first | omega | (simp; done) | (simp; omega)) _ | with_reducible refine Below.alloc ?_ (by first | omega | (simp; done) | (simp; omega)) _ | with_reducible refine below_drewN ?_ _ | with_reducible refine Below.drew ?_)))) ⟨w2.heap.size, 0, none⟩ 1 [⟨kt, t, at_⟩] (by rfl) (World.news_of_block (heap_alloc_new w2 _)) Nat.zero_lt_one (by simp; omega) (by simp; omega) ?_; intro g' cap' w3 hG3 hgr3 hat3) | fail)
          go_roundg (s.length - (at_ + n))
          case measure => have := HK.out.1; omega
          case rel => exact ⟨at_ + n, _, rfl, hto, by go_num, hG3.len (by simp) rfl, by simp; omega, HY.out, below_app (by (repeat (first | with_reducible assumption | with_reducible exact Below.refl _ _ | with_reducible refine Below.setCell ?_ (by first | omega | (simp; done) | (simp; omega)) _ | with_reducible refine Below.alloc ?_ (by first | omega | (simp; done) | (simp; omega)) _ | with_reducible refine below_drewN ?_ _ | with_reducible refine Below.drew ?_ | with_reducible refine Below.trans ?_ (Below.mono hbw2 (by first | omega | (simp; done) | (simp; omega)))))) hgr3 (fun q hq => (HG.out.lt hq).1) (by simp; omega)⟩
    · have hat : at_ = s.length := by omega
      have HT := Lib.hid (show tokL 0 s = some l0 by rw [HK.out.2, hat, List.drop_length, tokL_nil]; simp)
      obtain ⟨Au, cu, rfl, _, _⟩ := hG.val
      clear hat
      go_wp2_with fail
      refine bodyPost_ret (v := .tuple #[.slice Au l0.length cu, .bool true]) (by simp [results, Tryz.results167, go_sem, *]) rfl ?_
      exact ⟨_, l0, true, rfl, hG, .inl ⟨rfl, hl2, HT.out⟩, hbl⟩
end Go.Proofs.YtgfbjpmbaibnoaaGreatDoor
