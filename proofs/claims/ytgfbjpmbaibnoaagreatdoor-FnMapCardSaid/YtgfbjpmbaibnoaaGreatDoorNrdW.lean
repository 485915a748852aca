
/- The numbers that stand in letters: the walks of both readers of one. -/
import Derived.Test.YtgfbjpmbaibnoaaGreatDoorNrd
import Derived.Test.YtgfbjpmbaibnoaaGreatDoorTxts
import Derived.Test.YtgfbjpmbaibnoaaGreatDoorTokNM
import Derived.Test.YtgfbjpmbaibnoaaGreatDoorCutW
import Derived.Deep.QuietTactic
namespace Go.Proofs.YtgfbjpmbaibnoaaGreatDoor
set_option maxRecDepth 100000
set_option linter.unusedSimpArgs false
set_option linter.unusedVariables false
open Go.RowKit
attribute [local go_sem] bs_toList bs_get bs_size

/-! ### digit by digit -/
def NRel (F : Nat) (d : Bytes) (j v u : Nat) : Prop := numM F 0 1 d = (numM (F - j) v u (d.drop j)).map (fun p => (p.1, p.2 + j))
theorem NRel.zero (F : Nat) (d : Bytes) : NRel F d 0 0 1 := by unfold NRel; rw [Nat.sub_zero, List.drop_zero]; cases numM F 0 1 d <;> rfl
theorem NRel.step {F : Nat} {d : Bytes} {j v u : Nat} (h : NRel F d j v u) (hF : j < F) (hj : j < d.length) : numM F 0 1 d = (if dgL d[j] < 0 then none else if 16 ≤ dgL d[j] then (numM (F - (j + 1)) (v + (dgL d[j]).toNat % 16 * u) (u * 16) (d.drop (j + 1))).map (fun p => (p.1, p.2 + (j + 1))) else some (v + (dgL d[j]).toNat % 16 * u, j + 1)) := by
  unfold NRel at h
  rw [h, show F - j = (F - (j + 1)) + 1 by omega, List.drop_eq_getElem_cons hj, numM]
  split
  · rfl
  · split
    · rw [Option.map_map]
      congr 1
      funext p
      simp only [Function.comp]
      congr 1
      omega
    · simp only [Option.map_some, Nat.add_comm]
theorem NRel.hi {F : Nat} {d : Bytes} {j v u : Nat} {c : UInt8} (h : NRel F d j v u) (hF : j < F) (hj : d[j]? = some c) (h1 : 16 ≤ dgL c) : NRel F d (j + 1) (v + (dgL c).toNat % 16 * u) (u * 16) := by
  obtain ⟨hl, rfl⟩ := List.getElem?_eq_some_iff.1 hj
  have := h.step hF hl
  rw [if_neg (by omega), if_pos h1] at this
  exact this
theorem NRel.bad {F : Nat} {d : Bytes} {j v u : Nat} {c : UInt8} (h : NRel F d j v u) (hF : j < F) (hj : d[j]? = some c) (h1 : dgL c < 0) : rdNf F d = none := by
  obtain ⟨hl, rfl⟩ := List.getElem?_eq_some_iff.1 hj
  have := h.step hF hl
  rw [if_pos h1] at this
  unfold rdNf
  rw [this]
theorem NRel.lo {F : Nat} {d : Bytes} {j v u : Nat} {c : UInt8} (h : NRel F d j v u) (hF : j < F) (hj : d[j]? = some c) (h1 : ¬ dgL c < 0) (h2 : ¬ 16 ≤ dgL c) : rdNf F d = if numL (unz (v + (dgL c).toNat % 16 * u)) = d.take (j + 1) then some (unz (v + (dgL c).toNat % 16 * u), j + 1) else none := by
  obtain ⟨hl, rfl⟩ := List.getElem?_eq_some_iff.1 hj
  have := h.step hF hl
  rw [if_neg h1, if_neg h2] at this
  unfold rdNf
  rw [this]
theorem NRel.stop {F : Nat} {d : Bytes} {j v u : Nat} (h : NRel F d j v u) (hF : d.length ≤ j ∨ F ≤ j) : rdNf F d = none := by
  have : numM F 0 1 d = none := by
    unfold NRel at h
    rw [h]
    rcases hF with hF | hF
    · rw [List.drop_eq_nil_of_le hF]
      cases F - j <;> rfl
    · rw [show F - j = 0 by omega]
      rfl
  unfold rdNf
  rw [this]
theorem find_ix (s : Bytes) (c : UInt8) : findI s c = Lib.indexByte s c := by
  by_cases h : Lib.indexByte s c = -1
  · rw [h]
    exact findI_no (fun t x _ hx e => Lib.indexByte_none h t (by rw [hx, e]))
  · have hge := Lib.indexByte_ge s c
    obtain ⟨o, ho⟩ : ∃ o : Nat, Lib.indexByte s c = o := ⟨(Lib.indexByte s c).toNat, by omega⟩
    obtain ⟨h1, h2⟩ := Lib.indexByte_some ho
    obtain ⟨hl, hg⟩ := List.getElem?_eq_some_iff.1 h1
    rw [ho]
    exact findI_at hl hg (fun t x ht hx e => h2 t ht (by rw [hx, e]))
theorem letters_letL : lettersB = bs letL := by apply ByteArray.ext; decide +kernel
theorem spDigit_any (c : UInt8) (w : World) : Calls Tryz.prog 232 #[.int .u8 (c.toNat : Int)] w fun e w' => e = .returned (.int .i64 (dgL c)) ∧ Below w.heap.size w w' := by
  have MK := Lib.hid (fun (y : Later w.heap.size w) => letters_any y.w')
  have FD := Lib.hid (fun (y : Later w.heap.size w) => spFindI_any letL c y.w' (by decide))
  rw [find_ix] at FD
  rw [letters_letL] at MK
  have hd : dgL c = Lib.indexByte letL c := rfl
  rw [← hd] at FD
  clear hd
  generalize dgL c = i at *
  go_enter Tryz.func232, Tryz.ntmps232
  go_wp2_with (first | (go_at_call 254; refine (letters_any _).mono ?_; rintro r _ ⟨rfl, rfl⟩; rw [letters_letL]) | fail)
  refine (FD.out ⟨w, Below.refl _ _⟩).mono ?_
  rintro r _ ⟨rfl, rfl⟩
  go_wp2_with fail
  go_ret
  exact ⟨rfl, Below.refl _ _⟩
theorem imDigit2_any (c : UInt8) (w : World) : Calls Tryz.prog 209 #[.string (bs letL), .int .u8 (c.toNat : Int)] w fun e w' => e = .returned (.int .i64 (dgL c)) ∧ w = w' := by
  refine (Tryz.strings_IndexByte (bs letL) (c.toNat : Int) w).mono ?_
  rintro e w' ⟨rfl, rfl⟩
  refine ⟨?_, rfl⟩
  rw [bs_data]
  simp [dgL]
/-- what a reader of one number tells -/
def NrP (s : Bytes) (at_ : Nat) (w : World) (e : Ending) (w' : World) : Prop :=
  ((∃ (n : Int) (k : Nat), rdN (s.drop at_) = some (n, k) ∧ e = .returned (.tuple #[.int .i64 n, .int .i64 ((at_ + k : Nat) : Int)])) ∨ (rdN (s.drop at_) = none ∧ e = .returned (.tuple #[.int .i64 0, .int .i64 (-1)]))) ∧ Below w.heap.size w w'
theorem pow_le {j : Nat} (h : j < 7) : 16 ^ j ≤ 16777216 := Nat.le_trans (Nat.pow_le_pow_right (by decide) (show j ≤ 6 by omega)) (by decide)
set_option maxHeartbeats 2000000 in
theorem spNumRead_any (s : Bytes) (at_ : Nat) (w : World) (hat : at_ ≤ s.length) (hs : s.length ≤ 100000000) : Calls Tryz.prog 210 #[.string (bs s), .int .i64 (at_ : Int)] w (NrP s at_ w) := by
  have DG := Lib.hid (fun (c : UInt8) (w' : World) => spDigit_any c w')
  have H7 := Lib.hid (rdN_seven (s.drop at_))
  go_enter Tryz.func210, Tryz.ntmps210
  go_wp2_with fail
  go_loopg [6, 7, 8] 8 (fun n a b c wr => ∃ (i v u : Nat), n = 8 - (i - at_) ∧ at_ ≤ i ∧ i ≤ s.length ∧ i - at_ ≤ 7 ∧ a = .int .i64 (v : Int) ∧ b = .int .i64 (u : Int) ∧ c = .int .i64 (i : Int) ∧ u = 16 ^ (i - at_) ∧ v < u ∧ NRel 7 (s.drop at_) (i - at_) v u ∧ Below w.heap.size w wr)
  case atStart => exact ⟨at_, 0, 1, by omega, by omega, hat, by omega, rfl, rfl, rfl, by simp, by omega, by rw [Nat.sub_self]; exact NRel.zero _ _, Below.refl _ _⟩
  case round =>
    obtain ⟨i, v, u, hn, hi, hil, hj, rfl, rfl, rfl, hu, hv, hR, hbl⟩ := hrel
    have hub : u ≤ 268435456 := by rw [hu]; exact Nat.le_trans (Nat.pow_le_pow_right (by decide) hj) (by decide)
    have HK := Lib.hid (And.intro hn (And.intro hu (And.intro hbl hR)))
    clear hn hR hbl
    have hi0 : (0 : Int) ≤ (i : Int) := by omega
    by_cases hlt : i < s.length
    · by_cases hj7 : i - at_ < 7
      · have hu7 : u ≤ 16777216 := by rw [hu]; exact pow_le hj7
        clear hu
        have HG := Lib.hid (show (s.drop at_)[i - at_]? = some s[i] by rw [List.getElem?_drop, show at_ + (i - at_) = i by omega, List.getElem?_eq_getElem hlt])
        obtain ⟨hd1, hd2⟩ := dg_lt s[i]
        have HB := Lib.hid (fun h => HK.out.2.2.2.bad hj7 HG.out h)
        have HH := Lib.hid (fun h => HK.out.2.2.2.hi hj7 HG.out h)
        have HL := Lib.hid (fun h h' => HK.out.2.2.2.lo hj7 HG.out h h')
        have C := Lib.hid (DG.out s[i] wr)
        generalize dgL s[i] = dg at *
        go_wp2_with fail
        refine C.out.mono ?_
        rintro r w2 ⟨rfl, hb2⟩
        have hbl := HK.out.2.2.1
        have hbw2 := hbl.ext hb2
        clear hbl
        by_cases hneg : dg < 0
        · have HN := Lib.hid (HB.out hneg)
          go_wp2_with fail
          refine bodyPost_ret (v := .tuple #[.int .i64 0, .int .i64 (-1)]) (by simp [results, Tryz.results210, go_sem, *]) rfl ?_
          exact ⟨.inr ⟨by rw [← H7.out]; exact HN.out, rfl⟩, hbw2⟩
        obtain ⟨dn, rfl⟩ : ∃ dn : Nat, dg = (dn : Int) := ⟨dg.toNat, by omega⟩
        rw [Int.toNat_natCast] at HH HL
        have hp15 : dn % 16 * u ≤ 15 * u := Nat.mul_le_mul_right u (by omega)
        have hmul : IntKind.i64.wrap ((dn : Int) % 16 * (u : Int)) = ((dn % 16 * u : Nat) : Int) := by
          rw [show (dn : Int) % 16 * (u : Int) = ((dn % 16 * u : Nat) : Int) by rw [Int.natCast_mul]; rfl, IntKind.wrap_i64]
          omega
        have hneg : ¬ (dn : Int) < 0 := by omega
        generalize dn % 16 * u = pm at *
        by_cases h16 : (16 : Int) ≤ (dn : Int)
        · have HN := Lib.hid (HH.out h16)
          go_wp2_with fail
          go_roundg (8 - (i + 1 - at_))
          case measure => have := HK.out.1; omega
          case rel => exact ⟨i + 1, v + pm, u * 16, rfl, by omega, by omega, by omega, by go_num, by go_num, by go_num, by rw [show i + 1 - at_ = (i - at_) + 1 by omega, Nat.pow_succ, HK.out.2.1], by omega, by rw [show i + 1 - at_ = (i - at_) + 1 by omega]; exact HN.out, hbw2⟩
        · have HN := Lib.hid (HL.out (by omega) (by omega))
          obtain ⟨v2, hv2⟩ : ∃ v2, v2 = v + pm := ⟨_, rfl⟩
          rw [← hv2] at HN
          have hvi : (v : Int) + (pm : Int) = (v2 : Int) := by omega
          have hv2b : v2 ≤ 10000000000 := by omega
          obtain ⟨h0, hh0⟩ : ∃ h0, h0 = v2 / 2 := ⟨_, rfl⟩
          have HH0 := Lib.hid hh0.symm
          have hhi : (v2 : Int) / 2 = (h0 : Int) := by omega
          have hh0b : h0 ≤ 10000000000 := by omega
          clear hv2 hh0 HH HB HL C
          by_cases hodd : v2 % 2 = 1
          · have ho : (((v2 : Int) % 2) == 1) = true := by rw [beq_iff_eq]; omega
            have hm : unz v2 = -(h0 : Int) := by unfold unz; rw [if_pos hodd, HH0.out]
            rw [hm] at HN
            clear hodd hm
            go_wp2_with fail
            generalize -(h0 : Int) = m at *
            have IN := Lib.hid (fun w' : World => spIn_any m w')
            have NT := Lib.hid (fun w' : World => spNumText_any m w')
            have hx : (bs s).extract at_ (i + 1) = bs ((s.drop at_).take (i - at_ + 1)) := by rw [bs_extS, show i + 1 - at_ = i - at_ + 1 by omega]
            have htl : 1 ≤ ((s.drop at_).take (i - at_ + 1)).length := by rw [List.length_take, List.length_drop]; omega
            have HTL := Lib.hid htl
            clear htl
            generalize (s.drop at_).take (i - at_ + 1) = tk at *
            by_cases hin : NumIn m
            · rw [decide_eq_true hin] at IN
              by_cases heq : numL m = tk
              · rw [if_pos heq] at HN
                have hb : (numL m == tk) = true := by simpa using heq
                clear heq hin HTL
                generalize numL m = q at *
                refine wp_region_later (Below.refl w2.heap.size w2) (by kernel_rfl) (by kernel_rfl) ?_
                repeat (go_big_quiet_step (first | (go_at_call 205; exact later_call_same (IN.out _)) | (go_at_call 206; exact later_call_same (NT.out _))))
                refine wpQuiet_nil ?_
                rintro _ ⟨y, rfl⟩
                have hy := y.ok
                go_wp2_with fail
                refine bodyPost_ret (v := .tuple #[.int .i64 m, .int .i64 ((i : Int) + 1)]) (by simp [results, Tryz.results210, go_sem, *]) rfl ?_
                exact ⟨.inl ⟨m, i - at_ + 1, by rw [← H7.out]; exact HN.out, by rw [show ((at_ + (i - at_ + 1) : Nat) : Int) = (i : Int) + 1 by omega]⟩, hbw2.ext hy⟩
              · rw [if_neg heq] at HN
                have hb : (numL m == tk) = false := by simpa using heq
                clear heq hin HTL
                generalize numL m = q at *
                refine wp_region_later (Below.refl w2.heap.size w2) (by kernel_rfl) (by kernel_rfl) ?_
                repeat (go_big_quiet_step (first | (go_at_call 205; exact later_call_same (IN.out _)) | (go_at_call 206; exact later_call_same (NT.out _))))
                refine wpQuiet_nil ?_
                rintro _ ⟨y, rfl⟩
                have hy := y.ok
                go_wp2_with fail
                refine bodyPost_ret (v := .tuple #[.int .i64 0, .int .i64 (-1)]) (by simp [results, Tryz.results210, go_sem, *]) rfl ?_
                exact ⟨.inr ⟨by rw [← H7.out]; exact HN.out, rfl⟩, hbw2.ext hy⟩
            · rw [decide_eq_false hin] at IN
              have heq : numL m ≠ tk := by
                intro e
                unfold numL at e
                rw [if_neg hin] at e
                have := HTL.out
                rw [← e] at this
                simp at this
              rw [if_neg heq] at HN
              clear heq hin HTL
              refine wp_region_later (Below.refl w2.heap.size w2) (by kernel_rfl) (by kernel_rfl) ?_
              repeat (go_big_quiet_step (first | (go_at_call 205; exact later_call_same (IN.out _)) | (go_at_call 206; exact later_call_same (NT.out _))))
              refine wpQuiet_nil ?_
              rintro _ ⟨y, rfl⟩
              have hy := y.ok
              go_wp2_with fail
              refine bodyPost_ret (v := .tuple #[.int .i64 0, .int .i64 (-1)]) (by simp [results, Tryz.results210, go_sem, *]) rfl ?_
              exact ⟨.inr ⟨by rw [← H7.out]; exact HN.out, rfl⟩, hbw2.ext hy⟩
          · have ho : (((v2 : Int) % 2) == 1) = false := by rw [beq_eq_false_iff_ne]; omega
            have hm : unz v2 = (h0 : Int) := by unfold unz; rw [if_neg hodd, HH0.out]
            rw [hm] at HN
            clear hodd hm
            go_wp2_with fail
            generalize (h0 : Int) = m at *
            have IN := Lib.hid (fun w' : World => spIn_any m w')
            have NT := Lib.hid (fun w' : World => spNumText_any m w')
            have hx : (bs s).extract at_ (i + 1) = bs ((s.drop at_).take (i - at_ + 1)) := by rw [bs_extS, show i + 1 - at_ = i - at_ + 1 by omega]
            have htl : 1 ≤ ((s.drop at_).take (i - at_ + 1)).length := by rw [List.length_take, List.length_drop]; omega
            have HTL := Lib.hid htl
            clear htl
            generalize (s.drop at_).take (i - at_ + 1) = tk at *
            by_cases hin : NumIn m
            · rw [decide_eq_true hin] at IN
              by_cases heq : numL m = tk
              · rw [if_pos heq] at HN
                have hb : (numL m == tk) = true := by simpa using heq
                clear heq hin HTL
                generalize numL m = q at *
                refine wp_region_later (Below.refl w2.heap.size w2) (by kernel_rfl) (by kernel_rfl) ?_
                repeat (go_big_quiet_step (first | (go_at_call 205; exact later_call_same (IN.out _)) | (go_at_call 206; exact later_call_same (NT.out _))))
                refine wpQuiet_nil ?_
                rintro _ ⟨y, rfl⟩
                have hy := y.ok
                go_wp2_with fail
                refine bodyPost_ret (v := .tuple #[.int .i64 m, .int .i64 ((i : Int) + 1)]) (by simp [results, Tryz.results210, go_sem, *]) rfl ?_
                exact ⟨.inl ⟨m, i - at_ + 1, by rw [← H7.out]; exact HN.out, by rw [show ((at_ + (i - at_ + 1) : Nat) : Int) = (i : Int) + 1 by omega]⟩, hbw2.ext hy⟩
              · rw [if_neg heq] at HN
                have hb : (numL m == tk) = false := by simpa using heq
                clear heq hin HTL
                generalize numL m = q at *
                refine wp_region_later (Below.refl w2.heap.size w2) (by kernel_rfl) (by kernel_rfl) ?_
                repeat (go_big_quiet_step (first | (go_at_call 205; exact later_call_same (IN.out _)) | (go_at_call 206; exact later_call_same (NT.out _))))
                refine wpQuiet_nil ?_
                rintro _ ⟨y, rfl⟩
                have hy := y.ok
                go_wp2_with fail
                refine bodyPost_ret (v := .tuple #[.int .i64 0, .int .i64 (-1)]) (by simp [results, Tryz.results210, go_sem, *]) rfl ?_
                exact ⟨.inr ⟨by rw [← H7.out]; exact HN.out, rfl⟩, hbw2.ext hy⟩
            · rw [decide_eq_false hin] at IN
              have heq : numL m ≠ tk := by
                intro e
                unfold numL at e
                rw [if_neg hin] at e
                have := HTL.out
                rw [← e] at this
                simp at this
              rw [if_neg heq] at HN
              clear heq hin HTL
              refine wp_region_later (Below.refl w2.heap.size w2) (by kernel_rfl) (by kernel_rfl) ?_
              repeat (go_big_quiet_step (first | (go_at_call 205; exact later_call_same (IN.out _)) | (go_at_call 206; exact later_call_same (NT.out _))))
              refine wpQuiet_nil ?_
              rintro _ ⟨y, rfl⟩
              have hy := y.ok
              go_wp2_with fail
              refine bodyPost_ret (v := .tuple #[.int .i64 0, .int .i64 (-1)]) (by simp [results, Tryz.results210, go_sem, *]) rfl ?_
              exact ⟨.inr ⟨by rw [← H7.out]; exact HN.out, rfl⟩, hbw2.ext hy⟩
      · have hu7 : ¬ u ≤ 16777216 := by rw [hu, show i - at_ = 7 by omega]; decide
        have HN := Lib.hid (HK.out.2.2.2.stop (.inr (by omega)))
        clear hu
        go_wp2_with fail
        refine bodyPost_ret (v := .tuple #[.int .i64 0, .int .i64 (-1)]) (by simp [results, Tryz.results210, go_sem, *]) rfl ?_
        exact ⟨.inr ⟨by rw [← H7.out]; exact HN.out, rfl⟩, HK.out.2.2.1⟩
    · have HN := Lib.hid (HK.out.2.2.2.stop (.inl (by simp; omega)))
      clear hu
      go_wp2_with fail
      refine bodyPost_ret (v := .tuple #[.int .i64 0, .int .i64 (-1)]) (by simp [results, Tryz.results210, go_sem, *]) rfl ?_
      exact ⟨.inr ⟨by rw [← H7.out]; exact HN.out, rfl⟩, HK.out.2.2.1⟩
theorem pow_le8 {j : Nat} (h : j < 8) : 16 ^ j ≤ 268435456 := Nat.le_trans (Nat.pow_le_pow_right (by decide) (show j ≤ 7 by omega)) (by decide)
set_option maxHeartbeats 2000000 in
theorem imNumRead_any (s : Bytes) (at_ : Nat) (w : World) (hat : at_ < s.length) (hs : s.length ≤ 100000000) : Calls Tryz.prog 177 #[.string (bs s), .int .i64 (at_ : Int)] w (NrP s at_ w) := by
  have DG := Lib.hid (fun (c : UInt8) (w' : World) => imDigit2_any c w')
  go_enter Tryz.func177, Tryz.ntmps177
  go_wp2_with fail
  refine (in_any _ _ _ _).mono ?_
  rintro r _ ⟨rfl, rfl⟩
  rw [decide_eq_true (show (0 : Int) ≤ (at_ : Int) ∧ (at_ : Int) ≤ ((s.length : Nat) : Int) - 1 by omega)]
  go_wp2_with fail
  go_loopg [6, 7, 8] 9 (fun n a b c wr => ∃ (i v u : Nat), n = 9 - (i - at_) ∧ at_ ≤ i ∧ i ≤ s.length ∧ i - at_ ≤ 8 ∧ a = .int .i64 (v : Int) ∧ b = .int .i64 (u : Int) ∧ c = .int .i64 (i : Int) ∧ u = 16 ^ (i - at_) ∧ v < u ∧ NRel 8 (s.drop at_) (i - at_) v u ∧ Below w.heap.size w wr)
  case atStart => exact ⟨at_, 0, 1, by omega, by omega, by omega, by omega, rfl, rfl, rfl, by simp, by omega, by rw [Nat.sub_self]; exact NRel.zero _ _, Below.refl _ _⟩
  case round =>
    obtain ⟨i, v, u, hn, hi, hil, hj, rfl, rfl, rfl, hu, hv, hR, hbl⟩ := hrel
    have hub : u ≤ 4294967296 := by rw [hu]; exact Nat.le_trans (Nat.pow_le_pow_right (by decide) hj) (by decide)
    have HK := Lib.hid (And.intro hn (And.intro hu (And.intro hbl hR)))
    clear hn hR hbl
    by_cases hlt : i < s.length
    · by_cases hj7 : i - at_ < 8
      · have hu7 : u ≤ 268435456 := by rw [hu]; exact pow_le8 hj7
        have hj8 : (i : Int) < (at_ : Int) + 8 := by omega
        clear hu
        have HG := Lib.hid (show (s.drop at_)[i - at_]? = some s[i] by rw [List.getElem?_drop, show at_ + (i - at_) = i by omega, List.getElem?_eq_getElem hlt])
        obtain ⟨hd1, hd2⟩ := dg_lt s[i]
        have HB := Lib.hid (fun h => HK.out.2.2.2.bad hj7 HG.out h)
        have HH := Lib.hid (fun h => HK.out.2.2.2.hi hj7 HG.out h)
        have HL := Lib.hid (fun h h' => HK.out.2.2.2.lo hj7 HG.out h h')
        have C := Lib.hid (DG.out s[i] wr)
        generalize dgL s[i] = dg at *
        go_wp2_with fail
        refine C.out.mono ?_
        rintro r _ ⟨rfl, rfl⟩
        have hbw2 := HK.out.2.2.1
        obtain ⟨w2, hw2⟩ : ∃ w2, w2 = wr := ⟨_, rfl⟩
        by_cases hneg : dg < 0
        · have HN := Lib.hid (HB.out hneg)
          go_wp2_with fail
          refine bodyPost_ret (v := .tuple #[.int .i64 0, .int .i64 (-1)]) (by simp [results, Tryz.results177, go_sem, *]) rfl ?_
          exact ⟨.inr ⟨HN.out, rfl⟩, hbw2⟩
        obtain ⟨dn, rfl⟩ : ∃ dn : Nat, dg = (dn : Int) := ⟨dg.toNat, by omega⟩
        rw [Int.toNat_natCast] at HH HL
        have hp15 : dn % 16 * u ≤ 15 * u := Nat.mul_le_mul_right u (by omega)
        have hmul : IntKind.i64.wrap ((dn : Int) % 16 * (u : Int)) = ((dn % 16 * u : Nat) : Int) := by
          rw [show (dn : Int) % 16 * (u : Int) = ((dn % 16 * u : Nat) : Int) by rw [Int.natCast_mul]; rfl, IntKind.wrap_i64]
          omega
        have hneg : ¬ (dn : Int) < 0 := by omega
        generalize dn % 16 * u = pm at *
        by_cases h16 : (16 : Int) ≤ (dn : Int)
        · have HN := Lib.hid (HH.out h16)
          go_wp2_with fail
          go_roundg (9 - (i + 1 - at_))
          case measure => have := HK.out.1; omega
          case rel => exact ⟨i + 1, v + pm, u * 16, rfl, by omega, by omega, by omega, by go_num, by go_num, by go_num, by rw [show i + 1 - at_ = (i - at_) + 1 by omega, Nat.pow_succ, HK.out.2.1], by omega, by rw [show i + 1 - at_ = (i - at_) + 1 by omega]; exact HN.out, hbw2⟩
        · have HN := Lib.hid (HL.out (by omega) (by omega))
          rw [← hw2] at hbw2 ⊢
          clear hw2
          obtain ⟨v2, hv2⟩ : ∃ v2, v2 = v + pm := ⟨_, rfl⟩
          rw [← hv2] at HN
          have hvi : (v : Int) + (pm : Int) = (v2 : Int) := by omega
          have hv2b : v2 ≤ 10000000000 := by omega
          obtain ⟨h0, hh0⟩ : ∃ h0, h0 = v2 / 2 := ⟨_, rfl⟩
          have HH0 := Lib.hid hh0.symm
          have hhi : (v2 : Int) / 2 = (h0 : Int) := by omega
          have hh0b : h0 ≤ 10000000000 := by omega
          clear hv2 hh0 HH HB HL C
          by_cases hodd : v2 % 2 = 1
          · have ho : (((v2 : Int) % 2) == 1) = true := by rw [beq_iff_eq]; omega
            have hm : unz v2 = -(h0 : Int) := by unfold unz; rw [if_pos hodd, HH0.out]
            rw [hm] at HN
            clear hodd hm
            go_wp2_with fail
            generalize -(h0 : Int) = m at *
            have NT := Lib.hid (fun w' : World => imNumText_any m w')
            have hx : (bs s).extract at_ (i + 1) = bs ((s.drop at_).take (i - at_ + 1)) := by rw [bs_extS, show i + 1 - at_ = i - at_ + 1 by omega]
            generalize (s.drop at_).take (i - at_ + 1) = tk at *
            by_cases heq : numL m = tk
            · rw [if_pos heq] at HN
              have hb : (numL m == tk) = true := by simpa using heq
              clear heq
              generalize numL m = q at *
              refine wp_region_later (Below.refl w2.heap.size w2) (by kernel_rfl) (by kernel_rfl) ?_
              repeat (go_big_quiet_step ((go_at_call 203; exact later_call (Nat.le_refl _) (NT.out _))))
              refine wpQuiet_nil ?_
              rintro _ ⟨y, rfl⟩
              have hy := y.ok
              go_wp2_with fail
              refine bodyPost_ret (v := .tuple #[.int .i64 m, .int .i64 ((i : Int) + 1)]) (by simp [results, Tryz.results177, go_sem, *]) rfl ?_
              exact ⟨.inl ⟨m, i - at_ + 1, HN.out, by rw [show ((at_ + (i - at_ + 1) : Nat) : Int) = (i : Int) + 1 by omega]⟩, hbw2.ext hy⟩
            · rw [if_neg heq] at HN
              have hb : (numL m == tk) = false := by simpa using heq
              clear heq
              generalize numL m = q at *
              refine wp_region_later (Below.refl w2.heap.size w2) (by kernel_rfl) (by kernel_rfl) ?_
              repeat (go_big_quiet_step ((go_at_call 203; exact later_call (Nat.le_refl _) (NT.out _))))
              refine wpQuiet_nil ?_
              rintro _ ⟨y, rfl⟩
              have hy := y.ok
              go_wp2_with fail
              refine bodyPost_ret (v := .tuple #[.int .i64 0, .int .i64 (-1)]) (by simp [results, Tryz.results177, go_sem, *]) rfl ?_
              exact ⟨.inr ⟨HN.out, rfl⟩, hbw2.ext hy⟩
          · have ho : (((v2 : Int) % 2) == 1) = false := by rw [beq_eq_false_iff_ne]; omega
            have hm : unz v2 = (h0 : Int) := by unfold unz; rw [if_neg hodd, HH0.out]
            rw [hm] at HN
            clear hodd hm
            go_wp2_with fail
            generalize (h0 : Int) = m at *
            have NT := Lib.hid (fun w' : World => imNumText_any m w')
            have hx : (bs s).extract at_ (i + 1) = bs ((s.drop at_).take (i - at_ + 1)) := by rw [bs_extS, show i + 1 - at_ = i - at_ + 1 by omega]
            generalize (s.drop at_).take (i - at_ + 1) = tk at *
            by_cases heq : numL m = tk
            · rw [if_pos heq] at HN
              have hb : (numL m == tk) = true := by simpa using heq
              clear heq
              generalize numL m = q at *
              refine wp_region_later (Below.refl w2.heap.size w2) (by kernel_rfl) (by kernel_rfl) ?_
              repeat (go_big_quiet_step ((go_at_call 203; exact later_call (Nat.le_refl _) (NT.out _))))
              refine wpQuiet_nil ?_
              rintro _ ⟨y, rfl⟩
              have hy := y.ok
              go_wp2_with fail
              refine bodyPost_ret (v := .tuple #[.int .i64 m, .int .i64 ((i : Int) + 1)]) (by simp [results, Tryz.results177, go_sem, *]) rfl ?_
              exact ⟨.inl ⟨m, i - at_ + 1, HN.out, by rw [show ((at_ + (i - at_ + 1) : Nat) : Int) = (i : Int) + 1 by omega]⟩, hbw2.ext hy⟩
            · rw [if_neg heq] at HN
              have hb : (numL m == tk) = false := by simpa using heq
              clear heq
              generalize numL m = q at *
              refine wp_region_later (Below.refl w2.heap.size w2) (by kernel_rfl) (by kernel_rfl) ?_
              repeat (go_big_quiet_step ((go_at_call 203; exact later_call (Nat.le_refl _) (NT.out _))))
              refine wpQuiet_nil ?_
              rintro _ ⟨y, rfl⟩
              have hy := y.ok
              go_wp2_with fail
              refine bodyPost_ret (v := .tuple #[.int .i64 0, .int .i64 (-1)]) (by simp [results, Tryz.results177, go_sem, *]) rfl ?_
              exact ⟨.inr ⟨HN.out, rfl⟩, hbw2.ext hy⟩
      · have hj8 : ¬ (i : Int) < (at_ : Int) + 8 := by omega
        have HN := Lib.hid (HK.out.2.2.2.stop (.inr (by omega)))
        clear hu
        go_wp2_with fail
        refine bodyPost_ret (v := .tuple #[.int .i64 0, .int .i64 (-1)]) (by simp [results, Tryz.results177, go_sem, *]) rfl ?_
        exact ⟨.inr ⟨HN.out, rfl⟩, HK.out.2.2.1⟩
    · have HN := Lib.hid (HK.out.2.2.2.stop (.inl (by simp; omega)))
      clear hu
      go_wp2_with fail
      refine bodyPost_ret (v := .tuple #[.int .i64 0, .int .i64 (-1)]) (by simp [results, Tryz.results177, go_sem, *]) rfl ?_
      exact ⟨.inr ⟨HN.out, rfl⟩, HK.out.2.2.1⟩
end Go.Proofs.YtgfbjpmbaibnoaaGreatDoor
