/- The reference's words of a line: a byte's class, where a word ends. -/
import Derived.Test.YtgakjhaepdigpaaGreatDoorZm10
import Derived.Test.YtgakjhaepdigpaaGreatDoorBas
import Derived.Test.YtgakjhaepdigpaaGreatDoorZm16
namespace Go.Proofs.YtgakjhaepdigpaaGreatDoor
set_option maxRecDepth 100000
set_option linter.unusedSimpArgs false
set_option linter.unusedVariables false
open Go.RowKit
attribute [local go_sem] bs_toList bs_get bs_size

def marksL : Bytes := [43, 45, 42, 60, 40, 41, 58, 61]
def classL (c : UInt8) : Nat := if isLet c = true then 1 else if isDig c = true then 2 else if marksL.any (fun x => x == c) = true then 3 else if c = 32 then 4 else 0
theorem any_no {s : Bytes} {c : UInt8} (h : ∀ t x, t < s.length → s[t]? = some x → x ≠ c) : s.any (fun x => x == c) = false := by
  rw [List.any_eq_false]
  intro x hx
  obtain ⟨i, hi, rfl⟩ := List.getElem_of_mem hx
  simpa using h i _ hi (List.getElem?_eq_getElem hi)
theorem any_yes {s : Bytes} {c : UInt8} {j : Nat} (hj : j < s.length) (h : s[j] = c) : s.any (fun x => x == c) = true := by
  rw [List.any_eq_true]
  exact ⟨s[j], List.getElem_mem hj, by simp [h]⟩
/-- the first place of a byte, or -1 -/
def findI (s : Bytes) (c : UInt8) : Int := if s.any (fun x => x == c) = true then ((s.findIdx (fun x => x == c) : Nat) : Int) else -1
theorem findI_pos (s : Bytes) (c : UInt8) : decide (0 ≤ findI s c) = s.any (fun x => x == c) := by
  unfold findI
  cases s.any (fun x => x == c) <;> simp
theorem findI_at {s : Bytes} {c : UInt8} {j : Nat} (hj : j < s.length) (h : s[j] = c) (ha : ∀ t x, t < j → s[t]? = some x → x ≠ c) : findI s c = (j : Int) := by
  unfold findI
  rw [if_pos (any_yes hj h)]
  have : s.findIdx (fun x => x == c) = j := by
    rw [List.findIdx_eq hj]
    refine ⟨by simp [h], fun t ht => ?_⟩
    have := ha t s[t] ht (List.getElem?_eq_getElem (by omega))
    simpa using this
  rw [this]
theorem findI_no {s : Bytes} {c : UInt8} (h : ∀ t x, t < s.length → s[t]? = some x → x ≠ c) : findI s c = -1 := by
  unfold findI
  rw [any_no h]
  rfl
theorem spFindI_any (s : Bytes) (c : UInt8) (w : World) (hs : s.length ≤ 9223372036854775807) : Calls Tryz.prog 189 #[.string (bs s), .int .u8 (c.toNat : Int)] w fun e w' => e = .returned (.int .i64 (findI s c)) ∧ w = w' := by
  go_enter Tryz.func189, Tryz.ntmps189
  go_wp2_with fail
  go_loopg [5] s.length (fun k i wr => ∃ j : Nat, k = s.length - j ∧ j ≤ s.length ∧ i = .int .i64 j ∧ (∀ t x, t < j → s[t]? = some x → x ≠ c) ∧ wr = w)
  case atStart => exact ⟨0, by omega, by omega, rfl, fun t x h => by omega, rfl⟩
  case round =>
    obtain ⟨j, hk, hj, rfl, ha, rfl⟩ := hrel
    have HK := Lib.hid (And.intro hk ha)
    clear hk ha
    by_cases hlt : j < s.length
    · by_cases hc : s[j] = c
      · have HC := Lib.hid (findI_at hlt hc HK.out.2)
        have hq : s[j].toNat = c.toNat := by rw [hc]
        have hq2 : ((s[j].toNat : Int) == (c.toNat : Int)) = true := by simp [hq]
        clear hc
        go_wp2_with fail
        go_ret
        exact ⟨ret_int HC.out.symm, rfl⟩
      · have HC := Lib.hid hc
        have hq : ¬ s[j].toNat = c.toNat := fun h => hc (UInt8.toNat_inj.1 h)
        have hq2 : ((s[j].toNat : Int) == (c.toNat : Int)) = false := by simp; omega
        clear hc
        go_wp2_with fail
        go_roundg (s.length - (j + 1))
        case measure => have := HK.out.1; omega
        case rel => exact ⟨j + 1, rfl, by omega, by go_num, fun t x ht hx => by
          by_cases e : t = j
          · subst e
            rw [List.getElem?_eq_getElem hlt] at hx
            obtain rfl := Option.some.inj hx
            exact HC.out
          · exact HK.out.2 t x (by omega) hx, rfl⟩
    · have hj2 : j = s.length := by omega
      have HJ := Lib.hid hj2
      clear hj2
      go_wp2_with fail
      go_ret
      exact ⟨ret_int (findI_no (fun t x ht => HK.out.2 t x (by have := HJ.out; omega))).symm, rfl⟩
theorem spFindB_any (s : Bytes) (c : UInt8) (w : World) (hs : s.length ≤ 9223372036854775807) : Calls Tryz.prog 189 #[.string (bs s), .int .u8 (c.toNat : Int)] w fun e w' => (∃ i : Int, e = .returned (.int .i64 i) ∧ decide (0 ≤ i) = s.any (fun x => x == c)) ∧ w = w' :=
  (spFindI_any s c w hs).mono fun _ _ ⟨h1, h2⟩ => ⟨⟨_, h1, findI_pos s c⟩, h2⟩
theorem spMarks_any (w : World) : Calls Tryz.prog 190 #[] w fun e w' => e = .returned (.string (bs marksL)) ∧ w = w' := by
  go_enter Tryz.func190, Tryz.ntmps190
  go_wp2_with fail
  go_ret
  exact ⟨rfl, rfl⟩
theorem spClass_any (c : UInt8) (w : World) : Calls Tryz.prog 172 #[.int .u8 (c.toNat : Int)] w fun e w' => e = .returned (.int .i64 (classL c : Nat)) ∧ w = w' := by
  have MK := Lib.hid (fun (w' : World) => spMarks_any w')
  have FD := Lib.hid (fun (w' : World) => spFindB_any marksL c w' (by decide))
  have hl : isLet c = (decide (97 ≤ c.toNat) && decide (c.toNat ≤ 122)) := rfl
  have hd : isDig c = (decide (48 ≤ c.toNat) && decide (c.toNat ≤ 57)) := rfl
  by_cases h1 : isLet c = true
  · have e : classL c = 1 := by unfold classL; rw [if_pos h1]
    rw [e]
    rw [hl] at h1
    simp at h1
    obtain ⟨a1, a2⟩ := h1
    clear hl hd e MK FD
    go_enter Tryz.func172, Tryz.ntmps172
    go_wp2_with fail
    go_ret
    exact ⟨rfl, rfl⟩
  by_cases h2 : isDig c = true
  · have e : classL c = 2 := by unfold classL; rw [if_neg h1, if_pos h2]
    rw [e]
    rw [hd] at h2
    simp at h2
    obtain ⟨a1, a2⟩ := h2
    have a3 : ¬ 97 ≤ c.toNat := by omega
    clear hl hd e MK FD h1
    go_enter Tryz.func172, Tryz.ntmps172
    go_wp2_with fail
    go_ret
    exact ⟨rfl, rfl⟩
  have hL : c.toNat < 97 ∨ 122 < c.toNat := by rw [hl] at h1; simp at h1; omega
  have hD : c.toNat < 48 ∨ 57 < c.toNat := by rw [hd] at h2; simp at h2; omega
  have e0 : classL c = if marksL.any (fun x => x == c) = true then 3 else if c = 32 then 4 else 0 := by unfold classL; rw [if_neg h1, if_neg h2]
  have H0 := Lib.hid e0
  generalize marksL.any (fun x => x == c) = mk at *
  clear hl hd h1 h2 e0
  rcases hL with hL | hL <;> rcases hD with hD | hD
  all_goals (try (exfalso; omega))
  all_goals
    go_enter Tryz.func172, Tryz.ntmps172
    go_wp2_with fail
    refine (MK.out _).mono ?_
    rintro r _ ⟨rfl, rfl⟩
    go_wp2_with fail
    refine (FD.out _).mono ?_
    rintro r _ ⟨⟨i, rfl, hi⟩, rfl⟩
    cases mk
    · have hi0 : ¬ 0 ≤ i := by simpa using hi
      by_cases h32 : c = 32
      · have hq : ((c.toNat : Int) == 32) = true := by rw [h32]; decide
        have hcl : classL c = 4 := by rw [H0.out]; simp [h32]
        have HCL := Lib.hid hcl
        have hn : c.toNat = 32 := by rw [h32]; decide
        clear h32 hcl hi H0 MK FD
        go_wp2_with fail
        all_goals
          go_ret
          exact ⟨by rw [HCL.out]; try rfl, rfl⟩
      · have hn : ¬ c.toNat = 32 := fun h => h32 (UInt8.toNat_inj.1 (by rw [h]; decide))
        have hq : ((c.toNat : Int) == 32) = false := by simp; omega
        have hcl : classL c = 0 := by rw [H0.out]; simp [h32]
        have HCL := Lib.hid hcl
        clear h32 hcl hi H0 MK FD
        go_wp2_with fail
        go_ret
        exact ⟨by rw [HCL.out]; try rfl, rfl⟩
    · have hi0 : 0 ≤ i := by simpa using hi
      have hcl : classL c = 3 := by rw [H0.out]; simp
      have HCL := Lib.hid hcl
      clear hcl hi H0 MK FD
      go_wp2_with fail
      go_ret
      exact ⟨by rw [HCL.out]; try rfl, rfl⟩
/-! ### where a word ends -/
def endL (s : Bytes) : Nat := match s with
  | [] => 0
  | c :: r => if classL c < 3 then 1 + (r.takeWhile (fun x => classL x == classL c)).length else 1
theorem tw_at {p : UInt8 → Bool} {r : Bytes} {j : Nat} (h : ∀ t x, t < j → r[t]? = some x → p x = true) (hj : j ≤ r.length) (he : ∀ x, r[j]? = some x → p x = false) : (r.takeWhile p).length = j := by
  induction r generalizing j with
  | nil => simp at hj; simp [hj]
  | cons a r ih =>
    cases j with
    | zero =>
      have := he a (by simp)
      simp [this]
    | succ j =>
      have ha := h 0 a (by omega) (by simp)
      simp only [List.takeWhile_cons, ha, if_true, List.length_cons]
      have := ih (j := j) (fun t x ht hx => h (t + 1) x (by omega) (by simpa using hx)) (by simpa using hj) (fun x hx => he x (by simpa using hx))
      omega
theorem endL_at {s : Bytes} {at_ tq : Nat} (h0 : at_ < s.length) (hk : classL s[at_] < 3) (h1 : at_ + 1 ≤ tq) (h2 : tq ≤ s.length) (h : ∀ t c, at_ < t → t < tq → s[t]? = some c → classL c = classL s[at_]) (he : ∀ c, s[tq]? = some c → classL c ≠ classL s[at_]) : endL (s.drop at_) = tq - at_ := by
  rw [List.drop_eq_getElem_cons h0]
  simp only [endL, if_pos hk]
  have := tw_at (p := fun x => classL x == classL s[at_]) (r := s.drop (at_ + 1)) (j := tq - (at_ + 1)) (fun t x ht hx => by
    rw [List.getElem?_drop] at hx
    simpa using h (at_ + 1 + t) x (by omega) (by omega) hx) (by simp; omega) (fun x hx => by
    rw [List.getElem?_drop, show at_ + 1 + (tq - (at_ + 1)) = tq by omega] at hx
    simpa using he x hx)
  omega
theorem endL_one {s : Bytes} {at_ : Nat} (h0 : at_ < s.length) (hk : ¬ classL s[at_] < 3) : endL (s.drop at_) = 1 := by
  rw [List.drop_eq_getElem_cons h0]
  simp only [endL, if_neg hk]
set_option maxHeartbeats 1000000 in
theorem spEnd_any (s : Bytes) (at_ : Nat) (w : World) (h0 : at_ < s.length) (hs : s.length ≤ 1000) : Calls Tryz.prog 151 #[.string (bs s), .int .i64 (at_ : Int)] w fun e w' => e = .returned (.int .i64 ((at_ + endL (s.drop at_) : Nat) : Int)) ∧ w = w' := by
  have CL := Lib.hid (fun (c : UInt8) (w' : World) => spClass_any c w')
  have hw1 : IntKind.i64.wrap ((at_ : Int) + 1) = ((at_ + 1 : Nat) : Int) := by rw [IntKind.wrap_i64]; omega
  go_enter Tryz.func151, Tryz.ntmps151
  go_wp2_with fail
  refine (CL.out _ _).mono ?_
  rintro r _ ⟨rfl, rfl⟩
  by_cases hk : classL s[at_] < 3
  rotate_left
  · have HE := Lib.hid (endL_one h0 hk)
    generalize hc : classL s[at_] = k at *
    have hd : decide ((k : Int) < 3) = false := by simp; omega
    have hk3 : ¬ k < 3 := hk
    clear hc
    go_wp2_with fail
    go_loopg [6] 1 (fun n t wr => n = 1 ∧ t = .int .i64 ((at_ + 1 : Nat) : Int) ∧ wr = w)
    case atStart => exact ⟨rfl, rfl, rfl⟩
    case round =>
      obtain ⟨_, rfl, rfl⟩ := hrel
      by_cases hlt : at_ + 1 < s.length
      · go_wp2_with fail
        go_ret
        exact ⟨ret_int (by rw [HE.out]; omega), rfl⟩
      · go_wp2_with fail
        go_ret
        exact ⟨ret_int (by rw [HE.out]; omega), rfl⟩
  · have HA := Lib.hid (fun tq h1 h2 h he => endL_at (tq := tq) h0 hk h1 h2 h he)
    generalize hc : classL s[at_] = k at *
    have hd : decide ((k : Int) < 3) = true := by simp; omega
    clear hc
    go_wp2_with fail
    go_loopg [6] (s.length - (at_ + 1)) (fun n t wr => ∃ tq : Nat, n = s.length - tq ∧ at_ + 1 ≤ tq ∧ tq ≤ s.length ∧ t = .int .i64 (tq : Int) ∧ (∀ t c, at_ < t → t < tq → s[t]? = some c → classL c = k) ∧ wr = w)
    case atStart => exact ⟨at_ + 1, by omega, by omega, by omega, by go_num, fun t c h1 h2 => by omega, rfl⟩
    case round =>
      obtain ⟨tq, hn, h1, h2, rfl, ha, rfl⟩ := hrel
      have HK := Lib.hid (And.intro hn ha)
      clear hn ha
      have hw2 : IntKind.i64.wrap ((tq : Int) + 1) = ((tq + 1 : Nat) : Int) := by rw [IntKind.wrap_i64]; omega
      by_cases hlt : tq < s.length
      · go_wp2_with fail
        refine (CL.out _ _).mono ?_
        rintro r _ ⟨rfl, rfl⟩
        by_cases hq : classL s[tq] = k
        · have HQ := Lib.hid hq
          rw [hq]
          have hqq : ((k : Int) == (k : Int)) = true := by simp
          clear hq
          go_wp2_with fail
          go_roundg (s.length - (tq + 1))
          case measure => have := HK.out.1; omega
          case rel => exact ⟨tq + 1, rfl, by omega, by omega, by go_num, fun t c h3 h4 hx => by
            by_cases e : t = tq
            · subst e
              rw [List.getElem?_eq_getElem hlt] at hx
              obtain rfl := Option.some.inj hx
              exact HQ.out
            · exact HK.out.2 t c h3 (by omega) hx, rfl⟩
        · have HQ := Lib.hid hq
          have hqq : ((classL s[tq] : Int) == (k : Int)) = false := by rw [beq_eq_false_iff_ne]; omega
          have hq3 : ¬ classL s[tq] = k := hq
          have HE := Lib.hid (HA.out tq h1 h2 HK.out.2 (fun c hx => by
            rw [List.getElem?_eq_getElem hlt] at hx
            obtain rfl := Option.some.inj hx
            exact hq))
          clear hq
          generalize classL s[tq] = k2 at *
          go_wp2_with fail
          go_ret
          exact ⟨ret_int (by rw [HE.out]; omega), rfl⟩
      · have hto : tq = s.length := by omega
        have HE := Lib.hid (HA.out tq h1 h2 HK.out.2 (fun c hx => by
          rw [List.getElem?_eq_none (by omega)] at hx
          cases hx))
        clear hto
        go_wp2_with fail
        go_ret
        exact ⟨ret_int (by rw [HE.out]; omega), rfl⟩
end Go.Proofs.YtgakjhaepdigpaaGreatDoor


/- The reference's words of a line: a word's kind. -/
namespace Go.Proofs.YtgakjhaepdigpaaGreatDoor
set_option maxRecDepth 100000
set_option linter.unusedSimpArgs false
set_option linter.unusedVariables false
open Go.RowKit
attribute [local go_sem] bs_toList bs_get bs_size

theorem mark_one (c : UInt8) : markB [c] = marksL.any (fun x => x == c) := by
  unfold markB marksL
  simp only [List.length_singleton, beq_self_eq_true, Bool.true_and, List.any_cons, List.any_nil, Bool.or_false]
  have h : ∀ d : UInt8, (([c] : Bytes) == [d]) = (d == c) := fun d => by
    rw [Bool.eq_iff_iff]
    simp
    exact eq_comm
  simp only [h]
theorem mark_not {s : Bytes} (h : s.length ≠ 1) : markB s = false := by
  unfold markB
  simp [h]
theorem spTokOk1 (s : Bytes) (w : World) (hs : s.length ≤ 100000000) : Calls Tryz.prog 173 #[.int .i64 1, .string (bs s)] w fun e w' => e = .returned (.bool (wordB s)) ∧ Below w.heap.size w w' := by
  have C := Lib.hid (spWord_any s w (by omega))
  generalize wordB s = q at *
  go_enter Tryz.func173, Tryz.ntmps173
  go_wp2_with fail
  refine C.out.mono ?_
  rintro r _ ⟨rfl, rfl⟩
  go_wp2_with fail
  go_ret
  exact ⟨rfl, Below.refl _ _⟩
theorem spTokOk2 (s : Bytes) (w : World) (hs : s.length ≤ 100000000) : Calls Tryz.prog 173 #[.int .i64 2, .string (bs s)] w fun e w' => e = .returned (.bool (numB s)) ∧ Below w.heap.size w w' := by
  have C := Lib.hid (spL3Num_any s w hs)
  generalize numB s = q at *
  go_enter Tryz.func173, Tryz.ntmps173
  go_wp2_with fail
  refine C.out.mono ?_
  rintro r _ ⟨rfl, rfl⟩
  go_wp2_with fail
  go_ret
  exact ⟨rfl, Below.refl _ _⟩
theorem spTokOk3 (s : Bytes) (w : World) (hs : s.length ≤ 100000000) : Calls Tryz.prog 173 #[.int .i64 3, .string (bs s)] w fun e w' => e = .returned (.bool (markB s)) ∧ Below w.heap.size w w' := by
  by_cases h1 : s.length = 1
  · obtain ⟨c, rfl⟩ : ∃ c, s = [c] := List.length_eq_one_iff.1 h1
    have HM := Lib.hid ((mark_one c).trans (findI_pos marksL c).symm)
    have MK := Lib.hid (fun (y : Later w.heap.size w) => spMarks_any y.w')
    have FD := Lib.hid (fun (y : Later w.heap.size w) => spFindI_any marksL c y.w' (by decide))
    generalize findI marksL c = i at *
    clear h1
    go_enter Tryz.func173, Tryz.ntmps173
    go_wp2_with fail
    refine wp_region_later (Below.refl w.heap.size w) (by kernel_rfl) (by kernel_rfl) ?_
    repeat (go_big_quiet_step (first | (go_at_call 190; exact later_call_same (MK.out _)) | (go_at_call 189; exact later_call_same (FD.out _))))
    refine wpQuiet_nil ?_
    rintro _ ⟨y, rfl⟩
    have hy := y.ok
    go_wp2_with fail
    go_ret
    exact ⟨ret_bool HM.out.symm, hy⟩
  · have HM := Lib.hid (mark_not h1)
    have hd : (((s.length : Nat) : Int) == 1) = false := by rw [beq_eq_false_iff_ne]; omega
    go_enter Tryz.func173, Tryz.ntmps173
    go_wp2_with fail
    refine wp_region_later (Below.refl w.heap.size w) (by kernel_rfl) (by kernel_rfl) ?_
    repeat (go_big_quiet_step (fail))
    refine wpQuiet_nil ?_
    rintro _ ⟨y, rfl⟩
    have hy := y.ok
    go_wp2_with fail
    go_ret
    exact ⟨ret_bool HM.out.symm, hy⟩
theorem spTokOk_any (k : Nat) (s : Bytes) (w : World) (hs : s.length ≤ 100000000) (hk : k = 1 ∨ k = 2 ∨ k = 3) : Calls Tryz.prog 173 #[.int .i64 (k : Int), .string (bs s)] w fun e w' => e = .returned (.bool (okB k s)) ∧ Below w.heap.size w w' := by
  rcases hk with rfl | rfl | rfl
  · exact spTokOk1 s w hs
  · exact spTokOk2 s w hs
  · exact spTokOk3 s w hs
theorem kind_at {s : Bytes} {j : Nat} (h1 : 1 ≤ j) (h2 : j ≤ 3) (h : ∀ t : Nat, 1 ≤ t → t < j → okB t s = false) (hj : okB j s = true) : kindL s = j := by
  have ha := h 1 (by omega)
  have hb := h 2 (by omega)
  unfold kindL
  rcases (by omega : j = 1 ∨ j = 2 ∨ j = 3) with rfl | rfl | rfl
  · simp [okB] at hj; rw [if_pos hj]
  · simp [okB] at hj ha; rw [if_neg (by simp [ha]), if_pos hj]
  · simp [okB] at hj ha hb; rw [if_neg (by simp [ha]), if_neg (by simp [hb]), if_pos hj]
theorem kind_no {s : Bytes} (h : ∀ t : Nat, 1 ≤ t → t < 4 → okB t s = false) : kindL s = 0 := by
  have ha := h 1 (by omega) (by omega)
  have hb := h 2 (by omega) (by omega)
  have hc := h 3 (by omega) (by omega)
  simp [okB] at ha hb hc
  unfold kindL
  rw [if_neg (by simp [ha]), if_neg (by simp [hb]), if_neg (by simp [hc])]
theorem spTokKind_any (s : Bytes) (w : World) (hs : s.length ≤ 100000000) : Calls Tryz.prog 152 #[.string (bs s)] w fun e w' => e = .returned (.int .i64 (kindL s : Nat)) ∧ Below w.heap.size w w' := by
  have OK := Lib.hid (fun (k : Nat) (w' : World) (hk : k = 1 ∨ k = 2 ∨ k = 3) => spTokOk_any k s w' hs hk)
  go_enter Tryz.func152, Tryz.ntmps152
  go_wp2_with fail
  go_loopg [3] 3 (fun n i wr => ∃ j : Nat, n = 4 - j ∧ 1 ≤ j ∧ j ≤ 4 ∧ i = .int .i64 (j : Int) ∧ (∀ t : Nat, 1 ≤ t → t < j → okB t s = false) ∧ Below w.heap.size w wr)
  case atStart => exact ⟨1, by omega, by omega, by omega, rfl, fun t h1 h2 => by omega, Below.refl _ _⟩
  case round =>
    obtain ⟨j, hn, h1, h4, rfl, ha, hbl⟩ := hrel
    have HK := Lib.hid (And.intro hn ha)
    clear hn ha
    by_cases hlt : j ≤ 3
    · have C := Lib.hid (OK.out j wr (by omega))
      have hw : IntKind.i64.wrap ((j : Int) + 1) = ((j + 1 : Nat) : Int) := by rw [IntKind.wrap_i64]; omega
      by_cases hq : okB j s = true
      · have HQ := Lib.hid (kind_at h1 hlt HK.out.2 hq)
        rw [hq] at C
        clear hq
        go_wp2_with fail
        refine C.out.mono ?_
        rintro r w2 ⟨rfl, hb2⟩
        go_wp2_with fail
        go_ret
        exact ⟨ret_int (by rw [HQ.out]), hbl.ext hb2⟩
      · have hq2 : okB j s = false := by simpa using hq
        have HQ := Lib.hid hq2
        rw [hq2] at C
        clear hq hq2
        go_wp2_with fail
        refine C.out.mono ?_
        rintro r w2 ⟨rfl, hb2⟩
        go_wp2_with fail
        go_roundg (4 - (j + 1))
        case measure => have := HK.out.1; omega
        case rel => exact ⟨j + 1, rfl, by omega, by omega, by go_num, fun t h5 h6 => by
          by_cases e : t = j
          · subst e; exact HQ.out
          · exact HK.out.2 t h5 (by omega), hbl.ext hb2⟩
    · have hj4 : j = 4 := by omega
      have HQ := Lib.hid (kind_no (fun t h5 h6 => HK.out.2 t h5 (by omega)))
      clear hj4
      go_wp2_with fail
      go_ret
      exact ⟨ret_int (by rw [HQ.out]; rfl), hbl⟩
end Go.Proofs.YtgakjhaepdigpaaGreatDoor
