/- The kind of a word, where it is a name or a number; words that are drawn. -/
import Derived.Test.YtgakjhaepdigpaaGreatDoorZm12
import Derived.Test.YtgakjhaepdigpaaGreatDoorDwPQ
import Derived.Test.YtgakjhaepdigpaaGreatDoorBas
namespace Go.Proofs.YtgakjhaepdigpaaGreatDoor
set_option maxRecDepth 100000
set_option linter.unusedSimpArgs false
set_option linter.unusedVariables false
open Go.RowKit
attribute [local go_sem] bs_toList bs_get bs_size

theorem imTokNum_any (s : Bytes) (w : World) (hs : s.length ≤ 100000000) (hE : EnvA w) : Calls Tryz.prog 88 #[.int .i64 2, .string (bs s)] w fun e w' => e = .returned (.bool (numB s)) ∧ Below w.heap.size w w' := by
  have C := Lib.hid (imNumber_any s w hs hE)
  clear hE
  go_enter Tryz.func88, Tryz.ntmps88
  go_wp2_with fail
  refine C.out.mono ?_
  rintro e w1 ⟨n, rfl, _, hb⟩
  go_wp2_with fail
  go_ret
  exact ⟨rfl, hb⟩
theorem imKind_word (s : Bytes) (w : World) (hs : s.length ≤ 100000000) (hw : wordB s = true) : Calls Tryz.prog 34 #[.string (bs s)] w fun e w' => e = .returned (.int .i64 1) ∧ w = w' := by
  have C := Lib.hid (imTokWord_any s w (by omega))
  rw [hw] at C
  clear hw
  go_enter Tryz.func34, Tryz.ntmps34
  go_wp2_with fail
  go_loopg [3] 0 (fun n a wr => n = 0 ∧ a = .int .i64 1 ∧ wr = w)
  case atStart => exact ⟨rfl, rfl, rfl⟩
  case round =>
    obtain ⟨rfl, rfl, rfl⟩ := hrel
    go_wp2_with fail
    refine C.out.mono ?_
    rintro e _ ⟨rfl, rfl⟩
    go_wp2_with fail
    go_ret
    exact ⟨rfl, rfl⟩
theorem imKind_num (s : Bytes) (w : World) (hs : s.length ≤ 100000000) (hw : wordB s = false) (hn : numB s = true) (hE : EnvA w) : Calls Tryz.prog 34 #[.string (bs s)] w fun e w' => e = .returned (.int .i64 2) ∧ Below w.heap.size w w' := by
  have C := Lib.hid (imTokWord_any s w (by omega))
  have C2 := Lib.hid (imTokNum_any s w hs hE)
  rw [hw] at C
  rw [hn] at C2
  clear hw hn hE
  go_enter Tryz.func34, Tryz.ntmps34
  go_wp2_with fail
  go_loopg [3] 1 (fun n a wr => ((n = 1 ∧ a = .int .i64 1) ∨ (n = 0 ∧ a = .int .i64 2)) ∧ wr = w)
  case atStart => exact ⟨.inl ⟨rfl, rfl⟩, rfl⟩
  case round =>
    obtain ⟨⟨rfl, rfl⟩ | ⟨rfl, rfl⟩, rfl⟩ := hrel
    · go_wp2_with fail
      refine C.out.mono ?_
      rintro e _ ⟨rfl, rfl⟩
      go_wp2_with fail
      go_roundg 0
      case measure => omega
      case rel => exact ⟨.inr ⟨rfl, rfl⟩, rfl⟩
    · go_wp2_with fail
      refine C2.out.mono ?_
      rintro e w1 ⟨rfl, hb⟩
      go_wp2_with fail
      go_ret
      exact ⟨rfl, hb⟩
def WordP (rb p : Nat) (w : World) (e : Ending) (w' : World) : Prop := ∃ (s : Bytes) (p' : Nat), e = .returned (.string (bs s)) ∧ s.length ≤ 100 ∧ Rd w' rb p' ∧ p' ≤ p + 2 ∧ w.grownBy w' (some rb)
theorem mem_short {l : List Bytes} {s : Bytes} (h : s ∈ l) (hl : l.all (fun x => decide (x.length ≤ 100)) = true) : s.length ≤ 100 := by
  rw [List.all_eq_true] at hl
  simpa using hl s h
def someW : List Bytes := [[108, 101, 116], [115, 97, 121], [120], [121], [97, 115], [105, 110, 116], [49], [50, 48], [48], [43], [42], [40], [41], [58], [61], [60], [45], [49, 48, 48, 48, 48, 48, 48]]
def bentW : List Bytes := [[], [88], [48, 49], [97, 98, 99, 100, 101, 102, 103, 104, 105], [49, 48, 48, 48, 48, 48, 49], [43, 45], [63], [97, 49], [45, 49]]
end Go.Proofs.YtgakjhaepdigpaaGreatDoor


/- Numbers that are read by the reference; a word of a row; how tight a mark holds. -/
namespace Go.Proofs.YtgakjhaepdigpaaGreatDoor
set_option maxRecDepth 100000
set_option linter.unusedSimpArgs false
set_option linter.unusedVariables false
open Go.RowKit
attribute [local go_sem] bs_toList bs_get bs_size

/-- what is taken for digits, without needless zeros -/
def decB (s : Bytes) : Bool := s.all isDig && decide (1 ≤ s.length) && decide (s.length ≤ 17) && (s.length == 1 || !(s.take 1 == [48]))
theorem numB_decB (s : Bytes) : numB s = (decB s && decide (digVal s ≤ 1000000)) := rfl
theorem dig_bound : ∀ (s : Bytes) (k : Nat), s.length ≤ k → digVal s < 10 ^ k ∨ ∃ c ∈ s, isDig c = false := by
  intro s
  induction h : s.length using Nat.strongRecOn generalizing s with
  | _ m ih =>
    intro k hk
    subst h
    by_cases h0 : s = []
    · subst h0
      left
      exact Nat.pow_pos (by omega)
    obtain ⟨t, c, rfl⟩ : ∃ t c, s = t ++ [c] := ⟨s.dropLast, s.getLast h0, by rw [List.dropLast_concat_getLast]⟩
    simp only [List.length_append, List.length_singleton] at hk ih
    cases hc : isDig c
    · right
      exact ⟨c, by simp, hc⟩
    · rcases ih t.length (by omega) t rfl (k - 1) (by omega) with h1 | ⟨c', h1, h2⟩
      · left
        rw [digVal_snoc]
        simp only [isDig, Bool.and_eq_true, decide_eq_true_eq] at hc
        have e : 10 ^ k = 10 ^ (k - 1) * 10 := by rw [← Nat.pow_succ]; congr 1; omega
        omega
      · right
        exact ⟨c', by simp [h1], h2⟩
theorem take_bound {s : Bytes} {j : Nat} (ha : ∀ t c, t < j → s[t]? = some c → isDig c = true) (hj : j ≤ 17) : digVal (s.take j) < 100000000000000000 := by
  rcases dig_bound (s.take j) 17 (by rw [List.length_take]; omega) with h | ⟨c, h1, h2⟩
  · exact h
  · obtain ⟨i, hi⟩ := List.mem_iff_getElem?.1 h1
    rw [List.getElem?_take] at hi
    split at hi
    · rw [ha i c (by assumption) hi] at h2; cases h2
    · cases hi
theorem digVal_take_succ {s : Bytes} {j : Nat} (h : j < s.length) : digVal (s.take (j + 1)) = digVal (s.take j) * 10 + (s[j].toNat - 48) := by
  rw [List.take_succ_eq_append_getElem h, digVal_snoc]
/-- what the loop over the digits tells -/
def DecEnd (s : Bytes) (neg : Bool) (w : World) (e : Ending) (w' : World) : Prop := ∃ (n : Int) (ok : Bool), e = .returned (.tuple #[.int .i64 n, .bool ok]) ∧ ok = s.all isDig ∧ (ok = true → n = if neg then -(digVal s : Int) else (digVal s : Int)) ∧ w = w'
def NumS (s : Bytes) (w : World) (e : Ending) (w' : World) : Prop := ∃ (n : Int) (ok : Bool), e = .returned (.tuple #[.int .i64 n, .bool ok]) ∧ (ok && decide (0 ≤ n) && decide (n ≤ 1000000)) = numB s ∧ (numB s = true → ok = true ∧ n = (digVal s : Int)) ∧ w = w'
set_option maxHeartbeats 1000000 in
theorem spNum_pos (s : Bytes) (w : World) (hp : 0 < s.length) (hc : s[0].toNat ≠ 45) (hl : s.length ≤ 17) (hz : s[0].toNat ≠ 48) : Calls Tryz.prog 207 #[.string (bs s)] w (DecEnd s false w) := by
  have h45 : ((s[0].toNat : Int) == 45) = false := by rw [beq_eq_false_iff_ne]; omega
  have h48 : ((s[0].toNat : Int) == 48) = false := by rw [beq_eq_false_iff_ne]; omega
  have hn0 : ((s.length : Int) == 0) = false := by rw [beq_eq_false_iff_ne]; omega
  have hgt : ¬ (17 : Int) < (s.length : Int) := by omega
  clear hc hz
  go_enter Tryz.func207, Tryz.ntmps207
  go_wp2_with fail
  go_loopg [5, 6] s.length (fun k n p wr => ∃ j : Nat, k = s.length - j ∧ j ≤ s.length ∧ n = .int .i64 (digVal (s.take j) : Nat) ∧ p = .int .i64 j ∧ (∀ t x, t < j → s[t]? = some x → isDig x = true) ∧ wr = w)
  case atStart => exact ⟨0, by omega, by omega, rfl, rfl, fun t x h => by omega, rfl⟩
  case round =>
    obtain ⟨j, hk, hj, rfl, rfl, ha, rfl⟩ := hrel
    have hb := take_bound ha (by omega : j ≤ 17)
    have HK := Lib.hid (And.intro hk ha)
    clear hk ha
    by_cases hlt : j < s.length
    · have hi : isDig s[j] = (decide (48 ≤ s[j].toNat) && decide (s[j].toNat ≤ 57)) := rfl
      have hsu := digVal_take_succ hlt
      have HI := Lib.hid (And.intro hi hsu)
      have hg : s[j]? = some s[j] := List.getElem?_eq_getElem hlt
      have HG := Lib.hid hg
      have hu := s[j].toNat_lt
      clear hi hsu hg
      generalize hdv : digVal (s.take j) = dv at *
      have HDV := Lib.hid hdv
      clear hdv
      go_wp2_with fail
      all_goals first
        | (refine bodyPost_ret (v := .tuple #[.int .i64 0, .bool false]) (by simp [results, Tryz.results207, go_sem]) rfl ?_
           exact ⟨0, false, rfl, by
             rw [eq_comm, Bool.eq_false_iff]
             intro h
             have h2 := List.all_eq_true.1 h _ (List.mem_of_getElem? HG.out)
             rw [HI.out.1] at h2
             simp at h2
             omega, (fun h => by cases h), rfl⟩)
        | (go_roundg (s.length - (j + 1))
           case measure => have := HK.out.1; omega
           case rel => exact ⟨j + 1, rfl, by omega, by rw [HI.out.2]; congr 1; omega, by go_num, fun t x ht hx => by
              by_cases e : t = j
              · subst e
                rw [HG.out] at hx
                obtain rfl := Option.some.inj hx
                rw [HI.out.1]
                simp
                omega
              · exact HK.out.2 t x (by omega) hx, rfl⟩)
    · have hj2 : j = s.length := by omega
      have HJ := Lib.hid hj2
      have hall : s.all isDig = true := by
        rw [List.all_eq_true]
        intro x hx
        obtain ⟨i, hi⟩ := List.mem_iff_getElem?.1 hx
        exact HK.out.2 i x (by have := (List.getElem?_eq_some_iff.1 hi).1; omega) hi
      have hdv : digVal (s.take j) = digVal s := by rw [hj2, List.take_length]
      have HA := Lib.hid hall
      rw [hdv] at hb
      rw [hdv]
      clear hj2 hall hdv
      generalize hgd : digVal s = dv at *
      have HD := Lib.hid hgd
      clear hgd
      go_wp2_with fail
      refine bodyPost_ret (v := .tuple #[.int .i64 (dv : Nat), .bool true]) (by simp [results, Tryz.results207, go_sem]) rfl ?_
      exact ⟨_, true, rfl, HA.out.symm, (fun _ => by rw [HD.out]; rfl), rfl⟩
theorem spNum_zero (w : World) : Calls Tryz.prog 207 #[.string (bs [48])] w (DecEnd [48] false w) := by
  go_enter Tryz.func207, Tryz.ntmps207
  go_wp2_with fail
  go_loopg [5, 6] 1 (fun k n p wr => ((k = 1 ∧ p = .int .i64 0) ∨ (k = 0 ∧ p = .int .i64 1)) ∧ n = .int .i64 0 ∧ wr = w)
  case atStart => exact ⟨.inl ⟨rfl, rfl⟩, rfl, rfl⟩
  case round =>
    obtain ⟨h | h, rfl, rfl⟩ := hrel
    · obtain ⟨rfl, rfl⟩ := h
      go_wp2_with fail
      go_roundg 0
      case measure => omega
      case rel => exact ⟨.inr ⟨rfl, rfl⟩, rfl, rfl⟩
    · obtain ⟨rfl, rfl⟩ := h
      go_wp2_with fail
      refine bodyPost_ret (v := .tuple #[.int .i64 0, .bool true]) (by simp [results, Tryz.results207, go_sem]) rfl ?_
      exact ⟨0, true, rfl, by decide, (fun _ => by decide), rfl⟩
theorem bs_tail (c : UInt8) (s : Bytes) : (bs (c :: s)).extract 1 (s.length + 1) = bs s := by
  rw [← bs_of ((bs (c :: s)).extract 1 (s.length + 1))]
  congr 1
  simp [bs, ByteArray.data_extract]
set_option maxHeartbeats 1000000 in
theorem spNum_neg (c : UInt8) (s : Bytes) (w : World) (hc : c.toNat = 45) (hp : 0 < s.length) (hl : s.length ≤ 17) (hz : s[0].toNat ≠ 48) : Calls Tryz.prog 207 #[.string (bs (c :: s))] w (DecEnd s true w) := by
  have h45 : ((c.toNat : Int) == 45) = true := by simp; omega
  have h48 : ((s[0].toNat : Int) == 48) = false := by rw [beq_eq_false_iff_ne]; omega
  have hn0 : ((s.length : Int) == 0) = false := by rw [beq_eq_false_iff_ne]; omega
  have hgt : ¬ (17 : Int) < (s.length : Int) := by omega
  have hex := bs_tail c s
  clear hc hz
  go_enter Tryz.func207, Tryz.ntmps207
  go_wp2_with fail
  go_loopg [5, 6] s.length (fun k n p wr => ∃ j : Nat, k = s.length - j ∧ j ≤ s.length ∧ n = .int .i64 (digVal (s.take j) : Nat) ∧ p = .int .i64 j ∧ (∀ t x, t < j → s[t]? = some x → isDig x = true) ∧ wr = w)
  case atStart => exact ⟨0, by omega, by omega, rfl, rfl, fun t x h => by omega, rfl⟩
  case round =>
    obtain ⟨j, hk, hj, rfl, rfl, ha, rfl⟩ := hrel
    have hb := take_bound ha (by omega : j ≤ 17)
    have HK := Lib.hid (And.intro hk ha)
    clear hk ha
    by_cases hlt : j < s.length
    · have hi : isDig s[j] = (decide (48 ≤ s[j].toNat) && decide (s[j].toNat ≤ 57)) := rfl
      have hsu := digVal_take_succ hlt
      have HI := Lib.hid (And.intro hi hsu)
      have hg : s[j]? = some s[j] := List.getElem?_eq_getElem hlt
      have HG := Lib.hid hg
      have hu := s[j].toNat_lt
      clear hi hsu hg
      generalize hdv : digVal (s.take j) = dv at *
      have HDV := Lib.hid hdv
      clear hdv
      go_wp2_with fail
      all_goals first
        | (refine bodyPost_ret (v := .tuple #[.int .i64 0, .bool false]) (by simp [results, Tryz.results207, go_sem]) rfl ?_
           exact ⟨0, false, rfl, by
             rw [eq_comm, Bool.eq_false_iff]
             intro h
             have h2 := List.all_eq_true.1 h _ (List.mem_of_getElem? HG.out)
             rw [HI.out.1] at h2
             simp at h2
             omega, (fun h => by cases h), rfl⟩)
        | (go_roundg (s.length - (j + 1))
           case measure => have := HK.out.1; omega
           case rel => exact ⟨j + 1, rfl, by omega, by rw [HI.out.2]; congr 1; omega, by go_num, fun t x ht hx => by
              by_cases e : t = j
              · subst e
                rw [HG.out] at hx
                obtain rfl := Option.some.inj hx
                rw [HI.out.1]
                simp
                omega
              · exact HK.out.2 t x (by omega) hx, rfl⟩)
    · have hj2 : j = s.length := by omega
      have HJ := Lib.hid hj2
      have hall : s.all isDig = true := by
        rw [List.all_eq_true]
        intro x hx
        obtain ⟨i, hi⟩ := List.mem_iff_getElem?.1 hx
        exact HK.out.2 i x (by have := (List.getElem?_eq_some_iff.1 hi).1; omega) hi
      have hdv : digVal (s.take j) = digVal s := by rw [hj2, List.take_length]
      have HA := Lib.hid hall
      rw [hdv] at hb
      rw [hdv]
      clear hj2 hall hdv
      generalize hgd : digVal s = dv at *
      have HD := Lib.hid hgd
      clear hgd
      go_wp2_with fail
      refine bodyPost_ret (v := .tuple #[.int .i64 (-(dv : Int)), .bool true]) (by simp [results, Tryz.results207, go_sem]) rfl ?_
      exact ⟨_, true, rfl, HA.out.symm, (fun _ => by rw [HD.out]; rfl), rfl⟩
def NoNum (w : World) (e : Ending) (w' : World) : Prop := ∃ n : Int, e = .returned (.tuple #[.int .i64 n, .bool false]) ∧ w = w'
theorem spNum_nil (w : World) : Calls Tryz.prog 207 #[.string (bs [])] w (NoNum w) := by
  go_enter Tryz.func207, Tryz.ntmps207
  go_wp2_with fail
  refine bodyPost_ret (v := .tuple #[.int .i64 0, .bool false]) (by simp [results, Tryz.results207, go_sem]) rfl ?_
  exact ⟨0, rfl, rfl⟩
theorem spNum_dash (w : World) : Calls Tryz.prog 207 #[.string (bs [45])] w (NoNum w) := by
  have hex := bs_tail 45 []
  simp only [List.length_nil] at hex
  go_enter Tryz.func207, Tryz.ntmps207
  go_wp2_with fail
  refine bodyPost_ret (v := .tuple #[.int .i64 0, .bool false]) (by simp [results, Tryz.results207, go_sem]) rfl ?_
  exact ⟨0, rfl, rfl⟩
/-- too long, or a needless zero ahead -/
theorem spNum_no (s : Bytes) (w : World) (hp : 0 < s.length) (hc : s[0].toNat ≠ 45) (hm : s.length ≤ 9223372036854775807) (h : 17 < s.length ∨ s[0].toNat = 48 ∧ 1 < s.length) : Calls Tryz.prog 207 #[.string (bs s)] w (NoNum w) := by
  have h45 : ((s[0].toNat : Int) == 45) = false := by rw [beq_eq_false_iff_ne]; omega
  have hn0 : ((s.length : Int) == 0) = false := by rw [beq_eq_false_iff_ne]; omega
  by_cases h17 : 17 < s.length
  · have hgt : (17 : Int) < (s.length : Int) := by omega
    clear hc h
    go_enter Tryz.func207, Tryz.ntmps207
    go_wp2_with fail
    refine bodyPost_ret (v := .tuple #[.int .i64 0, .bool false]) (by simp [results, Tryz.results207, go_sem]) rfl ?_
    exact ⟨0, rfl, rfl⟩
  · have hgt : ¬ (17 : Int) < (s.length : Int) := by omega
    have h48 : ((s[0].toNat : Int) == 48) = true := by rw [beq_iff_eq]; omega
    have h1 : (1 : Int) < (s.length : Int) := by omega
    clear hc h h17
    go_enter Tryz.func207, Tryz.ntmps207
    go_wp2_with fail
    refine bodyPost_ret (v := .tuple #[.int .i64 0, .bool false]) (by simp [results, Tryz.results207, go_sem]) rfl ?_
    exact ⟨0, rfl, rfl⟩
theorem spNum_noneg (c : UInt8) (s : Bytes) (w : World) (hc : c.toNat = 45) (hp : 0 < s.length) (hm : s.length ≤ 9223372036854775800) (h : 17 < s.length ∨ s[0].toNat = 48) : Calls Tryz.prog 207 #[.string (bs (c :: s))] w (NoNum w) := by
  have h45 : ((c.toNat : Int) == 45) = true := by simp; omega
  have hn0 : ((s.length : Int) == 0) = false := by rw [beq_eq_false_iff_ne]; omega
  have hex := bs_tail c s
  by_cases h17 : 17 < s.length
  · have hgt : (17 : Int) < (s.length : Int) := by omega
    clear hc h
    go_enter Tryz.func207, Tryz.ntmps207
    go_wp2_with fail
    refine bodyPost_ret (v := .tuple #[.int .i64 0, .bool false]) (by simp [results, Tryz.results207, go_sem]) rfl ?_
    exact ⟨0, rfl, rfl⟩
  · have hgt : ¬ (17 : Int) < (s.length : Int) := by omega
    have h48 : ((s[0].toNat : Int) == 48) = true := by rw [beq_iff_eq]; omega
    clear hc h h17
    by_cases h1 : (1 : Int) < (s.length : Int)
    all_goals
      go_enter Tryz.func207, Tryz.ntmps207
      go_wp2_with fail
      refine bodyPost_ret (v := .tuple #[.int .i64 0, .bool false]) (by simp [results, Tryz.results207, go_sem]) rfl ?_
      exact ⟨0, rfl, rfl⟩
theorem numB_all {s : Bytes} (h : s.all isDig = false) : numB s = false := by simp [numB, h]
theorem numB_cons45 (c : UInt8) (s : Bytes) (h : c.toNat = 45) : numB (c :: s) = false := by
  apply numB_all
  simp [isDig, h]
theorem spNumS_any (s : Bytes) (w : World) (hm : s.length ≤ 100000000) : Calls Tryz.prog 207 #[.string (bs s)] w (NumS s w) := by
  have no : numB s = false → ∀ e w', NoNum w e w' → NumS s w e w' := fun h e w' ⟨n, h1, h2⟩ => ⟨n, false, h1, by rw [h]; rfl, (fun h3 => by rw [h] at h3; cases h3), h2⟩
  cases s with
  | nil => exact (spNum_nil w).mono (no (by decide))
  | cons c r =>
    by_cases h45 : c.toNat = 45
    · have hn := numB_cons45 c r h45
      by_cases hr : r = []
      · subst hr
        obtain rfl : c = 45 := UInt8.toNat_inj.1 (by simpa using h45)
        exact (spNum_dash w).mono (no hn)
      · have hp : 0 < r.length := by cases r with | nil => exact absurd rfl hr | cons a b => simp
        simp only [List.length_cons] at hm
        by_cases hb : 17 < r.length ∨ r[0].toNat = 48
        · exact (spNum_noneg c r w h45 hp (by omega) hb).mono (no hn)
        · rw [not_or] at hb
          refine (spNum_neg c r w h45 hp (by omega) hb.2).mono ?_
          rintro e w' ⟨n, ok, h1, h2, h3, h4⟩
          refine ⟨n, ok, h1, ?_, (fun h => by rw [hn] at h; cases h), h4⟩
          rw [hn]
          cases hok : ok
          · rfl
          · have hv := h3 hok
            rw [if_pos rfl] at hv
            have hpos : 0 < digVal r := by
              rcases Nat.eq_zero_or_pos (digVal r) with e0 | e0
              · exfalso
                have hd : ∀ c ∈ r, isDig c = true := List.all_eq_true.1 (h2.symm.trans hok)
                have h5 := dec_of_dig r hd hp (.inr (by
                  intro e
                  have : r[0] = 48 := by
                    cases r with
                    | nil => simp at hp
                    | cons a b => simpa using e
                  rw [this] at hb
                  exact hb.2 rfl))
                rw [e0, decL_lt (by omega)] at h5
                have h6 : r[0].toNat = 48 := by
                  have : r[0]? = some (UInt8.ofNat (48 + 0)) := by rw [← h5]; rfl
                  rw [List.getElem?_eq_getElem hp] at this
                  rw [Option.some.inj this]
                  rfl
                exact hb.2 h6
              · exact e0
            simp
            omega
    · by_cases hb : 17 < (c :: r).length ∨ c.toNat = 48 ∧ 1 < (c :: r).length
      · refine (spNum_no (c :: r) w (by simp) h45 (by omega) hb).mono (no ?_)
        rw [Bool.eq_false_iff]
        intro h
        simp only [numB, Bool.and_eq_true, decide_eq_true_eq, Bool.or_eq_true, beq_iff_eq, Bool.not_eq_true', beq_eq_false_iff_ne] at h
        rcases hb with hb | ⟨h1, h2⟩
        · omega
        · rcases h.1.2 with h3 | h3
          · omega
          · apply h3
            have : c = 48 := UInt8.toNat_inj.1 (by simpa using h1)
            rw [this]
            rfl
      · rw [not_or, not_and] at hb
        have key : ∀ e w', DecEnd (c :: r) false w e w' → NumS (c :: r) w e w' := by
          rintro e w' ⟨n, ok, h1, h2, h3, h4⟩
          have hd : numB (c :: r) = (ok && decide (digVal (c :: r) ≤ 1000000)) := by
            rw [Bool.eq_iff_iff]
            simp only [numB, Bool.and_eq_true, decide_eq_true_eq, Bool.or_eq_true, beq_iff_eq, Bool.not_eq_true', beq_eq_false_iff_ne, ← h2]
            constructor
            · rintro ⟨⟨⟨⟨a, _⟩, _⟩, _⟩, b⟩; exact ⟨a, b⟩
            · rintro ⟨a, b⟩
              refine ⟨⟨⟨⟨a, by simp⟩, by omega⟩, ?_⟩, b⟩
              by_cases h48 : c.toNat = 48
              · left
                have := hb.2 h48
                simp only [List.length_cons] at this ⊢
                omega
              · right
                intro e
                simp at e
                rw [e] at h48
                exact h48 rfl
          refine ⟨n, ok, h1, ?_, ?_, h4⟩
          · cases hok : ok
            · rw [hd, hok]; rfl
            · have := h3 hok
              simp only [Bool.false_eq_true, if_false] at this
              rw [hd, hok, this, Bool.eq_iff_iff]
              simp
              omega
          · intro h
            rw [hd, Bool.and_eq_true] at h
            have := h3 h.1
            simp only [Bool.false_eq_true, if_false] at this
            exact ⟨h.1, this⟩
        by_cases h48 : c.toNat = 48
        · have hr : r = [] := by
            have := hb.2 h48
            simp only [List.length_cons] at this
            cases r with
            | nil => rfl
            | cons a b => simp only [List.length_cons] at this; omega
          subst hr
          obtain rfl : c = 48 := UInt8.toNat_inj.1 (by simpa using h48)
          exact (spNum_zero w).mono key
        · exact (spNum_pos (c :: r) w (by simp) h45 (by omega) h48).mono key
theorem spL3Num_any (s : Bytes) (w : World) (hm : s.length ≤ 100000000) : Calls Tryz.prog 191 #[.string (bs s)] w fun e w' => e = .returned (.bool (numB s)) ∧ w = w' := by
  have C := Lib.hid (spNumS_any s w hm)
  go_enter Tryz.func191, Tryz.ntmps191
  go_wp2_with fail
  refine C.out.mono ?_
  rintro e _ ⟨n, ok, rfl, h1, _, rfl⟩
  have H := Lib.hid h1
  clear h1
  cases ok
  · go_wp2_with fail
    go_ret
    exact ⟨ret_bool (by rw [← H.out]; rfl), rfl⟩
  · by_cases h0 : 0 ≤ n
    · go_wp2_with fail
      go_ret
      exact ⟨ret_bool (by rw [← H.out]; simp [h0]), rfl⟩
    · go_wp2_with fail
      go_ret
      exact ⟨ret_bool (by rw [← H.out]; simp; omega), rfl⟩
theorem spAt_any (ws : List Bytes) (i : Nat) (v : Value) (w : World) (hv : SlB w w.heap.size v ws) : Calls Tryz.prog 175 #[v, .int .i64 (i : Int)] w fun e w' => e = .returned (.string (bs ((ws[i]?).getD []))) ∧ w = w' := by
  obtain ⟨A, c, rfl, hc, hm⟩ := hv.val
  by_cases h : i < ws.length
  · obtain ⟨b, o, x, rfl, hb, hg, f0⟩ := str_at hv h
    have g0 := f0 ⟨w, Below.refl _ _⟩
    have HG := Lib.hid hg
    have h1 : (i : Int) < (ws.length : Int) := by omega
    clear hv f0 hg
    go_enter Tryz.func175, Tryz.ntmps175
    go_wp2_with fail
    go_ret
    exact ⟨ret_bs (by first | (rw [HG.out]; rfl) | (have hg := HG.out; rw [List.getElem?_eq_getElem h] at hg; exact (Option.some.inj hg).symm)), rfl⟩
  · have h1 : ¬ (i : Int) < (ws.length : Int) := by omega
    have hn : ws[i]? = none := List.getElem?_eq_none (by omega)
    have HN := Lib.hid hn
    clear hv hn
    go_enter Tryz.func175, Tryz.ntmps175
    go_wp2_with fail
    go_ret
    exact ⟨ret_bs (by first | rfl | (rw [HN.out]; rfl)), rfl⟩
/-- how tight a mark holds, for the reference -/
def spTg (s : Bytes) : Nat := if s = [60] then 1 else if s = [42] then 3 else 2
theorem spLevelTwo (s : Bytes) (w : World) : Calls Tryz.prog 155 #[.agg #[.int .i64 3, .int .i64 0, .string (bs s), .slice none 0 0]] w fun e w' => e = .returned (.int .i64 (spTg s : Nat)) ∧ Below w.heap.size w w' := by
  by_cases h1 : s = [60]
  · subst h1
    go_enter Tryz.func155, Tryz.ntmps155
    go_wp2_with fail
    go_ret
    exact ⟨rfl, by (repeat (first | with_reducible assumption | with_reducible exact Below.refl _ _ | with_reducible refine Below.setCell ?_ (by first | omega | (simp; done) | (simp; omega)) _ | with_reducible refine Below.alloc ?_ (by first | omega | (simp; done) | (simp; omega)) _ | with_reducible refine below_drewN ?_ _ | with_reducible refine Below.drew ?_))⟩
  · by_cases h2 : s = [42]
    · subst h2
      go_enter Tryz.func155, Tryz.ntmps155
      go_wp2_with fail
      go_ret
      exact ⟨rfl, by (repeat (first | with_reducible assumption | with_reducible exact Below.refl _ _ | with_reducible refine Below.setCell ?_ (by first | omega | (simp; done) | (simp; omega)) _ | with_reducible refine Below.alloc ?_ (by first | omega | (simp; done) | (simp; omega)) _ | with_reducible refine below_drewN ?_ _ | with_reducible refine Below.drew ?_))⟩
    · have hs : spTg s = 2 := by unfold spTg; rw [if_neg h1, if_neg h2]
      have HS := Lib.hid hs
      have d1 : (s == [60]) = false := by simpa using h1
      have d2 : (s == [42]) = false := by simpa using h2
      clear hs h1 h2
      go_enter Tryz.func155, Tryz.ntmps155
      go_wp2_with fail
      go_ret
      exact ⟨(by rw [HS.out]; rfl), by (repeat (first | with_reducible assumption | with_reducible exact Below.refl _ _ | with_reducible refine Below.setCell ?_ (by first | omega | (simp; done) | (simp; omega)) _ | with_reducible refine Below.alloc ?_ (by first | omega | (simp; done) | (simp; omega)) _ | with_reducible refine below_drewN ?_ _ | with_reducible refine Below.drew ?_))⟩
theorem spTg_tg {s : Bytes} {k : Nat} (hk : k = 2 ∨ k = 3) : (spTg s = k ∧ opB s = true) ↔ tgt s = k := by
  unfold spTg tgt opB
  by_cases h1 : s = [60]
  · subst h1; rcases hk with rfl | rfl <;> decide
  · by_cases h2 : s = [42]
    · subst h2; simp
    · rw [if_neg h1, if_neg h1, if_neg h2]
      by_cases h3 : s = [43] ∨ s = [45]
      · rw [if_pos h3]
        simp [h1, h2]
        intro _; rcases h3 with h | h <;> simp [h]
      · rw [if_neg h3, if_neg h2]
        rw [not_or] at h3
        simp [h1, h2, h3.1, h3.2]
        omega
end Go.Proofs.YtgakjhaepdigpaaGreatDoor
