/- What the package variables hold, and the library's contracts in this proof's words. -/
import Derived.Test.YtgakjhaepdigpaaGreatDoorRows
import Derived.Test.YtgakjhaepdigpaaGreatDoorShf
import Derived.Test.YtgakjhaepdigpaaGreatDoorBas
import Derived.Lib.SmallJoins
import Derived.Lib.AppendIntMem
import Derived.Deep.Light
import Derived.Lib.AtoiAllCases
namespace Go.Proofs.YtgakjhaepdigpaaGreatDoor
set_option maxRecDepth 100000
set_option linter.unusedSimpArgs false
set_option linter.unusedVariables false
open Go.RowKit
attribute [local go_sem] bs_toList bs_get bs_size

def ownList : List Bytes := [cLet, cSay, cWhen, cAs, cPrint, cIf, cInt, cBool]
/-- the words that are no names, and the library's table, read as the program's text lays them -/
structure Env (w : World) : Prop where
  own : ∃ A c, w.cell? ⟨0, 0, none⟩ = some (.slice A 8 c) ∧ SlB w w.heap.size (.slice A 8 c) ownList
  tab : Lib.TabIs Tryz.prog w "internal/strconv.uint64pow10" .u64 Lib.pow10Tab
theorem gOwn : Tryz.prog.globalNamed "loop.example/interlinear/impl.ownWords" = some 0 := by kernel_rfl
theorem gTab : Tryz.prog.globalNamed "internal/strconv.uint64pow10" = some 2 := by kernel_rfl
theorem Env.keep {w w' : World} {B : Nat} (h : Env w) (hb : Below B w w') (hB : w.heap.size ≤ B) : Env w' := by
  obtain ⟨⟨A, c, h1, h2⟩, h3⟩ := h
  refine ⟨⟨A, c, ?_, (h2.below hb hB).more (by have := hb.size; omega)⟩, Joins.tab_stays gTab h3 hb hB⟩
  have hlt := World.block_lt_of_cell? _ _ h1
  exact (hb.cell (p := ⟨_, 0, none⟩) (Nat.lt_of_lt_of_le hlt hB)).trans h1
theorem Env.ext {w w' : World} (h : Env w) (hb : Ext w w') : Env w' := h.keep hb (Nat.le_refl _)

theorem decDigits_eq (n : Nat) : Lib.decDigits n = decL n := by
  induction n using Nat.strongRecOn with
  | _ n ih =>
    rw [Lib.decDigits]
    split
    · next h => rw [decL_lt h]
    · next h => rw [decL_ge h, ih _ (by omega)]
theorem itoa_any (n : Nat) (w : World) (hn : n ≤ 1000000) (hE : Env w) : Calls Tryz.prog 133 #[.int .i64 (n : Int)] w fun e w' => e = .returned (.string (bs (decL n))) ∧ Below w.heap.size w w' :=
  (Tryz.strconv_Itoa n (by omega) (by omega) w hE.tab).mono fun e w' ⟨he, k, os, hw⟩ => ⟨by rw [he, Lib.itoa_nonneg, decDigits_eq]; rfl, by rw [hw]; exact Lib.below_grow _ _ (Nat.le_refl _) _ _⟩

theorem libJoin (l : List Bytes) : Lib.join l [32] = joinL l := by
  match l with
  | [] => rfl
  | [w] => rw [Lib.join_one]; rfl
  | w :: v :: l =>
    rw [Lib.join_cons, joinL, ← libJoin (v :: l), Lib.join_cons]
    simp [Lib.joinTail]
theorem join_any (l : List Bytes) (v : Value) (w : World) (hv : SlB w w.heap.size v l) (hl : (joinL l).length ≤ 100000000) (hn : l.length ≤ 100000000) :
    Calls Tryz.prog 83 #[v, .string (bs [32])] w fun e w' => e = .returned (.string (bs (joinL l))) ∧ Below w.heap.size w w' := by
  obtain ⟨A, c, rfl, hc, hm, hh⟩ := hv
  cases l with
  | nil => exact (Tryz.strings_Join_none A c _ w).mono fun e w' ⟨he, hw⟩ => ⟨he, by rw [hw]; exact Below.refl _ _⟩
  | cons a l =>
    obtain ⟨b, o, rfl, hb, hx⟩ := hh (by simp)
    have hd : ((a :: l).map bs).map (·.data.toList) = a :: l := by
      rw [List.map_map]
      conv => rhs; rw [← List.map_id (a :: l)]
      apply List.map_congr_left
      intro x _
      simp [bs_data]
    have h := Tryz.strings_Join b o c ((a :: l).map bs) (bs [32]) w (fun j x hj => by
      rw [List.getElem?_map, Option.map_eq_some_iff] at hj
      obtain ⟨s, hs, rfl⟩ := hj
      have := hx j s hs 0 _ rfl
      simpa using this) hb (by simp at hn ⊢; omega) (by simpa using hc) (by rw [hd, bs_data, libJoin]; omega)
    rw [hd, bs_data, libJoin, List.length_map] at h
    exact h
theorem imTokText_any (l : List Bytes) (v : Value) (w : World) (hv : SlB w w.heap.size v l) (hl : (joinL l).length ≤ 100000000) (hn : l.length ≤ 100000000) :
    Calls Tryz.prog 30 #[v] w fun e w' => e = .returned (.string (bs (joinL l))) ∧ Below w.heap.size w w' := by
  go_enter Tryz.func30, Tryz.ntmps30
  go_wp2_with fail
  refine (join_any l v w hv hl hn).mono ?_
  rintro e w1 ⟨rfl, hb⟩
  go_wp2_with fail
  go_ret
  exact ⟨rfl, hb⟩
end Go.Proofs.YtgakjhaepdigpaaGreatDoor


/- The program's tests on words, as plain functions. -/
namespace Go.Proofs.YtgakjhaepdigpaaGreatDoor
set_option maxRecDepth 100000
set_option linter.unusedSimpArgs false
set_option linter.unusedVariables false
open Go.RowKit
attribute [local go_sem] bs_toList bs_get bs_size

theorem inB_any (n lo hi : Int) (w : World) : Calls Tryz.prog 106 #[.int .i64 n, .int .i64 lo, .int .i64 hi] w fun e w' => e = .returned (.bool (decide (lo ≤ n) && decide (n ≤ hi))) ∧ w = w' := by
  go_enter Tryz.func106, Tryz.ntmps106
  go_wp2_with fail
  all_goals (try (go_ret; refine ⟨ret_bool ?_, rfl⟩; go_light; first | (simp_all [Bool.and_eq_true]; done) | (simp_all [Bool.and_eq_true]; omega) | (rw [Bool.eq_iff_iff]; simp [Bool.and_eq_true]; omega)))
theorem imLetter_any (c : UInt8) (w : World) : Calls Tryz.prog 76 #[.int .u8 c.toNat] w fun e w' => e = .returned (.bool (isLet c)) ∧ w = w' := by
  go_enter Tryz.func76, Tryz.ntmps76
  go_wp2_with fail
  all_goals (try (go_ret; refine ⟨ret_bool ?_, rfl⟩; go_light; first | (simp_all [isLet]; done) | (simp_all [isLet]; omega) | (rw [Bool.eq_iff_iff]; simp [isLet]; omega)))
theorem imType_any (s : Bytes) (w : World) : Calls Tryz.prog 66 #[.string (bs s)] w fun e w' => e = .returned (.bool (typeB s)) ∧ w = w' := by
  go_enter Tryz.func66, Tryz.ntmps66
  go_wp2_with fail
  all_goals (try (go_ret; refine ⟨ret_bool ?_, rfl⟩; go_light; first | (simp_all [typeB, cInt, cBool]; done) | (simp_all [typeB, cInt, cBool]; omega) | (rw [Bool.eq_iff_iff]; simp [typeB, cInt, cBool]; omega)))
/-- how tight a mark holds -/
def tgt (s : Bytes) : Nat := if s = [60] then 1 else if s = [43] ∨ s = [45] then 2 else if s = [42] then 3 else 0
theorem imTight_any (s : Bytes) (w : World) : Calls Tryz.prog 134 #[.string (bs s)] w fun e w' => e = .returned (.int .i64 (tgt s : Nat)) ∧ w = w' := by
  go_enter Tryz.func134, Tryz.ntmps134
  go_wp2_with fail
  all_goals (go_ret; refine ⟨ret_int ?_, rfl⟩; go_light; simp_all [tgt]; done)
theorem runL_at {p : UInt8 → Bool} {s : Bytes} {j : Nat} (h : ∀ t c, t < j → s[t]? = some c → p c = true) (hj : j ≤ s.length) (he : s.length ≤ j ∨ ∃ c, s[j]? = some c ∧ p c = false) : runL p s = j := by
  have e : s = s.take j ++ s.drop j := (List.take_append_drop j s).symm
  have h1 : ∀ c ∈ s.take j, p c = true := by
    intro c hc
    obtain ⟨i, hi⟩ := List.mem_iff_getElem?.1 hc
    rw [List.getElem?_take] at hi
    split at hi
    · next hij => exact h i c hij hi
    · cases hi
  have h2 : s.drop j = [] ∨ ∃ c r', s.drop j = c :: r' ∧ p c = false := by
    rcases he with he | ⟨c, hc, hp⟩
    · left; exact List.drop_eq_nil_iff.2 he
    · right
      have hl := (List.getElem?_eq_some_iff.1 hc).1
      refine ⟨c, s.drop (j + 1), ?_, hp⟩
      rw [List.drop_eq_getElem_cons hl]
      rw [List.getElem?_eq_getElem hl] at hc
      rw [Option.some.inj hc]
  have := runL_stop h1 h2
  rw [← e] at this
  rw [this, List.length_take]
  omega
theorem imRun_any (s : Bytes) (w : World) (hs : s.length ≤ 9223372036854775807) : Calls Tryz.prog 75 #[.string (bs s), .func (.func 76) #[] #[]] w fun e w' => e = .returned (.int .i64 (runL isLet s : Nat)) ∧ w = w' := by
  go_enter Tryz.func75, Tryz.ntmps75
  go_wp2_with fail
  go_loopg [5] s.length (fun k i wr => ∃ j : Nat, k = s.length - j ∧ j ≤ s.length ∧ i = .int .i64 j ∧ (∀ t c, t < j → s[t]? = some c → isLet c = true) ∧ wr = w)
  case atStart => exact ⟨0, by omega, by omega, rfl, fun t c h => by omega, rfl⟩
  case round =>
    obtain ⟨j, hk, hj, rfl, ha, rfl⟩ := hrel
    have HK := Lib.hid (And.intro hk ha)
    clear hk ha
    by_cases hlt : j < s.length
    · have hg : s[j]? = some s[j] := List.getElem?_eq_getElem hlt
      have HG := Lib.hid hg
      clear hg
      go_wp2_with fail
      refine (imLetter_any _ _).mono ?_
      rintro e _ ⟨rfl, rfl⟩
      by_cases hl : isLet s[j] = true
      · rw [hl]
        have HL := Lib.hid hl
        clear hl
        go_wp2_with fail
        go_roundg (s.length - (j + 1))
        case measure => have := HK.out.1; omega
        case rel => exact ⟨j + 1, rfl, by omega, by go_num, fun t c ht hc => by
            by_cases e : t = j
            · subst e
              rw [HG.out] at hc
              obtain rfl := Option.some.inj hc
              exact HL.out
            · exact HK.out.2 t c (by omega) hc, rfl⟩
      · have hl2 : isLet s[j] = false := by simpa using hl
        rw [hl2]
        have HL := Lib.hid hl2
        clear hl hl2
        go_wp2_with fail
        go_ret
        exact ⟨ret_int (by rw [runL_at HK.out.2 hj (.inr ⟨_, HG.out, HL.out⟩)]), rfl⟩
    · have hj2 : s.length ≤ j := by omega
      go_wp2_with fail
      go_ret
      exact ⟨ret_int (by rw [runL_at HK.out.2 hj (.inl hj2)]), rfl⟩
theorem tw_mem {p : UInt8 → Bool} : ∀ {l : Bytes} {c : UInt8}, c ∈ l.takeWhile p → p c = true
  | [], c, h => by simp at h
  | a :: l, c, h => by
    by_cases ha : p a = true
    · rw [List.takeWhile_cons, if_pos ha, List.mem_cons] at h
      rcases h with rfl | h
      · exact ha
      · exact tw_mem h
    · rw [List.takeWhile_cons, if_neg ha] at h
      simp at h
theorem wordB_run (s : Bytes) : wordB s = (decide (1 ≤ s.length) && decide (s.length ≤ 8) && decide (runL isLet s = s.length)) := by
  have h : s.all isLet = decide (runL isLet s = s.length) := by
    rw [Bool.eq_iff_iff, decide_eq_true_eq, List.all_eq_true]
    constructor
    · intro h
      have := runL_stop (r := []) h (.inl rfl)
      rwa [List.append_nil] at this
    · intro h c hc
      unfold runL at h
      have h2 : s.takeWhile isLet = s := (List.takeWhile_sublist isLet).eq_of_length h
      rw [← h2] at hc
      exact tw_mem hc
  unfold wordB
  rw [h]
  cases decide (1 ≤ s.length) <;> cases decide (s.length ≤ 8) <;> cases decide (runL isLet s = s.length) <;> rfl
theorem imTokWord_any (s : Bytes) (w : World) (hs : s.length ≤ 9223372036854775807) : Calls Tryz.prog 88 #[.int .i64 1, .string (bs s)] w fun e w' => e = .returned (.bool (wordB s)) ∧ w = w' := by
  have hr := runL_le isLet s
  have hw := wordB_run s
  have HW := Lib.hid hw
  clear hw
  go_enter Tryz.func88, Tryz.ntmps88
  go_wp2_with (first | (go_at_call 106; refine (inB_any _ _ _ _).mono ?_; rintro e w' ⟨rfl, rfl⟩) | (go_at_call 75; refine (imRun_any _ _ hs).mono ?_; rintro e w' ⟨rfl, rfl⟩))
  all_goals
    go_ret
    refine ⟨ret_bool ?_, rfl⟩
    rw [HW.out]
    go_light
    rw [Bool.eq_iff_iff]
    simp_all
    try omega
/-- the place of the first that is s, from i on, or -1 -/
def idxL (s : Bytes) (l : List Bytes) : Int := match l.findIdx? (fun x => x == s) with | some i => i | none => -1
theorem idxL_none {s : Bytes} {l : List Bytes} (h : ∀ t x, t < l.length → l[t]? = some x → x ≠ s) : idxL s l = -1 := by
  unfold idxL
  rw [List.findIdx?_eq_none_iff.2]
  intro x hx
  obtain ⟨t, ht⟩ := List.mem_iff_getElem?.1 hx
  simpa using h t x (List.getElem?_eq_some_iff.1 ht).1 ht
theorem idxL_some {s : Bytes} {l : List Bytes} {j : Nat} (h : ∀ t x, t < j → l[t]? = some x → x ≠ s) (hj : l[j]? = some s) : idxL s l = j := by
  unfold idxL
  have hl := (List.getElem?_eq_some_iff.1 hj)
  obtain ⟨hl, he⟩ := hl
  rw [List.findIdx?_eq_some_iff_getElem.2 ⟨hl, by simp [he], fun t ht => by
    have := h t l[t] ht (List.getElem?_eq_getElem _)
    simpa using this⟩]
theorem idxL_ge (s : Bytes) (l : List Bytes) : (decide (0 ≤ idxL s l)) = l.contains s := by
  rw [Bool.eq_iff_iff, decide_eq_true_eq, List.contains_iff_mem]
  constructor
  · intro h
    unfold idxL at h
    split at h
    · next i hi =>
      obtain ⟨hl, he, _⟩ := List.findIdx?_eq_some_iff_getElem.1 hi
      have : l[i] = s := by simpa using he
      rw [← this]; exact List.getElem_mem hl
    · omega
  · intro h
    by_cases h2 : 0 ≤ idxL s l
    · exact h2
    · exfalso
      unfold idxL at h2
      split at h2
      · omega
      · next hn => exact absurd (List.findIdx?_eq_none_iff.1 hn s h) (by simp)
theorem index_any (l : List Bytes) (s : Bytes) (v : Value) (w : World) (hv : SlB w w.heap.size v l) : Calls Tryz.prog 117 #[v, .string (bs s)] w fun e w' => e = .returned (.int .i64 (idxL s l)) ∧ w = w' := by
  obtain ⟨A, c, rfl, hc, hm⟩ := hv.val
  go_enter Tryz.func117, Tryz.ntmps117
  go_wp2_with fail
  go_loopg [8] l.length (fun k i wr => ∃ j : Nat, k = l.length - j ∧ j ≤ l.length ∧ i = .int .i64 j ∧ (∀ t x, t < j → l[t]? = some x → x ≠ s) ∧ wr = w)
  case atStart => exact ⟨0, by omega, by omega, rfl, fun t c h => by omega, rfl⟩
  case round =>
    obtain ⟨j, hk, hj, rfl, ha, rfl⟩ := hrel
    have HK := Lib.hid (And.intro hk ha)
    clear hk ha
    by_cases hlt : j < l.length
    · obtain ⟨b, o, x, rfl, hb, hg, f0⟩ := str_at hv hlt
      have g0 := f0 ⟨wr, Below.refl _ _⟩
      have HG := Lib.hid hg
      clear f0 hg
      by_cases he : s = x
      · have hd : (s == x) = true := by simp [he]
        have HE := Lib.hid he
        clear he
        go_wp2_with fail
        go_ret
        exact ⟨ret_int (by rw [idxL_some HK.out.2 (by rw [HE.out]; exact HG.out)]), rfl⟩
      · have hd : (s == x) = false := by simp [he]
        have HE := Lib.hid he
        clear he
        go_wp2_with fail
        go_roundg (l.length - (j + 1))
        case measure => have := HK.out.1; omega
        case rel => exact ⟨j + 1, rfl, by omega, by go_num, fun t x' ht hx => by
            by_cases e : t = j
            · subst e
              rw [HG.out] at hx
              obtain rfl := Option.some.inj hx
              exact fun e => HE.out e.symm
            · exact HK.out.2 t x' (by omega) hx, rfl⟩
    · go_wp2_with fail
      go_ret
      exact ⟨ret_int (by rw [idxL_none (fun t x ht => HK.out.2 t x (by omega))]), rfl⟩
theorem contains_any (l : List Bytes) (s : Bytes) (v : Value) (w : World) (hv : SlB w w.heap.size v l) : Calls Tryz.prog 80 #[v, .string (bs s)] w fun e w' => e = .returned (.bool (l.contains s)) ∧ w = w' := by
  have h := idxL_ge s l
  have H := Lib.hid h
  clear h
  go_enter Tryz.func80, Tryz.ntmps80
  go_wp2_with (go_at_call 117; refine (index_any l s _ _ hv).mono ?_; rintro e w' ⟨rfl, rfl⟩)
  all_goals
    go_ret
    refine ⟨ret_bool ?_, rfl⟩
    rw [← H.out]
theorem own_held (s : Bytes) : ownList.contains s = heldB s := by
  rw [Bool.eq_iff_iff, List.contains_iff_mem]
  simp only [ownList, heldB, typeB, List.mem_cons, List.not_mem_nil, or_false, Bool.or_eq_true, beq_iff_eq]
  simp only [or_assoc]
theorem imName_any (s : Bytes) (w : World) (hs : s.length ≤ 9223372036854775807) (hE : Env w) : Calls Tryz.prog 65 #[.string (bs s)] w fun e w' => e = .returned (.bool (nameB s)) ∧ w = w' := by
  obtain ⟨A, c, h1, h2⟩ := hE.own
  have hr : nameB s = (wordB s && !ownList.contains s) := by rw [own_held]; rfl
  have HR := Lib.hid hr
  clear hr
  go_enter Tryz.func65, Tryz.ntmps65
  go_wp2_with (first | (go_at_call 88; refine (imTokWord_any _ _ hs).mono ?_; rintro e w' ⟨rfl, rfl⟩) | (go_at_call 80; refine (contains_any _ _ _ _ h2).mono ?_; rintro e w' ⟨rfl, rfl⟩))
  all_goals
    go_ret
    refine ⟨ret_bool ?_, rfl⟩
    rw [HR.out]
    go_light
    simp_all
end Go.Proofs.YtgakjhaepdigpaaGreatDoor


/- Numbers that are read: the library's Atoi at every word; what the program takes for a number. -/
namespace Go.Proofs.YtgakjhaepdigpaaGreatDoor
set_option maxRecDepth 100000
set_option linter.unusedSimpArgs false
set_option linter.unusedVariables false
open Go.RowKit
attribute [local go_sem] bs_toList bs_get bs_size

/-- what the package variables hold, the library's errors too -/
structure EnvA (w : World) : Prop where
  env : Env w
  syn : ∃ tp p, w.cell? ⟨3, 0, none⟩ = some (.iface tp p)
  rng : ∃ tp p, w.cell? ⟨4, 0, none⟩ = some (.iface tp p)
theorem EnvA.keep {w w' : World} {B : Nat} (h : EnvA w) (hb : Below B w w') (hB : w.heap.size ≤ B) : EnvA w' := by
  obtain ⟨h1, ⟨t1, p1, h2⟩, t2, p2, h3⟩ := h
  exact ⟨h1.keep hb hB, ⟨t1, p1, (hb.cell (p := ⟨_, 0, none⟩) (Nat.lt_of_lt_of_le (World.block_lt_of_cell? _ _ h2) hB)).trans h2⟩, t2, p2, (hb.cell (p := ⟨_, 0, none⟩) (Nat.lt_of_lt_of_le (World.block_lt_of_cell? _ _ h3) hB)).trans h3⟩
theorem EnvA.ext {w w' : World} (h : EnvA w) (hb : Ext w w') : EnvA w' := h.keep hb (Nat.le_refl _)

theorem fold_ge (l : Bytes) : ∀ a : Nat, a ≤ l.foldl (fun a c => a * 10 + (c.toNat - 48)) a := by
  induction l with
  | nil => intro a; exact Nat.le_refl _
  | cons c l ih => intro a; have := ih (a * 10 + (c.toNat - 48)); simp only [List.foldl_cons]; omega
theorem parse_dig (l : Bytes) : ∀ a : Nat, (∀ c ∈ l, isDig c = true) → l.foldl (fun a c => a * 10 + (c.toNat - 48)) a ≤ 1000000000 → Lib.parseUint10 a l = .ok (l.foldl (fun a c => a * 10 + (c.toNat - 48)) a) := by
  induction l with
  | nil => intro a _ _; rfl
  | cons c l ih =>
    intro a hd hm
    have h1 := fold_ge l (a * 10 + (c.toNat - 48))
    simp only [List.foldl_cons] at hm ⊢
    have hc := hd c (by simp)
    simp only [isDig, Bool.and_eq_true, decide_eq_true_eq] at hc
    rw [Lib.parseUint10, if_pos hc, if_neg (by omega), if_neg (by omega)]
    exact ih _ (fun x hx => hd x (by simp [hx])) hm
theorem ato_dec {k : Nat} (hk : k ≤ 1000000) : Lib.atoiAll (decL k) = .ok (k : Int) := by
  have hd := decL_dig k
  have hv := digVal_dec k
  have h1 : Lib.parseUint10 0 (decL k) = .ok k := by
    rw [parse_dig _ 0 hd (by have : (decL k).foldl (fun a c => a * 10 + (c.toNat - 48)) 0 = k := hv; omega)]
    exact congrArg _ hv
  cases he : decL k with
  | nil => have := decL_pos k; rw [he] at this; simp at this
  | cons c r =>
    have hc := hd c (by rw [he]; simp)
    simp only [isDig, Bool.and_eq_true, decide_eq_true_eq] at hc
    rw [Lib.atoiAll_plain c r (by omega) (by omega), Lib.parseMag, if_neg (by simp), ← he, h1, Lib.signless, if_neg (by omega)]
/-- what stands there -/
theorem num_of_ato {s : Bytes} {v : Int} (h : Lib.atoiAll s = .ok v) : numB s = (decide (0 ≤ v) && decide (v ≤ 1000000) && decide (decL v.toNat = s)) ∧ (numB s = true → v = digVal s) := by
  cases hn : numB s
  · refine ⟨?_, fun e => by cases e⟩
    rw [eq_comm, Bool.eq_false_iff]
    simp only [ne_eq, Bool.and_eq_true, decide_eq_true_eq, not_and]
    rintro ⟨h1, h2⟩ h3
    rw [numB_iff.2 ⟨v.toNat, by omega, h3.symm⟩] at hn
    cases hn
  · obtain ⟨k, hk, rfl⟩ := numB_iff.1 hn
    rw [ato_dec hk] at h
    obtain rfl : (k : Int) = v := by injection h
    refine ⟨?_, fun _ => by rw [digVal_dec]⟩
    rw [eq_comm, Bool.and_eq_true, Bool.and_eq_true]
    simp only [decide_eq_true_eq, Int.toNat_natCast]
    exact ⟨⟨by omega, by omega⟩, trivial⟩
theorem num_no_ato {s : Bytes} (h : ∀ v, Lib.atoiAll s ≠ .ok v) : numB s = false := by
  rw [Bool.eq_false_iff]
  intro hn
  obtain ⟨k, hk, rfl⟩ := numB_iff.1 hn
  exact h _ (ato_dec hk)
theorem atoi_yes (s : Bytes) (v : Int) (w : World) (hs : s.length ≤ 100000000) (h : Lib.atoiAll s = .ok v) :
    Calls Tryz.prog 166 #[.string (bs s)] w fun e w' => e = .returned (.tuple #[.int .i64 v, .nilIface]) ∧ Below w.heap.size w w' :=
  (Tryz.strconv_Atoi_ok (bs s) (by rw [bs_size]; omega) v (by rw [bs_data]; exact h) w).mono fun e w' ⟨he, hw⟩ => ⟨he, by
    rcases hw with rfl | ⟨t, rfl⟩
    · exact Below.refl _ _
    · exact Joins.below_bytesWorld _ _ _ _ (Nat.le_refl _)⟩
def AtoNo (w : World) (e : Ending) (w' : World) : Prop := ∃ (n : Int) (t : TypeId) (p : Value), e = .returned (.tuple #[.int .i64 n, .iface t p]) ∧ Below w.heap.size w w'
theorem atoi_no (s : Bytes) (w : World) (hs : s.length ≤ 100000000) (h : ∀ v, Lib.atoiAll s ≠ .ok v) (hE : EnvA w) : Calls Tryz.prog 166 #[.string (bs s)] w (AtoNo w) := by
  obtain ⟨_, ⟨t1, p1, h2⟩, t2, p2, h3⟩ := hE
  by_cases hr : Lib.atoiAll s = .range
  · refine (Tryz.strconv_Atoi_range (bs s) (by rw [bs_size]; omega) (by rw [bs_data]; exact hr) (.iface t2 p2) w h3 (.inr ⟨_, _, rfl⟩)).mono ?_
    rintro e w' ⟨N, rfl, _, _, hb⟩
    exact ⟨_, _, _, rfl, hb⟩
  · have hy : Lib.atoiAll s = Lib.atoiAll [] := by
      cases hx : Lib.atoiAll s with
      | ok v => exact absurd hx (h v)
      | range => exact absurd hx hr
      | _ => rfl
    refine (Tryz.strconv_Atoi_syntax (bs s) (by rw [bs_size]; omega) (by rw [bs_data]; exact hy) (.iface t1 p1) w h2 (.inr ⟨_, _, rfl⟩)).mono ?_
    rintro e w' ⟨N, rfl, _, _, hb⟩
    exact ⟨_, _, _, rfl, hb⟩
def NumP (s : Bytes) (w : World) (e : Ending) (w' : World) : Prop := ∃ n : Int, e = .returned (.tuple #[.int .i64 n, .bool (numB s)]) ∧ (numB s = true → n = (digVal s : Int)) ∧ Below w.heap.size w w'
theorem imNumber_any (s : Bytes) (w : World) (hs : s.length ≤ 100000000) (hE : EnvA w) : Calls Tryz.prog 137 #[.string (bs s)] w (NumP s w) := by
  by_cases h : ∃ v, Lib.atoiAll s = .ok v
  · obtain ⟨v, h⟩ := h
    obtain ⟨hn, hd⟩ := num_of_ato h
    have AT := Lib.hid (atoi_yes s v w hs h)
    have IT := Lib.hid (fun (w' : World) (hb : Below w.heap.size w w') (n : Nat) (hk : n ≤ 1000000) => itoa_any n w' hk (hE.env.ext hb))
    have HN := Lib.hid (And.intro hn hd)
    clear hn hd h hE
    by_cases hv : 0 ≤ v ∧ v ≤ 1000000
    · obtain ⟨h0, h1⟩ := hv
      obtain ⟨k, rfl⟩ := Int.eq_ofNat_of_zero_le h0
      have d0 : (decide (0 ≤ ((k : Nat) : Int)) && decide (((k : Nat) : Int) ≤ 1000000)) = true := by simp; omega
      have e1 : numB s = (decL k == s) := by rw [HN.out.1, d0, Bool.true_and, Int.toNat_natCast, Bool.eq_iff_iff]; simp
      have HQ := Lib.hid (And.intro e1 HN.out.2)
      clear e1
      go_enter Tryz.func137, Tryz.ntmps137
      go_wp2_with fail
      refine AT.out.mono ?_
      rintro r w1 ⟨rfl, hb1⟩
      go_wp2_with fail
      refine (inB_any _ _ _ _).mono ?_
      rintro r _ ⟨rfl, rfl⟩
      go_wp2_with fail
      refine (IT.out _ hb1 k (by omega)).mono ?_
      rintro r w2 ⟨rfl, hb2⟩
      go_wp2_with fail
      refine bodyPost_ret (v := .tuple #[.int .i64 (k : Int), .bool (decL k == s)]) (by simp [results, Tryz.results137, go_sem]) rfl ?_
      exact ⟨k, by rw [HQ.out.1], HQ.out.2, hb1.ext hb2⟩
    · have d0 : (decide (0 ≤ v) && decide (v ≤ 1000000)) = false := by
        rw [Bool.and_eq_false_iff, decide_eq_false_iff_not, decide_eq_false_iff_not]; omega
      have e1 : numB s = false := by rw [HN.out.1, d0, Bool.false_and]
      have HQ := Lib.hid e1
      clear e1 hv
      go_enter Tryz.func137, Tryz.ntmps137
      go_wp2_with fail
      refine AT.out.mono ?_
      rintro r w1 ⟨rfl, hb1⟩
      go_wp2_with fail
      refine (inB_any _ _ _ _).mono ?_
      rintro r _ ⟨rfl, rfl⟩
      go_wp2_with fail
      refine bodyPost_ret (v := .tuple #[.int .i64 v, .bool false]) (by simp [results, Tryz.results137, go_sem]) rfl ?_
      exact ⟨v, by rw [HQ.out], (fun e => by rw [HQ.out] at e; cases e), hb1⟩
  · have h' : ∀ v, Lib.atoiAll s ≠ .ok v := fun v e => h ⟨v, e⟩
    have HQ := Lib.hid (num_no_ato h')
    have AT := Lib.hid (atoi_no s w hs h' hE)
    clear h h' hE
    go_enter Tryz.func137, Tryz.ntmps137
    go_wp2_with fail
    refine AT.out.mono ?_
    rintro r w1 ⟨n, t, p, rfl, hb1⟩
    go_wp2_with fail
    refine bodyPost_ret (v := .tuple #[.int .i64 n, .bool false]) (by simp [results, Tryz.results137, go_sem]) rfl ?_
    exact ⟨n, by rw [HQ.out], (fun e => by rw [HQ.out] at e; cases e), hb1⟩
end Go.Proofs.YtgakjhaepdigpaaGreatDoor
