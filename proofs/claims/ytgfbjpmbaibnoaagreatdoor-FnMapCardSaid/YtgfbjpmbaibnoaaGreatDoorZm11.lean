/- Append to rows of the call's own, of any kind of row. No condition. -/
import Derived.Test.YtgfbjpmbaibnoaaGreatDoorGot
import Derived.Test.YtgfbjpmbaibnoaaGreatDoorZm7
namespace Go.Proofs.YtgfbjpmbaibnoaaGreatDoor
set_option maxRecDepth 100000
set_option linter.unusedSimpArgs false
set_option linter.unusedVariables false
open Go.RowKit

/-- a kind of row: its cells, its type, the type of its slices -/
structure RowTy {α : Type} (row : α → List Value) (k : Nat) (t tS : TypeId) : Prop where
  len : ∀ s, (row s).length = k
  one : ∀ s, ∀ u ∈ row s, u.oneCell' = true
  pos : 0 < k
  und : Tryz.prog.underlying tS = some (.slice t)
  info : ∃ (i : TypeInfo) (z : Value) (b : Nat), Tryz.prog.info? t = some i ∧ i.zero = some z ∧ i.size = k ∧ i.bytes = b ∧ b ≤ 1000 ∧ z.cells.size = k
theorem RowTy.of_info {α : Type} {row : α → List Value} {k : Nat} {t tS : TypeId} {z : Value} {b : Nat} (h1 : ∀ s, (row s).length = k) (h2 : ∀ s, ∀ u ∈ row s, u.oneCell' = true) (h3 : 0 < k) (h4 : Tryz.prog.underlying tS = some (.slice t))
    (h5 : (Tryz.prog.info? t).map (fun i => (i.zero, i.size, i.bytes)) = some (some z, k, b)) (h6 : b ≤ 1000) (h7 : z.cells.size = k) : RowTy row k t tS := by
  obtain ⟨i0, hi, hz0, hz1, hz2⟩ := info_parts h5
  exact ⟨h1, h2, h3, h4, i0, z, b, hi, hz0, hz1, hz2, h6, h7⟩
theorem flat_len {α : Type} {row : α → List Value} {k : Nat} (hk : ∀ s, (row s).length = k) : ∀ l : List α, (l.flatMap row).length = l.length * k
  | [] => by simp
  | a :: l => by rw [List.flatMap_cons, List.length_append, hk, flat_len hk l, List.length_cons, Nat.add_mul]; omega
section
variable {α : Type} {row : α → List Value} {k : Nat} {t tS : TypeId} {ops : Array Oper} {rest : List Oper} {o : Oper} {a : Act} {Q : Exit → Act → World → Prop} {K : Act → World → Prop} {E : Prop} {w : World}
theorem app_plain (R : RowTy row k t tS) (hgd : o.guard = none) (s x : Operand) (ho : o.op = .call { callee := .builtin .append, args := #[s, x], argTypes := #[tS, tS] })
    (B : Nat) (v : Value) (l : List α) (hs : a.eval s = v) (hv : Gt row k t B w v l) (ad : Addr) (c : Nat) (l2 : List α) (hx : a.eval x = .slice (some ad) l2.length c)
    (hc : ∀ (j : Nat) (u : Value), (l2.flatMap row)[j]? = some u → w.cell? (ad.add j) = some u) (hm : 0 < l2.length) (hl : l.length + l2.length ≤ 1000000) (hB : B ≤ w.heap.size)
    (h : ∀ g cap w', Gt row k t B w' (.slice (some ⟨g, 0, none⟩) (l.length + l2.length) cap) (l ++ l2) → w.grownBy w' v.ownBlock → (v.ownBlock = some g ∨ g = w.heap.size) → wpList Tryz.prog ops Q rest (a.put o.dst (.slice (some ⟨g, 0, none⟩) (l.length + l2.length) cap)) w') : wpList Tryz.prog ops Q (o :: rest) a w := by
  obtain ⟨i0, z, b, hi, hz0, hz1, hz2, hb, hzs⟩ := R.info
  refine wpList_append_lies w hgd s x tS ho B t i0 z k b R.und hi hz0 hz1 hz2 hzs R.pos v l.length _ hs hv ad l2.length c (l2.flatMap row) hx (flat_len R.len l2) hc (fun u hu => by obtain ⟨s, _, h⟩ := List.mem_flatMap.1 hu; exact R.one s u h) hm (by unfold maxLen; omega) (Nat.le_trans (Nat.mul_le_mul hl hb) (by decide)) hB _ rfl ?_
  intro g cap w' h1 h2 h3 h4
  refine h g cap w' ?_ h2 h3
  unfold Gt
  rw [List.length_append, List.flatMap_append]
  exact h1
theorem app_step (R : RowTy row k t tS) (hgd : o.guard = none) (s x : Operand) (ho : o.op = .call { callee := .builtin .append, args := #[s, x], argTypes := #[tS, tS] })
    (B : Nat) (v : Value) (l : List α) (hs : a.eval s = v) (hv : Gt row k t B w v l) (ad : Addr) (c : Nat) (l2 : List α) (hx : a.eval x = .slice (some ad) l2.length c)
    (hc : ∀ (j : Nat) (u : Value), (l2.flatMap row)[j]? = some u → w.cell? (ad.add j) = some u) (hm : 0 < l2.length) (hl : l.length + l2.length ≤ 1000000) (hB : B ≤ w.heap.size)
    (h : ∀ g cap w', Gt row k t B w' (.slice (some ⟨g, 0, none⟩) (l.length + l2.length) cap) (l ++ l2) → w.grownBy w' v.ownBlock → (v.ownBlock = some g ∨ g = w.heap.size) → K (a.put o.dst (.slice (some ⟨g, 0, none⟩) (l.length + l2.length) cap)) w') :
    if Region.wanted o (yielded ops a.tmps) = true then Oper.wp Tryz.prog o a w K Q else E := by
  obtain ⟨i0, z, b, hi, hz0, hz1, hz2, hb, hzs⟩ := R.info
  refine step_append_lies w hgd s x tS ho B t i0 z k b R.und hi hz0 hz1 hz2 hzs R.pos v l.length _ hs hv ad l2.length c (l2.flatMap row) hx (flat_len R.len l2) hc (fun u hu => by obtain ⟨s, _, h⟩ := List.mem_flatMap.1 hu; exact R.one s u h) hm (by unfold maxLen; omega) (Nat.le_trans (Nat.mul_le_mul hl hb) (by decide)) hB _ rfl ?_
  intro g cap w' h1 h2 h3 h4
  refine h g cap w' ?_ h2 h3
  unfold Gt
  rw [List.length_append, List.flatMap_append]
  exact h1
end
theorem rtStr : RowTy strRow 1 9 29 := .of_info (fun _ => rfl) (fun s u hu => by simp [strRow] at hu; subst hu; rfl) (by decide) Tryz.underlying29 infoStr (by decide) rfl

/-- a word with the number of the part from which it is -/
abbrev Src := Bytes × Int
def srcRow (s : Src) : List Value := [.string (bs s.1), .int .i64 s.2]
theorem infoSrc : (Tryz.prog.info? 170).map (fun i => (i.zero, i.size, i.bytes)) = some (some (.agg #[.string ⟨#[]⟩, .int .i64 0]), 2, 24) := by kernel_rfl
theorem rtSrc : RowTy srcRow 2 170 108 := .of_info (fun _ => rfl) (fun s u hu => by simp [srcRow] at hu; rcases hu with rfl | rfl <;> rfl) (by decide) Tryz.underlying108 infoSrc (by decide) rfl
abbrev GtC := Gt srcRow 2 170
abbrev SlC := Sl srcRow 2
theorem src_at {W : World} {B n c : Nat} {A : Option Addr} {l : List Src} {i : Nat} (h : SlC W B (.slice A n c) l) (hi : i < l.length) :
    ∃ b o s m, A = some ⟨b, o, none⟩ ∧ b < B ∧ l[i]? = some (s, m) ∧ (∀ y : Later B W, y.w'.cell? ⟨b, o + i * 2, none⟩ = some (.string (bs s))) ∧ (∀ y : Later B W, y.w'.cell? ⟨b, o + i * 2 + 1, none⟩ = some (.int .i64 m)) := by
  obtain ⟨A', c', hv, hc, hm, hh⟩ := h
  obtain ⟨rfl, _, rfl⟩ : A = A' ∧ n = l.length ∧ c = c' := by injection hv; exact ⟨‹_›, ‹_›, ‹_›⟩
  obtain ⟨b, o, rfl, hb, hcell⟩ := hh (by omega)
  have hg : l[i]? = some l[i] := List.getElem?_eq_getElem hi
  have hk := fun (j : Nat) (v : Value) (hx : (srcRow l[i])[j]? = some v) (x : Later B W) => (x.ok.cell (p := ⟨b, o + i * 2 + j, none⟩) (by simpa using hb)).trans (hcell i _ hg j v hx)
  exact ⟨b, o, l[i].1, l[i].2, rfl, hb, hg, hk 0 _ rfl, hk 1 _ rfl⟩
end Go.Proofs.YtgfbjpmbaibnoaaGreatDoor


/- The program's tests on words, as plain functions. -/
namespace Go.Proofs.YtgfbjpmbaibnoaaGreatDoor
set_option maxRecDepth 100000
set_option linter.unusedSimpArgs false
set_option linter.unusedVariables false
open Go.RowKit
attribute [local go_sem] bs_toList bs_get bs_size

theorem inB_any (n lo hi : Int) (w : World) : Calls Tryz.prog 163 #[.int .i64 n, .int .i64 lo, .int .i64 hi] w fun e w' => e = .returned (.bool (decide (lo ≤ n) && decide (n ≤ hi))) ∧ w = w' := by
  go_enter Tryz.func163, Tryz.ntmps163
  go_wp2_with fail
  all_goals (try (go_ret; refine ⟨ret_bool ?_, rfl⟩; go_light; first | (simp_all [Bool.and_eq_true]; done) | (simp_all [Bool.and_eq_true]; omega) | (rw [Bool.eq_iff_iff]; simp [Bool.and_eq_true]; omega)))
theorem imLetter_any (c : UInt8) (w : World) : Calls Tryz.prog 95 #[.int .u8 c.toNat] w fun e w' => e = .returned (.bool (isLet c)) ∧ w = w' := by
  go_enter Tryz.func95, Tryz.ntmps95
  go_wp2_with fail
  all_goals (try (go_ret; refine ⟨ret_bool ?_, rfl⟩; go_light; first | (simp_all [isLet]; done) | (simp_all [isLet]; omega) | (rw [Bool.eq_iff_iff]; simp [isLet]; omega)))
theorem imType_any (s : Bytes) (w : World) : Calls Tryz.prog 105 #[.string (bs s)] w fun e w' => e = .returned (.bool (typeB s)) ∧ w = w' := by
  go_enter Tryz.func105, Tryz.ntmps105
  go_wp2_with fail
  all_goals (try (go_ret; refine ⟨ret_bool ?_, rfl⟩; go_light; first | (simp_all [typeB, cInt, cBool]; done) | (simp_all [typeB, cInt, cBool]; omega) | (rw [Bool.eq_iff_iff]; simp [typeB, cInt, cBool]; omega)))
/-- how tight a mark holds -/
def tgt (s : Bytes) : Nat := if s = [60] then 1 else if s = [43] ∨ s = [45] then 2 else if s = [42] then 3 else 0
theorem imTight_any (s : Bytes) (w : World) : Calls Tryz.prog 160 #[.string (bs s)] w fun e w' => e = .returned (.int .i64 (tgt s : Nat)) ∧ w = w' := by
  go_enter Tryz.func160, Tryz.ntmps160
  go_wp2_with fail
  all_goals (go_ret; refine ⟨ret_int ?_, rfl⟩; go_light; simp_all [tgt]; done)
theorem runL_at {p : UInt8 → Bool} {s : Bytes} {j : Nat} (h : ∀ t c, t < j → s[t]? = some c → p c = true) (hj : j ≤ s.length) (he : s.length ≤ j ∨ ∃ c, s[j]? = some c ∧ p c = false) : runL p s = j := by
  have e : s = s.take j ++ s.drop j := (List.take_append_drop j s).symm
  have h1 : ∀ c ∈ s.take j, p c = true := by
    intro c hc
    obtain ⟨i, hi⟩ := List.mem_iff_getElem?.1 hc
    rw [List.getElem?_take] at hi
    split at hi
    · next hij => exact h i c hij hi
    · cases hi
  have h2 : s.drop j = [] ∨ ∃ c r', s.drop j = c :: r' ∧ p c = false := by
    rcases he with he | ⟨c, hc, hp⟩
    · left; exact List.drop_eq_nil_iff.2 he
    · right
      have hl := (List.getElem?_eq_some_iff.1 hc).1
      refine ⟨c, s.drop (j + 1), ?_, hp⟩
      rw [List.drop_eq_getElem_cons hl]
      rw [List.getElem?_eq_getElem hl] at hc
      rw [Option.some.inj hc]
  have := runL_stop h1 h2
  rw [← e] at this
  rw [this, List.length_take]
  omega
theorem imRun_any (s : Bytes) (w : World) (hs : s.length ≤ 9223372036854775807) : Calls Tryz.prog 94 #[.string (bs s), .func (.func 95) #[] #[]] w fun e w' => e = .returned (.int .i64 (runL isLet s : Nat)) ∧ w = w' := by
  go_enter Tryz.func94, Tryz.ntmps94
  go_wp2_with fail
  go_loopg [5] s.length (fun k i wr => ∃ j : Nat, k = s.length - j ∧ j ≤ s.length ∧ i = .int .i64 j ∧ (∀ t c, t < j → s[t]? = some c → isLet c = true) ∧ wr = w)
  case atStart => exact ⟨0, by omega, by omega, rfl, fun t c h => by omega, rfl⟩
  case round =>
    obtain ⟨j, hk, hj, rfl, ha, rfl⟩ := hrel
    have HK := Lib.hid (And.intro hk ha)
    clear hk ha
    by_cases hlt : j < s.length
    · have hg : s[j]? = some s[j] := List.getElem?_eq_getElem hlt
      have HG := Lib.hid hg
      clear hg
      go_wp2_with fail
      refine (imLetter_any _ _).mono ?_
      rintro e _ ⟨rfl, rfl⟩
      by_cases hl : isLet s[j] = true
      · rw [hl]
        have HL := Lib.hid hl
        clear hl
        go_wp2_with fail
        go_roundg (s.length - (j + 1))
        case measure => have := HK.out.1; omega
        case rel => exact ⟨j + 1, rfl, by omega, by go_num, fun t c ht hc => by
            by_cases e : t = j
            · subst e
              rw [HG.out] at hc
              obtain rfl := Option.some.inj hc
              exact HL.out
            · exact HK.out.2 t c (by omega) hc, rfl⟩
      · have hl2 : isLet s[j] = false := by simpa using hl
        rw [hl2]
        have HL := Lib.hid hl2
        clear hl hl2
        go_wp2_with fail
        go_ret
        exact ⟨ret_int (by rw [runL_at HK.out.2 hj (.inr ⟨_, HG.out, HL.out⟩)]), rfl⟩
    · have hj2 : s.length ≤ j := by omega
      go_wp2_with fail
      go_ret
      exact ⟨ret_int (by rw [runL_at HK.out.2 hj (.inl hj2)]), rfl⟩
theorem tw_mem {p : UInt8 → Bool} : ∀ {l : Bytes} {c : UInt8}, c ∈ l.takeWhile p → p c = true
  | [], c, h => by simp at h
  | a :: l, c, h => by
    by_cases ha : p a = true
    · rw [List.takeWhile_cons, if_pos ha, List.mem_cons] at h
      rcases h with rfl | h
      · exact ha
      · exact tw_mem h
    · rw [List.takeWhile_cons, if_neg ha] at h
      simp at h
theorem wordB_run (s : Bytes) : wordB s = (decide (1 ≤ s.length) && decide (s.length ≤ 8) && decide (runL isLet s = s.length)) := by
  have h : s.all isLet = decide (runL isLet s = s.length) := by
    rw [Bool.eq_iff_iff, decide_eq_true_eq, List.all_eq_true]
    constructor
    · intro h
      have := runL_stop (r := []) h (.inl rfl)
      rwa [List.append_nil] at this
    · intro h c hc
      unfold runL at h
      have h2 : s.takeWhile isLet = s := (List.takeWhile_sublist isLet).eq_of_length h
      rw [← h2] at hc
      exact tw_mem hc
  unfold wordB
  rw [h]
  cases decide (1 ≤ s.length) <;> cases decide (s.length ≤ 8) <;> cases decide (runL isLet s = s.length) <;> rfl
theorem imTokWord_any (s : Bytes) (w : World) (hs : s.length ≤ 9223372036854775807) : Calls Tryz.prog 93 #[.int .i64 1, .string (bs s)] w fun e w' => e = .returned (.bool (wordB s)) ∧ w = w' := by
  have hr := runL_le isLet s
  have hw := wordB_run s
  have HW := Lib.hid hw
  clear hw
  go_enter Tryz.func93, Tryz.ntmps93
  go_wp2_with (first | (go_at_call 163; refine (inB_any _ _ _ _).mono ?_; rintro e w' ⟨rfl, rfl⟩) | (go_at_call 94; refine (imRun_any _ _ hs).mono ?_; rintro e w' ⟨rfl, rfl⟩))
  all_goals
    go_ret
    refine ⟨ret_bool ?_, rfl⟩
    rw [HW.out]
    go_light
    rw [Bool.eq_iff_iff]
    simp_all
    try omega
/-- the place of the first that is s, from i on, or -1 -/
def idxL (s : Bytes) (l : List Bytes) : Int := match l.findIdx? (fun x => x == s) with | some i => i | none => -1
theorem idxL_none {s : Bytes} {l : List Bytes} (h : ∀ t x, t < l.length → l[t]? = some x → x ≠ s) : idxL s l = -1 := by
  unfold idxL
  rw [List.findIdx?_eq_none_iff.2]
  intro x hx
  obtain ⟨t, ht⟩ := List.mem_iff_getElem?.1 hx
  simpa using h t x (List.getElem?_eq_some_iff.1 ht).1 ht
theorem idxL_some {s : Bytes} {l : List Bytes} {j : Nat} (h : ∀ t x, t < j → l[t]? = some x → x ≠ s) (hj : l[j]? = some s) : idxL s l = j := by
  unfold idxL
  have hl := (List.getElem?_eq_some_iff.1 hj)
  obtain ⟨hl, he⟩ := hl
  rw [List.findIdx?_eq_some_iff_getElem.2 ⟨hl, by simp [he], fun t ht => by
    have := h t l[t] ht (List.getElem?_eq_getElem _)
    simpa using this⟩]
theorem idxL_ge (s : Bytes) (l : List Bytes) : (decide (0 ≤ idxL s l)) = l.contains s := by
  rw [Bool.eq_iff_iff, decide_eq_true_eq, List.contains_iff_mem]
  constructor
  · intro h
    unfold idxL at h
    split at h
    · next i hi =>
      obtain ⟨hl, he, _⟩ := List.findIdx?_eq_some_iff_getElem.1 hi
      have : l[i] = s := by simpa using he
      rw [← this]; exact List.getElem_mem hl
    · omega
  · intro h
    by_cases h2 : 0 ≤ idxL s l
    · exact h2
    · exfalso
      unfold idxL at h2
      split at h2
      · omega
      · next hn => exact absurd (List.findIdx?_eq_none_iff.1 hn s h) (by simp)
theorem index_any (l : List Bytes) (s : Bytes) (v : Value) (w : World) (hv : SlB w w.heap.size v l) : Calls Tryz.prog 142 #[v, .string (bs s)] w fun e w' => e = .returned (.int .i64 (idxL s l)) ∧ w = w' := by
  obtain ⟨A, c, rfl, hc, hm⟩ := hv.val
  go_enter Tryz.func142, Tryz.ntmps142
  go_wp2_with fail
  go_loopg [8] l.length (fun k i wr => ∃ j : Nat, k = l.length - j ∧ j ≤ l.length ∧ i = .int .i64 j ∧ (∀ t x, t < j → l[t]? = some x → x ≠ s) ∧ wr = w)
  case atStart => exact ⟨0, by omega, by omega, rfl, fun t c h => by omega, rfl⟩
  case round =>
    obtain ⟨j, hk, hj, rfl, ha, rfl⟩ := hrel
    have HK := Lib.hid (And.intro hk ha)
    clear hk ha
    by_cases hlt : j < l.length
    · obtain ⟨b, o, x, rfl, hb, hg, f0⟩ := str_at hv hlt
      have g0 := f0 ⟨wr, Below.refl _ _⟩
      have HG := Lib.hid hg
      clear f0 hg
      by_cases he : s = x
      · have hd : (s == x) = true := by simp [he]
        have HE := Lib.hid he
        clear he
        go_wp2_with fail
        go_ret
        exact ⟨ret_int (by rw [idxL_some HK.out.2 (by rw [HE.out]; exact HG.out)]), rfl⟩
      · have hd : (s == x) = false := by simp [he]
        have HE := Lib.hid he
        clear he
        go_wp2_with fail
        go_roundg (l.length - (j + 1))
        case measure => have := HK.out.1; omega
        case rel => exact ⟨j + 1, rfl, by omega, by go_num, fun t x' ht hx => by
            by_cases e : t = j
            · subst e
              rw [HG.out] at hx
              obtain rfl := Option.some.inj hx
              exact fun e => HE.out e.symm
            · exact HK.out.2 t x' (by omega) hx, rfl⟩
    · go_wp2_with fail
      go_ret
      exact ⟨ret_int (by rw [idxL_none (fun t x ht => HK.out.2 t x (by omega))]), rfl⟩
theorem contains_any (l : List Bytes) (s : Bytes) (v : Value) (w : World) (hv : SlB w w.heap.size v l) : Calls Tryz.prog 70 #[v, .string (bs s)] w fun e w' => e = .returned (.bool (l.contains s)) ∧ w = w' := by
  have h := idxL_ge s l
  have H := Lib.hid h
  clear h
  go_enter Tryz.func70, Tryz.ntmps70
  go_wp2_with (go_at_call 142; refine (index_any l s _ _ hv).mono ?_; rintro e w' ⟨rfl, rfl⟩)
  all_goals
    go_ret
    refine ⟨ret_bool ?_, rfl⟩
    rw [← H.out]
theorem own_held (s : Bytes) : ownList.contains s = heldB s := by
  rw [Bool.eq_iff_iff, List.contains_iff_mem]
  simp only [ownList, heldB, typeB, List.mem_cons, List.not_mem_nil, or_false, Bool.or_eq_true, beq_iff_eq]
  simp only [or_assoc]
theorem imName_any (s : Bytes) (w : World) (hs : s.length ≤ 9223372036854775807) (hE : Env w) : Calls Tryz.prog 84 #[.string (bs s)] w fun e w' => e = .returned (.bool (nameB s)) ∧ w = w' := by
  obtain ⟨A, c, h1, h2⟩ := hE.own
  have hr : nameB s = (wordB s && !ownList.contains s) := by rw [own_held]; rfl
  have HR := Lib.hid hr
  clear hr
  go_enter Tryz.func84, Tryz.ntmps84
  go_wp2_with (first | (go_at_call 93; refine (imTokWord_any _ _ hs).mono ?_; rintro e w' ⟨rfl, rfl⟩) | (go_at_call 70; refine (contains_any _ _ _ _ h2).mono ?_; rintro e w' ⟨rfl, rfl⟩))
  all_goals
    go_ret
    refine ⟨ret_bool ?_, rfl⟩
    rw [HR.out]
    go_light
    simp_all
end Go.Proofs.YtgfbjpmbaibnoaaGreatDoor
