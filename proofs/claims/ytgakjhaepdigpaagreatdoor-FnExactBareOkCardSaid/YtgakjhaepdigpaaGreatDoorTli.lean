
/- The words of a line: the program's TokLine. -/
import Derived.Test.YtgakjhaepdigpaaGreatDoorZm16
import Derived.Test.YtgakjhaepdigpaaGreatDoorZm11
import Derived.Deep.RegionLaw
namespace Go.Proofs.YtgakjhaepdigpaaGreatDoor
set_option maxRecDepth 100000
set_option linter.unusedSimpArgs false
set_option linter.unusedVariables false
open Go.RowKit
attribute [local go_sem] bs_toList bs_get bs_size

theorem imDigit_any (c : UInt8) (w : World) : Calls Tryz.prog 77 #[.int .u8 c.toNat] w fun e w' => e = .returned (.bool (isDig c)) ∧ w = w' := by
  go_enter Tryz.func77, Tryz.ntmps77
  go_wp2_with fail
  all_goals (try (go_ret; refine ⟨ret_bool ?_, rfl⟩; go_light; first | (simp_all [isDig]; done) | (simp_all [isDig]; omega) | (rw [Bool.eq_iff_iff]; simp [isDig]; omega)))
theorem imRunD_any (s : Bytes) (w : World) (hs : s.length ≤ 9223372036854775807) : Calls Tryz.prog 75 #[.string (bs s), .func (.func 77) #[] #[]] w fun e w' => e = .returned (.int .i64 (runL isDig s : Nat)) ∧ w = w' := by
  go_enter Tryz.func75, Tryz.ntmps75
  go_wp2_with fail
  go_loopg [5] s.length (fun k i wr => ∃ j : Nat, k = s.length - j ∧ j ≤ s.length ∧ i = .int .i64 j ∧ (∀ t c, t < j → s[t]? = some c → isDig c = true) ∧ wr = w)
  case atStart => exact ⟨0, by omega, by omega, rfl, fun t c h => by omega, rfl⟩
  case round =>
    obtain ⟨j, hk, hj, rfl, ha, rfl⟩ := hrel
    have HK := Lib.hid (And.intro hk ha)
    clear hk ha
    by_cases hlt : j < s.length
    · have hg : s[j]? = some s[j] := List.getElem?_eq_getElem hlt
      have HG := Lib.hid hg
      clear hg
      go_wp2_with fail
      refine (imDigit_any _ _).mono ?_
      rintro e _ ⟨rfl, rfl⟩
      by_cases hl : isDig s[j] = true
      · rw [hl]
        have HL := Lib.hid hl
        clear hl
        go_wp2_with fail
        go_roundg (s.length - (j + 1))
        case measure => have := HK.out.1; omega
        case rel => exact ⟨j + 1, rfl, by omega, by go_num, fun t c ht hc => by
            by_cases e : t = j
            · subst e
              rw [HG.out] at hc
              obtain rfl := Option.some.inj hc
              exact HL.out
            · exact HK.out.2 t c (by omega) hc, rfl⟩
      · have hl2 : isDig s[j] = false := by simpa using hl
        rw [hl2]
        have HL := Lib.hid hl2
        clear hl hl2
        go_wp2_with fail
        go_ret
        exact ⟨ret_int (by rw [runL_at HK.out.2 hj (.inr ⟨_, HG.out, HL.out⟩)]), rfl⟩
    · have hj2 : s.length ≤ j := by omega
      go_wp2_with fail
      go_ret
      exact ⟨ret_int (by rw [runL_at HK.out.2 hj (.inl hj2)]), rfl⟩
theorem ix_any : ∀ (l : Bytes) (c : UInt8), decide (0 ≤ Lib.indexByte l c) = l.any (fun x => x == c)
  | [], c => by simp [Lib.indexByte]
  | a :: l, c => by
    have h2 := Lib.indexByte_ge l c
    rw [Bool.eq_iff_iff, decide_eq_true_eq, List.any_cons, Bool.or_eq_true, ← ix_any l c, decide_eq_true_eq]
    show (0 ≤ if (a == c) = true then 0 else if (Lib.indexByte l c == -1) = true then -1 else Lib.indexByte l c + 1) ↔ _
    by_cases e : (a == c) = true
    · rw [if_pos e]; exact ⟨fun _ => .inl e, fun _ => Int.le_refl _⟩
    · rw [if_neg e]
      by_cases e3 : (Lib.indexByte l c == -1) = true
      · rw [if_pos e3]
        have e4 : Lib.indexByte l c = -1 := by simpa using e3
        exact ⟨fun h => absurd h (by decide), fun h => by rcases h with h | h; exact absurd h e; omega⟩
      · rw [if_neg e3]
        have e4 : Lib.indexByte l c ≠ -1 := by simpa using e3
        exact ⟨fun h => .inr (by omega), fun h => by omega⟩
theorem mark_ix (c : UInt8) : decide (0 ≤ Lib.indexByte marksL c) = marksL.any (fun x => x == c) := ix_any _ _
theorem imTokMark_any (s : Bytes) (w : World) : Calls Tryz.prog 88 #[.int .i64 3, .string (bs s)] w fun e w' => e = .returned (.bool (markB s)) ∧ w = w' := by
  by_cases h1 : s.length = 1
  · obtain ⟨c, rfl⟩ := List.length_eq_one_iff.1 h1
    have C := Lib.hid (fun w' : World => Tryz.strings_Contains_one (bs marksL) c w')
    rw [show (bs marksL).data.toList = marksL from rfl, mark_ix, ← mark_one] at C
    clear h1
    generalize markB [c] = mk at *
    go_enter Tryz.func88, Tryz.ntmps88
    go_wp2_with (first | (go_at_call 138; refine (C.out _).mono ?_; rintro e w' ⟨rfl, rfl⟩) | fail)
    go_ret
    exact ⟨rfl, rfl⟩
  · have hm := mark_not h1
    have hd : (((s.length : Nat) : Int) == 1) = false := by rw [beq_eq_false_iff_ne]; omega
    rw [hm]
    clear hm h1
    go_enter Tryz.func88, Tryz.ntmps88
    go_wp2_with fail
    go_ret
    exact ⟨rfl, rfl⟩
theorem imKind_any (s : Bytes) (w : World) (hs : s.length ≤ 100000000) (hE : EnvA w) : Calls Tryz.prog 34 #[.string (bs s)] w fun e w' => e = .returned (.int .i64 (kindL s : Nat)) ∧ Below w.heap.size w w' := by
  by_cases hw : wordB s = true
  · rw [show kindL s = 1 by unfold kindL; rw [if_pos hw]]
    exact (imKind_word s w hs hw).mono fun e w' ⟨h1, h2⟩ => ⟨h1, h2 ▸ Below.refl _ _⟩
  have hw : wordB s = false := by simpa using hw
  by_cases hn : numB s = true
  · rw [show kindL s = 2 by unfold kindL; rw [if_neg (by rw [hw]; decide), if_pos hn]]
    exact imKind_num s w hs hw hn hE
  have hn : numB s = false := by simpa using hn
  have hk : kindL s = if markB s = true then 3 else 0 := by unfold kindL; rw [if_neg (by rw [hw]; decide), if_neg (by rw [hn]; decide)]
  have C := Lib.hid (imTokWord_any s w (by omega))
  have C2 := Lib.hid (imTokNum_any s w hs hE)
  have C3 := Lib.hid (fun w' : World => imTokMark_any s w')
  rw [hw] at C
  rw [hn] at C2
  rw [hk]
  clear hw hn hE hk
  generalize markB s = mk at *
  go_enter Tryz.func34, Tryz.ntmps34
  go_wp2_with fail
  go_loopg [3] 3 (fun n a wr => ((n = 3 ∧ a = .int .i64 1 ∧ wr = w) ∨ (n = 2 ∧ a = .int .i64 2 ∧ wr = w) ∨ (n = 1 ∧ a = .int .i64 3) ∨ (n = 0 ∧ a = .int .i64 4 ∧ mk = false)) ∧ Below w.heap.size w wr)
  case atStart => exact ⟨.inl ⟨rfl, rfl, rfl⟩, Below.refl _ _⟩
  case round =>
    obtain ⟨⟨rfl, rfl, rfl⟩ | ⟨rfl, rfl, rfl⟩ | ⟨rfl, rfl⟩ | ⟨rfl, rfl, rfl⟩, hbl⟩ := hrel
    · go_wp2_with fail
      refine C.out.mono ?_
      rintro e _ ⟨rfl, rfl⟩
      go_wp2_with fail
      go_roundg 2
      case measure => omega
      case rel => exact ⟨.inr (.inl ⟨rfl, rfl, rfl⟩), hbl⟩
    · go_wp2_with fail
      refine C2.out.mono ?_
      rintro e w1 ⟨rfl, hb⟩
      go_wp2_with fail
      go_roundg 1
      case measure => omega
      case rel => exact ⟨.inr (.inr (.inl ⟨rfl, rfl⟩)), hb⟩
    · go_wp2_with fail
      refine (C3.out _).mono ?_
      rintro e _ ⟨rfl, rfl⟩
      cases mk
      · go_wp2_with fail
        go_roundg 0
        case measure => omega
        case rel => exact ⟨.inr (.inr (.inr ⟨rfl, rfl, by trivial⟩)), hbl⟩
      · go_wp2_with fail
        go_ret
        exact ⟨rfl, hbl⟩
    · go_wp2_with fail
      go_ret
      exact ⟨rfl, hbl⟩
theorem clipT_any (v : Value) (l : List Tk) (lo : Nat) (w : World) (hv : Fr tkRow 3 44 w lo v l) :
    Calls Tryz.prog 78 #[v] w fun e w' => ∃ u, e = .returned u ∧ Fr tkRow 3 44 w' lo u l ∧ w = w' := by
  rcases hv.form with ⟨rfl, rfl⟩ | ⟨g, cap, cur, rfl, hlo, hc, hm, hB, hx⟩
  · go_enter Tryz.func78, Tryz.ntmps78
    go_wp2
    go_ret
    exact ⟨_, rfl, .inl ⟨rfl, rfl⟩, rfl⟩
  · go_enter Tryz.func78, Tryz.ntmps78
    go_wp2
    go_ret
    exact ⟨_, rfl, hv.clip, rfl⟩
theorem wlen_pos (s : Bytes) : 1 ≤ wlen s := by unfold wlen; omega
theorem wlen_le {s : Bytes} (h : s ≠ []) : wlen s ≤ s.length := by
  have h1 := runL_le isLet s
  have h2 := runL_le isDig s
  have : 1 ≤ s.length := by cases s; exact absurd rfl h; simp
  unfold wlen
  omega
/-- one word more, as the program takes it -/
theorem tokL_stepW {a : Nat} {c : UInt8} {r : Bytes} (h32 : c ≠ 32) : tokL a (c :: r) = if kindL ((c :: r).take (wlen (c :: r))) = 0 then none else (tokL (a + wlen (c :: r)) ((c :: r).drop (wlen (c :: r)))).map (fun l => ⟨kindL ((c :: r).take (wlen (c :: r))), (c :: r).take (wlen (c :: r)), a⟩ :: l) := by
  by_cases hk : kindL ((c :: r).take (wlen (c :: r))) = 0
  · rw [if_pos hk]
    exact tokL_bad (by simp) (by simpa using h32) hk
  · rw [if_neg hk]
    exact tokL_word (by simp) (by simpa using h32) hk
/-- what the program's TokLine gives -/
def TlI (line : Bytes) (w : World) (e : Ending) (w' : World) : Prop := ∃ (u : Value) (l : List Tk) (ok : Bool), e = .returned (.tuple #[u, .bool ok]) ∧ Fr tkRow 3 44 w' w.heap.size u l ∧ ((ok = true ∧ line.length ≤ 120 ∧ tokL 0 line = some l) ∨ (ok = false ∧ l = [] ∧ (120 < line.length ∨ tokL 0 line = none))) ∧ Below w.heap.size w w'
theorem bs_from (s : Bytes) (i : Nat) : (bs s).extract i s.length = bs (s.drop i) := by
  rw [bs_ext, List.take_of_length_le (by simp)]
set_option maxHeartbeats 4000000 in
theorem imTokLine_any (s : Bytes) (w : World) (hs : s.length ≤ 100000000) (hE : EnvA w) : Calls Tryz.prog 26 #[.string (bs s)] w (TlI s w) := by
  have KD := Lib.hid (fun (t : Bytes) (w' : World) (ht : t.length ≤ 100000000) (h : Below w.heap.size w w') => imKind_any t w' ht (hE.ext h))
  clear hE
  by_cases hl : (120 : Int) < ((s.length : Nat) : Int)
  · have hd : decide ((120 : Int) < ((s.length : Nat) : Int)) = true := by rw [decide_eq_true_eq]; exact hl
    go_enter Tryz.func26, Tryz.ntmps26
    go_wp2_with fail
    refine bodyPost_ret (v := .tuple #[.slice none 0 0, .bool false]) (by simp [results, Tryz.results26, go_sem, *]) rfl ?_
    exact ⟨_, [], false, rfl, .inl ⟨rfl, rfl⟩, .inr ⟨rfl, rfl, .inl (by omega)⟩, Below.refl _ _⟩
  have hd : decide ((120 : Int) < ((s.length : Nat) : Int)) = false := by rw [decide_eq_false_iff_not]; exact hl
  have hl2 : s.length ≤ 120 := by omega
  clear hl
  go_enter Tryz.func26, Tryz.ntmps26
  go_wp2_with fail
  go_loopg [4, 5] s.length (fun n o a wr => ∃ (at_ : Nat) (l0 : List Tk), n = s.length - at_ ∧ at_ ≤ s.length ∧ a = .int .i64 (at_ : Int) ∧ GtT w.heap.size wr o l0 ∧ l0.length ≤ at_ ∧ tokL 0 s = (tokL at_ (s.drop at_)).map (fun l => l0 ++ l) ∧ Below w.heap.size w wr)
  case atStart => exact ⟨0, [], by omega, by omega, rfl, Gt.nil _ _ _ _ _, by simp, by rw [List.drop_zero]; cases tokL 0 s <;> rfl, Below.refl _ _⟩
  case round =>
    obtain ⟨at_, l0, hn, ha, rfl, hG, hl0, ht, hbl⟩ := hrel
    have HK := Lib.hid (And.intro hn ht)
    clear hn ht
    by_cases hlt : at_ < s.length
    · have hdr := List.drop_eq_getElem_cons hlt
      have hne : s.drop at_ ≠ [] := by intro h; have := congrArg List.length h; simp at this; omega
      have hle := wlen_le hne
      rw [List.length_drop] at hle
      have hpo := wlen_pos (s.drop at_)
      by_cases h32 : s[at_] = 32
      · have hq : s[at_].toNat = 32 := by simp [h32]
        have HT := Lib.hid (show tokL 0 s = (tokL (at_ + 1) (s.drop (at_ + 1))).map (fun l => l0 ++ l) by rw [HK.out.2, hdr, h32, tokL_space])
        clear h32 hle hpo hdr hne
        go_wp2_with fail
        go_roundg (s.length - (at_ + 1))
        case measure => have := HK.out.1; omega
        case rel => exact ⟨at_ + 1, l0, rfl, by omega, by go_num, hG, by omega, HT.out, hbl⟩
      · have hq : ¬ s[at_].toNat = 32 := fun h => h32 (UInt8.toNat_inj.1 (by rw [h]; decide))
        have hst := tokL_stepW (a := at_) (r := s.drop (at_ + 1)) h32
        rw [← hdr] at hst
        have HST := Lib.hid hst
        clear hst hdr h32 hne
        have hsl : (s.drop at_).length ≤ 9223372036854775807 := by rw [List.length_drop]; omega
        have R1 := Lib.hid (fun w' : World => imRun_any (s.drop at_) w' hsl)
        have R2 := Lib.hid (fun w' : World => imRunD_any (s.drop at_) w' hsl)
        have hw1 : ((wlen (s.drop at_) : Nat) : Int) = max (max 1 ((runL isLet (s.drop at_) : Nat) : Int)) ((runL isDig (s.drop at_) : Nat) : Int) := by unfold wlen; omega
        have HW := Lib.hid hw1
        have hfr := bs_from s at_
        have HX := Lib.hid (show (bs s).extract at_ (at_ + wlen (s.drop at_)) = bs ((s.drop at_).take (wlen (s.drop at_))) by rw [bs_ext]; simp)
        clear hw1 hsl
        generalize runL isLet (s.drop at_) = r1 at *
        generalize runL isDig (s.drop at_) = r2 at *
        generalize hd0 : s.drop at_ = d at *
        have HD := Lib.hid hd0
        clear hd0
        go_upto_region 8 with fail
        have hmx : (if (if (1 : Int) < (r1 : Int) then (r1 : Int) else 1) < (r2 : Int) then (r2 : Int) else if (1 : Int) < (r1 : Int) then (r1 : Int) else 1) = ((wlen d : Nat) : Int) := by rw [HW.out]; split <;> split <;> omega
        have HMX := Lib.hid hmx
        clear hmx
        refine wp_region_later (Below.refl wr.heap.size wr) (by kernel_rfl) (by kernel_rfl) ?_
        repeat (go_big_quiet_step ((go_at_call 75; first | with_reducible exact later_call_same (R1.out _) | with_reducible exact later_call_same (R2.out _))))
        refine wpQuiet_nil ?_
        rintro _ ⟨y, rfl⟩
        have hy := y.ok
        rw [HMX.out]
        have hGy := hG.ext hy
        have hbly := hbl.ext hy
        generalize y.w' = wy at *
        clear hG hy hbl R1 R2 HMX
        have hdt : (d.take (wlen d)).length ≤ 100000000 := by rw [List.length_take]; omega
        have K1 := Lib.hid (fun (w' : World) (h : Below w.heap.size w w') => KD.out (d.take (wlen d)) w' hdt h)
        have hxt := HX.out
        have hdd : d.drop (wlen d) = s.drop (at_ + wlen d) := by rw [← HD.out, List.drop_drop]
        rw [hdd] at HST
        clear hdd hdt
        generalize d.take (wlen d) = t at *
        generalize wlen d = n at *
        have hto : at_ + n ≤ s.length := by omega
        have hwr : IntKind.i64.wrap ((at_ : Int) + (n : Int)) = (at_ : Int) + (n : Int) := by rw [IntKind.wrap_i64]; omega
        have hc1 : (at_ : Int) ≤ (at_ : Int) + (n : Int) := by omega
        have hc2 : (at_ : Int) + (n : Int) ≤ ((s.length : Nat) : Int) := by omega
        have hc3 : (0 : Int) ≤ (at_ : Int) + (n : Int) := by omega
        have hc4 : ((at_ : Int) + (n : Int)).toNat = at_ + n := by omega
        obtain ⟨Au, cu, rfl, _, _⟩ := hGy.val
        have hzly := hbly.size
        have hkl : kindL t < 4 := by unfold kindL; split <;> (try split) <;> (try split) <;> omega
        go_wp2_with fail
        go_cut [7] (fun s7 wx => ∃ g : Nat, s7 = .pointer (some ⟨g, 0, none⟩) ∧ wy.heap.size ≤ g ∧ Blk wx g 44 #[.int .i64 (kindL t : Nat), .string (bs t), .int .i64 (at_ : Int)] ∧ Below wy.heap.size wy wx)
        case first =>
          go_region_held3 (fun _ => True) (first | trivial | go_keep)
          (first
            | (go_at_call 34; refine (K1.out (wy.alloc (.cells #[.int .i64 0, .string ⟨#[]⟩, .int .i64 0] 44)) (by (repeat (first | with_reducible assumption | with_reducible exact Below.refl _ _ | with_reducible refine Below.setCell ?_ (by first | omega | (simp; done) | (simp; omega)) _ | with_reducible refine Below.alloc ?_ (by first | omega | (simp; done) | (simp; omega)) _ | with_reducible refine below_drewN ?_ _ | with_reducible refine Below.drew ?_ | with_reducible refine Below.trans ?_ (Below.mono hbly (by first | omega | (simp; done) | (simp; omega))))))).mono ?_; rintro r w2 ⟨rfl, hb2⟩; have hz2 := hb2.size; (try simp at hz2); have hBz := (Blk.new wy 44 #[.int .i64 0, .string ⟨#[]⟩, .int .i64 0]).below hb2 (by simp; done); have zz0 := hBz.cell 0; have zz1 := hBz.cell 1; have zz2 := hBz.cell 2; have zf := (fun i => hBz.frozen i); simp at zz0 zz1 zz2)
            | (go_at_call 34; refine (K1.out ((wy.alloc (.cells #[.int .i64 0, .string ⟨#[]⟩, .int .i64 0] 44)).drew) (by (repeat (first | with_reducible assumption | with_reducible exact Below.refl _ _ | with_reducible refine Below.setCell ?_ (by first | omega | (simp; done) | (simp; omega)) _ | with_reducible refine Below.alloc ?_ (by first | omega | (simp; done) | (simp; omega)) _ | with_reducible refine below_drewN ?_ _ | with_reducible refine Below.drew ?_ | with_reducible refine Below.trans ?_ (Below.mono hbly (by first | omega | (simp; done) | (simp; omega))))))).mono ?_; rintro r w2 ⟨rfl, hb2⟩; have hz2 := hb2.size; (try simp at hz2); have hBz := ((Blk.new wy 44 #[.int .i64 0, .string ⟨#[]⟩, .int .i64 0]).drew).below hb2 (by simp; done); have zz0 := hBz.cell 0; have zz1 := hBz.cell 1; have zz2 := hBz.cell 2; have zf := (fun i => hBz.frozen i); simp at zz0 zz1 zz2)
            | (go_at_call 34; refine (K1.out (wy.drew.alloc (.cells #[.int .i64 0, .string ⟨#[]⟩, .int .i64 0] 44)) (by (repeat (first | with_reducible assumption | with_reducible exact Below.refl _ _ | with_reducible refine Below.setCell ?_ (by first | omega | (simp; done) | (simp; omega)) _ | with_reducible refine Below.alloc ?_ (by first | omega | (simp; done) | (simp; omega)) _ | with_reducible refine below_drewN ?_ _ | with_reducible refine Below.drew ?_ | with_reducible refine Below.trans ?_ (Below.mono hbly (by first | omega | (simp; done) | (simp; omega))))))).mono ?_; rintro r w2 ⟨rfl, hb2⟩; have hz2 := hb2.size; (try simp at hz2); have hBz := (Blk.new wy.drew 44 #[.int .i64 0, .string ⟨#[]⟩, .int .i64 0]).below hb2 (by simp; done); have zz0 := hBz.cell 0; have zz1 := hBz.cell 1; have zz2 := hBz.cell 2; have zf := (fun i => hBz.frozen i); simp at zz0 zz1 zz2)
            | (go_at_call 34; refine (K1.out _ (by (repeat (first | with_reducible assumption | with_reducible exact Below.refl _ _ | with_reducible refine Below.setCell ?_ (by first | omega | (simp; done) | (simp; omega)) _ | with_reducible refine Below.alloc ?_ (by first | omega | (simp; done) | (simp; omega)) _ | with_reducible refine below_drewN ?_ _ | with_reducible refine Below.drew ?_ | with_reducible refine Below.trans ?_ (Below.mono hbly (by first | omega | (simp; done) | (simp; omega))))))).mono ?_; rintro r w2 ⟨rfl, hb2⟩; have hz2 := hb2.size; (try simp at hz2))
            | fail)
          all_goals
            go_wp2_with fail
            go_meet
            first
              | exact ⟨w2.heap.size, rfl, by omega, Blk.new _ _ _, by (repeat (first | with_reducible assumption | with_reducible exact Below.refl _ _ | with_reducible refine Below.setCell ?_ (by first | omega | (simp; done) | (simp; omega)) _ | with_reducible refine Below.alloc ?_ (by first | omega | (simp; done) | (simp; omega)) _ | with_reducible refine below_drewN ?_ _ | with_reducible refine Below.drew ?_ | with_reducible refine Below.trans ?_ (Below.mono hb2 (by first | omega | (simp; done) | (simp; omega)))))⟩
              | exact ⟨wy.heap.size, rfl, by omega, by simpa using ((hBz.set_ 0 (.int .i64 (kindL t : Nat))).set_ 1 (.string (bs t))).set_ 2 (.int .i64 (at_ : Int)), by (repeat (first | with_reducible assumption | with_reducible exact Below.refl _ _ | with_reducible refine Below.setCell ?_ (by first | omega | (simp; done) | (simp; omega)) _ | with_reducible refine Below.alloc ?_ (by first | omega | (simp; done) | (simp; omega)) _ | with_reducible refine below_drewN ?_ _ | with_reducible refine Below.drew ?_ | with_reducible refine Below.trans ?_ (Below.mono hb2 (by first | omega | (simp; done) | (simp; omega)))))⟩
              | trace_state
        case rest =>
          obtain ⟨g, rfl, hgz, hBg, hbc⟩ := hcut
          have c0 := hBg.cell 0
          have c1 := hBg.cell 1
          have c2 := hBg.cell 2
          simp at c0 c1 c2
          have hGx := hGy.ext hbc
          have hbx := hbly.ext hbc
          have hzx := hbx.size
          clear hGy hbly hbc hBg hxt K1
          by_cases hk : kindL t = 0
          · have HN := Lib.hid (show tokL 0 s = none by rw [HK.out.2, HST.out, if_pos hk]; rfl)
            rw [hk] at c0
            clear hk
            go_wp2_with fail
            refine bodyPost_ret (v := .tuple #[.slice none 0 0, .bool false]) (by simp [results, Tryz.results26, go_sem, *]) rfl ?_
            exact ⟨_, [], false, rfl, .inl ⟨rfl, rfl⟩, .inr ⟨rfl, rfl, .inr HN.out⟩, hbx⟩
          · have HY := Lib.hid (show tokL 0 s = (tokL (at_ + n) (s.drop (at_ + n))).map (fun l => (l0 ++ [⟨kindL t, t, at_⟩]) ++ l) by
              rw [HK.out.2, HST.out, if_neg hk, Option.map_map]
              congr 1
              funext l
              simp)
            have hk2 : ((kindL t : Int) == 0) = false := by rw [beq_eq_false_iff_ne]; omega
            have hk3 : ¬ kindL t = 0 := hk
            clear hk HST
            generalize kindL t = kt at *
            have HG := Lib.hid hGx
            clear hGx
            go_wp2_with (first | (at_builtin; refine app_plain rtTk (by rfl) (.tmp 48) (.tmp 50) (by rfl) w.heap.size (.slice Au l0.length cu) l0 (by rfl) (HG.out.ext (by (repeat (first | with_reducible assumption | with_reducible exact Below.refl _ _ | with_reducible refine Below.setCell ?_ (by first | omega | (simp; done) | (simp; omega)) _ | with_reducible refine Below.alloc ?_ (by first | omega | (simp; done) | (simp; omega)) _ | with_reducible refine below_drewN ?_ _ | with_reducible refine Below.drew ?_)))) ⟨wc.heap.size, 0, none⟩ 1 [⟨kt, t, at_⟩] (by rfl) (World.news_of_block (heap_alloc_new wc _)) Nat.zero_lt_one (by simp; omega) (by simp; omega) ?_; intro g' cap' w3 hG3 hgr3 hat3) | fail)
            go_roundg (s.length - (at_ + n))
            case measure => have := HK.out.1; omega
            case rel => exact ⟨at_ + n, _, rfl, hto, by go_num, hG3.len (by simp) rfl, by simp; omega, HY.out, below_app (by (repeat (first | with_reducible assumption | with_reducible exact Below.refl _ _ | with_reducible refine Below.setCell ?_ (by first | omega | (simp; done) | (simp; omega)) _ | with_reducible refine Below.alloc ?_ (by first | omega | (simp; done) | (simp; omega)) _ | with_reducible refine below_drewN ?_ _ | with_reducible refine Below.drew ?_ | with_reducible refine Below.trans ?_ (Below.mono hbx (by first | omega | (simp; done) | (simp; omega)))))) hgr3 (fun q hq => (HG.out.lt hq).1) (by simp; omega)⟩
    · have hat : at_ = s.length := by omega
      have HT := Lib.hid (show tokL 0 s = some l0 by rw [HK.out.2, hat, List.drop_length, tokL_nil]; simp)
      obtain ⟨Au, cu, rfl, _, _⟩ := id hG.val
      have C := Lib.hid (clipT_any _ l0 w.heap.size wr (Fr.of_owns (fun _ => rfl) hG))
      clear hat hG
      go_wp2_with fail
      refine C.out.mono ?_
      rintro r _ ⟨u, rfl, hF, rfl⟩
      go_wp2_with fail
      refine bodyPost_ret (v := .tuple #[u, .bool true]) (by simp [results, Tryz.results26, go_sem, *]) rfl ?_
      exact ⟨u, l0, true, rfl, hF, .inl ⟨rfl, hl2, HT.out⟩, hbl⟩
end Go.Proofs.YtgakjhaepdigpaaGreatDoor
