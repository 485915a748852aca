/- Plain Lean: what a right line's words are. No program in sight, no condition. -/
import Derived.Test.YtgakjhaepdigpaaGreatDoorPsT
import Derived.Test.YtgakjhaepdigpaaGreatDoorStLaw
import Derived.Test.YtgakjhaepdigpaaGreatDoorZm21
namespace Go.Proofs.YtgakjhaepdigpaaGreatDoor
set_option maxRecDepth 100000
set_option linter.unusedSimpArgs false
set_option linter.unusedVariables false
open Go.RowKit

theorem smText_se {t : SE} (h : t.form) : smText t.sm = t.text := by
  show joinL (smWords t.sm) = joinL t.words
  rw [smWords_se h]
theorem rdSOk_of {s : Sm} (h : smOkB s = true) : rdSOk (smText s) = true ∧ rdSm (smText s) = s := by
  obtain ⟨t, rfl, ht⟩ := smOkB_iff.1 h
  rw [smText_se ht.1]
  have h1 : rdS t.text = some t := rdS_iff.2 ⟨ht, rfl⟩
  exact ⟨by unfold rdSOk; rw [h1]; rfl, (rdS_yes h1).2.2.2.2⟩
theorem rdSm_of {line : Bytes} (h : rdSOk line = true) : smOkB (rdSm line) = true ∧ smText (rdSm line) = line := by
  unfold rdSOk at h
  obtain ⟨t, ht⟩ := Option.isSome_iff_exists.1 h
  obtain ⟨h1, h2, h3, h4, h5⟩ := rdS_yes ht
  rw [h5, ← h2]
  exact ⟨h3, h4⟩
/-- a right line's words: none; let and its parts; say; when -/
theorem line_words {s : Sm} (h : smOkB s = true) {l : List Tk} (hl : tokL 0 (smText s) = some l) :
    (s.kind = 0 ∧ l = []) ∨ (s.kind = 1 ∧ 5 < l.length ∧ (l.map Tk.s)[0]? = some cLet ∧ (l.map Tk.s)[1]? = some s.name ∧ (l.map Tk.s)[2]? = some [58] ∧ (l.map Tk.s)[3]? = some s.typ ∧ (l.map Tk.s)[4]? = some [61]) ∨ (s.kind = 2 ∧ 0 < l.length ∧ (l.map Tk.s)[0]? = some cSay) ∨ (s.kind = 3 ∧ 0 < l.length ∧ (l.map Tk.s)[0]? = some cWhen) := by
  obtain ⟨t, rfl, ht⟩ := smOkB_iff.1 h
  rw [smText_se ht.1] at hl
  have h3 := tok_join t.words 0 (SE.words_kind' t ht.1)
  unfold SE.text at hl
  rw [h3] at hl
  obtain rfl := Option.some.inj hl
  have hw : (toksL 0 t.words).map Tk.s = t.words := toks_words 0 t.words
  have hln : (toksL 0 t.words).length = t.words.length := by rw [← List.length_map (f := Tk.s), hw]
  rw [hw, hln]
  rcases t.words_head with ⟨rfl, h4⟩ | ⟨nm, ty, e, rfl⟩ | ⟨e, rfl⟩ | ⟨a, b, rfl⟩
  · refine .inl ⟨rfl, List.length_eq_zero_iff.1 ?_⟩
    rw [hln, h4]
    rfl
  · have := e.words_one
    refine .inr (.inl ⟨rfl, by simp only [SE.words, List.length_cons]; omega, rfl, rfl, rfl, rfl, rfl⟩)
  · exact .inr (.inr (.inl ⟨rfl, by simp [SE.words], rfl⟩))
  · exact .inr (.inr (.inr ⟨rfl, by simp [SE.words], rfl⟩))
/-- a line with let, or with two spaces, behind it is none -/
theorem line_let {s : Sm} (h : smOkB s = true) (h0 : s.kind ≠ 0) : rdSOk (smText s ++ [32, 108, 101, 116]) = false := by
  obtain ⟨t, rfl, ht⟩ := smOkB_iff.1 h
  rw [smText_se ht.1]
  refine rdS_let ht ?_
  rcases t.words_head with ⟨rfl, h4⟩ | ⟨nm, ty, e, rfl⟩ | ⟨e, rfl⟩ | ⟨a, b, rfl⟩
  · exact absurd rfl h0
  all_goals (simp [SE.words])
theorem line_two (m : Bytes) : rdSOk (m ++ [32, 32]) = false := by
  rw [show m ++ [32, 32] = (m ++ [32]) ++ [32] by simp]
  exact rdS_space _
end Go.Proofs.YtgakjhaepdigpaaGreatDoor


/- Statements one after the other in the laws' own hands: how much they hold, their copies, their equality. -/
namespace Go.Proofs.YtgakjhaepdigpaaGreatDoor
set_option maxRecDepth 100000
set_option linter.unusedSimpArgs false
set_option linter.unusedVariables false
open Go.RowKit
attribute [local go_sem] bs_toList bs_get bs_size

def smTo (l : List Sm) (i : Nat) : Nat := ((l.take i).map Sm.wt).sum
def smWt (l : List Sm) : Nat := l.length + smTo l l.length
theorem smTo_zero (l : List Sm) : smTo l 0 = 0 := by simp [smTo]
theorem smTo_succ {l : List Sm} {i : Nat} {e : Sm} (h : l[i]? = some e) : smTo l (i + 1) = smTo l i + e.wt := by
  have hi := (List.getElem?_eq_some_iff.1 h).1
  have he : l[i] = e := by rw [List.getElem?_eq_getElem hi] at h; exact Option.some.inj h
  unfold smTo
  rw [List.take_succ_eq_append_getElem hi, List.map_append, List.sum_append, he]
  simp
theorem smTo_le (l : List Sm) : ∀ i, smTo l i ≤ smTo l l.length := by
  intro i
  unfold smTo
  rw [List.take_length]
  have h : (l.take i ++ l.drop i) = l := List.take_append_drop i l
  have h2 := congrArg (fun l => (l.map Sm.wt).sum) h
  simp only [List.map_append, List.sum_append] at h2
  omega
/-! ### copies -/
/-- the first j statements of l lie in cur, their trees in blocks of the call's own, apart, from W0 on, below hi -/
def StsTo (t : TypeId) (w : World) (W0 hi : Nat) (cur : Array Value) (l : List Sm) (j : Nat) (fl : List FS) (bls : List (List Nat)) : Prop :=
  fl.length = j ∧ bls.length = j ∧ (∀ (i : Nat) (f : FS), fl[i]? = some f → ∀ (k : Nat) (x : Value), (fsRow f)[k]? = some x → cur[i * 11 + k]? = some x) ∧
    (∀ (i : Nat) (f : FS) (s : Sm) (b : List Nat), fl[i]? = some f → l[i]? = some s → bls[i]? = some b → f.kind = s.kind ∧ f.name = s.name ∧ f.typ = s.typ ∧ f.k1 = s.ex.kind ∧ f.n1 = s.ex.n ∧ f.s1 = s.ex.s ∧ f.k2 = s.th.kind ∧ f.n2 = s.th.n ∧ f.s2 = s.th.s ∧
      f.name.length ≤ 9223372036854775807 ∧ f.typ.length ≤ 9223372036854775807 ∧ f.s1.length ≤ 9223372036854775807 ∧ f.s2.length ≤ 9223372036854775807 ∧ ∃ b1 b2, b = b1 ++ b2 ∧ ExO t w f.v1 s.ex.kids b1 ∧ ExO t w f.v2 s.th.kids b2) ∧
    (∀ x ∈ bls.flatten, W0 < x ∧ x < hi) ∧ bls.flatten.Nodup
theorem StsTo.zero (t : TypeId) (w : World) (W0 hi : Nat) (cur : Array Value) (l : List Sm) : StsTo t w W0 hi cur l 0 [] [] := ⟨rfl, rfl, fun i f h => by simp at h, fun i f s b h => by simp at h, fun x h => by simp at h, by simp⟩
theorem StsTo.keep {t : TypeId} {w w' : World} {W0 hi : Nat} {cur : Array Value} {l : List Sm} {j : Nat} {fl : List FS} {bls : List (List Nat)} (h : StsTo t w W0 hi cur l j fl bls) (hk : ∀ b, W0 < b → b < w.heap.size → w'.heap[b]? = w.heap[b]?) : StsTo t w' W0 hi cur l j fl bls := by
  obtain ⟨h1, h1', h2, h3, h4, h5⟩ := h
  refine ⟨h1, h1', h2, fun i f s b hf hs hb => ?_, h4, h5⟩
  obtain ⟨a1, a2, a3, a4, a5, a6, a7, a8, a9, a10, a11, a12, a13, b1, b2, rfl, e1, e2⟩ := h3 i f s b hf hs hb
  have e3 : ∀ x ∈ b1 ++ b2, W0 < x := fun x hx => (h4 x (List.mem_flatten.2 ⟨_, List.mem_of_getElem? hb, hx⟩)).1
  exact ⟨a1, a2, a3, a4, a5, a6, a7, a8, a9, a10, a11, a12, a13, b1, b2, rfl, e1.same (fun b hb => hk b (e3 b (List.mem_append_left _ hb)) (e1.lt b hb)), e2.same (fun b hb => hk b (e3 b (List.mem_append_right _ hb)) (e2.lt b hb))⟩
theorem StsTo.step {t : TypeId} {w : World} {W0 hi hi' : Nat} {cur : Array Value} {l : List Sm} {j : Nat} {fl : List FS} {bls : List (List Nat)} {f : FS} {s : Sm} {b1 b2 : List Nat} (h : StsTo t w W0 hi cur l j fl bls) (hs : l[j]? = some s) (hsz : j * 11 + 11 ≤ cur.size)
    (hf : f.kind = s.kind ∧ f.name = s.name ∧ f.typ = s.typ ∧ f.k1 = s.ex.kind ∧ f.n1 = s.ex.n ∧ f.s1 = s.ex.s ∧ f.k2 = s.th.kind ∧ f.n2 = s.th.n ∧ f.s2 = s.th.s ∧
      f.name.length ≤ 9223372036854775807 ∧ f.typ.length ≤ 9223372036854775807 ∧ f.s1.length ≤ 9223372036854775807 ∧ f.s2.length ≤ 9223372036854775807 ∧ ExO t w f.v1 s.ex.kids b1 ∧ ExO t w f.v2 s.th.kids b2) (hO : Own hi hi' (b1 ++ b2)) (hW : W0 < hi) (hh : hi ≤ hi') : StsTo t w W0 hi' (putRow cur (j * 11) (fsRow f)) l (j + 1) (fl ++ [f]) (bls ++ [b1 ++ b2]) := by
  obtain ⟨h1, h1', h2, h3, h4, h5⟩ := h
  refine ⟨by simp [h1], by simp [h1'], fun i f' hj k x hx => ?_, fun i f' s' b' hj hs' hb' => ?_, fun x hx => ?_, ?_⟩
  · have hkl : k < 11 := (List.getElem?_eq_some_iff.1 hx).1
    rw [putRow_get _ _ _ _ (by exact hsz)]
    rcases getElem?_snoc hj with ⟨hj1, hj2⟩ | ⟨rfl, rfl⟩
    · rw [if_neg (by omega)]
      exact h2 i f' hj2 k x hx
    · rw [h1, if_pos (by simp [fsRow]; omega), Nat.add_sub_cancel_left]
      exact hx
  · rcases getElem?_snoc hj with ⟨hj1, hj2⟩ | ⟨rfl, rfl⟩
    · rcases getElem?_snoc hb' with ⟨hj3, hj4⟩ | ⟨rfl, rfl⟩
      · exact h3 i f' s' b' hj2 hs' hj4
      · omega
    · rw [h1, hs] at hs'
      obtain rfl := Option.some.inj hs'
      rcases getElem?_snoc hb' with ⟨hj3, hj4⟩ | ⟨_, rfl⟩
      · omega
      · obtain ⟨a1, a2, a3, a4, a5, a6, a7, a8, a9, a10, a11, a12, a13, e1, e2⟩ := hf
        exact ⟨a1, a2, a3, a4, a5, a6, a7, a8, a9, a10, a11, a12, a13, b1, b2, rfl, e1, e2⟩
  · rw [List.flatten_append, List.mem_append] at hx
    rcases hx with hx | hx
    · have := h4 x hx; omega
    · have := hO.1 x (by simpa using hx); omega
  · rw [List.flatten_append, List.nodup_append]
    refine ⟨h5, by simpa using hO.2, fun p hp q hq e => ?_⟩
    have := h4 p hp
    have := hO.1 q (by simpa using hq)
    omega
theorem StsTo.all {t : TypeId} {w : World} {W0 hi : Nat} {cur : Array Value} {l : List Sm} {fl : List FS} {bls : List (List Nat)} {g cap : Nat} (h : StsTo t w W0 hi cur l l.length fl bls) (hb : Blk w g 26 cur) (hc : l.length ≤ cap) (hm : cap ≤ maxLen) : SmS w w.heap.size (.slice (some ⟨g, 0, none⟩) l.length cap) l := by
  obtain ⟨h1, h1', h2, h3, _, _⟩ := h
  refine ⟨fl, ⟨_, cap, by rw [h1], by omega, hm, fun _ => ⟨g, 0, rfl, hb.lt, fun i f hf j x hj => ?_⟩⟩, h1, fun i f s hf hs => ?_⟩
  · rw [Nat.zero_add, hb.cell]
    exact h2 i f hf j x hj
  · obtain ⟨a1, a2, a3, a4, a5, a6, a7, a8, a9, a10, a11, a12, a13, b1, b2, _, e1, e2⟩ := h3 i f s _ hf hs (List.getElem?_eq_getElem (by rw [h1']; exact (List.getElem?_eq_some_iff.1 hs).1))
    exact ⟨a1, a2, a3, a4, a5, a6, a7, a8, a9, by rw [bs_size]; exact a10, by rw [bs_size]; exact a11, by rw [bs_size]; exact a12, by rw [bs_size]; exact a13, e1.exs, e2.exs⟩
/-- statements of the call's own: the row's block g, their trees' blocks bls, apart -/
def SmO (t : TypeId) (w : World) (v : Value) (l : List Sm) (g : Nat) (bls : List (List Nat)) : Prop :=
  ∃ (W0 hi cap : Nat) (cur : Array Value) (fl : List FS), v = .slice (some ⟨g, 0, none⟩) l.length cap ∧ l.length ≤ cap ∧ cap ≤ maxLen ∧ Blk w g 26 cur ∧ cur.size = l.length * 11 ∧ StsTo t w W0 hi cur l l.length fl bls ∧ g ≤ W0
theorem SmO.sms {t : TypeId} {w : World} {v : Value} {l : List Sm} {g : Nat} {bls : List (List Nat)} (h : SmO t w v l g bls) : SmS w w.heap.size v l := by
  obtain ⟨W0, hi, cap, cur, fl, rfl, h1, h2, h3, _, h4, _⟩ := h
  exact h4.all h3 h1 h2
theorem infoStmt : (Tryz.prog.info? 26).map (fun i => (i.zero, i.size, i.bytes)) = some (some (.agg #[.int .i64 0, .string ⟨#[]⟩, .string ⟨#[]⟩, .int .i64 0, .int .i64 0, .string ⟨#[]⟩, .slice none 0 0, .int .i64 0, .int .i64 0, .string ⟨#[]⟩, .slice none 0 0]), 11, 152) := by kernel_rfl
noncomputable instance : DecidableEq Sm := fun _ _ => Classical.propDecidable _
theorem sm_eq_iff (s t : Sm) : s = t ↔ (s.kind = t.kind ∧ s.name = t.name ∧ s.typ = t.typ ∧ s.ex = t.ex ∧ s.th = t.th) := by
  constructor
  · rintro rfl; exact ⟨rfl, rfl, rfl, rfl, rfl⟩
  · obtain ⟨a, b, c, d, e⟩ := s
    obtain ⟨a', b', c', d', e'⟩ := t
    rintro ⟨h1, h2, h3, h4, h5⟩
    simp only at h1 h2 h3 h4 h5
    rw [h1, h2, h3, h4, h5]
theorem eqStmtS_any (l m : List Sm) (v u : Value) (W : World) (hv : SmS W W.heap.size v l) (hu : SmS W W.heap.size u m) :
    Calls Tryz.prog 47 #[v, u] W fun e w' => e = .returned (.bool (decide (l = m))) ∧ Below W.heap.size W w' := by
  obtain ⟨A, c, rfl, hc, hm⟩ := hv.val
  obtain ⟨A', c', rfl, hc', hm'⟩ := hu.val
  by_cases hnm : l.length = m.length
  rotate_left
  · have hne : (((l.length : Nat) : Int) != ((m.length : Nat) : Int)) = true := by simp; omega
    have hd : decide (l = m) = false := by simp; intro e; exact hnm (by rw [e])
    have HD := Lib.hid hd
    clear hd
    go_enter Tryz.func47, Tryz.ntmps47
    go_wp2
    go_ret
    exact ⟨ret_bool HD.out.symm, Below.refl _ _⟩
  have hne : (((l.length : Nat) : Int) != ((m.length : Nat) : Int)) = false := by simp [hnm]
  have HNM := Lib.hid hnm
  clear hnm
  go_enter Tryz.func47, Tryz.ntmps47
  go_wp2_with fail
  go_loopg [5] l.length (fun k p wr => ∃ i : Nat, k = l.length - i ∧ i ≤ l.length ∧ p = .int .i64 i ∧ AgreeTo i l m ∧ Below W.heap.size W wr)
  case atStart => exact ⟨0, by omega, by omega, rfl, AgreeTo.zero _ _, Below.refl _ _⟩
  case' round =>
    obtain ⟨i, hk2, hin, rfl, hij, hbl⟩ := hrel
    have HK := Lib.hid hk2
    clear hk2
    have hlm := HNM.out
    have him : i ≤ m.length := by omega
    clear hlm
    by_cases hlt : i < l.length
    rotate_left
    · go_wp2_with fail
      go_ret
      exact ⟨ret_bool (by simp; exact (AgreeTo.eq hij (by omega) HNM.out)), hbl⟩
    have hlm : i < m.length := by have := HNM.out; omega
    obtain ⟨b, o, s, A1, A2, c1, c2, rfl, hb, hg, hS, f0, f1, f2, f3, f4, f5, f6, f7, f8, f9, f10⟩ := sm_at2 hv hlt
    obtain ⟨b', o', s', A1', A2', c1', c2', rfl, hb', hg', hS', f0', f1', f2', f3', f4', f5', f6', f7', f8', f9', f10'⟩ := sm_at2 hu hlm
    have HG := Lib.hid (And.intro hg hg')
    clear hg hg'
    obtain ⟨x, rfl⟩ := Later.ex hbl
    have hcall : ∀ y : Later W.heap.size W, Calls Tryz.prog 14 #[.agg #[.int .i64 s.kind, .string (bs s.name), .string (bs s.typ), .int .i64 s.ex.kind, .int .i64 s.ex.n, .string (bs s.ex.s), .slice A1 s.ex.kids.length c1, .int .i64 s.th.kind, .int .i64 s.th.n, .string (bs s.th.s), .slice A2 s.th.kids.length c2], .agg #[.int .i64 s'.kind, .string (bs s'.name), .string (bs s'.typ), .int .i64 s'.ex.kind, .int .i64 s'.ex.n, .string (bs s'.ex.s), .slice A1' s'.ex.kids.length c1', .int .i64 s'.th.kind, .int .i64 s'.th.n, .string (bs s'.th.s), .slice A2' s'.th.kids.length c2']] y.w' fun e w' => e = .returned (.bool (decide (s = s'))) ∧ Below y.w'.heap.size y.w' w' :=
      fun y => by
        have h := eqStmt_any s s' _ _ y.w' (hS.ext y.ok) (hS'.ext y.ok)
        rwa [show decide (s.kind = s'.kind ∧ s.name = s'.name ∧ s.typ = s'.typ ∧ s.ex = s'.ex ∧ s.th = s'.th) = decide (s = s') from decide_eq_decide.2 (sm_eq_iff s s').symm] at h
    clear hS hS'
    by_cases hst : s = s'
    all_goals
      rw [show decide (s = s') = _ by first | exact decide_eq_true hst | exact decide_eq_false hst] at hcall
      have HD := Lib.hid hcall
      have HST := Lib.hid hst
      clear hst hcall
      go_wp2_with fail
      refine wp_region_later hbl (by kernel_rfl) (by kernel_rfl) ?_
      repeat (go_big_quiet_step ((go_at_call 14; exact later_call' HD.out)))
      refine wpQuiet_nil ?_
      rintro _ ⟨y, rfl⟩
      have hy := y.ok
      go_wp2_with fail
    · go_roundg (l.length - (i + 1))
      case measure => have := HK.out; omega
      case rel => exact ⟨i + 1, rfl, by omega, by go_num, hij.succ HG.out.1 (HST.out ▸ HG.out.2), hy⟩
    · go_ret
      exact ⟨ret_bool (by simpa using AgreeTo.ne HG.out.1 HG.out.2 HST.out), hy⟩
end Go.Proofs.YtgakjhaepdigpaaGreatDoor
