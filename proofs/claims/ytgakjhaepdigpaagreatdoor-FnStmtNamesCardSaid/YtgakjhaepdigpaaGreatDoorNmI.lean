
/- The names in a line: the program's StmtNames, and its closure. -/
import Derived.Test.YtgakjhaepdigpaaGreatDoorNmS
import Derived.Test.YtgakjhaepdigpaaGreatDoorImSs
import Derived.Test.YtgakjhaepdigpaaGreatDoorZm18
namespace Go.Proofs.YtgakjhaepdigpaaGreatDoor
set_option maxRecDepth 100000
set_option linter.unusedSimpArgs false
set_option linter.unusedVariables false
open Go.RowKit
attribute [local go_sem] bs_toList bs_get bs_size

/-- the closure as a value: it holds where the names are, and where itself is -/
abbrev fnV (P Q : Nat) : Value := .func (Fn.func 79) #[] #[.pointer (some ⟨P, 0, none⟩), .pointer (some ⟨Q, 0, none⟩)]
/-- what a call of the closure leaves -/
def UiP (l' : List Bytes) (lo P Q B : Nat) (u : Value) (w : World) (r : Ending) (w' : World) : Prop := r = .returned (.tuple #[]) ∧ ∃ u', Blk w' P 45 #[u'] ∧ Blk w' Q 93 #[fnV P Q] ∧ GtS lo w' u' l' ∧ Below B w w' ∧ (∀ b, b < w.heap.size → b ≠ P → u.ownBlock ≠ some b → w'.heap[b]? = w.heap[b]?) ∧ (∀ q, u'.ownBlock = some q → u.ownBlock = some q ∨ w.heap.size ≤ q)
theorem run_store_fn (P : Program) (w : World) (a : Addr) (m : Mode) (f : Fn) (x y : Array Value) : (store a (.func f x y) m).run P w = stored P w a (.func f x y) m := run_store P w a _ m rfl
set_option maxHeartbeats 2000000 in
theorem imUses_n : ∀ (n : Nat) (e : E), e.cnt ≤ n → ∀ (l : List Bytes) (lo P Q B : Nat) (v u : Value) (w : World), ExV w B v e.ex → Blk w P 45 #[u] → Blk w Q 93 #[fnV P Q] → GtS lo w u l → B ≤ P ∧ B ≤ Q → P < lo → Q < lo → P ≠ Q → lo ≤ w.heap.size → l.length + e.cnt ≤ 1000 →
    Calls Tryz.prog 79 #[v, .pointer (some ⟨P, 0, none⟩), .pointer (some ⟨Q, 0, none⟩)] w (UiP (usesL l e) lo P Q B u w) := by
  intro n
  induction n with
  | zero => intro e h; have := E.cnt_pos e; omega
  | succ n ih =>
    intro e hsz l lo P Q B v u w hv hBP hBQ hG hB hPl hQl hPQ hlo hcn
    have IH := Lib.hid (fun (g : E) (hg : g ∈ kidsE e) => ih g (by have := kid_lt hg; omega))
    have HU2 := Lib.hid (uses_fold l e)
    have hkc := kid_cnt e
    obtain ⟨k, m, s, A, c, kl, hex, rfl, hs, hc, hm, hkv⟩ := hv.form
    have HKL := Lib.hid (kids_ex e)
    have HHD := Lib.hid (show headN l e.ex = if k = 2 then addN l s else l by rw [hex]; rfl)
    rw [hex] at HKL
    simp only [Ex.kids] at HKL
    rw [HHD.out] at HU2
    have HKV := Lib.hid hkv
    have HU := Lib.hid hG
    have HBP := Lib.hid (And.intro hBP hBQ)
    generalize kidsE e = ks at *
    generalize e.cnt = ec at *
    generalize usesL l e = lr at *
    have hkll : kl.length = ks.length := by rw [HKL.out, List.length_map]
    have HKLL := Lib.hid hkll
    clear hkll hv hex hkv ih HHD
    have hsx : (ByteArray.size (bs s)) ≤ 9223372036854775807 := hs
    have p0 := hBP.cell 0
    simp at p0
    have hPw := hBP.lt
    have hQw := hBQ.lt
    by_cases hk2 : k = 2
    · have hd2 : (k == 2) = true := by simpa using hk2
      have CT := Lib.hid (fun (w' : World) (h : Below w.heap.size w w') => contains_any l s _ w' ((hG.ext h).sl (fun _ => rfl)))
      by_cases hm2 : s ∈ l
      · rw [show l.contains s = true by simpa using hm2] at CT
        replace HU2 := Lib.hid (show lr = ks.foldl usesL l by rw [HU2.out, if_pos hk2]; unfold addN; rw [if_pos hm2])
        clear hG hBP hBQ hm2 hk2
        go_enter Tryz.func79, Tryz.ntmps79
        go_wp2_with fail
        refine (CT.out _ (by (repeat (first | with_reducible assumption | with_reducible exact Below.refl _ _ | with_reducible refine Below.setCell ?_ (by first | omega | (simp; done) | (simp; omega)) _ | with_reducible refine Below.alloc ?_ (by first | omega | (simp; done) | (simp; omega)) _ | with_reducible refine below_drewN ?_ _ | with_reducible refine Below.drew ?_)))).mono ?_
        rintro r _ ⟨rfl, rfl⟩
        go_wp2_with fail
        go_loopg [24] kl.length (fun n i wr => ∃ (j : Nat) (u' : Value), n = kl.length - j ∧ j ≤ kl.length ∧ i = .int .i64 j ∧ Blk wr P 45 #[u'] ∧ Blk wr Q 93 #[fnV P Q] ∧ GtS lo wr u' ((ks.take j).foldl usesL l) ∧ Below B w wr ∧ (∀ b, b < w.heap.size → b ≠ P → u.ownBlock ≠ some b → wr.heap[b]? = w.heap[b]?) ∧ (∀ q, u'.ownBlock = some q → u.ownBlock = some q ∨ w.heap.size ≤ q))
        case' round =>
          obtain ⟨j, u', hk, hj, rfl, hBP, hBQ, hG, hbl, hK, hO⟩ := hrel
          have HK := Lib.hid (And.intro hk (And.intro hK hO))
          have HGG := Lib.hid (And.intro hBP (And.intro hBQ (And.intro hG hbl)))
          have hz := hbl.size
          clear hk hK hO
          by_cases hlt0 : j < kl.length
          rotate_left
          · obtain rfl : j = kl.length := by omega
            clear hG hBP hBQ hbl
            go_wp2_with fail
            refine bodyPost_ret (v := .tuple #[]) (by simp [results, Tryz.results79, go_sem]) rfl ?_
            have hG := HGG.out.2.2.1
            rw [List.take_of_length_le (by rw [HKLL.out]; exact Nat.le_refl _)] at hG
            exact ⟨rfl, _, HGG.out.1, HGG.out.2.1, by rw [HU2.out]; exact hG, HGG.out.2.2.2, HK.out.2.1, HK.out.2.2⟩
          · have hlt : j < ks.length := by rw [← HKLL.out]; exact hlt0
            obtain ⟨b, o', p1, q1, s1, A1, c1, m1, rfl, hb, hgk, hs1, hm1, hc1, hk1, f0, f1, f2, f3⟩ := ex_at HKV.out hlt0
            have g0 := f0 ⟨wr, hbl⟩; have g1 := f1 ⟨wr, hbl⟩; have g2 := f2 ⟨wr, hbl⟩; have g3 := f3 ⟨wr, hbl⟩
            obtain ⟨g, hgj⟩ : ∃ g, ks[j]? = some g := ⟨ks[j], List.getElem?_eq_getElem hlt⟩
            have hex : Ex.mk p1 q1 s1 m1 = g.ex := by
              have h1 := hgk
              rw [HKL.out, List.getElem?_map, hgj] at h1
              exact (Option.some.inj h1).symm
            have hcn := sum_at ks j _ hgj
            have hfl := fold_len (ks.take j) l
            have hl1 : (l : List Bytes).length ≤ l.length + 1 := by simp
            rw [bs_size] at hs1
            have hbx : Below B w (wr.alloc (.cells #[.int .i64 p1, .int .i64 q1, .string (bs s1), .slice A1 m1.length c1] 24)) := by (repeat (first | with_reducible assumption | with_reducible exact Below.refl _ _ | with_reducible refine Below.setCell ?_ (by first | omega | (simp; done) | (simp; omega)) _ | with_reducible refine Below.alloc ?_ (by first | omega | (simp; done) | (simp; omega)) _ | with_reducible refine below_drewN ?_ _ | with_reducible refine Below.drew ?_ | with_reducible refine Below.trans ?_ (Below.mono hbl (by first | omega | (simp; done) | (simp; omega)))))
            have CK := Lib.hid (IH.out g (List.mem_of_getElem? hgj) ((ks.take j).foldl usesL l) lo P Q B (.agg #[.int .i64 p1, .int .i64 q1, .string (bs s1), .slice A1 m1.length c1]) u' (wr.alloc (.cells #[.int .i64 p1, .int .i64 q1, .string (bs s1), .slice A1 m1.length c1] 24)) (by rw [← hex]; exact ⟨_, rfl, hs1, hk1.keep hbx (Nat.le_refl _)⟩) (hBP.alloc _) (hBQ.alloc _) (hG.ext (by (repeat (first | with_reducible assumption | with_reducible exact Below.refl _ _ | with_reducible refine Below.setCell ?_ (by first | omega | (simp; done) | (simp; omega)) _ | with_reducible refine Below.alloc ?_ (by first | omega | (simp; done) | (simp; omega)) _ | with_reducible refine below_drewN ?_ _ | with_reducible refine Below.drew ?_)))) hB hPl hQl hPQ (by simp; omega) (by omega))
            have HST := Lib.hid (fold_step hgj l)
            have c0 := hBQ.cell 0
            simp at c0
            have hQr : Q < wr.heap.size := hBQ.lt
            have hPr : P < wr.heap.size := hBP.lt
            have c0' : (wr.alloc (.cells #[.int .i64 p1, .int .i64 q1, .string (bs s1), .slice A1 m1.length c1] 24)).cell? ⟨Q, 0, none⟩ = some (fnV P Q) := (World.cell?_alloc_lt wr _ ⟨Q, 0, none⟩ hQr).trans c0
            clear hG hBP hBQ f0 f1 f2 f3 hgk hk1 hex hcn hfl hl1 hgj hlt hbx
            go_wp2_with (first | (go_at_call 79; refine CK.out.mono ?_; rintro r w5 ⟨rfl, u5, hP5, hQ5, hG5, hb5, hK5, hO5⟩) | fail)
            have HR := Lib.hid (And.intro hP5 (And.intro hQ5 (And.intro hG5 (And.intro hb5 (And.intro hK5 hO5)))))
            have hz5 := hb5.size
            (try simp at hz5)
            clear hP5 hQ5 hG5 hb5 hK5 hO5
            go_roundg (kl.length - (j + 1))
            case measure => have := HK.out.1; omega
            case rel =>
              refine ⟨j + 1, u5, rfl, by omega, by go_num, HR.out.1, HR.out.2.1, by rw [HST.out]; exact HR.out.2.2.1, (show Below B w _ from (HGG.out.2.2.2.alloc (by omega) _)).trans HR.out.2.2.2.1, fun b h1 h2 h3 => ?_, fun q hq => ?_⟩
              · refine (HR.out.2.2.2.2.1 b (by simp; omega) h2 (fun e => ?_)).trans ((Below.heap_alloc wr _ b (by omega)).trans (HK.out.2.1 b h1 h2 h3))
                rcases HK.out.2.2 b e with h | h
                · exact h3 h
                · omega
              · rcases HR.out.2.2.2.2.2 q hq with h | h
                · exact HK.out.2.2 q h
                · right; simp at h; omega
        case atStart => exact ⟨0, u, by omega, by omega, rfl, HBP.out.1.alloc _, HBP.out.2.alloc _, HU.out.ext (by (repeat (first | with_reducible assumption | with_reducible exact Below.refl _ _ | with_reducible refine Below.setCell ?_ (by first | omega | (simp; done) | (simp; omega)) _ | with_reducible refine Below.alloc ?_ (by first | omega | (simp; done) | (simp; omega)) _ | with_reducible refine below_drewN ?_ _ | with_reducible refine Below.drew ?_))), by (repeat (first | with_reducible assumption | with_reducible exact Below.refl _ _ | with_reducible refine Below.setCell ?_ (by first | omega | (simp; done) | (simp; omega)) _ | with_reducible refine Below.alloc ?_ (by first | omega | (simp; done) | (simp; omega)) _ | with_reducible refine below_drewN ?_ _ | with_reducible refine Below.drew ?_)), fun b h1 h2 h3 => Below.heap_alloc w _ b h1, fun q hq => .inl hq⟩
      · rw [show l.contains s = false by simpa using hm2] at CT
        replace HU2 := Lib.hid (show lr = ks.foldl usesL (l ++ [s]) by rw [HU2.out, if_pos hk2]; unfold addN; rw [if_neg hm2])
        clear hG hBP hBQ hm2 hk2
        go_enter Tryz.func79, Tryz.ntmps79
        go_wp2_with fail
        refine (CT.out _ (by (repeat (first | with_reducible assumption | with_reducible exact Below.refl _ _ | with_reducible refine Below.setCell ?_ (by first | omega | (simp; done) | (simp; omega)) _ | with_reducible refine Below.alloc ?_ (by first | omega | (simp; done) | (simp; omega)) _ | with_reducible refine below_drewN ?_ _ | with_reducible refine Below.drew ?_)))).mono ?_
        rintro r _ ⟨rfl, rfl⟩
        go_wp2_with (first
          | (at_builtin; refine aps_plain (by rfl) (.tmp 16) (.tmp 19) (by rfl) lo u l (by rfl) (HU.out.ext (by (repeat (first | with_reducible assumption | with_reducible exact Below.refl _ _ | with_reducible refine Below.setCell ?_ (by first | omega | (simp; done) | (simp; omega)) _ | with_reducible refine Below.alloc ?_ (by first | omega | (simp; done) | (simp; omega)) _ | with_reducible refine below_drewN ?_ _ | with_reducible refine Below.drew ?_)))) ⟨w.heap.size + 1, 0, none⟩ 1 [s] (by rfl) (news_s (by simp)) Nat.zero_lt_one (by simp; omega) (by simp; omega) ?_; intro ga capa wa hGa hgra hata; have hza := hgra.size; (try simp at hza); have hPa : Blk wa P 45 #[u] := ((hgra.block P (by simp; omega) (fun e => by have := (HU.out.lt e.symm).1; omega)).trans ((HBP.out.1.alloc _).alloc _)); have pa0 := hPa.cell 0; have paz := hPa.frozen 0; simp at pa0; have xa3 : wa.cell? ⟨w.heap.size, 3, none⟩ = some (.slice A kl.length c) := grown_cell hgra (by simp [go_sem]) (fun e => by have := (HU.out.lt e).2; omega))
          | fail)
        go_loopg [24] kl.length (fun n i wr => ∃ (j : Nat) (u' : Value), n = kl.length - j ∧ j ≤ kl.length ∧ i = .int .i64 j ∧ Blk wr P 45 #[u'] ∧ Blk wr Q 93 #[fnV P Q] ∧ GtS lo wr u' ((ks.take j).foldl usesL (l ++ [s])) ∧ Below B w wr ∧ (∀ b, b < w.heap.size → b ≠ P → u.ownBlock ≠ some b → wr.heap[b]? = w.heap[b]?) ∧ (∀ q, u'.ownBlock = some q → u.ownBlock = some q ∨ w.heap.size ≤ q))
        case' round =>
          obtain ⟨j, u', hk, hj, rfl, hBP, hBQ, hG, hbl, hK, hO⟩ := hrel
          have HK := Lib.hid (And.intro hk (And.intro hK hO))
          have HGG := Lib.hid (And.intro hBP (And.intro hBQ (And.intro hG hbl)))
          have hz := hbl.size
          clear hk hK hO
          by_cases hlt0 : j < kl.length
          rotate_left
          · obtain rfl : j = kl.length := by omega
            clear hG hBP hBQ hbl
            go_wp2_with fail
            refine bodyPost_ret (v := .tuple #[]) (by simp [results, Tryz.results79, go_sem]) rfl ?_
            have hG := HGG.out.2.2.1
            rw [List.take_of_length_le (by rw [HKLL.out]; exact Nat.le_refl _)] at hG
            exact ⟨rfl, _, HGG.out.1, HGG.out.2.1, by rw [HU2.out]; exact hG, HGG.out.2.2.2, HK.out.2.1, HK.out.2.2⟩
          · have hlt : j < ks.length := by rw [← HKLL.out]; exact hlt0
            obtain ⟨b, o', p1, q1, s1, A1, c1, m1, rfl, hb, hgk, hs1, hm1, hc1, hk1, f0, f1, f2, f3⟩ := ex_at HKV.out hlt0
            have g0 := f0 ⟨wr, hbl⟩; have g1 := f1 ⟨wr, hbl⟩; have g2 := f2 ⟨wr, hbl⟩; have g3 := f3 ⟨wr, hbl⟩
            obtain ⟨g, hgj⟩ : ∃ g, ks[j]? = some g := ⟨ks[j], List.getElem?_eq_getElem hlt⟩
            have hex : Ex.mk p1 q1 s1 m1 = g.ex := by
              have h1 := hgk
              rw [HKL.out, List.getElem?_map, hgj] at h1
              exact (Option.some.inj h1).symm
            have hcn := sum_at ks j _ hgj
            have hfl := fold_len (ks.take j) (l ++ [s])
            have hl1 : ((l ++ [s]) : List Bytes).length ≤ l.length + 1 := by simp
            rw [bs_size] at hs1
            have hbx : Below B w (wr.alloc (.cells #[.int .i64 p1, .int .i64 q1, .string (bs s1), .slice A1 m1.length c1] 24)) := by (repeat (first | with_reducible assumption | with_reducible exact Below.refl _ _ | with_reducible refine Below.setCell ?_ (by first | omega | (simp; done) | (simp; omega)) _ | with_reducible refine Below.alloc ?_ (by first | omega | (simp; done) | (simp; omega)) _ | with_reducible refine below_drewN ?_ _ | with_reducible refine Below.drew ?_ | with_reducible refine Below.trans ?_ (Below.mono hbl (by first | omega | (simp; done) | (simp; omega)))))
            have CK := Lib.hid (IH.out g (List.mem_of_getElem? hgj) ((ks.take j).foldl usesL (l ++ [s])) lo P Q B (.agg #[.int .i64 p1, .int .i64 q1, .string (bs s1), .slice A1 m1.length c1]) u' (wr.alloc (.cells #[.int .i64 p1, .int .i64 q1, .string (bs s1), .slice A1 m1.length c1] 24)) (by rw [← hex]; exact ⟨_, rfl, hs1, hk1.keep hbx (Nat.le_refl _)⟩) (hBP.alloc _) (hBQ.alloc _) (hG.ext (by (repeat (first | with_reducible assumption | with_reducible exact Below.refl _ _ | with_reducible refine Below.setCell ?_ (by first | omega | (simp; done) | (simp; omega)) _ | with_reducible refine Below.alloc ?_ (by first | omega | (simp; done) | (simp; omega)) _ | with_reducible refine below_drewN ?_ _ | with_reducible refine Below.drew ?_)))) hB hPl hQl hPQ (by simp; omega) (by omega))
            have HST := Lib.hid (fold_step hgj (l ++ [s]))
            have c0 := hBQ.cell 0
            simp at c0
            have hQr : Q < wr.heap.size := hBQ.lt
            have hPr : P < wr.heap.size := hBP.lt
            have c0' : (wr.alloc (.cells #[.int .i64 p1, .int .i64 q1, .string (bs s1), .slice A1 m1.length c1] 24)).cell? ⟨Q, 0, none⟩ = some (fnV P Q) := (World.cell?_alloc_lt wr _ ⟨Q, 0, none⟩ hQr).trans c0
            clear hG hBP hBQ f0 f1 f2 f3 hgk hk1 hex hcn hfl hl1 hgj hlt hbx
            go_wp2_with (first | (go_at_call 79; refine CK.out.mono ?_; rintro r w5 ⟨rfl, u5, hP5, hQ5, hG5, hb5, hK5, hO5⟩) | fail)
            have HR := Lib.hid (And.intro hP5 (And.intro hQ5 (And.intro hG5 (And.intro hb5 (And.intro hK5 hO5)))))
            have hz5 := hb5.size
            (try simp at hz5)
            clear hP5 hQ5 hG5 hb5 hK5 hO5
            go_roundg (kl.length - (j + 1))
            case measure => have := HK.out.1; omega
            case rel =>
              refine ⟨j + 1, u5, rfl, by omega, by go_num, HR.out.1, HR.out.2.1, by rw [HST.out]; exact HR.out.2.2.1, (show Below B w _ from (HGG.out.2.2.2.alloc (by omega) _)).trans HR.out.2.2.2.1, fun b h1 h2 h3 => ?_, fun q hq => ?_⟩
              · refine (HR.out.2.2.2.2.1 b (by simp; omega) h2 (fun e => ?_)).trans ((Below.heap_alloc wr _ b (by omega)).trans (HK.out.2.1 b h1 h2 h3))
                rcases HK.out.2.2 b e with h | h
                · exact h3 h
                · omega
              · rcases HR.out.2.2.2.2.2 q hq with h | h
                · exact HK.out.2.2 q h
                · right; simp at h; omega
        case atStart =>
          have hBw : Below B w ((w.alloc (.cells #[.int .i64 k, .int .i64 m, .string (bs s), .slice A kl.length c] 24)).alloc (.cells #[.string (bs s)] 9)) := (Below.alloc (Below.alloc (Below.refl _ _) (by omega) _) (by simp; omega) _)
          have hGs : GtS lo wa (.slice (some ⟨ga, 0, none⟩) (l.length + 1) capa) (l ++ [s]) := hGa.len (by simp) rfl
          have hgaL := (hGa.lt (b := ga) rfl).1
          refine ⟨0, .slice (some ⟨ga, 0, none⟩) (l.length + 1) capa, by omega, by omega, rfl, hPa.set_ 0 _, Blk.far ((hgra.block Q (by simp; omega) (fun e => by have := (HU.out.lt e.symm).1; omega)).trans ((HBP.out.2.alloc _).alloc _)) (by simp; omega) _, hGs.grown (r := some P) (by (repeat (first | with_reducible assumption | with_reducible exact grown_rfl _ _ | with_reducible refine grown_st ?_ _ _ | with_reducible refine grown_al ?_ _))) (.inr (by simp [Value.ownBlock]; omega)), ?_, fun b h1 h2 h3 => ?_, fun q hq => ?_⟩
          · exact (below_app hBw hgra (fun q hq => by have := (HU.out.lt hq).1; omega) (by simp; omega)).setCell (by simp; omega) _
          · refine (Below.heap_setCell _ _ _ _ (by simpa using h2)).trans ((hgra.block b (by simp; omega) (fun e => h3 e.symm)).trans ?_)
            exact (Below.heap_alloc _ _ b (by simp; omega)).trans (Below.heap_alloc w _ b h1)
          · have hq' : ga = q := by simpa [Value.ownBlock] using hq
            subst hq'
            rcases hata with h | h
            · exact .inl h
            · right; rw [h]; simp; omega
    · have hd : (k == 2) = false := by simpa using hk2
      replace HU2 := Lib.hid (show lr = ks.foldl usesL l by rw [HU2.out, if_neg hk2])
      clear hG hBP hBQ hk2
      go_enter Tryz.func79, Tryz.ntmps79
      go_wp2_with fail
      go_loopg [24] kl.length (fun n i wr => ∃ (j : Nat) (u' : Value), n = kl.length - j ∧ j ≤ kl.length ∧ i = .int .i64 j ∧ Blk wr P 45 #[u'] ∧ Blk wr Q 93 #[fnV P Q] ∧ GtS lo wr u' ((ks.take j).foldl usesL l) ∧ Below B w wr ∧ (∀ b, b < w.heap.size → b ≠ P → u.ownBlock ≠ some b → wr.heap[b]? = w.heap[b]?) ∧ (∀ q, u'.ownBlock = some q → u.ownBlock = some q ∨ w.heap.size ≤ q))
      case' round =>
        obtain ⟨j, u', hk, hj, rfl, hBP, hBQ, hG, hbl, hK, hO⟩ := hrel
        have HK := Lib.hid (And.intro hk (And.intro hK hO))
        have HGG := Lib.hid (And.intro hBP (And.intro hBQ (And.intro hG hbl)))
        have hz := hbl.size
        clear hk hK hO
        by_cases hlt0 : j < kl.length
        rotate_left
        · obtain rfl : j = kl.length := by omega
          clear hG hBP hBQ hbl
          go_wp2_with fail
          refine bodyPost_ret (v := .tuple #[]) (by simp [results, Tryz.results79, go_sem]) rfl ?_
          have hG := HGG.out.2.2.1
          rw [List.take_of_length_le (by rw [HKLL.out]; exact Nat.le_refl _)] at hG
          exact ⟨rfl, _, HGG.out.1, HGG.out.2.1, by rw [HU2.out]; exact hG, HGG.out.2.2.2, HK.out.2.1, HK.out.2.2⟩
        · have hlt : j < ks.length := by rw [← HKLL.out]; exact hlt0
          obtain ⟨b, o', p1, q1, s1, A1, c1, m1, rfl, hb, hgk, hs1, hm1, hc1, hk1, f0, f1, f2, f3⟩ := ex_at HKV.out hlt0
          have g0 := f0 ⟨wr, hbl⟩; have g1 := f1 ⟨wr, hbl⟩; have g2 := f2 ⟨wr, hbl⟩; have g3 := f3 ⟨wr, hbl⟩
          obtain ⟨g, hgj⟩ : ∃ g, ks[j]? = some g := ⟨ks[j], List.getElem?_eq_getElem hlt⟩
          have hex : Ex.mk p1 q1 s1 m1 = g.ex := by
            have h1 := hgk
            rw [HKL.out, List.getElem?_map, hgj] at h1
            exact (Option.some.inj h1).symm
          have hcn := sum_at ks j _ hgj
          have hfl := fold_len (ks.take j) l
          have hl1 : (l : List Bytes).length ≤ l.length + 1 := by simp
          rw [bs_size] at hs1
          have hbx : Below B w (wr.alloc (.cells #[.int .i64 p1, .int .i64 q1, .string (bs s1), .slice A1 m1.length c1] 24)) := by (repeat (first | with_reducible assumption | with_reducible exact Below.refl _ _ | with_reducible refine Below.setCell ?_ (by first | omega | (simp; done) | (simp; omega)) _ | with_reducible refine Below.alloc ?_ (by first | omega | (simp; done) | (simp; omega)) _ | with_reducible refine below_drewN ?_ _ | with_reducible refine Below.drew ?_ | with_reducible refine Below.trans ?_ (Below.mono hbl (by first | omega | (simp; done) | (simp; omega)))))
          have CK := Lib.hid (IH.out g (List.mem_of_getElem? hgj) ((ks.take j).foldl usesL l) lo P Q B (.agg #[.int .i64 p1, .int .i64 q1, .string (bs s1), .slice A1 m1.length c1]) u' (wr.alloc (.cells #[.int .i64 p1, .int .i64 q1, .string (bs s1), .slice A1 m1.length c1] 24)) (by rw [← hex]; exact ⟨_, rfl, hs1, hk1.keep hbx (Nat.le_refl _)⟩) (hBP.alloc _) (hBQ.alloc _) (hG.ext (by (repeat (first | with_reducible assumption | with_reducible exact Below.refl _ _ | with_reducible refine Below.setCell ?_ (by first | omega | (simp; done) | (simp; omega)) _ | with_reducible refine Below.alloc ?_ (by first | omega | (simp; done) | (simp; omega)) _ | with_reducible refine below_drewN ?_ _ | with_reducible refine Below.drew ?_)))) hB hPl hQl hPQ (by simp; omega) (by omega))
          have HST := Lib.hid (fold_step hgj l)
          have c0 := hBQ.cell 0
          simp at c0
          have hQr : Q < wr.heap.size := hBQ.lt
          have hPr : P < wr.heap.size := hBP.lt
          have c0' : (wr.alloc (.cells #[.int .i64 p1, .int .i64 q1, .string (bs s1), .slice A1 m1.length c1] 24)).cell? ⟨Q, 0, none⟩ = some (fnV P Q) := (World.cell?_alloc_lt wr _ ⟨Q, 0, none⟩ hQr).trans c0
          clear hG hBP hBQ f0 f1 f2 f3 hgk hk1 hex hcn hfl hl1 hgj hlt hbx
          go_wp2_with (first | (go_at_call 79; refine CK.out.mono ?_; rintro r w5 ⟨rfl, u5, hP5, hQ5, hG5, hb5, hK5, hO5⟩) | fail)
          have HR := Lib.hid (And.intro hP5 (And.intro hQ5 (And.intro hG5 (And.intro hb5 (And.intro hK5 hO5)))))
          have hz5 := hb5.size
          (try simp at hz5)
          clear hP5 hQ5 hG5 hb5 hK5 hO5
          go_roundg (kl.length - (j + 1))
          case measure => have := HK.out.1; omega
          case rel =>
            refine ⟨j + 1, u5, rfl, by omega, by go_num, HR.out.1, HR.out.2.1, by rw [HST.out]; exact HR.out.2.2.1, (show Below B w _ from (HGG.out.2.2.2.alloc (by omega) _)).trans HR.out.2.2.2.1, fun b h1 h2 h3 => ?_, fun q hq => ?_⟩
            · refine (HR.out.2.2.2.2.1 b (by simp; omega) h2 (fun e => ?_)).trans ((Below.heap_alloc wr _ b (by omega)).trans (HK.out.2.1 b h1 h2 h3))
              rcases HK.out.2.2 b e with h | h
              · exact h3 h
              · omega
            · rcases HR.out.2.2.2.2.2 q hq with h | h
              · exact HK.out.2.2 q h
              · right; simp at h; omega
      case atStart => exact ⟨0, u, by omega, by omega, rfl, HBP.out.1.alloc _, HBP.out.2.alloc _, HU.out.ext (by (repeat (first | with_reducible assumption | with_reducible exact Below.refl _ _ | with_reducible refine Below.setCell ?_ (by first | omega | (simp; done) | (simp; omega)) _ | with_reducible refine Below.alloc ?_ (by first | omega | (simp; done) | (simp; omega)) _ | with_reducible refine below_drewN ?_ _ | with_reducible refine Below.drew ?_))), by (repeat (first | with_reducible assumption | with_reducible exact Below.refl _ _ | with_reducible refine Below.setCell ?_ (by first | omega | (simp; done) | (simp; omega)) _ | with_reducible refine Below.alloc ?_ (by first | omega | (simp; done) | (simp; omega)) _ | with_reducible refine below_drewN ?_ _ | with_reducible refine Below.drew ?_)), fun b h1 h2 h3 => Below.heap_alloc w _ b h1, fun q hq => .inl hq⟩
theorem clipS_any (v : Value) (l : List Bytes) (lo : Nat) (w : World) (hv : Fr strRow 1 9 w lo v l) :
    Calls Tryz.prog 81 #[v] w fun e w' => ∃ u, e = .returned u ∧ Fr strRow 1 9 w' lo u l ∧ w = w' := by
  rcases hv.form with ⟨rfl, rfl⟩ | ⟨g, cap, cur, rfl, hlo, hc, hm, hB, hx⟩
  · go_enter Tryz.func81, Tryz.ntmps81
    go_wp2
    go_ret
    exact ⟨_, rfl, .inl ⟨rfl, rfl⟩, rfl⟩
  · go_enter Tryz.func81, Tryz.ntmps81
    go_wp2
    go_ret
    exact ⟨_, rfl, hv.clip, rfl⟩
theorem imUsX_any (x : Ex) (hx : UsOk x) (l : List Bytes) (lo P Q B : Nat) (v u : Value) (w : World) (hv : ExV w B v x) (hBP : Blk w P 45 #[u]) (hBQ : Blk w Q 93 #[fnV P Q]) (hG : GtS lo w u l) (hB : B ≤ P ∧ B ≤ Q) (hPl : P < lo) (hQl : Q < lo) (hPQ : P ≠ Q) (hlo : lo ≤ w.heap.size) (hl : l.length ≤ 100) :
    Calls Tryz.prog 79 #[v, .pointer (some ⟨P, 0, none⟩), .pointer (some ⟨Q, 0, none⟩)] w (UiP (usX l x) lo P Q B u w) := by
  rcases hx with ⟨e, rfl, hc⟩ | rfl
  · rw [usX_ex]
    exact imUses_n _ e (Nat.le_refl _) l lo P Q B v u w hv hBP hBQ hG hB hPl hQl hPQ hlo (by omega)
  · rw [usX_none]
    obtain ⟨k, m, s, A, c, kl, hex, rfl, hs, hc, hm, hkv⟩ := hv.form
    obtain ⟨rfl, rfl, rfl, rfl⟩ := Ex.mk.inj hex
    have HU := Lib.hid (And.intro hG (And.intro hBP hBQ))
    have hPw := hBP.lt
    have hQw := hBQ.lt
    clear hv hkv hG hBP hBQ
    go_enter Tryz.func79, Tryz.ntmps79
    go_wp2_with fail
    go_loopg [24] 0 (fun n i wr => n = 0 ∧ i = .int .i64 0 ∧ Below w.heap.size w wr)
    case atStart => exact ⟨rfl, rfl, by (repeat (first | with_reducible assumption | with_reducible exact Below.refl _ _ | with_reducible refine Below.setCell ?_ (by first | omega | (simp; done) | (simp; omega)) _ | with_reducible refine Below.alloc ?_ (by first | omega | (simp; done) | (simp; omega)) _ | with_reducible refine below_drewN ?_ _ | with_reducible refine Below.drew ?_))⟩
    case round =>
      obtain ⟨hk, rfl, hbl⟩ := hrel
      go_wp2_with fail
      refine bodyPost_ret (v := .tuple #[]) (by simp [results, Tryz.results79, go_sem]) rfl ?_
      exact ⟨rfl, u, HU.out.2.1.below hbl hPw, HU.out.2.2.below hbl hQw, HU.out.1.ext hbl, hbl.mono (by omega), fun b h1 _ _ => hbl.block b h1, fun q hq => .inl hq⟩
attribute [local go_sem] run_store_fn
set_option maxHeartbeats 2000000 in
theorem imStmtNames_any (s : Sm) (v : Value) (w : World) (hv : SmV w w.heap.size v s) (hE : Env w) : Calls Tryz.prog 28 #[v] w fun r w' => ∃ u, r = .returned u ∧ Fr strRow 1 9 w' w.heap.size u (smNm s) ∧ Below w.heap.size w w' := by
  have OK := Lib.hid (fun (w' : World) (h : Below w.heap.size w w') => imStmtOk_any s v w' ((hv.keep h (Nat.le_refl _)).more h.size) (hE.ext h))
  obtain ⟨A1, A2, c1, c2, rfl, hn, ht, hE1, hE2⟩ := hv.form2
  by_cases hso : smOkB s = true
  rotate_left
  · have hnm : smNm s = [] := by unfold smNm; rw [if_neg hso]
    have hso : smOkB s = false := by simpa using hso
    rw [hnm]
    rw [hso] at OK
    clear hE1 hE2 hv hnm hso
    go_enter Tryz.func28, Tryz.ntmps28
    go_wp2_with fail
    refine (OK.out _ (by (repeat (first | with_reducible assumption | with_reducible exact Below.refl _ _ | with_reducible refine Below.setCell ?_ (by first | omega | (simp; done) | (simp; omega)) _ | with_reducible refine Below.alloc ?_ (by first | omega | (simp; done) | (simp; omega)) _ | with_reducible refine below_drewN ?_ _ | with_reducible refine Below.drew ?_)))).mono ?_
    rintro r w1 ⟨rfl, hb1⟩
    go_wp2_with fail
    go_ret
    exact ⟨_, rfl, .inl ⟨rfl, rfl⟩, by (repeat (first | with_reducible assumption | with_reducible exact Below.refl _ _ | with_reducible refine Below.setCell ?_ (by first | omega | (simp; done) | (simp; omega)) _ | with_reducible refine Below.alloc ?_ (by first | omega | (simp; done) | (simp; omega)) _ | with_reducible refine below_drewN ?_ _ | with_reducible refine Below.drew ?_ | with_reducible refine Below.trans ?_ (Below.mono hb1 (by first | omega | (simp; done) | (simp; omega)))))⟩
  have hnm : smNm s = usX (usX [] s.ex) s.th := by unfold smNm; rw [if_pos hso]
  obtain ⟨hu1, hu2⟩ := sm_us hso
  have hl1 := usX_len hu1 []
  simp at hl1
  rw [hso] at OK
  rw [hnm]
  have C1 := Lib.hid (fun (w' : World) (lo P Q B : Nat) (h : Below w.heap.size w w') (h1 : w.heap.size ≤ B) => imUsX_any s.ex hu1 [] lo P Q B _ (.slice none 0 0) w' ((hE1.keep h (Nat.le_refl _)).more h1))
  have C2 := Lib.hid (fun (w' : World) (lo P Q B : Nat) (u : Value) (h : Below w.heap.size w w') (h1 : w.heap.size ≤ B) => imUsX_any s.th hu2 (usX [] s.ex) lo P Q B _ u w' ((hE2.keep h (Nat.le_refl _)).more h1))
  generalize usX (usX [] s.ex) s.th = l2 at *
  generalize usX [] s.ex = l1 at *
  clear hE1 hE2 hv hnm hso hu1 hu2
  generalize s.ex = ea at *
  generalize s.th = eb at *
  go_enter Tryz.func28, Tryz.ntmps28
  go_wp2_with fail
  refine (OK.out _ (by (repeat (first | with_reducible assumption | with_reducible exact Below.refl _ _ | with_reducible refine Below.setCell ?_ (by first | omega | (simp; done) | (simp; omega)) _ | with_reducible refine Below.alloc ?_ (by first | omega | (simp; done) | (simp; omega)) _ | with_reducible refine below_drewN ?_ _ | with_reducible refine Below.drew ?_)))).mono ?_
  rintro r w1 ⟨rfl, hb1⟩
  have hbw1 : Below w.heap.size w w1 := by (repeat (first | with_reducible assumption | with_reducible exact Below.refl _ _ | with_reducible refine Below.setCell ?_ (by first | omega | (simp; done) | (simp; omega)) _ | with_reducible refine Below.alloc ?_ (by first | omega | (simp; done) | (simp; omega)) _ | with_reducible refine below_drewN ?_ _ | with_reducible refine Below.drew ?_ | with_reducible refine Below.trans ?_ (Below.mono hb1 (by first | omega | (simp; done) | (simp; omega)))))
  have hz1 := hb1.size
  (try simp at hz1)
  have q : ∀ i, w1.cell? ⟨w.heap.size, i, none⟩ = _ := fun i => hb1.cell (p := ⟨w.heap.size, i, none⟩) (by simp)
  have q3 := q 3; have q4 := q 4; have q5 := q 5; have q6 := q 6; have q7 := q 7; have q8 := q 8; have q9 := q 9; have q10 := q 10
  simp [go_sem] at q3 q4 q5 q6 q7 q8 q9 q10
  clear q OK hb1
  go_upto_region 6 with fail
  generalize hW2 : World.alloc (World.alloc w1 _) _ = W2
  have hb12 : Below w1.heap.size w1 W2 := by rw [← hW2]; (repeat (first | with_reducible assumption | with_reducible exact Below.refl _ _ | with_reducible refine Below.setCell ?_ (by first | omega | (simp; done) | (simp; omega)) _ | with_reducible refine Below.alloc ?_ (by first | omega | (simp; done) | (simp; omega)) _ | with_reducible refine below_drewN ?_ _ | with_reducible refine Below.drew ?_))
  have hBP : Blk W2 w1.heap.size 45 #[.slice none 0 0] := by rw [← hW2]; exact (Blk.new _ _ _).alloc _
  have hBQ : Blk W2 (w1.heap.size + 1) 93 #[fnV w1.heap.size (w1.heap.size + 1)] := by
    rw [← hW2]
    have h := Blk.new (w1.alloc (.cells #[.slice none 0 0] 45)) 93 #[fnV w1.heap.size (w1.heap.size + 1)]
    rwa [World.size_alloc] at h
  clear hW2
  have hlw : w.heap.size ≤ w1.heap.size := by omega
  have hlt1 : w.heap.size < w1.heap.size := by omega
  have r3 := hb12.keepc q3; have r4 := hb12.keepc q4; have r5 := hb12.keepc q5; have r6 := hb12.keepc q6; have r7 := hb12.keepc q7; have r8 := hb12.keepc q8; have r9 := hb12.keepc q9; have r10 := hb12.keepc q10
  have cQ := hBQ.cell 0
  simp at cQ
  have hz12 := hBQ.lt
  have CC := Lib.hid (C1.out W2 (w1.heap.size + 1 + 1) w1.heap.size (w1.heap.size + 1) w1.heap.size (hbw1.ext hb12) hlw hBP hBQ (Gt.nil _ _ _ _ _) ⟨Nat.le_refl _, by omega⟩ (by omega) (by omega) (by omega) (by omega) (by simp))
  clear q3 q4 q5 q6 q7 q8 q9 q10 hBP hBQ C1
  go_upto_region 7 with (first | (go_at_call 79; refine CC.out.mono ?_; rintro r w3 ⟨rfl, u3, hP3, hQ3, hG3, hb3, hK3, hO3⟩) | fail)
  have s7 := (hb3.cell (p := ⟨w.heap.size, 7, none⟩) hlt1).trans r7
  have s8 := (hb3.cell (p := ⟨w.heap.size, 8, none⟩) hlt1).trans r8
  have s9 := (hb3.cell (p := ⟨w.heap.size, 9, none⟩) hlt1).trans r9
  have s10 := (hb3.cell (p := ⟨w.heap.size, 10, none⟩) hlt1).trans r10
  have cQ3 := hQ3.cell 0
  simp at cQ3
  have hz3 := hb3.size
  have hb13 : Below w1.heap.size w1 w3 := hb12.trans hb3
  have CD := Lib.hid (C2.out w3 (w1.heap.size + 1 + 1) w1.heap.size (w1.heap.size + 1) w1.heap.size u3 (hbw1.ext hb13) hlw hP3 hQ3 hG3 ⟨Nat.le_refl _, by omega⟩ (by omega) (by omega) (by omega) (by omega) (by omega))
  clear r3 r4 r5 r6 r7 r8 r9 r10 cQ CC hP3 hQ3 hG3 hK3 hO3
  go_upto_region 8 with (first | (go_at_call 79; refine CD.out.mono ?_; rintro r w4 ⟨rfl, u4, hP4, hQ4, hG4, hb4, hK4, hO4⟩) | fail)
  have cP4 := hP4.cell 0
  simp at cP4
  have hb14 : Below w1.heap.size w1 w4 := hb13.trans hb4
  have CL := Lib.hid (clipS_any u4 l2 (w1.heap.size + 1 + 1) w4 (hG4.fr (fun _ => rfl)))
  clear s7 s8 s9 s10 cQ3 CD hP4 hQ4 hG4 hK4 hO4
  go_wp2_with fail
  refine CL.out.mono ?_
  rintro r _ ⟨u5, rfl, hF, rfl⟩
  have HF := Lib.hid (hF.less (show w.heap.size ≤ w1.heap.size + 1 + 1 by omega))
  rcases hF.form with ⟨rfl, _⟩ | ⟨g5, cap5, cur5, rfl, _⟩
  all_goals
    clear hF
    go_wp2_with fail
    go_ret
    exact ⟨_, rfl, HF.out, hbw1.ext hb14⟩
end Go.Proofs.YtgakjhaepdigpaaGreatDoor
