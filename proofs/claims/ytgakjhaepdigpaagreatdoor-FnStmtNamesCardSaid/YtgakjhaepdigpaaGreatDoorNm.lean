
/- The names in what is reckoned: the reference's l5Uses. -/
import Derived.Test.YtgakjhaepdigpaaGreatDoorLasts
import Derived.Test.YtgakjhaepdigpaaGreatDoorImOk
import Derived.Test.YtgakjhaepdigpaaGreatDoorImW
import Derived.Test.YtgakjhaepdigpaaGreatDoorStSp
namespace Go.Proofs.YtgakjhaepdigpaaGreatDoor
set_option maxRecDepth 100000
set_option linter.unusedSimpArgs false
set_option linter.unusedVariables false
open Go.RowKit
attribute [local go_sem] bs_toList bs_get bs_size

def addN (l : List Bytes) (s : Bytes) : List Bytes := if s ∈ l then l else l ++ [s]
def usesL : List Bytes → E → List Bytes
  | l, .num _ => l
  | l, .nam s => addN l s
  | l, .two _ a b => usesL (usesL l a) b
  | l, .cast _ a => usesL l a
def kidsE : E → List E
  | .num _ => []
  | .nam _ => []
  | .two _ a b => [a, b]
  | .cast _ a => [a]
def headN (l : List Bytes) (x : Ex) : List Bytes := if x.kind = 2 then addN l x.s else l
theorem kids_ex (e : E) : e.ex.kids = (kidsE e).map E.ex := by cases e <;> rfl
theorem uses_fold (l : List Bytes) (e : E) : usesL l e = (kidsE e).foldl usesL (headN l e.ex) := by cases e <;> simp [usesL, kidsE, headN, E.ex, Ex.kind, Ex.s]
def sumC : List E → Nat
  | [] => 0
  | e :: l => e.cnt + sumC l
theorem kid_cnt (e : E) : sumC (kidsE e) + 1 ≤ e.cnt := by cases e <;> simp [kidsE, sumC, E.cnt] <;> omega
theorem sum_mem : ∀ (ks : List E) (g : E), g ∈ ks → g.cnt ≤ sumC ks
  | [], g, h => by simp at h
  | e :: ks, g, h => by
    rw [List.mem_cons] at h
    simp only [sumC]
    rcases h with rfl | h
    · omega
    · have := sum_mem ks g h; omega
theorem kid_lt {e g : E} (h : g ∈ kidsE e) : g.cnt < e.cnt := by
  have h1 := sum_mem _ _ h
  have h2 := kid_cnt e
  omega
theorem kid_none (e : E) (h : e.ex.kind = 2) : kidsE e = [] := by cases e <;> simp [E.ex, Ex.kind] at h <;> rfl
theorem addN_len (l : List Bytes) (s : Bytes) : (addN l s).length ≤ l.length + 1 := by unfold addN; split <;> simp
theorem uses_len : ∀ (e : E) (l : List Bytes), (usesL l e).length ≤ l.length + e.cnt
  | .num _, l => by simp [usesL]
  | .nam s, l => by simpa [usesL, E.cnt] using addN_len l s
  | .two _ a b, l => by have h1 := uses_len a l; have h2 := uses_len b (usesL l a); simp only [usesL, E.cnt]; omega
  | .cast _ a, l => by have h1 := uses_len a l; simp only [usesL, E.cnt]; omega
theorem fold_len : ∀ (ks : List E) (l : List Bytes), (ks.foldl usesL l).length ≤ l.length + sumC ks
  | [], l => by simp [sumC]
  | e :: ks, l => by
    have h1 := uses_len e l
    have h2 := fold_len ks (usesL l e)
    simp only [List.foldl_cons, sumC]
    omega
theorem sum_take : ∀ (ks : List E) (j : Nat), sumC (ks.take j) ≤ sumC ks
  | [], j => by simp [sumC]
  | e :: ks, 0 => by simp [sumC]
  | e :: ks, j + 1 => by have := sum_take ks j; simp only [List.take_succ_cons, sumC]; omega
theorem sum_at : ∀ (ks : List E) (j : Nat) (g : E), ks[j]? = some g → sumC (ks.take j) + g.cnt ≤ sumC ks
  | [], j, g, h => by simp at h
  | e :: ks, 0, g, h => by simp at h; subst h; simp [sumC]
  | e :: ks, j + 1, g, h => by have := sum_at ks j g (by simpa using h); simp only [List.take_succ_cons, sumC]; omega
theorem fold_step {ks : List E} {j : Nat} {g : E} (h : ks[j]? = some g) (l : List Bytes) : (ks.take (j + 1)).foldl usesL l = usesL ((ks.take j).foldl usesL l) g := by
  obtain ⟨hj, rfl⟩ := List.getElem?_eq_some_iff.1 h
  rw [List.take_succ_eq_append_getElem hj, List.foldl_append]
  rfl
theorem last_ex {l : List Bytes} {s : Bytes} : ∀ n : Nat, (∃ i : Nat, i < n ∧ l[i]? = some s) → ∃ j : Nat, j < n ∧ l[j]? = some s ∧ ∀ (t : Nat) (x : Bytes), j < t → t < n → l[t]? = some x → x ≠ s
  | 0, h => by obtain ⟨i, hi, _⟩ := h; omega
  | n + 1, h => by
    by_cases hn : l[n]? = some s
    · exact ⟨n, by omega, hn, fun t x h1 h2 => by omega⟩
    · obtain ⟨i, hi, hs⟩ := h
      have hi2 : i < n := by
        rcases Nat.lt_or_ge i n with h | h
        · exact h
        · have : i = n := by omega
          subst this
          exact absurd hs hn
      obtain ⟨j, hj, h1, h2⟩ := last_ex n ⟨i, hi2, hs⟩
      refine ⟨j, by omega, h1, fun t x h3 h4 h5 e => ?_⟩
      by_cases ht : t = n
      · subst ht; subst e; exact hn h5
      · exact h2 t x h3 (by omega) h5 e
theorem lastI_mem {l : List Bytes} {s : Bytes} (h : s ∈ l) : 0 ≤ lastI l s := by
  obtain ⟨i, hi, he⟩ := List.mem_iff_getElem.1 h
  obtain ⟨j, hj, h1, h2⟩ := last_ex (s := s) l.length ⟨i, hi, by rw [← he]; exact List.getElem?_eq_getElem hi⟩
  rw [lastI_some h1 (fun t x h3 h4 => h2 t x h3 ((List.getElem?_eq_some_iff.1 h4).1) h4)]
  omega
theorem lastI_not {l : List Bytes} {s : Bytes} (h : s ∉ l) : lastI l s = -1 := lastI_none (fun x hx e => h (e ▸ hx))
theorem grown_o {a b c : World} {ro r : Option Nat} (h : a.grownBy b ro) (hg : b.grownBy c r) (hr : ∀ q, r = some q → ro = some q ∨ a.heap.size ≤ q) : a.grownBy c ro :=
  ⟨hg.os.trans h.os, hg.tape.trans h.tape, hg.output.trans h.output, Nat.le_trans h.size hg.size, fun k hk hne => (hg.block k (Nat.lt_of_lt_of_le hk h.size) (fun e => by
    rcases hr k e.symm with h' | h'
    · exact hne h'.symm
    · omega)).trans (h.block k hk hne)⟩
theorem news_s {V : World} {n : Nat} {l : List Bytes} {t : TypeId} (h : V.heap.size = n) : ∀ (j : Nat) (u : Value), (l.flatMap strRow)[j]? = some u → (V.alloc (.cells (l.flatMap strRow).toArray t)).cell? ((⟨n, 0, none⟩ : Addr).add j) = some u := h ▸ World.news_of_block (heap_alloc_new V _)
/-- what l5Uses tells: the names, gathered in the call's own row -/
def UsP (l' : List Bytes) (lo : Nat) (u : Value) (w : World) (r : Ending) (w' : World) : Prop := ∃ u', r = .returned u' ∧ GtS lo w' u' l' ∧ w.grownBy w' u.ownBlock ∧ (∀ q, u'.ownBlock = some q → u.ownBlock = some q ∨ w.heap.size ≤ q)
set_option maxHeartbeats 2000000 in
theorem spUses_n : ∀ (n : Nat) (e : E), e.cnt ≤ n → ∀ (l : List Bytes) (lo : Nat) (v u : Value) (w : World), ExV w lo v e.ex → GtS lo w u l → lo ≤ w.heap.size → l.length + e.cnt ≤ 1000 → Calls Tryz.prog 82 #[u, v] w (UsP (usesL l e) lo u w) := by
  intro n
  induction n with
  | zero => intro e h; have := E.cnt_pos e; omega
  | succ n ih =>
    intro e hsz l lo v u w hv hG hlo hcn
    have IH := Lib.hid (fun (g : E) (hg : g ∈ kidsE e) => ih g (by have := kid_lt hg; omega))
    have HU2 := Lib.hid (uses_fold l e)
    have hkc := kid_cnt e
    have HKN := Lib.hid (kid_none e)
    obtain ⟨k, m, s, A, c, kl, hex, rfl, hs, hc, hm, hkv⟩ := hv.form
    have HKL := Lib.hid (kids_ex e)
    have HHD := Lib.hid (show headN l e.ex = if k = 2 then addN l s else l by rw [hex]; rfl)
    rw [hex] at HKL HKN
    simp only [Ex.kids, Ex.kind] at HKL HKN
    rw [HHD.out] at HU2
    have HKV := Lib.hid hkv
    have HU := Lib.hid hG
    obtain ⟨Au, cu, rfl, _, _⟩ := hG.val
    generalize kidsE e = ks at *
    generalize e.cnt = ec at *
    generalize usesL l e = lr at *
    have hkll : kl.length = ks.length := by rw [HKL.out, List.length_map]
    have HKLL := Lib.hid hkll
    clear hkll hv hex hkv ih HHD
    have hsx : (ByteArray.size (bs s)) ≤ 9223372036854775807 := hs
    have hbo : ∀ (x : _root_.Go.Obj), w.grownBy (w.alloc x) (Value.slice Au l.length cu).ownBlock := fun x => grown_al (grown_rfl _ _) x
    by_cases hk2 : k = 2
    · have hd2 : (k == 2) = true := by simpa using hk2
      by_cases hm2 : s ∈ l
      · have hla := lastI_mem hm2
        have FD := Lib.hid (fun (w' : World) (h : Below w.heap.size w w') => spFind_any l s _ w' ((hG.ext h).sl (fun _ => rfl)))
        have hd : decide (lastI l s < 0) = false := by rw [decide_eq_false_iff_not]; omega
        replace HU2 := Lib.hid (show lr = ks.foldl usesL l by rw [HU2.out, if_pos hk2]; unfold addN; rw [if_pos hm2])
        generalize lastI l s = li at *
        have HBO := Lib.hid hbo
        clear hG hm2 hbo hk2
        generalize hu : Value.slice Au l.length cu = u at *
        go_enter Tryz.func82, Tryz.ntmps82
        go_wp2_with fail
        refine (FD.out _ (by (repeat (first | with_reducible assumption | with_reducible exact Below.refl _ _ | with_reducible refine Below.setCell ?_ (by first | omega | (simp; done) | (simp; omega)) _ | with_reducible refine Below.alloc ?_ (by first | omega | (simp; done) | (simp; omega)) _ | with_reducible refine below_drewN ?_ _ | with_reducible refine Below.drew ?_)))).mono ?_
        rintro r _ ⟨rfl, rfl⟩
        go_wp2_with fail
        go_loopg [0, 5] kl.length (fun n o i wr => ∃ j : Nat, n = kl.length - j ∧ j ≤ kl.length ∧ i = .int .i64 j ∧ GtS lo wr o ((ks.take j).foldl usesL l) ∧ w.grownBy wr u.ownBlock ∧ (∀ q, o.ownBlock = some q → u.ownBlock = some q ∨ w.heap.size ≤ q) ∧ Blk wr w.heap.size 24 #[.int .i64 k, .int .i64 m, .string (bs s), .slice A kl.length c] ∧ (∀ q, o.ownBlock = some q → q ≠ w.heap.size))
        case' round =>
          obtain ⟨j, hk, hj, rfl, hG, hg, hO, hBx, hX⟩ := hrel
          have HK := Lib.hid (And.intro hk (And.intro hO hX))
          have x3 := hBx.cell 3
          simp at x3
          have hz := hg.size
          have HGG := Lib.hid (And.intro hG (And.intro hg hBx))
          clear hk hO hX
          have hbl : Below lo w wr := below_app (Below.refl lo w) hg (fun q hq => (HU.out.lt hq).1) hlo
          by_cases hlt0 : j < kl.length
          rotate_left
          · obtain rfl : j = kl.length := by omega
            clear hG hg hBx
            go_wp2_with fail
            go_ret
            have hG := HGG.out.1
            rw [List.take_of_length_le (by rw [HKLL.out]; exact Nat.le_refl _)] at hG
            exact ⟨_, rfl, by rw [HU2.out]; exact hG, HGG.out.2.1, HK.out.2.1⟩
          · have hlk : j < kl.length := hlt0
            have hlt : j < ks.length := by rw [← HKLL.out]; exact hlt0
            obtain ⟨b, o', p1, q1, s1, A1, c1, m1, rfl, hb, hgk, hs1, hm1, hc1, hk1, f0, f1, f2, f3⟩ := ex_at HKV.out hlk
            have g0 := f0 ⟨wr, hbl⟩; have g1 := f1 ⟨wr, hbl⟩; have g2 := f2 ⟨wr, hbl⟩; have g3 := f3 ⟨wr, hbl⟩
            obtain ⟨g, hgj⟩ : ∃ g, ks[j]? = some g := ⟨ks[j], List.getElem?_eq_getElem hlt⟩
            have hex : Ex.mk p1 q1 s1 m1 = g.ex := by
              have h1 := hgk
              rw [HKL.out, List.getElem?_map, hgj] at h1
              exact (Option.some.inj h1).symm
            have hcn := sum_at ks j _ hgj
            have hfl := fold_len (ks.take j) l
            have hl1 : (l : List Bytes).length ≤ l.length + 1 := by simp
            rw [bs_size] at hs1
            have CK := Lib.hid (IH.out g (List.mem_of_getElem? hgj) ((ks.take j).foldl usesL l) lo _ _ wr (by rw [← hex]; exact ⟨_, rfl, hs1, hk1.keep hbl (Nat.le_refl _)⟩) hG (by omega) (by omega))
            have HST := Lib.hid (fold_step hgj l)
            clear hG hg hBx f0 f1 f2 f3 hgk hk1 hex hcn hfl hl1 hgj hlt
            go_wp2_with fail
            refine CK.out.mono ?_
            rintro r w5 ⟨u5, rfl, hG5, hg5, hO5⟩
            have hBx5 : Blk w5 w.heap.size 24 _ := (hg5.block _ HGG.out.2.2.lt (fun e => HK.out.2.2 _ e.symm rfl)).trans HGG.out.2.2
            have HR := Lib.hid (And.intro hG5 (And.intro (grown_o HGG.out.2.1 hg5 HK.out.2.1) (And.intro hO5 hBx5)))
            clear hG5 hg5 hO5 hBx5
            go_wp2_with fail
            go_roundg (kl.length - (j + 1))
            case measure => have := HK.out.1; omega
            case rel => exact ⟨j + 1, rfl, by omega, by go_num, by rw [HST.out]; exact HR.out.1, HR.out.2.1, fun q hq => by
              rcases HR.out.2.2.1 q hq with h | h
              · exact HK.out.2.1 q h
              · exact .inr (by omega), HR.out.2.2.2, fun q hq => by
              rcases HR.out.2.2.1 q hq with h | h
              · exact HK.out.2.2 q h
              · have := HGG.out.2.2.lt; omega⟩
        case atStart => exact ⟨0, by omega, by omega, rfl, HU.out.ext (by (repeat (first | with_reducible assumption | with_reducible exact Below.refl _ _ | with_reducible refine Below.setCell ?_ (by first | omega | (simp; done) | (simp; omega)) _ | with_reducible refine Below.alloc ?_ (by first | omega | (simp; done) | (simp; omega)) _ | with_reducible refine below_drewN ?_ _ | with_reducible refine Below.drew ?_))), HBO.out _, fun q hq => .inl hq, Blk.new _ _ _, fun q hq => by have := (HU.out.lt hq).2; omega⟩
      · have FD := Lib.hid (fun (w' : World) (h : Below w.heap.size w w') => spFind_any l s _ w' ((hG.ext h).sl (fun _ => rfl)))
        rw [lastI_not hm2] at FD
        replace HU2 := Lib.hid (show lr = ks.foldl usesL (l ++ [s]) by rw [HU2.out, if_pos hk2]; unfold addN; rw [if_neg hm2])
        have HBO := Lib.hid hbo
        clear hG hm2 hbo hk2
        generalize hu : Value.slice Au l.length cu = u at *
        go_enter Tryz.func82, Tryz.ntmps82
        go_wp2_with fail
        refine (FD.out _ (by (repeat (first | with_reducible assumption | with_reducible exact Below.refl _ _ | with_reducible refine Below.setCell ?_ (by first | omega | (simp; done) | (simp; omega)) _ | with_reducible refine Below.alloc ?_ (by first | omega | (simp; done) | (simp; omega)) _ | with_reducible refine below_drewN ?_ _ | with_reducible refine Below.drew ?_)))).mono ?_
        rintro r _ ⟨rfl, rfl⟩
        go_wp2_with (first
          | (at_builtin; refine aps_plain (by rfl) (.tmp 16) (.tmp 19) (by rfl) lo u l (by rfl) (HU.out.ext (by (repeat (first | with_reducible assumption | with_reducible exact Below.refl _ _ | with_reducible refine Below.setCell ?_ (by first | omega | (simp; done) | (simp; omega)) _ | with_reducible refine Below.alloc ?_ (by first | omega | (simp; done) | (simp; omega)) _ | with_reducible refine below_drewN ?_ _ | with_reducible refine Below.drew ?_)))) ⟨w.heap.size + 1, 0, none⟩ 1 [s] (by rfl) (news_s (by simp)) Nat.zero_lt_one (by simp; omega) (by simp; omega) ?_; intro ga capa wa hGa hgra hata)
          | fail)
        have hza := hgra.size
        (try simp at hza)
        have HGA := Lib.hid (And.intro hGa (And.intro hgra hata))
        clear hGa hgra hata
        go_loopg [0, 5] kl.length (fun n o i wr => ∃ j : Nat, n = kl.length - j ∧ j ≤ kl.length ∧ i = .int .i64 j ∧ GtS lo wr o ((ks.take j).foldl usesL (l ++ [s])) ∧ w.grownBy wr u.ownBlock ∧ (∀ q, o.ownBlock = some q → u.ownBlock = some q ∨ w.heap.size ≤ q) ∧ Blk wr w.heap.size 24 #[.int .i64 k, .int .i64 m, .string (bs s), .slice A kl.length c] ∧ (∀ q, o.ownBlock = some q → q ≠ w.heap.size))
        case' round =>
          obtain ⟨j, hk, hj, rfl, hG, hg, hO, hBx, hX⟩ := hrel
          have HK := Lib.hid (And.intro hk (And.intro hO hX))
          have x3 := hBx.cell 3
          simp at x3
          have hz := hg.size
          have HGG := Lib.hid (And.intro hG (And.intro hg hBx))
          clear hk hO hX
          have hbl : Below lo w wr := below_app (Below.refl lo w) hg (fun q hq => (HU.out.lt hq).1) hlo
          by_cases hlt0 : j < kl.length
          rotate_left
          · obtain rfl : j = kl.length := by omega
            clear hG hg hBx
            go_wp2_with fail
            go_ret
            have hG := HGG.out.1
            rw [List.take_of_length_le (by rw [HKLL.out]; exact Nat.le_refl _)] at hG
            exact ⟨_, rfl, by rw [HU2.out]; exact hG, HGG.out.2.1, HK.out.2.1⟩
          · have hlk : j < kl.length := hlt0
            have hlt : j < ks.length := by rw [← HKLL.out]; exact hlt0
            obtain ⟨b, o', p1, q1, s1, A1, c1, m1, rfl, hb, hgk, hs1, hm1, hc1, hk1, f0, f1, f2, f3⟩ := ex_at HKV.out hlk
            have g0 := f0 ⟨wr, hbl⟩; have g1 := f1 ⟨wr, hbl⟩; have g2 := f2 ⟨wr, hbl⟩; have g3 := f3 ⟨wr, hbl⟩
            obtain ⟨g, hgj⟩ : ∃ g, ks[j]? = some g := ⟨ks[j], List.getElem?_eq_getElem hlt⟩
            have hex : Ex.mk p1 q1 s1 m1 = g.ex := by
              have h1 := hgk
              rw [HKL.out, List.getElem?_map, hgj] at h1
              exact (Option.some.inj h1).symm
            have hcn := sum_at ks j _ hgj
            have hfl := fold_len (ks.take j) (l ++ [s])
            have hl1 : ((l ++ [s]) : List Bytes).length ≤ l.length + 1 := by simp
            rw [bs_size] at hs1
            have CK := Lib.hid (IH.out g (List.mem_of_getElem? hgj) ((ks.take j).foldl usesL (l ++ [s])) lo _ _ wr (by rw [← hex]; exact ⟨_, rfl, hs1, hk1.keep hbl (Nat.le_refl _)⟩) hG (by omega) (by omega))
            have HST := Lib.hid (fold_step hgj (l ++ [s]))
            clear hG hg hBx f0 f1 f2 f3 hgk hk1 hex hcn hfl hl1 hgj hlt
            go_wp2_with fail
            refine CK.out.mono ?_
            rintro r w5 ⟨u5, rfl, hG5, hg5, hO5⟩
            have hBx5 : Blk w5 w.heap.size 24 _ := (hg5.block _ HGG.out.2.2.lt (fun e => HK.out.2.2 _ e.symm rfl)).trans HGG.out.2.2
            have HR := Lib.hid (And.intro hG5 (And.intro (grown_o HGG.out.2.1 hg5 HK.out.2.1) (And.intro hO5 hBx5)))
            clear hG5 hg5 hO5 hBx5
            go_wp2_with fail
            go_roundg (kl.length - (j + 1))
            case measure => have := HK.out.1; omega
            case rel => exact ⟨j + 1, rfl, by omega, by go_num, by rw [HST.out]; exact HR.out.1, HR.out.2.1, fun q hq => by
              rcases HR.out.2.2.1 q hq with h | h
              · exact HK.out.2.1 q h
              · exact .inr (by omega), HR.out.2.2.2, fun q hq => by
              rcases HR.out.2.2.1 q hq with h | h
              · exact HK.out.2.2 q h
              · have := HGG.out.2.2.lt; omega⟩
        case atStart =>
          have hown := fun q (hq : u.ownBlock = some q) => (HU.out.lt hq).2
          refine ⟨0, by omega, by omega, rfl, HGA.out.1.len (by simp) rfl, grown_tr (grown_al (grown_al (grown_rfl _ _) _) _) HGA.out.2.1, fun q hq => ?_, ?_, fun q hq => ?_⟩
          · have hq' : ga = q := by simpa [Value.ownBlock] using hq
            subst hq'
            rcases HGA.out.2.2 with h | h
            · exact .inl h
            · right; rw [h]; simp; omega
          · exact (HGA.out.2.1.block _ (by simp; omega) (fun e => by have := hown _ e.symm; omega)).trans ((Blk.new w _ _).alloc _)
          · have hq' : ga = q := by simpa [Value.ownBlock] using hq
            subst hq'
            rcases HGA.out.2.2 with h | h
            · have := hown _ h; omega
            · rw [h]; simp; omega
    · have hd : (k == 2) = false := by simpa using hk2
      replace HU2 := Lib.hid (show lr = ks.foldl usesL l by rw [HU2.out, if_neg hk2])
      have HBO := Lib.hid hbo
      clear hG hbo
      generalize hu : Value.slice Au l.length cu = u at *
      go_enter Tryz.func82, Tryz.ntmps82
      go_wp2_with fail
      go_loopg [0, 5] kl.length (fun n o i wr => ∃ j : Nat, n = kl.length - j ∧ j ≤ kl.length ∧ i = .int .i64 j ∧ GtS lo wr o ((ks.take j).foldl usesL l) ∧ w.grownBy wr u.ownBlock ∧ (∀ q, o.ownBlock = some q → u.ownBlock = some q ∨ w.heap.size ≤ q) ∧ Blk wr w.heap.size 24 #[.int .i64 k, .int .i64 m, .string (bs s), .slice A kl.length c] ∧ (∀ q, o.ownBlock = some q → q ≠ w.heap.size))
      case' round =>
        obtain ⟨j, hk, hj, rfl, hG, hg, hO, hBx, hX⟩ := hrel
        have HK := Lib.hid (And.intro hk (And.intro hO hX))
        have x3 := hBx.cell 3
        simp at x3
        have hz := hg.size
        have HGG := Lib.hid (And.intro hG (And.intro hg hBx))
        clear hk hO hX
        have hbl : Below lo w wr := below_app (Below.refl lo w) hg (fun q hq => (HU.out.lt hq).1) hlo
        by_cases hlt0 : j < kl.length
        rotate_left
        · obtain rfl : j = kl.length := by omega
          clear hG hg hBx
          go_wp2_with fail
          go_ret
          have hG := HGG.out.1
          rw [List.take_of_length_le (by rw [HKLL.out]; exact Nat.le_refl _)] at hG
          exact ⟨_, rfl, by rw [HU2.out]; exact hG, HGG.out.2.1, HK.out.2.1⟩
        · have hlk : j < kl.length := hlt0
          have hlt : j < ks.length := by rw [← HKLL.out]; exact hlt0
          obtain ⟨b, o', p1, q1, s1, A1, c1, m1, rfl, hb, hgk, hs1, hm1, hc1, hk1, f0, f1, f2, f3⟩ := ex_at HKV.out hlk
          have g0 := f0 ⟨wr, hbl⟩; have g1 := f1 ⟨wr, hbl⟩; have g2 := f2 ⟨wr, hbl⟩; have g3 := f3 ⟨wr, hbl⟩
          obtain ⟨g, hgj⟩ : ∃ g, ks[j]? = some g := ⟨ks[j], List.getElem?_eq_getElem hlt⟩
          have hex : Ex.mk p1 q1 s1 m1 = g.ex := by
            have h1 := hgk
            rw [HKL.out, List.getElem?_map, hgj] at h1
            exact (Option.some.inj h1).symm
          have hcn := sum_at ks j _ hgj
          have hfl := fold_len (ks.take j) l
          have hl1 : (l : List Bytes).length ≤ l.length + 1 := by simp
          rw [bs_size] at hs1
          have CK := Lib.hid (IH.out g (List.mem_of_getElem? hgj) ((ks.take j).foldl usesL l) lo _ _ wr (by rw [← hex]; exact ⟨_, rfl, hs1, hk1.keep hbl (Nat.le_refl _)⟩) hG (by omega) (by omega))
          have HST := Lib.hid (fold_step hgj l)
          clear hG hg hBx f0 f1 f2 f3 hgk hk1 hex hcn hfl hl1 hgj hlt
          go_wp2_with fail
          refine CK.out.mono ?_
          rintro r w5 ⟨u5, rfl, hG5, hg5, hO5⟩
          have hBx5 : Blk w5 w.heap.size 24 _ := (hg5.block _ HGG.out.2.2.lt (fun e => HK.out.2.2 _ e.symm rfl)).trans HGG.out.2.2
          have HR := Lib.hid (And.intro hG5 (And.intro (grown_o HGG.out.2.1 hg5 HK.out.2.1) (And.intro hO5 hBx5)))
          clear hG5 hg5 hO5 hBx5
          go_wp2_with fail
          go_roundg (kl.length - (j + 1))
          case measure => have := HK.out.1; omega
          case rel => exact ⟨j + 1, rfl, by omega, by go_num, by rw [HST.out]; exact HR.out.1, HR.out.2.1, fun q hq => by
            rcases HR.out.2.2.1 q hq with h | h
            · exact HK.out.2.1 q h
            · exact .inr (by omega), HR.out.2.2.2, fun q hq => by
            rcases HR.out.2.2.1 q hq with h | h
            · exact HK.out.2.2 q h
            · have := HGG.out.2.2.lt; omega⟩
      case atStart => exact ⟨0, by omega, by omega, rfl, HU.out.ext (by (repeat (first | with_reducible assumption | with_reducible exact Below.refl _ _ | with_reducible refine Below.setCell ?_ (by first | omega | (simp; done) | (simp; omega)) _ | with_reducible refine Below.alloc ?_ (by first | omega | (simp; done) | (simp; omega)) _ | with_reducible refine below_drewN ?_ _ | with_reducible refine Below.drew ?_))), HBO.out _, fun q hq => .inl hq, Blk.new _ _ _, fun q hq => by have := (HU.out.lt hq).2; omega⟩
end Go.Proofs.YtgakjhaepdigpaaGreatDoor
