
/- Words that are drawn, one in two torn. -/
import Derived.Test.YtojoknalnmmpeaaGreatDoorEwX
import Derived.Deep.Upon
namespace Go.Proofs.YtojoknalnmmpeaaGreatDoor
set_option maxRecDepth 100000
set_option linter.unusedSimpArgs false
set_option linter.unusedVariables false
open Go.RowKit
attribute [local go_sem] bs_toList bs_get bs_size

theorem slb_cells2 {w : World} {B n c : Nat} {ad : Addr} {l : List Bytes} (h : SlB w B (.slice (some ad) n c) l) (h0 : 0 < l.length) : ∀ (j : Nat) (u : Value), (l.flatMap strRow)[j]? = some u → w.cell? (ad.add j) = some u := by
  obtain ⟨A', c', hv, _, _, hh⟩ := h
  obtain ⟨b, o, hA, _, hx⟩ := hh h0
  injection hv with e1 _ _
  rw [hA] at e1
  obtain rfl := Option.some.inj e1
  intro j u hu
  have hj : j < l.length := by
    have := (List.getElem?_eq_some_iff.1 hu).1
    have e : (l.flatMap strRow).length = l.length * 1 := flat_len (row := strRow) (k := 1) (fun _ => rfl) l
    omega
  have hf := flat_at' (row := strRow) (k := 1) (fun _ => rfl) l j l[j] (List.getElem?_eq_getElem hj) 0 (.string (bs l[j])) rfl
  rw [Nat.mul_one, Nat.add_zero] at hf
  rw [hf] at hu
  obtain rfl := Option.some.inj hu
  have := hx j l[j] (List.getElem?_eq_getElem hj) 0 _ rfl
  rw [Addr.add_lit]
  simpa using this
/-- append what a slice of words holds, be it nothing -/
theorem app_sl {ops : Array Oper} {rest : List Oper} {o : Oper} {a : Act} {Q : Exit → Act → World → Prop} {w : World} (hgd : o.guard = none) (s x : Operand) (ho : o.op = .call { callee := .builtin .append, args := #[s, x], argTypes := #[27, 27] })
    (B : Nat) (v : Value) (l : List Bytes) (hs : a.eval s = v) (hv : GtS B w v l) (B2 : Nat) (u : Value) (l2 : List Bytes) (hx : a.eval x = u) (hu : SlB w B2 u l2) (hl : l.length + l2.length ≤ 1000000) (hB : B ≤ w.heap.size)
    (h : ∀ u' w', GtS B w' u' (l ++ l2) → w.grownBy w' v.ownBlock → (∀ q, u'.ownBlock = some q → v.ownBlock = some q ∨ q = w.heap.size) → wpList Tryz.prog ops Q rest (a.put o.dst u') w') : wpList Tryz.prog ops Q (o :: rest) a w := by
  have key : ∀ {u0 : Value}, _root_.Go.Src Tryz.prog 1 27 u0 0 [] w → a.eval x = u0 → l2 = [] → wpList Tryz.prog ops Q (o :: rest) a w := by
    intro u0 hsrc hx hl2
    subst hl2
    rw [List.append_nil] at h
    have hq := h v w hv ⟨rfl, rfl, rfl, Nat.le_refl _, fun _ _ _ => rfl⟩ (fun q hq => .inl hq)
    obtain ⟨A, c, rfl, hc, hm⟩ := hv.val
    obtain ⟨i0, z, b, hi, hz0, hz1, hz2, hb, hzs⟩ := rtStr.info
    have hrun := run_append_nothing (P := Tryz.prog) w 27 27 o.type 9 i0 rtStr.und hi A l.length c hc u0 (by rw [hz1]; exact hsrc)
    refine wpList_plain hgd fun _ hK => ?_
    unfold Oper.wp
    simp [execOp, ho, resolve, invoke, builtin, hs, hx, hrun, Result.andThen]
    exact hK _ _ hq
  obtain ⟨A, c, rfl, hc, hm, hh⟩ := id hu
  by_cases h0 : l2.length = 0
  · rw [h0] at hx
    cases A with
    | none => exact key (_root_.Go.Src.ofNil w rtStr.und c) hx (List.length_eq_zero_iff.1 h0)
    | some ad => exact key (_root_.Go.Src.ofSlice w rtStr.und ad 0 c [] (by simp) (fun j u h => by simp at h) (fun u h => by cases h)) hx (List.length_eq_zero_iff.1 h0)
  · obtain ⟨b, o', rfl, _, _⟩ := hh (by omega)
    exact app_plain rtStr hgd s x ho B v l hs hv ⟨b, o', none⟩ c l2 hx (slb_cells2 hu (by omega)) (by omega) hl hB (fun g' cap' w' h1 h2 h3 => h _ w' (by
      have e : l.length + l2.length = (l ++ l2).length := by simp
      exact h1) h2 (fun q hq => by
        have hq' : g' = q := by simpa [Value.ownBlock] using hq
        subst hq'
        exact h3))
theorem slb_drop {w : World} {B b o n c m : Nat} {l : List Bytes} (h : SlB w B (.slice (some ⟨b, o, none⟩) n c) l) (hm : m ≤ l.length) : SlB w B (.slice (some ⟨b, o + m, none⟩) (l.length - m) (c - m)) (l.drop m) := by
  obtain ⟨A, c', hv, hc, hx, hh⟩ := h
  obtain ⟨hA, _, rfl⟩ : some ⟨b, o, none⟩ = A ∧ n = l.length ∧ c = c' := by injection hv; exact ⟨‹_›, ‹_›, ‹_›⟩
  refine ⟨_, c - m, by rw [List.length_drop], by rw [List.length_drop]; omega, by omega, fun h0 => ?_⟩
  rw [List.length_drop] at h0
  obtain ⟨b', o', hA', hb, hy⟩ := hh (by omega)
  rw [← hA] at hA'
  obtain ⟨rfl, rfl⟩ : b = b' ∧ o = o' := by injection hA' with e; injection e; exact ⟨‹_›, ‹_›⟩
  exact ⟨b, o + m, rfl, hb, fun i t ht j x hj => by
    have := hy (m + i) t (by rw [List.getElem?_drop] at ht; exact ht) j x hj
    rw [show o + (m + i) * 1 + j = o + m + i * 1 + j by omega] at this
    exact this⟩
theorem slb_drop0 {w : World} {B c : Nat} {A : Option Addr} {l : List Bytes} (hc : c ≤ maxLen) : SlB w B (.slice A 0 c) (l.drop l.length) := by rw [List.drop_length]; exact slb_nil A c hc w B
def DrewW (w : World) (e : Ending) (w' : World) : Prop := ∃ (u : Value) (ws : List Bytes), e = .returned u ∧ SlB w' w'.heap.size u ws ∧ (∀ s ∈ ws, s.length ≤ 8) ∧ ws.length ≤ 200 ∧ Below w.heap.size w w'
set_option maxHeartbeats 2000000 in
theorem drawRW_any (v : Value) (l : List Int) (w : World) (hv : CodeV w v l) : Calls Tryz.prog 13 #[v] w (DrewW w) := by
  have OP := Lib.hid (l12Open_any v l w hv)
  obtain ⟨A, c, rfl, hc, hm⟩ := hv.1.val
  clear hv
  go_enter Tryz.func13, Tryz.ntmps13
  go_wp2_with fail
  refine OP.out.mono ?_
  rintro r w1 ⟨rfl, hR, hb1⟩
  have hr1 := hR.lt
  have hz1 := hb1.size
  go_wp2_with fail
  refine (l4Bent_any _ 0 w1 hR (by omega)).mono ?_
  rintro r w2 ⟨v2, x, p2, rfl, hE2, hR2, hp2, hg2⟩
  have hbw2 : Below w.heap.size w w2 := hb1.trans (below_of_grown hg2 (Nat.le_refl _) hr1)
  have hz2 := hg2.size
  have SE := Lib.hid (spEW_any x v2 w2 hE2.exv)
  obtain ⟨A1, cp, rfl, hc1, hm1, hs, hK⟩ := hE2.exv.form4
  clear hE2 hK hg2 hb1 hR
  have hwl := exW_len x
  have hws := exW_short x
  generalize exW x = ws at *
  go_wp2_with fail
  refine SE.out.mono ?_
  rintro r w3 ⟨u3, rfl, hG3, hb3⟩
  have hR3 : Rd w3 w.heap.size p2 := hR2.grown (r := none) ⟨hb3.os, hb3.tape, hb3.output, hb3.size, fun k hk _ => hb3.block k hk⟩ (fun q e => by cases e)
  have hbw3 := hbw2.ext hb3
  have hz3 := hb3.size
  have hrl : w.heap.size < w2.heap.size := by omega
  have HW := Lib.hid (fun s hs => (hws s hs).2)
  have hp2b : p2 ≤ 100000 := by omega
  clear hR2 hb3 SE hws
  by_cases h0 : ws.length = 0
  · obtain rfl : ws = [] := List.length_eq_zero_iff.1 h0
    have HG := Lib.hid hG3
    obtain ⟨Au, cu, rfl, _, _⟩ := hG3.val
    clear hG3 hR3 h0
    go_wp2_with fail
    go_ret
    exact ⟨_, [], rfl, HG.out.sl (fun _ => rfl), HW.out, by simp, hbw3⟩
  have hpos : 0 < ws.length := by omega
  obtain ⟨g, cap, rfl, hgl, hgh⟩ := hG3.block hpos
  have hcap : ws.length ≤ cap := by obtain ⟨A', c', hv, h1, _⟩ := hG3.val; injection hv with _ _ e; omega
  have hcm : cap ≤ 9223372036854775807 := by obtain ⟨A', c', hv, _, h1⟩ := hG3.val; injection hv with _ _ e; omega
  have hne : (((ws.length : Nat) : Int) == 0) = false := by rw [beq_eq_false_iff_ne]; omega
  have HG := Lib.hid (And.intro hG3 hbw3)
  clear hG3 hbw3
  go_wp2_with fail
  refine (pick_any _ _ 2 _ hR3 (by omega) (by omega) (by omega)).mono ?_
  rintro r w4 ⟨k4, rfl, hk4, hk4', hR4, hg4⟩
  have hG4 := HG.out.1.gr hg4 (by omega)
  have hbw4 : Below w.heap.size w w4 := HG.out.2.trans (below_of_grown hg4 (Nat.le_refl _) (by omega))
  have hz4 := hg4.size
  clear hg4 hR3 HG
  by_cases e4 : k4 = 0
  · subst e4
    have HG := Lib.hid hG4
    clear hG4 hR4
    go_wp2_with fail
    go_ret
    exact ⟨_, ws, rfl, HG.out.sl (fun _ => rfl), HW.out, by omega, hbw4⟩
  have d4 : (k4 == 0) = false := by simpa using e4
  have HG := Lib.hid (And.intro hG4 hbw4)
  clear hG4 hbw4 hk4 hk4'
  go_wp2_with fail
  refine (pick_any _ _ ws.length _ hR4 (by omega) (by omega) (by omega)).mono ?_
  rintro r w5 ⟨k5, rfl, hk5, hk5', hR5, hg5⟩
  obtain ⟨k, rfl⟩ := Int.eq_ofNat_of_zero_le hk5
  have hkl : k < ws.length := by omega
  have hG5 := HG.out.1.gr hg5 (by omega)
  have hbw5 : Below w.heap.size w w5 := HG.out.2.trans (below_of_grown hg5 (Nat.le_refl _) (by omega))
  have hz5 := hg5.size
  have HG5 := Lib.hid (And.intro hG5 hbw5)
  clear hg5 hR4 HG hG5 hbw5 hk5 hk5'
  go_wp2_with fail
  refine (pick_any _ _ 2 _ (hR5.alloc _) (by omega) (by omega) (by omega)).mono ?_
  rintro r w6 ⟨k6, rfl, hk6, hk6', hR6, hg6⟩
  obtain ⟨d, rfl⟩ := Int.eq_ofNat_of_zero_le hk6
  have hd1 : d ≤ 1 := by omega
  have hz6 := hg6.size
  (try simp at hz6)
  have hE6 : GtS w5.heap.size w6 (.slice (some ⟨w5.heap.size, 0, none⟩) 0 0) [] := (gt_empty strRow 1 9 w5 _ (Nat.le_refl _) (Below.refl _ _)).gr hg6 (by omega)
  have hG6 : GtS w2.heap.size w6 (.slice (some ⟨g, 0, none⟩) ws.length cap) ws := (HG5.out.1.ext (by (repeat (first | with_reducible assumption | with_reducible exact Below.refl _ _ | with_reducible refine Below.setCell ?_ (by first | omega | (simp; done) | (simp; omega)) _ | with_reducible refine Below.alloc ?_ (by first | omega | (simp; done) | (simp; omega)) _ | with_reducible refine below_drewN ?_ _ | with_reducible refine Below.drew ?_)))).gr hg6 (by omega)
  have hbw6 : Below w.heap.size w w6 := ((HG5.out.2).alloc (by omega) _).trans (below_of_grown hg6 (Nat.le_refl _) (by simp; omega))
  have hkd : k + d ≤ ws.length := by omega
  have hw6 : IntKind.i64.wrap ((k : Int) + (d : Int)) = ((k + d : Nat) : Int) := by rw [IntKind.wrap_i64]; omega
  have HT := Lib.hid (And.intro hE6 (And.intro hG6 hbw6))
  have hRK := Lib.hid hR6
  clear hg6 hR5 HG5 hE6 hG6 hbw6 hk6 hk6' hR6
  obtain ⟨m, hm'⟩ : ∃ m, m = k + d := ⟨_, rfl⟩
  rw [← hm'] at hw6 hkd
  have hmB : m ≤ 59 := by omega
  clear hm'
  obtain ⟨hE6, hG6, hbw6⟩ := HT.out
  by_cases hcm : cap = m
  · obtain rfl : m = ws.length := by omega
    subst hcm
    go_upto_region 7 with (first
      | (at_builtin; refine app_sl (by rfl) (.tmp 25) (.tmp 31) (by rfl) w5.heap.size (.slice (some ⟨w5.heap.size, 0, none⟩) 0 0) [] (by rfl) hE6 w6.heap.size (.slice (some ⟨g, 0, none⟩) 0 0) (ws.drop ws.length) (by rfl) (slb_drop0 (by unfold maxLen; omega)) (by simp) (by omega) ?_; intro u7 w7 hG7 hgr7 hat7)
      | fail)
    have hz7 := hgr7.size
    have hG6' : GtS w2.heap.size w7 (.slice (some ⟨g, 0, none⟩) ws.length _) ws := hG6.grown hgr7 (.inr (by simp [Value.ownBlock]; omega))
    have hbw7 : Below w.heap.size w w7 := below_app hbw6 hgr7 (fun q hq => by simp [Value.ownBlock] at hq; omega) (by omega)
    have hR7 : Rd w7 w.heap.size (p2 + 1 + 1 + 1) := hRK.out.grown hgr7 (fun q hq => by simp [Value.ownBlock] at hq; omega)
    have hq7 : ∀ q, u7.ownBlock = some q → w5.heap.size ≤ q ∧ q < w7.heap.size := fun q hq => hG7.lt hq
    have H7 := Lib.hid (And.intro hG7 (And.intro hbw7 hR7))
    clear hG7 hbw7 hR7 hgr7 hat7 hE6 hG6 hbw6
    have hSk := Lib.hid (fun (w' : World) (h : Below w7.heap.size w7 w') => Sl.take ((hG6'.ext h).sl (fun _ => rfl)) (show k ≤ ws.length by omega))
    have h7s := hG6'
    go_wp2_with (first
      | (at_builtin; refine app_sl (by rfl) (.tmp 33) (.tmp 36) (by rfl) w7.heap.size (.slice (some ⟨w7.heap.size, 0, none⟩) 0 0) [] (by rfl) (gt_empty strRow 1 9 w7 _ (Nat.le_refl _) (by (repeat (first | with_reducible assumption | with_reducible exact Below.refl _ _ | with_reducible refine Below.setCell ?_ (by first | omega | (simp; done) | (simp; omega)) _ | with_reducible refine Below.alloc ?_ (by first | omega | (simp; done) | (simp; omega)) _ | with_reducible refine below_drewN ?_ _ | with_reducible refine Below.drew ?_)))) _ (.slice (some ⟨g, 0, none⟩) k _) (ws.take k) (by rfl) (hSk.out _ (by (repeat (first | with_reducible assumption | with_reducible exact Below.refl _ _ | with_reducible refine Below.setCell ?_ (by first | omega | (simp; done) | (simp; omega)) _ | with_reducible refine Below.alloc ?_ (by first | omega | (simp; done) | (simp; omega)) _ | with_reducible refine below_drewN ?_ _ | with_reducible refine Below.drew ?_)))) (by simp; omega) (by simp) ?_; intro u8 w8 hG8 hgr8 hat8)
      | fail)
    have hz8 := hgr8.size
    (try simp at hz8)
    have hb78 : Below w7.heap.size w7 w8 := below_app (by (repeat (first | with_reducible assumption | with_reducible exact Below.refl _ _ | with_reducible refine Below.setCell ?_ (by first | omega | (simp; done) | (simp; omega)) _ | with_reducible refine Below.alloc ?_ (by first | omega | (simp; done) | (simp; omega)) _ | with_reducible refine below_drewN ?_ _ | with_reducible refine Below.drew ?_))) hgr8 (fun q hq => by simp [Value.ownBlock] at hq; omega) (by simp)
    have hR8 : Rd w8 w.heap.size (p2 + 1 + 1 + 1) := (H7.out.2.2.alloc _).grown hgr8 (fun q hq => by simp [Value.ownBlock] at hq; omega)
    refine (of_any _ _ w8.heap.size [[40], [41], [43], [120], [97, 115], [49], [60]] _ (hR8.alloc _) (by omega) (by simp) (by simp) (by omega) (Blk.new _ _ _)).mono ?_
    rintro r w9 ⟨s9, rfl, hs9, hR9, hg9⟩
    have hz9 := hg9.size
    (try simp at hz9)
    have hb8a : Below w7.heap.size w7 (w8.alloc (.cells (([[40], [41], [43], [120], [97, 115], [49], [60]] : List Bytes).map (fun s : Bytes => Value.string (bs s))).toArray 9)) := by (repeat (first | with_reducible assumption | with_reducible exact Below.refl _ _ | with_reducible refine Below.setCell ?_ (by first | omega | (simp; done) | (simp; omega)) _ | with_reducible refine Below.alloc ?_ (by first | omega | (simp; done) | (simp; omega)) _ | with_reducible refine below_drewN ?_ _ | with_reducible refine Below.drew ?_ | with_reducible refine Below.trans ?_ (Below.mono hb78 (by first | omega | (simp; done) | (simp; omega)))))
    have hG9 : GtS w7.heap.size w9 u8 ([] ++ ws.take k) := (hG8.ext (by (repeat (first | with_reducible assumption | with_reducible exact Below.refl _ _ | with_reducible refine Below.setCell ?_ (by first | omega | (simp; done) | (simp; omega)) _ | with_reducible refine Below.alloc ?_ (by first | omega | (simp; done) | (simp; omega)) _ | with_reducible refine below_drewN ?_ _ | with_reducible refine Below.drew ?_)))).gr hg9 (by omega)
    have h79 : GtS w5.heap.size w9 u7 ([] ++ ws.drop ws.length) := (H7.out.1.ext hb8a).gr hg9 (by omega)
    have hbw9 : Below w.heap.size w w9 := (H7.out.2.1.ext hb8a).trans (below_of_grown hg9 (Nat.le_refl _) (by simp; omega))
    have hl9 : s9.length ≤ 8 := by simp at hs9; rcases hs9 with rfl | rfl | rfl | rfl | rfl | rfl | rfl <;> simp
    have HH := Lib.hid (And.intro h79 hbw9)
    clear hG8 hgr8 hat8 hR8 hR9 hg9 hs9 hb8a h79 hbw9 hSk h7s hG6'
    have hn8 : ([] ++ ws.take k).length ≤ 58 := by simp <;> omega
    have hn9 : ([] ++ ws.drop ws.length).length ≤ 58 := by first | (simp; done) | (simp; omega)
    have HWW := Lib.hid (show ∀ s ∈ ([] ++ ws.take k) ++ [s9] ++ ([] ++ ws.drop ws.length), s.length ≤ 8 from by
      intro s hs
      simp only [List.nil_append, List.mem_append, List.mem_singleton] at hs
      rcases hs with (hs | rfl) | hs
      · exact HW.out s (List.mem_of_mem_take hs)
      · exact hl9
      · exact HW.out s (List.mem_of_mem_drop hs))
    generalize [] ++ ws.take k = l8 at *
    generalize [] ++ ws.drop ws.length = l9 at *
    have hq9 := fun q (hq : u8.ownBlock = some q) => (hG9.lt hq).1
    go_wp2_with (first
      | (at_builtin; refine aps_plain (by rfl) (.tmp 37) (.tmp 41) (by rfl) w7.heap.size u8 l8 (by rfl) (hG9.ext (by (repeat (first | with_reducible assumption | with_reducible exact Below.refl _ _ | with_reducible refine Below.setCell ?_ (by first | omega | (simp; done) | (simp; omega)) _ | with_reducible refine Below.alloc ?_ (by first | omega | (simp; done) | (simp; omega)) _ | with_reducible refine below_drewN ?_ _ | with_reducible refine Below.drew ?_)))) ⟨w9.heap.size, 0, none⟩ 1 [s9] (by rfl) (World.news_of_block (heap_alloc_new w9 _)) Nat.zero_lt_one (by simp; omega) (by simp; omega) ?_; intro ga capa wa hGa hgra hata; have hza := hgra.size; (try simp at hza); have hba : Below w.heap.size w wa := (below_app (by have hx := HH.out.2; (repeat (first | with_reducible assumption | with_reducible exact Below.refl _ _ | with_reducible refine Below.setCell ?_ (by first | omega | (simp; done) | (simp; omega)) _ | with_reducible refine Below.alloc ?_ (by first | omega | (simp; done) | (simp; omega)) _ | with_reducible refine below_drewN ?_ _ | with_reducible refine Below.drew ?_ | with_reducible refine Below.trans ?_ (Below.mono hx (by first | omega | (simp; done) | (simp; omega)))))) hgra (fun q hq => by have := hq9 q hq; omega) (by simp; omega)); have h7a := (HH.out.1.ext (w' := w9.alloc (.cells #[.string (bs s9)] 9)) (by (repeat (first | with_reducible assumption | with_reducible exact Below.refl _ _ | with_reducible refine Below.setCell ?_ (by first | omega | (simp; done) | (simp; omega)) _ | with_reducible refine Below.alloc ?_ (by first | omega | (simp; done) | (simp; omega)) _ | with_reducible refine below_drewN ?_ _ | with_reducible refine Below.drew ?_)))).grown hgra (by rcases hu7 : u7.ownBlock with _ | q; exact .inl rfl; exact .inr (fun e => by have h1 := (hq7 q hu7).2; have h2 := hq9 q e.symm; omega)))
      | (have tk := hgra; at_builtin; refine app_sl (by rfl) (.tmp 42) (.tmp 43) (by rfl) w7.heap.size (.slice (some ⟨ga, 0, none⟩) (l8.length + [s9].length) capa) (l8 ++ [s9]) (by rfl) (hGa.ext (by (repeat (first | with_reducible assumption | with_reducible exact Below.refl _ _ | with_reducible refine Below.setCell ?_ (by first | omega | (simp; done) | (simp; omega)) _ | with_reducible refine Below.alloc ?_ (by first | omega | (simp; done) | (simp; omega)) _ | with_reducible refine below_drewN ?_ _ | with_reducible refine Below.drew ?_)))) _ u7 l9 (by rfl) (h7a.sl (fun _ => rfl)) (by simp; omega) (by omega) ?_; intro ub wb hGb hgrb hatb)
      | fail)
    have hga := (hGa.lt (b := ga) rfl).1
    have hbb : Below w.heap.size w wb := below_app hba hgrb (fun q hq => by simp [Value.ownBlock] at hq; omega) (by omega)
    have HB := Lib.hid (And.intro hGb hbb)
    clear hGb hbb hgrb hatb hGa hgra hata h7a
    go_ret
    exact ⟨_, l8 ++ [s9] ++ l9, rfl, HB.out.1.sl (fun _ => rfl), HWW.out, by simp; omega, HB.out.2⟩
  · go_upto_region 7 with (first
      | (at_builtin; refine app_sl (by rfl) (.tmp 25) (.tmp 31) (by rfl) w5.heap.size (.slice (some ⟨w5.heap.size, 0, none⟩) 0 0) [] (by rfl) hE6 w6.heap.size (.slice (some ⟨g, m, none⟩) (ws.length - m) (cap - m)) (ws.drop m) (by rfl) (by simpa using slb_drop (hG6.sl (fun _ => rfl)) hkd) (by simp; omega) (by omega) ?_; intro u7 w7 hG7 hgr7 hat7)
      | fail)
    have hz7 := hgr7.size
    have hG6' : GtS w2.heap.size w7 (.slice (some ⟨g, 0, none⟩) ws.length _) ws := hG6.grown hgr7 (.inr (by simp [Value.ownBlock]; omega))
    have hbw7 : Below w.heap.size w w7 := below_app hbw6 hgr7 (fun q hq => by simp [Value.ownBlock] at hq; omega) (by omega)
    have hR7 : Rd w7 w.heap.size (p2 + 1 + 1 + 1) := hRK.out.grown hgr7 (fun q hq => by simp [Value.ownBlock] at hq; omega)
    have hq7 : ∀ q, u7.ownBlock = some q → w5.heap.size ≤ q ∧ q < w7.heap.size := fun q hq => hG7.lt hq
    have H7 := Lib.hid (And.intro hG7 (And.intro hbw7 hR7))
    clear hG7 hbw7 hR7 hgr7 hat7 hE6 hG6 hbw6
    have hSk := Lib.hid (fun (w' : World) (h : Below w7.heap.size w7 w') => Sl.take ((hG6'.ext h).sl (fun _ => rfl)) (show k ≤ ws.length by omega))
    have h7s := hG6'
    go_wp2_with (first
      | (at_builtin; refine app_sl (by rfl) (.tmp 33) (.tmp 36) (by rfl) w7.heap.size (.slice (some ⟨w7.heap.size, 0, none⟩) 0 0) [] (by rfl) (gt_empty strRow 1 9 w7 _ (Nat.le_refl _) (by (repeat (first | with_reducible assumption | with_reducible exact Below.refl _ _ | with_reducible refine Below.setCell ?_ (by first | omega | (simp; done) | (simp; omega)) _ | with_reducible refine Below.alloc ?_ (by first | omega | (simp; done) | (simp; omega)) _ | with_reducible refine below_drewN ?_ _ | with_reducible refine Below.drew ?_)))) _ (.slice (some ⟨g, 0, none⟩) k _) (ws.take k) (by rfl) (hSk.out _ (by (repeat (first | with_reducible assumption | with_reducible exact Below.refl _ _ | with_reducible refine Below.setCell ?_ (by first | omega | (simp; done) | (simp; omega)) _ | with_reducible refine Below.alloc ?_ (by first | omega | (simp; done) | (simp; omega)) _ | with_reducible refine below_drewN ?_ _ | with_reducible refine Below.drew ?_)))) (by simp; omega) (by simp) ?_; intro u8 w8 hG8 hgr8 hat8)
      | fail)
    have hz8 := hgr8.size
    (try simp at hz8)
    have hb78 : Below w7.heap.size w7 w8 := below_app (by (repeat (first | with_reducible assumption | with_reducible exact Below.refl _ _ | with_reducible refine Below.setCell ?_ (by first | omega | (simp; done) | (simp; omega)) _ | with_reducible refine Below.alloc ?_ (by first | omega | (simp; done) | (simp; omega)) _ | with_reducible refine below_drewN ?_ _ | with_reducible refine Below.drew ?_))) hgr8 (fun q hq => by simp [Value.ownBlock] at hq; omega) (by simp)
    have hR8 : Rd w8 w.heap.size (p2 + 1 + 1 + 1) := (H7.out.2.2.alloc _).grown hgr8 (fun q hq => by simp [Value.ownBlock] at hq; omega)
    refine (of_any _ _ w8.heap.size [[40], [41], [43], [120], [97, 115], [49], [60]] _ (hR8.alloc _) (by omega) (by simp) (by simp) (by omega) (Blk.new _ _ _)).mono ?_
    rintro r w9 ⟨s9, rfl, hs9, hR9, hg9⟩
    have hz9 := hg9.size
    (try simp at hz9)
    have hb8a : Below w7.heap.size w7 (w8.alloc (.cells (([[40], [41], [43], [120], [97, 115], [49], [60]] : List Bytes).map (fun s : Bytes => Value.string (bs s))).toArray 9)) := by (repeat (first | with_reducible assumption | with_reducible exact Below.refl _ _ | with_reducible refine Below.setCell ?_ (by first | omega | (simp; done) | (simp; omega)) _ | with_reducible refine Below.alloc ?_ (by first | omega | (simp; done) | (simp; omega)) _ | with_reducible refine below_drewN ?_ _ | with_reducible refine Below.drew ?_ | with_reducible refine Below.trans ?_ (Below.mono hb78 (by first | omega | (simp; done) | (simp; omega)))))
    have hG9 : GtS w7.heap.size w9 u8 ([] ++ ws.take k) := (hG8.ext (by (repeat (first | with_reducible assumption | with_reducible exact Below.refl _ _ | with_reducible refine Below.setCell ?_ (by first | omega | (simp; done) | (simp; omega)) _ | with_reducible refine Below.alloc ?_ (by first | omega | (simp; done) | (simp; omega)) _ | with_reducible refine below_drewN ?_ _ | with_reducible refine Below.drew ?_)))).gr hg9 (by omega)
    have h79 : GtS w5.heap.size w9 u7 ([] ++ ws.drop m) := (H7.out.1.ext hb8a).gr hg9 (by omega)
    have hbw9 : Below w.heap.size w w9 := (H7.out.2.1.ext hb8a).trans (below_of_grown hg9 (Nat.le_refl _) (by simp; omega))
    have hl9 : s9.length ≤ 8 := by simp at hs9; rcases hs9 with rfl | rfl | rfl | rfl | rfl | rfl | rfl <;> simp
    have HH := Lib.hid (And.intro h79 hbw9)
    clear hG8 hgr8 hat8 hR8 hR9 hg9 hs9 hb8a h79 hbw9 hSk h7s hG6'
    have hn8 : ([] ++ ws.take k).length ≤ 58 := by simp <;> omega
    have hn9 : ([] ++ ws.drop m).length ≤ 58 := by first | (simp; done) | (simp; omega)
    have HWW := Lib.hid (show ∀ s ∈ ([] ++ ws.take k) ++ [s9] ++ ([] ++ ws.drop m), s.length ≤ 8 from by
      intro s hs
      simp only [List.nil_append, List.mem_append, List.mem_singleton] at hs
      rcases hs with (hs | rfl) | hs
      · exact HW.out s (List.mem_of_mem_take hs)
      · exact hl9
      · exact HW.out s (List.mem_of_mem_drop hs))
    generalize [] ++ ws.take k = l8 at *
    generalize [] ++ ws.drop m = l9 at *
    have hq9 := fun q (hq : u8.ownBlock = some q) => (hG9.lt hq).1
    go_wp2_with (first
      | (at_builtin; refine aps_plain (by rfl) (.tmp 37) (.tmp 41) (by rfl) w7.heap.size u8 l8 (by rfl) (hG9.ext (by (repeat (first | with_reducible assumption | with_reducible exact Below.refl _ _ | with_reducible refine Below.setCell ?_ (by first | omega | (simp; done) | (simp; omega)) _ | with_reducible refine Below.alloc ?_ (by first | omega | (simp; done) | (simp; omega)) _ | with_reducible refine below_drewN ?_ _ | with_reducible refine Below.drew ?_)))) ⟨w9.heap.size, 0, none⟩ 1 [s9] (by rfl) (World.news_of_block (heap_alloc_new w9 _)) Nat.zero_lt_one (by simp; omega) (by simp; omega) ?_; intro ga capa wa hGa hgra hata; have hza := hgra.size; (try simp at hza); have hba : Below w.heap.size w wa := (below_app (by have hx := HH.out.2; (repeat (first | with_reducible assumption | with_reducible exact Below.refl _ _ | with_reducible refine Below.setCell ?_ (by first | omega | (simp; done) | (simp; omega)) _ | with_reducible refine Below.alloc ?_ (by first | omega | (simp; done) | (simp; omega)) _ | with_reducible refine below_drewN ?_ _ | with_reducible refine Below.drew ?_ | with_reducible refine Below.trans ?_ (Below.mono hx (by first | omega | (simp; done) | (simp; omega)))))) hgra (fun q hq => by have := hq9 q hq; omega) (by simp; omega)); have h7a := (HH.out.1.ext (w' := w9.alloc (.cells #[.string (bs s9)] 9)) (by (repeat (first | with_reducible assumption | with_reducible exact Below.refl _ _ | with_reducible refine Below.setCell ?_ (by first | omega | (simp; done) | (simp; omega)) _ | with_reducible refine Below.alloc ?_ (by first | omega | (simp; done) | (simp; omega)) _ | with_reducible refine below_drewN ?_ _ | with_reducible refine Below.drew ?_)))).grown hgra (by rcases hu7 : u7.ownBlock with _ | q; exact .inl rfl; exact .inr (fun e => by have h1 := (hq7 q hu7).2; have h2 := hq9 q e.symm; omega)))
      | (have tk := hgra; at_builtin; refine app_sl (by rfl) (.tmp 42) (.tmp 43) (by rfl) w7.heap.size (.slice (some ⟨ga, 0, none⟩) (l8.length + [s9].length) capa) (l8 ++ [s9]) (by rfl) (hGa.ext (by (repeat (first | with_reducible assumption | with_reducible exact Below.refl _ _ | with_reducible refine Below.setCell ?_ (by first | omega | (simp; done) | (simp; omega)) _ | with_reducible refine Below.alloc ?_ (by first | omega | (simp; done) | (simp; omega)) _ | with_reducible refine below_drewN ?_ _ | with_reducible refine Below.drew ?_)))) _ u7 l9 (by rfl) (h7a.sl (fun _ => rfl)) (by simp; omega) (by omega) ?_; intro ub wb hGb hgrb hatb)
      | fail)
    have hga := (hGa.lt (b := ga) rfl).1
    have hbb : Below w.heap.size w wb := below_app hba hgrb (fun q hq => by simp [Value.ownBlock] at hq; omega) (by omega)
    have HB := Lib.hid (And.intro hGb hbb)
    clear hGb hbb hgrb hatb hGa hgra hata h7a
    go_ret
    exact ⟨_, l8 ++ [s9] ++ l9, rfl, HB.out.1.sl (fun _ => rfl), HWW.out, by simp; omega, HB.out.2⟩
end Go.Proofs.YtojoknalnmmpeaaGreatDoor
