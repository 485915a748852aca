
/- Numbers that are read: the library's Atoi at every word; what the program takes for a number. -/
import Derived.Test.YtojoknalnmmpeaaGreatDoorImE
import Derived.Test.YtojoknalnmmpeaaGreatDoorBas
import Derived.Lib.AtoiAllCases
namespace Go.Proofs.YtojoknalnmmpeaaGreatDoor
set_option maxRecDepth 100000
set_option linter.unusedSimpArgs false
set_option linter.unusedVariables false
open Go.RowKit
attribute [local go_sem] bs_toList bs_get bs_size

/-- what the package variables hold, the library's errors too -/
structure EnvA (w : World) : Prop where
  env : Env w
  syn : ∃ tp p, w.cell? ⟨3, 0, none⟩ = some (.iface tp p)
  rng : ∃ tp p, w.cell? ⟨4, 0, none⟩ = some (.iface tp p)
theorem EnvA.keep {w w' : World} {B : Nat} (h : EnvA w) (hb : Below B w w') (hB : w.heap.size ≤ B) : EnvA w' := by
  obtain ⟨h1, ⟨t1, p1, h2⟩, t2, p2, h3⟩ := h
  exact ⟨h1.keep hb hB, ⟨t1, p1, (hb.cell (p := ⟨_, 0, none⟩) (Nat.lt_of_lt_of_le (World.block_lt_of_cell? _ _ h2) hB)).trans h2⟩, t2, p2, (hb.cell (p := ⟨_, 0, none⟩) (Nat.lt_of_lt_of_le (World.block_lt_of_cell? _ _ h3) hB)).trans h3⟩
theorem EnvA.ext {w w' : World} (h : EnvA w) (hb : Ext w w') : EnvA w' := h.keep hb (Nat.le_refl _)

theorem fold_ge (l : Bytes) : ∀ a : Nat, a ≤ l.foldl (fun a c => a * 10 + (c.toNat - 48)) a := by
  induction l with
  | nil => intro a; exact Nat.le_refl _
  | cons c l ih => intro a; have := ih (a * 10 + (c.toNat - 48)); simp only [List.foldl_cons]; omega
theorem parse_dig (l : Bytes) : ∀ a : Nat, (∀ c ∈ l, isDig c = true) → l.foldl (fun a c => a * 10 + (c.toNat - 48)) a ≤ 1000000000 → Lib.parseUint10 a l = .ok (l.foldl (fun a c => a * 10 + (c.toNat - 48)) a) := by
  induction l with
  | nil => intro a _ _; rfl
  | cons c l ih =>
    intro a hd hm
    have h1 := fold_ge l (a * 10 + (c.toNat - 48))
    simp only [List.foldl_cons] at hm ⊢
    have hc := hd c (by simp)
    simp only [isDig, Bool.and_eq_true, decide_eq_true_eq] at hc
    rw [Lib.parseUint10, if_pos hc, if_neg (by omega), if_neg (by omega)]
    exact ih _ (fun x hx => hd x (by simp [hx])) hm
theorem ato_dec {k : Nat} (hk : k ≤ 1000000) : Lib.atoiAll (decL k) = .ok (k : Int) := by
  have hd := decL_dig k
  have hv := digVal_dec k
  have h1 : Lib.parseUint10 0 (decL k) = .ok k := by
    rw [parse_dig _ 0 hd (by have : (decL k).foldl (fun a c => a * 10 + (c.toNat - 48)) 0 = k := hv; omega)]
    exact congrArg _ hv
  cases he : decL k with
  | nil => have := decL_pos k; rw [he] at this; simp at this
  | cons c r =>
    have hc := hd c (by rw [he]; simp)
    simp only [isDig, Bool.and_eq_true, decide_eq_true_eq] at hc
    rw [Lib.atoiAll_plain c r (by omega) (by omega), Lib.parseMag, if_neg (by simp), ← he, h1, Lib.signless, if_neg (by omega)]
/-- what stands there -/
theorem num_of_ato {s : Bytes} {v : Int} (h : Lib.atoiAll s = .ok v) : numB s = (decide (0 ≤ v) && decide (v ≤ 1000000) && decide (decL v.toNat = s)) ∧ (numB s = true → v = digVal s) := by
  cases hn : numB s
  · refine ⟨?_, fun e => by cases e⟩
    rw [eq_comm, Bool.eq_false_iff]
    simp only [ne_eq, Bool.and_eq_true, decide_eq_true_eq, not_and]
    rintro ⟨h1, h2⟩ h3
    rw [numB_iff.2 ⟨v.toNat, by omega, h3.symm⟩] at hn
    cases hn
  · obtain ⟨k, hk, rfl⟩ := numB_iff.1 hn
    rw [ato_dec hk] at h
    obtain rfl : (k : Int) = v := by injection h
    refine ⟨?_, fun _ => by rw [digVal_dec]⟩
    rw [eq_comm, Bool.and_eq_true, Bool.and_eq_true]
    simp only [decide_eq_true_eq, Int.toNat_natCast]
    exact ⟨⟨by omega, by omega⟩, trivial⟩
theorem num_no_ato {s : Bytes} (h : ∀ v, Lib.atoiAll s ≠ .ok v) : numB s = false := by
  rw [Bool.eq_false_iff]
  intro hn
  obtain ⟨k, hk, rfl⟩ := numB_iff.1 hn
  exact h _ (ato_dec hk)
theorem atoi_yes (s : Bytes) (v : Int) (w : World) (hs : s.length ≤ 100000000) (h : Lib.atoiAll s = .ok v) :
    Calls Tryz.prog 71 #[.string (bs s)] w fun e w' => e = .returned (.tuple #[.int .i64 v, .nilIface]) ∧ Below w.heap.size w w' :=
  (Tryz.strconv_Atoi_ok (bs s) (by rw [bs_size]; omega) v (by rw [bs_data]; exact h) w).mono fun e w' ⟨he, hw⟩ => ⟨he, by
    rcases hw with rfl | ⟨t, rfl⟩
    · exact Below.refl _ _
    · exact Joins.below_bytesWorld _ _ _ _ (Nat.le_refl _)⟩
def AtoNo (w : World) (e : Ending) (w' : World) : Prop := ∃ (n : Int) (t : TypeId) (p : Value), e = .returned (.tuple #[.int .i64 n, .iface t p]) ∧ Below w.heap.size w w'
theorem atoi_no (s : Bytes) (w : World) (hs : s.length ≤ 100000000) (h : ∀ v, Lib.atoiAll s ≠ .ok v) (hE : EnvA w) : Calls Tryz.prog 71 #[.string (bs s)] w (AtoNo w) := by
  obtain ⟨_, ⟨t1, p1, h2⟩, t2, p2, h3⟩ := hE
  by_cases hr : Lib.atoiAll s = .range
  · refine (Tryz.strconv_Atoi_range (bs s) (by rw [bs_size]; omega) (by rw [bs_data]; exact hr) (.iface t2 p2) w h3 (.inr ⟨_, _, rfl⟩)).mono ?_
    rintro e w' ⟨N, rfl, _, _, hb⟩
    exact ⟨_, _, _, rfl, hb⟩
  · have hy : Lib.atoiAll s = Lib.atoiAll [] := by
      cases hx : Lib.atoiAll s with
      | ok v => exact absurd hx (h v)
      | range => exact absurd hx hr
      | _ => rfl
    refine (Tryz.strconv_Atoi_syntax (bs s) (by rw [bs_size]; omega) (by rw [bs_data]; exact hy) (.iface t1 p1) w h2 (.inr ⟨_, _, rfl⟩)).mono ?_
    rintro e w' ⟨N, rfl, _, _, hb⟩
    exact ⟨_, _, _, rfl, hb⟩
def NumP (s : Bytes) (w : World) (e : Ending) (w' : World) : Prop := ∃ n : Int, e = .returned (.tuple #[.int .i64 n, .bool (numB s)]) ∧ (numB s = true → n = (digVal s : Int)) ∧ Below w.heap.size w w'
theorem imNumber_any (s : Bytes) (w : World) (hs : s.length ≤ 100000000) (hE : EnvA w) : Calls Tryz.prog 61 #[.string (bs s)] w (NumP s w) := by
  by_cases h : ∃ v, Lib.atoiAll s = .ok v
  · obtain ⟨v, h⟩ := h
    obtain ⟨hn, hd⟩ := num_of_ato h
    have AT := Lib.hid (atoi_yes s v w hs h)
    have IT := Lib.hid (fun (w' : World) (hb : Below w.heap.size w w') (n : Nat) (hk : n ≤ 1000000) => itoa_any n w' hk (hE.env.ext hb))
    have HN := Lib.hid (And.intro hn hd)
    clear hn hd h hE
    by_cases hv : 0 ≤ v ∧ v ≤ 1000000
    · obtain ⟨h0, h1⟩ := hv
      obtain ⟨k, rfl⟩ := Int.eq_ofNat_of_zero_le h0
      have d0 : (decide (0 ≤ ((k : Nat) : Int)) && decide (((k : Nat) : Int) ≤ 1000000)) = true := by simp; omega
      have e1 : numB s = (decL k == s) := by rw [HN.out.1, d0, Bool.true_and, Int.toNat_natCast, Bool.eq_iff_iff]; simp
      have HQ := Lib.hid (And.intro e1 HN.out.2)
      clear e1
      go_enter Tryz.func61, Tryz.ntmps61
      go_wp2_with fail
      refine AT.out.mono ?_
      rintro r w1 ⟨rfl, hb1⟩
      go_wp2_with fail
      refine (inB_any _ _ _ _).mono ?_
      rintro r _ ⟨rfl, rfl⟩
      go_wp2_with fail
      refine (IT.out _ hb1 k (by omega)).mono ?_
      rintro r w2 ⟨rfl, hb2⟩
      go_wp2_with fail
      refine bodyPost_ret (v := .tuple #[.int .i64 (k : Int), .bool (decL k == s)]) (by simp [results, Tryz.results61, go_sem]) rfl ?_
      exact ⟨k, by rw [HQ.out.1], HQ.out.2, hb1.ext hb2⟩
    · have d0 : (decide (0 ≤ v) && decide (v ≤ 1000000)) = false := by
        rw [Bool.and_eq_false_iff, decide_eq_false_iff_not, decide_eq_false_iff_not]; omega
      have e1 : numB s = false := by rw [HN.out.1, d0, Bool.false_and]
      have HQ := Lib.hid e1
      clear e1 hv
      go_enter Tryz.func61, Tryz.ntmps61
      go_wp2_with fail
      refine AT.out.mono ?_
      rintro r w1 ⟨rfl, hb1⟩
      go_wp2_with fail
      refine (inB_any _ _ _ _).mono ?_
      rintro r _ ⟨rfl, rfl⟩
      go_wp2_with fail
      refine bodyPost_ret (v := .tuple #[.int .i64 v, .bool false]) (by simp [results, Tryz.results61, go_sem]) rfl ?_
      exact ⟨v, by rw [HQ.out], (fun e => by rw [HQ.out] at e; cases e), hb1⟩
  · have h' : ∀ v, Lib.atoiAll s ≠ .ok v := fun v e => h ⟨v, e⟩
    have HQ := Lib.hid (num_no_ato h')
    have AT := Lib.hid (atoi_no s w hs h' hE)
    clear h h' hE
    go_enter Tryz.func61, Tryz.ntmps61
    go_wp2_with fail
    refine AT.out.mono ?_
    rintro r w1 ⟨n, t, p, rfl, hb1⟩
    go_wp2_with fail
    refine bodyPost_ret (v := .tuple #[.int .i64 n, .bool false]) (by simp [results, Tryz.results61, go_sem]) rfl ?_
    exact ⟨n, by rw [HQ.out], (fun e => by rw [HQ.out] at e; cases e), hb1⟩
end Go.Proofs.YtojoknalnmmpeaaGreatDoor
