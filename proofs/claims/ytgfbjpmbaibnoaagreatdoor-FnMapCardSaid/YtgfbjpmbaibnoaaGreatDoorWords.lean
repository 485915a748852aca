
/- The words of what is reckoned: the reference's. -/
import Derived.Test.YtgfbjpmbaibnoaaGreatDoorSames
import Derived.Deep.RegionHeld3
import Derived.Deep.DeepCutAuto
import Derived.Lib.SlBytesRow
namespace Go.Proofs.YtgfbjpmbaibnoaaGreatDoor
set_option maxRecDepth 100000
set_option linter.unusedSimpArgs false
set_option linter.unusedVariables false
open Go.RowKit
attribute [local go_sem] bs_toList bs_get bs_size

def digC (d : Nat) : UInt8 := UInt8.ofNat (48 + d)
theorem conv1 (w : World) (b d : Nat) (hd : d < 10) (x : Int) (hx : x = d) (h : w.cell? ⟨b, 0, none⟩ = some (.int .u8 (48 + x))) : (convert 22 9 (.slice (some ⟨b, 0, none⟩) 1 1)).run Tryz.prog w = .ok (.string (bs [digC d])) w := by
  have := Lib.run_convert_whole (P := Tryz.prog) w 22 5 9 Tryz.underlying22 Tryz.underlying5 Tryz.underlying9 b 0 (bs [digC d]) (fun i hi => by
    have hi0 : i = 0 := by rw [bs_size] at hi; simp at hi; omega
    subst hi0
    rw [h, hx]
    congr 2
    simp [bs, digC, ByteArray.getElem_eq_getElem_data, UInt8.toNat_ofNat']
    omega) 1
  rw [bs_size] at this
  exact this
theorem spDec_any (n : Nat) (hn : n ≤ 1000000) (w : World) : Calls Tryz.prog 189 #[.int .i64 (n : Int)] w fun e w' => e = .returned (.string (bs (decL n))) ∧ Below w.heap.size w w' := by
  have d1 : decide ((n : Int) < -9223372036854775807) = false := by first | (simp; done) | (simp; omega)
  have d2 : decide ((n : Int) < 0) = false := by simp
  go_enter Tryz.func189, Tryz.ntmps189
  go_wp2_with fail
  go_loopg [0, 3] n (fun g a o wr => ∃ (k : Nat) (out : Bytes), g = k ∧ k ≤ n ∧ a = .int .i64 k ∧ o = .string (bs out) ∧ decL k ++ out = decL n ∧ out.length ≤ 10 ∧ Below w.heap.size w wr)
  case atStart => exact ⟨n, [], rfl, Nat.le_refl _, rfl, rfl, by simp, by simp, Below.refl _ _⟩
  case round =>
    obtain ⟨k, out, rfl, hk, rfl, rfl, he, hl, hb⟩ := hrel
    have HE := Lib.hid he
    have hz := hb.size
    clear he
    have hl2 : ¬ 9223372036854775807 < 1 + out.length := by omega
    have hl3 : 1 + out.length ≤ 9223372036854775807 := by omega
    by_cases h9 : 9 < gk
    · have d3 : decide ((9 : Int) < gk) = true := by simp; omega
      have hcv := conv1 (wr.alloc (.cells #[.int .u8 (48 + (gk : Int) % 10)] 5)) wr.heap.size (gk % 10) (by omega) ((gk : Int) % 10) (by omega) (by simp)
      go_wp2_with fail
      go_roundg (gk / 10)
      case measure => omega
      case rel => exact ⟨gk / 10, digC (gk % 10) :: out, rfl, by omega, by go_num, by rw [bs_append]; rfl, by rw [← HE.out, decL_ge (n := gk) (by omega)]; simp [digC], by
        have h1 := congrArg List.length HE.out
        have h2 := decL_len 6 n (by omega)
        have h3 := decL_len 6 gk (by omega)
        rw [List.length_append] at h1
        have h4 : 2 ≤ (decL gk).length := by rw [decL_ge (by omega), List.length_append, List.length_singleton]; have := decL_pos (gk / 10); omega
        simp only [List.length_cons]
        omega, by (repeat (first | with_reducible assumption | with_reducible exact Below.refl _ _ | with_reducible refine Below.setCell ?_ (by first | omega | (simp; done) | (simp; omega)) _ | with_reducible refine Below.alloc ?_ (by first | omega | (simp; done) | (simp; omega)) _ | with_reducible refine below_drewN ?_ _ | with_reducible refine Below.drew ?_ | with_reducible refine Below.trans ?_ (Below.mono hb (by first | omega | (simp; done) | (simp; omega)))))⟩
    · have d3 : decide ((9 : Int) < gk) = false := by simp; omega
      have hcv := conv1 (wr.alloc (.cells #[.int .u8 (48 + (gk : Int))] 5)) wr.heap.size gk (by omega) (gk : Int) rfl (by simp)
      go_wp2_with fail
      go_ret
      exact ⟨ret_cat (by rw [← HE.out, decL_lt (by omega)]; rfl), by (repeat (first | with_reducible assumption | with_reducible exact Below.refl _ _ | with_reducible refine Below.setCell ?_ (by first | omega | (simp; done) | (simp; omega)) _ | with_reducible refine Below.alloc ?_ (by first | omega | (simp; done) | (simp; omega)) _ | with_reducible refine below_drewN ?_ _ | with_reducible refine Below.drew ?_ | with_reducible refine Below.trans ?_ (Below.mono hb (by first | omega | (simp; done) | (simp; omega)))))⟩
theorem spLevel_any (e : E) (v : Value) (w : World) (hv : ExV w w.heap.size v e.ex) : Calls Tryz.prog 188 #[v] w fun r w' => r = .returned (.int .i64 (e.lv : Nat)) ∧ Below w.heap.size w w' := by
  obtain ⟨kv, rfl, hs, hk⟩ := hv
  obtain ⟨A, c, rfl, hc, hm⟩ := hk.val
  cases e with
  | two o a b =>
    cases o
    all_goals
      simp only [E.ex, Ex.kind, Ex.n, Ex.s, Ex.kids, Op2.b, List.length_cons, List.length_nil]
      go_enter Tryz.func188, Tryz.ntmps188
      go_wp2_with fail
      go_ret
      exact ⟨rfl, by (repeat (first | with_reducible assumption | with_reducible exact Below.refl _ _ | with_reducible refine Below.setCell ?_ (by first | omega | (simp; done) | (simp; omega)) _ | with_reducible refine Below.alloc ?_ (by first | omega | (simp; done) | (simp; omega)) _ | with_reducible refine below_drewN ?_ _ | with_reducible refine Below.drew ?_))⟩
  | _ =>
    simp only [E.ex, Ex.kind, Ex.n, Ex.s, Ex.kids, List.length_cons, List.length_nil]
    go_enter Tryz.func188, Tryz.ntmps188
    go_wp2_with fail
    go_ret
    exact ⟨rfl, by (repeat (first | with_reducible assumption | with_reducible exact Below.refl _ _ | with_reducible refine Below.setCell ?_ (by first | omega | (simp; done) | (simp; omega)) _ | with_reducible refine Below.alloc ?_ (by first | omega | (simp; done) | (simp; omega)) _ | with_reducible refine below_drewN ?_ _ | with_reducible refine Below.drew ?_))⟩
end Go.Proofs.YtgfbjpmbaibnoaaGreatDoor
