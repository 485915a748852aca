
/- The words of what is reckoned: the reference's. -/
import Derived.Test.YtnejngpdplhbhaaDoorSames
import Derived.Deep.RegionHeld3
import Derived.Deep.DeepCutAuto
import Derived.Lib.SlBytesRow
namespace Go.Proofs.YtnejngpdplhbhaaDoor
set_option maxRecDepth 100000
set_option linter.unusedSimpArgs false
set_option linter.unusedVariables false
open Go.RowKit
attribute [local go_sem] bs_toList bs_get bs_size

def digC (d : Nat) : UInt8 := UInt8.ofNat (48 + d)
theorem conv1 (w : World) (b d : Nat) (hd : d < 10) (x : Int) (hx : x = d) (h : w.cell? ⟨b, 0, none⟩ = some (.int .u8 (48 + x))) : (convert 22 9 (.slice (some ⟨b, 0, none⟩) 1 1)).run Tryd.prog w = .ok (.string (bs [digC d])) w := by
  have := Lib.run_convert_whole (P := Tryd.prog) w 22 5 9 Tryd.underlying22 Tryd.underlying5 Tryd.underlying9 b 0 (bs [digC d]) (fun i hi => by
    have hi0 : i = 0 := by rw [bs_size] at hi; simp at hi; omega
    subst hi0
    rw [h, hx]
    congr 2
    simp [bs, digC, ByteArray.getElem_eq_getElem_data, UInt8.toNat_ofNat']
    omega) 1
  rw [bs_size] at this
  exact this
end Go.Proofs.YtnejngpdplhbhaaDoor
