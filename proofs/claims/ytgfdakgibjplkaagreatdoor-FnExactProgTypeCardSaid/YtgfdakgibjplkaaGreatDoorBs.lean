
/- How the walk reads the string of a list of bytes. No program in sight, no condition. -/
import Derived.Test.YtgfdakgibjplkaaGreatDoorTokP
namespace Go.Proofs.YtgfdakgibjplkaaGreatDoor
set_option maxRecDepth 100000
open Go.RowKit
theorem bs_toList (l : Bytes) : (bs l).toList = l := by rw [ByteArray.toList_eq]; simp [bs]
theorem bs_get (l : Bytes) (i : Nat) (h : i < (bs l).size) : (bs l)[i]'h = l[i]'(by rw [bs_size] at h; exact h) := by simp [bs, ByteArray.getElem_eq_getElem_data]
end Go.Proofs.YtgfdakgibjplkaaGreatDoor
