
/- Plain Lean of bytes: the string of a list of bytes. No program in sight, no condition. -/
import Derived.Test.YtgfdakgibjplkaaGreatDoorLib
namespace Go.Proofs.YtgfdakgibjplkaaGreatDoor
set_option maxRecDepth 100000
open Go.RowKit

abbrev Bytes := List UInt8
/-- the string of some bytes -/
def bs (l : Bytes) : ByteArray := ⟨l.toArray⟩
theorem bs_data (l : Bytes) : (bs l).data.toList = l := by simp [bs]
theorem bs_size (l : Bytes) : (bs l).size = l.length := by simp [bs, ByteArray.size]
theorem bs_of (s : ByteArray) : bs s.data.toList = s := by cases s; simp [bs]
theorem bs_append (a b : Bytes) : bs a ++ bs b = bs (a ++ b) := by
  apply ByteArray.ext
  simp [bs]
theorem bs_inj {a b : Bytes} (h : bs a = bs b) : a = b := by rw [← bs_data a, h, bs_data]

theorem ret_cat {a b c : Bytes} (h : a ++ b = c) : Ending.returned (.string (bs a ++ bs b)) = .returned (.string (bs c)) := by rw [bs_append, h]
theorem ret_bs {a c : Bytes} (h : a = c) : Ending.returned (.string (bs a)) = .returned (.string (bs c)) := by rw [h]
end Go.Proofs.YtgfdakgibjplkaaGreatDoor
