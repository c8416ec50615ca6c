/- A row of actions that goes on where it was, ticked from any state: rows of 8 to 9. -/
import Derived.Test.YtpaadclighadaaaGreatDoorWRG
namespace Go.Proofs.YtpaadclighadaaaGreatDoor.CodesR
open Go Go.Ab
set_option maxRecDepth 100000
theorem go8x0 : goAt 8 0 = true := by kernel_rfl
theorem go8x1 : goAt 8 1 = true := by kernel_rfl
theorem go8x2 : goAt 8 2 = true := by kernel_rfl
theorem go8x3 : goAt 8 3 = true := by kernel_rfl
theorem go8x4 : goAt 8 4 = true := by kernel_rfl
theorem go8x5 : goAt 8 5 = true := by kernel_rfl
theorem go8x6 : goAt 8 6 = true := by kernel_rfl
theorem go8x7 : goAt 8 7 = true := by kernel_rfl
theorem go9x0 : goAt 9 0 = true := by kernel_rfl
theorem go9x1 : goAt 9 1 = true := by kernel_rfl
theorem go9x2 : goAt 9 2 = true := by kernel_rfl
theorem go9x3 : goAt 9 3 = true := by kernel_rfl
theorem go9x4 : goAt 9 4 = true := by kernel_rfl
theorem go9x5 : goAt 9 5 = true := by kernel_rfl
theorem go9x6 : goAt 9 6 = true := by kernel_rfl
theorem go9x7 : goAt 9 7 = true := by kernel_rfl
theorem go9x8 : goAt 9 8 = true := by kernel_rfl
end Go.Proofs.YtpaadclighadaaaGreatDoor.CodesR
