/- A row of actions that goes on where it was, ticked from any state: rows of 1 to 7. -/
import Derived.Test.YtpaadclighadaaaGreatDoorWRG
namespace Go.Proofs.YtpaadclighadaaaGreatDoor.CodesR
open Go Go.Ab
set_option maxRecDepth 100000
theorem go1x0 : goAt 1 0 = true := by kernel_rfl
theorem go2x0 : goAt 2 0 = true := by kernel_rfl
theorem go2x1 : goAt 2 1 = true := by kernel_rfl
theorem go3x0 : goAt 3 0 = true := by kernel_rfl
theorem go3x1 : goAt 3 1 = true := by kernel_rfl
theorem go3x2 : goAt 3 2 = true := by kernel_rfl
theorem go4x0 : goAt 4 0 = true := by kernel_rfl
theorem go4x1 : goAt 4 1 = true := by kernel_rfl
theorem go4x2 : goAt 4 2 = true := by kernel_rfl
theorem go4x3 : goAt 4 3 = true := by kernel_rfl
theorem go5x0 : goAt 5 0 = true := by kernel_rfl
theorem go5x1 : goAt 5 1 = true := by kernel_rfl
theorem go5x2 : goAt 5 2 = true := by kernel_rfl
theorem go5x3 : goAt 5 3 = true := by kernel_rfl
theorem go5x4 : goAt 5 4 = true := by kernel_rfl
theorem go6x0 : goAt 6 0 = true := by kernel_rfl
theorem go6x1 : goAt 6 1 = true := by kernel_rfl
theorem go6x2 : goAt 6 2 = true := by kernel_rfl
theorem go6x3 : goAt 6 3 = true := by kernel_rfl
theorem go6x4 : goAt 6 4 = true := by kernel_rfl
theorem go6x5 : goAt 6 5 = true := by kernel_rfl
theorem go7x0 : goAt 7 0 = true := by kernel_rfl
theorem go7x1 : goAt 7 1 = true := by kernel_rfl
theorem go7x2 : goAt 7 2 = true := by kernel_rfl
theorem go7x3 : goAt 7 3 = true := by kernel_rfl
theorem go7x4 : goAt 7 4 = true := by kernel_rfl
theorem go7x5 : goAt 7 5 = true := by kernel_rfl
theorem go7x6 : goAt 7 6 = true := by kernel_rfl
end Go.Proofs.YtpaadclighadaaaGreatDoor.CodesR
