/- A repeat of an action, ticked from any state: repeats of 11 to 14. -/
import Derived.Test.YtpaadclighadaaaGreatDoorWRR
namespace Go.Proofs.YtpaadclighadaaaGreatDoor.CodesR
open Go Go.Ab
set_option maxRecDepth 100000
theorem rep11 : repAll 11 = true := by kernel_rfl
theorem rep12 : repAll 12 = true := by kernel_rfl
theorem rep13 : repAll 13 = true := by kernel_rfl
theorem rep14 : repAll 14 = true := by kernel_rfl
end Go.Proofs.YtpaadclighadaaaGreatDoor.CodesR
