/- A repeat of an action, ticked from any state: repeats of 15 to 17. -/
import Derived.Test.YtpaadclighadaaaGreatDoorWRR
namespace Go.Proofs.YtpaadclighadaaaGreatDoor.CodesR
open Go Go.Ab
set_option maxRecDepth 100000
theorem rep15 : repAll 15 = true := by kernel_rfl
theorem rep16 : repAll 16 = true := by kernel_rfl
theorem rep17 : repAll 17 = true := by kernel_rfl
end Go.Proofs.YtpaadclighadaaaGreatDoor.CodesR
