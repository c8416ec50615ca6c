/- A repeat of an action, ticked from any state: repeats of 18 to 20. -/
import Derived.Test.YtpaadclighadaaaGreatDoorWRR
namespace Go.Proofs.YtpaadclighadaaaGreatDoor.CodesR
open Go Go.Ab
set_option maxRecDepth 100000
theorem rep18 : repAll 18 = true := by kernel_rfl
theorem rep19 : repAll 19 = true := by kernel_rfl
theorem rep20 : repAll 20 = true := by kernel_rfl
end Go.Proofs.YtpaadclighadaaaGreatDoor.CodesR
