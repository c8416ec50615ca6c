/- A repeat of an action, ticked from any state: repeats of 1 to 10. -/
import Derived.Test.YtpaadclighadaaaGreatDoorWRR
namespace Go.Proofs.YtpaadclighadaaaGreatDoor.CodesR
open Go Go.Ab
set_option maxRecDepth 100000
theorem rep1 : repAll 1 = true := by kernel_rfl
theorem rep2 : repAll 2 = true := by kernel_rfl
theorem rep3 : repAll 3 = true := by kernel_rfl
theorem rep4 : repAll 4 = true := by kernel_rfl
theorem rep5 : repAll 5 = true := by kernel_rfl
theorem rep6 : repAll 6 = true := by kernel_rfl
theorem rep7 : repAll 7 = true := by kernel_rfl
theorem rep8 : repAll 8 = true := by kernel_rfl
theorem rep9 : repAll 9 = true := by kernel_rfl
theorem rep10 : repAll 10 = true := by kernel_rfl
end Go.Proofs.YtpaadclighadaaaGreatDoor.CodesR
