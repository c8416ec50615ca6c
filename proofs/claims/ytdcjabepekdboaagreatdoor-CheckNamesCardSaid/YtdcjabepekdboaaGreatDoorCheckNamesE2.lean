/- CheckNames in the abstract machine: some of the numbers. -/
import Derived.Test.YtdcjabepekdboaaGreatDoorCheckNamesT
namespace Go.Proofs.YtdcjabepekdboaaGreatDoor.CheckNames
open Go Go.Ab CodesCheck
set_option maxRecDepth 100000
theorem at6 : truth (callFast D 100000 5 [.int .i64 (Int.ofNat 6)] Heap.empty) = true := by kernel_rfl
theorem at7 : truth (callFast D 100000 5 [.int .i64 (Int.ofNat 7)] Heap.empty) = true := by kernel_rfl
end Go.Proofs.YtdcjabepekdboaaGreatDoor.CheckNames
