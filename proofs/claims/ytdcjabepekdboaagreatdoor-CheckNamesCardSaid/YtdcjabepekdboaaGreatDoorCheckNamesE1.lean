/- CheckNames in the abstract machine: some of the numbers. -/
import Derived.Test.YtdcjabepekdboaaGreatDoorCheckNamesT
namespace Go.Proofs.YtdcjabepekdboaaGreatDoor.CheckNames
open Go Go.Ab CodesCheck
set_option maxRecDepth 100000
theorem at1 : truth (callFast D 100000 5 [.int .i64 (Int.ofNat 1)] Heap.empty) = true := by kernel_rfl
theorem at4 : truth (callFast D 100000 5 [.int .i64 (Int.ofNat 4)] Heap.empty) = true := by kernel_rfl
theorem at5 : truth (callFast D 100000 5 [.int .i64 (Int.ofNat 5)] Heap.empty) = true := by kernel_rfl
end Go.Proofs.YtdcjabepekdboaaGreatDoor.CheckNames
