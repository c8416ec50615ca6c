/- CheckWrong in the abstract machine: some of the numbers. -/
import Derived.Test.YtdcjabepekdboaaGreatDoorCheckWrongT
namespace Go.Proofs.YtdcjabepekdboaaGreatDoor.CheckWrong
open Go Go.Ab CodesCheck
set_option maxRecDepth 100000
theorem at10 : truth (callFast D 100000 3 [.int .i64 (Int.ofNat 10)] Heap.empty) = true := by kernel_rfl
theorem at11 : truth (callFast D 100000 3 [.int .i64 (Int.ofNat 11)] Heap.empty) = true := by kernel_rfl
theorem at12 : truth (callFast D 100000 3 [.int .i64 (Int.ofNat 12)] Heap.empty) = true := by kernel_rfl
theorem at13 : truth (callFast D 100000 3 [.int .i64 (Int.ofNat 13)] Heap.empty) = true := by kernel_rfl
theorem at14 : truth (callFast D 100000 3 [.int .i64 (Int.ofNat 14)] Heap.empty) = true := by kernel_rfl
end Go.Proofs.YtdcjabepekdboaaGreatDoor.CheckWrong
