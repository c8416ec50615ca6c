/- CheckWrong in the abstract machine: some of the numbers. -/
import Derived.Test.YtdcjabepekdboaaGreatDoorCheckWrongT
namespace Go.Proofs.YtdcjabepekdboaaGreatDoor.CheckWrong
open Go Go.Ab CodesCheck
set_option maxRecDepth 100000
theorem at5 : truth (callFast D 100000 3 [.int .i64 (Int.ofNat 5)] Heap.empty) = true := by kernel_rfl
theorem at6 : truth (callFast D 100000 3 [.int .i64 (Int.ofNat 6)] Heap.empty) = true := by kernel_rfl
theorem at7 : truth (callFast D 100000 3 [.int .i64 (Int.ofNat 7)] Heap.empty) = true := by kernel_rfl
theorem at8 : truth (callFast D 100000 3 [.int .i64 (Int.ofNat 8)] Heap.empty) = true := by kernel_rfl
theorem at9 : truth (callFast D 100000 3 [.int .i64 (Int.ofNat 9)] Heap.empty) = true := by kernel_rfl
end Go.Proofs.YtdcjabepekdboaaGreatDoor.CheckWrong
