/- CheckWrong in the abstract machine: some of the numbers. -/
import Derived.Test.YtdcjabepekdboaaGreatDoorCheckWrongT
namespace Go.Proofs.YtdcjabepekdboaaGreatDoor.CheckWrong
open Go Go.Ab CodesCheck
set_option maxRecDepth 100000
theorem at15 : truth (callFast D 100000 3 [.int .i64 (Int.ofNat 15)] Heap.empty) = true := by kernel_rfl
theorem at16 : truth (callFast D 100000 3 [.int .i64 (Int.ofNat 16)] Heap.empty) = true := by kernel_rfl
theorem at17 : truth (callFast D 100000 3 [.int .i64 (Int.ofNat 17)] Heap.empty) = true := by kernel_rfl
theorem at18 : truth (callFast D 100000 3 [.int .i64 (Int.ofNat 18)] Heap.empty) = true := by kernel_rfl
theorem at19 : truth (callFast D 100000 3 [.int .i64 (Int.ofNat 19)] Heap.empty) = true := by kernel_rfl
end Go.Proofs.YtdcjabepekdboaaGreatDoor.CheckWrong
