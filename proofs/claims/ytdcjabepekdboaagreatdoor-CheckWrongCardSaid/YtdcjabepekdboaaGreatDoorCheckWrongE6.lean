/- CheckWrong in the abstract machine: some of the numbers. -/
import Derived.Test.YtdcjabepekdboaaGreatDoorCheckWrongT
namespace Go.Proofs.YtdcjabepekdboaaGreatDoor.CheckWrong
open Go Go.Ab CodesCheck
set_option maxRecDepth 100000
theorem at28 : truth (callFast D 100000 3 [.int .i64 (Int.ofNat 28)] Heap.empty) = true := by kernel_rfl
theorem at29 : truth (callFast D 100000 3 [.int .i64 (Int.ofNat 29)] Heap.empty) = true := by kernel_rfl
theorem at30 : truth (callFast D 100000 3 [.int .i64 (Int.ofNat 30)] Heap.empty) = true := by kernel_rfl
theorem at31 : truth (callFast D 100000 3 [.int .i64 (Int.ofNat 31)] Heap.empty) = true := by kernel_rfl
end Go.Proofs.YtdcjabepekdboaaGreatDoor.CheckWrong
