/- CheckWrong in the abstract machine: some of the numbers. -/
import Derived.Test.YtdcjabepekdboaaGreatDoorCheckWrongT
namespace Go.Proofs.YtdcjabepekdboaaGreatDoor.CheckWrong
open Go Go.Ab CodesCheck
set_option maxRecDepth 100000
theorem at20 : truth (callFast D 100000 3 [.int .i64 (Int.ofNat 20)] Heap.empty) = true := by kernel_rfl
theorem at21 : truth (callFast D 100000 3 [.int .i64 (Int.ofNat 21)] Heap.empty) = true := by kernel_rfl
theorem at22 : truth (callFast D 100000 3 [.int .i64 (Int.ofNat 22)] Heap.empty) = true := by kernel_rfl
theorem at23 : truth (callFast D 100000 3 [.int .i64 (Int.ofNat 23)] Heap.empty) = true := by kernel_rfl
end Go.Proofs.YtdcjabepekdboaaGreatDoor.CheckWrong
