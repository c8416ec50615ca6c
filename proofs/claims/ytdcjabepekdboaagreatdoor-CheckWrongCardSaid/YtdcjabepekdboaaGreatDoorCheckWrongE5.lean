/- CheckWrong in the abstract machine: some of the numbers. -/
import Derived.Test.YtdcjabepekdboaaGreatDoorCheckWrongT
namespace Go.Proofs.YtdcjabepekdboaaGreatDoor.CheckWrong
open Go Go.Ab CodesCheck
set_option maxRecDepth 100000
theorem at24 : truth (callFast D 100000 3 [.int .i64 (Int.ofNat 24)] Heap.empty) = true := by kernel_rfl
theorem at25 : truth (callFast D 100000 3 [.int .i64 (Int.ofNat 25)] Heap.empty) = true := by kernel_rfl
theorem at26 : truth (callFast D 100000 3 [.int .i64 (Int.ofNat 26)] Heap.empty) = true := by kernel_rfl
theorem at27 : truth (callFast D 100000 3 [.int .i64 (Int.ofNat 27)] Heap.empty) = true := by kernel_rfl
end Go.Proofs.YtdcjabepekdboaaGreatDoor.CheckWrong
