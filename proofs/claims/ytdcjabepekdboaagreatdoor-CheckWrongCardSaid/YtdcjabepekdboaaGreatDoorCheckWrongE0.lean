/- CheckWrong in the abstract machine: some of the numbers. -/
import Derived.Test.YtdcjabepekdboaaGreatDoorCheckWrongT
namespace Go.Proofs.YtdcjabepekdboaaGreatDoor.CheckWrong
open Go Go.Ab CodesCheck
set_option maxRecDepth 100000
theorem less (k : Nat) : truth (callFast D 100000 3 [.int .i64 (Int.negSucc k)] Heap.empty) = true := by kernel_rfl
theorem more (k : Nat) : truth (callFast D 100000 3 [.int .i64 (Int.ofNat (k + 32))] Heap.empty) = true := by kernel_rfl
theorem at0 : truth (callFast D 100000 3 [.int .i64 (Int.ofNat 0)] Heap.empty) = true := by kernel_rfl
theorem at1 : truth (callFast D 100000 3 [.int .i64 (Int.ofNat 1)] Heap.empty) = true := by kernel_rfl
theorem at2 : truth (callFast D 100000 3 [.int .i64 (Int.ofNat 2)] Heap.empty) = true := by kernel_rfl
theorem at3 : truth (callFast D 100000 3 [.int .i64 (Int.ofNat 3)] Heap.empty) = true := by kernel_rfl
theorem at4 : truth (callFast D 100000 3 [.int .i64 (Int.ofNat 4)] Heap.empty) = true := by kernel_rfl
end Go.Proofs.YtdcjabepekdboaaGreatDoor.CheckWrong
