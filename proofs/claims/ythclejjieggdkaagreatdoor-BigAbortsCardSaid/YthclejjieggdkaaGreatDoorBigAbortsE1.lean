/- BigAborts in the abstract machine: some of the numbers. -/
import Derived.Test.YthclejjieggdkaaGreatDoorBigAbortsT
namespace Go.Proofs.YthclejjieggdkaaGreatDoor.BigAborts
open Go Go.Ab CodesB
set_option maxRecDepth 100000
theorem at0x0 : truth (callFast D 100000 5 [.int .i64 (Int.ofNat 0), .int .i64 (Int.ofNat 0)] Heap.empty) = true := by kernel_rfl
theorem at0x1 : truth (callFast D 100000 5 [.int .i64 (Int.ofNat 0), .int .i64 (Int.ofNat 1)] Heap.empty) = true := by kernel_rfl
theorem at0x2 : truth (callFast D 100000 5 [.int .i64 (Int.ofNat 0), .int .i64 (Int.ofNat 2)] Heap.empty) = true := by kernel_rfl
theorem at0x3 : truth (callFast D 100000 5 [.int .i64 (Int.ofNat 0), .int .i64 (Int.ofNat 3)] Heap.empty) = true := by kernel_rfl
theorem at1x0 : truth (callFast D 100000 5 [.int .i64 (Int.ofNat 1), .int .i64 (Int.ofNat 0)] Heap.empty) = true := by kernel_rfl
theorem at1x1 : truth (callFast D 100000 5 [.int .i64 (Int.ofNat 1), .int .i64 (Int.ofNat 1)] Heap.empty) = true := by kernel_rfl
theorem at1x2 : truth (callFast D 100000 5 [.int .i64 (Int.ofNat 1), .int .i64 (Int.ofNat 2)] Heap.empty) = true := by kernel_rfl
theorem at1x3 : truth (callFast D 100000 5 [.int .i64 (Int.ofNat 1), .int .i64 (Int.ofNat 3)] Heap.empty) = true := by kernel_rfl
end Go.Proofs.YthclejjieggdkaaGreatDoor.BigAborts
