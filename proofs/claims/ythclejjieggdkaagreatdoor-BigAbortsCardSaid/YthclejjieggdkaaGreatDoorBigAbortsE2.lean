/- BigAborts in the abstract machine: some of the numbers. -/
import Derived.Test.YthclejjieggdkaaGreatDoorBigAbortsT
namespace Go.Proofs.YthclejjieggdkaaGreatDoor.BigAborts
open Go Go.Ab CodesB
set_option maxRecDepth 100000
theorem at2x0 : truth (callFast D 100000 5 [.int .i64 (Int.ofNat 2), .int .i64 (Int.ofNat 0)] Heap.empty) = true := by kernel_rfl
theorem at2x1 : truth (callFast D 100000 5 [.int .i64 (Int.ofNat 2), .int .i64 (Int.ofNat 1)] Heap.empty) = true := by kernel_rfl
theorem at2x2 : truth (callFast D 100000 5 [.int .i64 (Int.ofNat 2), .int .i64 (Int.ofNat 2)] Heap.empty) = true := by kernel_rfl
theorem at2x3 : truth (callFast D 100000 5 [.int .i64 (Int.ofNat 2), .int .i64 (Int.ofNat 3)] Heap.empty) = true := by kernel_rfl
theorem at3x0 : truth (callFast D 100000 5 [.int .i64 (Int.ofNat 3), .int .i64 (Int.ofNat 0)] Heap.empty) = true := by kernel_rfl
theorem at3x1 : truth (callFast D 100000 5 [.int .i64 (Int.ofNat 3), .int .i64 (Int.ofNat 1)] Heap.empty) = true := by kernel_rfl
theorem at3x2 : truth (callFast D 100000 5 [.int .i64 (Int.ofNat 3), .int .i64 (Int.ofNat 2)] Heap.empty) = true := by kernel_rfl
theorem at3x3 : truth (callFast D 100000 5 [.int .i64 (Int.ofNat 3), .int .i64 (Int.ofNat 3)] Heap.empty) = true := by kernel_rfl
end Go.Proofs.YthclejjieggdkaaGreatDoor.BigAborts
