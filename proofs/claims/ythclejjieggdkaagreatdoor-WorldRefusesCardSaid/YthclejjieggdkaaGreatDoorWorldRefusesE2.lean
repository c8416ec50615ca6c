/- WorldRefuses in the abstract machine: some of the numbers. -/
import Derived.Test.YthclejjieggdkaaGreatDoorWorldRefusesM
namespace Go.Proofs.YthclejjieggdkaaGreatDoor.WorldRefuses
open Go Go.Ab CodesW
set_option maxRecDepth 100000
theorem at9 : truth (callFast D2 100000 6 [.int .i64 (Int.ofNat 9)] Heap.empty) = true := by kernel_rfl
theorem at10 : truth (callFast D2 100000 6 [.int .i64 (Int.ofNat 10)] Heap.empty) = true := by kernel_rfl
theorem at11 : truth (callFast D2 100000 6 [.int .i64 (Int.ofNat 11)] Heap.empty) = true := by kernel_rfl
theorem at12 : truth (callFast D2 100000 6 [.int .i64 (Int.ofNat 12)] Heap.empty) = true := by kernel_rfl
theorem at13 : truth (callFast D2 100000 6 [.int .i64 (Int.ofNat 13)] Heap.empty) = true := by kernel_rfl
theorem at14 : truth (callFast D2 100000 6 [.int .i64 (Int.ofNat 14)] Heap.empty) = true := by kernel_rfl
theorem at15 : truth (callFast D2 100000 6 [.int .i64 (Int.ofNat 15)] Heap.empty) = true := by kernel_rfl
theorem at16 : truth (callFast D2 100000 6 [.int .i64 (Int.ofNat 16)] Heap.empty) = true := by kernel_rfl
theorem at17 : truth (callFast D2 100000 6 [.int .i64 (Int.ofNat 17)] Heap.empty) = true := by kernel_rfl
end Go.Proofs.YthclejjieggdkaaGreatDoor.WorldRefuses
