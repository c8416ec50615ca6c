/- WorldRefuses in the abstract machine: some of the numbers. -/
import Derived.Test.YthclejjieggdkaaGreatDoorWorldRefusesM
namespace Go.Proofs.YthclejjieggdkaaGreatDoor.WorldRefuses
open Go Go.Ab CodesW
set_option maxRecDepth 100000
theorem at0 : truth (callFast D2 100000 6 [.int .i64 (Int.ofNat 0)] Heap.empty) = true := by kernel_rfl
theorem at1 : truth (callFast D2 100000 6 [.int .i64 (Int.ofNat 1)] Heap.empty) = true := by kernel_rfl
theorem at2 : truth (callFast D2 100000 6 [.int .i64 (Int.ofNat 2)] Heap.empty) = true := by kernel_rfl
theorem at3 : truth (callFast D2 100000 6 [.int .i64 (Int.ofNat 3)] Heap.empty) = true := by kernel_rfl
theorem at4 : truth (callFast D2 100000 6 [.int .i64 (Int.ofNat 4)] Heap.empty) = true := by kernel_rfl
theorem at5 : truth (callFast D2 100000 6 [.int .i64 (Int.ofNat 5)] Heap.empty) = true := by kernel_rfl
theorem at6 : truth (callFast D2 100000 6 [.int .i64 (Int.ofNat 6)] Heap.empty) = true := by kernel_rfl
theorem at7 : truth (callFast D2 100000 6 [.int .i64 (Int.ofNat 7)] Heap.empty) = true := by kernel_rfl
theorem at8 : truth (callFast D2 100000 6 [.int .i64 (Int.ofNat 8)] Heap.empty) = true := by kernel_rfl
end Go.Proofs.YthclejjieggdkaaGreatDoor.WorldRefuses
