/- WorldRefuses in the abstract machine: some of the numbers. -/
import Derived.Test.YthclejjieggdkaaGreatDoorWorldRefusesM
namespace Go.Proofs.YthclejjieggdkaaGreatDoor.WorldRefuses
open Go Go.Ab CodesW
set_option maxRecDepth 100000
theorem at18 : truth (callFast D2 100000 6 [.int .i64 (Int.ofNat 18)] Heap.empty) = true := by kernel_rfl
theorem at19 : truth (callFast D2 100000 6 [.int .i64 (Int.ofNat 19)] Heap.empty) = true := by kernel_rfl
theorem at20 : truth (callFast D2 100000 6 [.int .i64 (Int.ofNat 20)] Heap.empty) = true := by kernel_rfl
theorem at21 : truth (callFast D2 100000 6 [.int .i64 (Int.ofNat 21)] Heap.empty) = true := by kernel_rfl
theorem at22 : truth (callFast D2 100000 6 [.int .i64 (Int.ofNat 22)] Heap.empty) = true := by kernel_rfl
theorem at23 : truth (callFast D2 100000 6 [.int .i64 (Int.ofNat 23)] Heap.empty) = true := by kernel_rfl
theorem at24 : truth (callFast D2 100000 6 [.int .i64 (Int.ofNat 24)] Heap.empty) = true := by kernel_rfl
theorem at25 : truth (callFast D2 100000 6 [.int .i64 (Int.ofNat 25)] Heap.empty) = true := by kernel_rfl
end Go.Proofs.YthclejjieggdkaaGreatDoor.WorldRefuses
