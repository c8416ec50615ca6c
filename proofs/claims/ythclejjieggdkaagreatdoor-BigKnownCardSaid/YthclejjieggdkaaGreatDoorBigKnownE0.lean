/- BigKnown in the abstract machine: some of the numbers. -/
import Derived.Test.YthclejjieggdkaaGreatDoorBigKnownT
namespace Go.Proofs.YthclejjieggdkaaGreatDoor.BigKnown
open Go Go.Ab CodesB
set_option maxRecDepth 100000
theorem less (k : Nat) : truth (callFast D 100000 4 [.int .i64 (Int.negSucc k)] Heap.empty) = true := by kernel_rfl
theorem more (k : Nat) : truth (callFast D 100000 4 [.int .i64 (Int.ofNat (k + 20))] Heap.empty) = true := by kernel_rfl
theorem at0 : truth (callFast D 100000 4 [.int .i64 (Int.ofNat 0)] Heap.empty) = true := by kernel_rfl
theorem at1 : truth (callFast D 100000 4 [.int .i64 (Int.ofNat 1)] Heap.empty) = true := by kernel_rfl
theorem at2 : truth (callFast D 100000 4 [.int .i64 (Int.ofNat 2)] Heap.empty) = true := by kernel_rfl
theorem at3 : truth (callFast D 100000 4 [.int .i64 (Int.ofNat 3)] Heap.empty) = true := by kernel_rfl
theorem at4 : truth (callFast D 100000 4 [.int .i64 (Int.ofNat 4)] Heap.empty) = true := by kernel_rfl
theorem at5 : truth (callFast D 100000 4 [.int .i64 (Int.ofNat 5)] Heap.empty) = true := by kernel_rfl
theorem at6 : truth (callFast D 100000 4 [.int .i64 (Int.ofNat 6)] Heap.empty) = true := by kernel_rfl
theorem at7 : truth (callFast D 100000 4 [.int .i64 (Int.ofNat 7)] Heap.empty) = true := by kernel_rfl
theorem at8 : truth (callFast D 100000 4 [.int .i64 (Int.ofNat 8)] Heap.empty) = true := by kernel_rfl
theorem at9 : truth (callFast D 100000 4 [.int .i64 (Int.ofNat 9)] Heap.empty) = true := by kernel_rfl
end Go.Proofs.YthclejjieggdkaaGreatDoor.BigKnown
