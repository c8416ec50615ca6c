/- BigAborts in the abstract machine: some of the numbers. -/
import Derived.Test.YthclejjieggdkaaGreatDoorBigAbortsT
namespace Go.Proofs.YthclejjieggdkaaGreatDoor.BigAborts
open Go Go.Ab CodesB
set_option maxRecDepth 100000
theorem lessX (k : Nat) (m : Int) : truth (callFast D 100000 5 [.int .i64 (Int.negSucc k), .int .i64 m] Heap.empty) = true := by kernel_rfl
theorem moreX (k : Nat) (m : Int) : truth (callFast D 100000 5 [.int .i64 (Int.ofNat (k + 4)), .int .i64 m] Heap.empty) = true := by kernel_rfl
theorem lessY0 (k : Nat) : truth (callFast D 100000 5 [.int .i64 (Int.ofNat 0), .int .i64 (Int.negSucc k)] Heap.empty) = true := by kernel_rfl
theorem moreY0 (k : Nat) : truth (callFast D 100000 5 [.int .i64 (Int.ofNat 0), .int .i64 (Int.ofNat (k + 4))] Heap.empty) = true := by kernel_rfl
theorem lessY1 (k : Nat) : truth (callFast D 100000 5 [.int .i64 (Int.ofNat 1), .int .i64 (Int.negSucc k)] Heap.empty) = true := by kernel_rfl
theorem moreY1 (k : Nat) : truth (callFast D 100000 5 [.int .i64 (Int.ofNat 1), .int .i64 (Int.ofNat (k + 4))] Heap.empty) = true := by kernel_rfl
theorem lessY2 (k : Nat) : truth (callFast D 100000 5 [.int .i64 (Int.ofNat 2), .int .i64 (Int.negSucc k)] Heap.empty) = true := by kernel_rfl
theorem moreY2 (k : Nat) : truth (callFast D 100000 5 [.int .i64 (Int.ofNat 2), .int .i64 (Int.ofNat (k + 4))] Heap.empty) = true := by kernel_rfl
theorem lessY3 (k : Nat) : truth (callFast D 100000 5 [.int .i64 (Int.ofNat 3), .int .i64 (Int.negSucc k)] Heap.empty) = true := by kernel_rfl
theorem moreY3 (k : Nat) : truth (callFast D 100000 5 [.int .i64 (Int.ofNat 3), .int .i64 (Int.ofNat (k + 4))] Heap.empty) = true := by kernel_rfl
end Go.Proofs.YthclejjieggdkaaGreatDoor.BigAborts
