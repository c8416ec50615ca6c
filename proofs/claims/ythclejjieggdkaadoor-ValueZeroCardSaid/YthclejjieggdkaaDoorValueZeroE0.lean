/- ValueZero in the abstract machine: some of the numbers. -/
import Derived.Test.YthclejjieggdkaaDoorValueZeroT
namespace Go.Proofs.YthclejjieggdkaaDoor.ValueZero
open Go Go.Ab CodesZ
set_option maxRecDepth 100000
theorem less (k : Nat) : truth (callFast D 100000 4 [.int .i64 (Int.negSucc k)] Heap.empty) = true := by kernel_rfl
theorem more (k : Nat) : truth (callFast D 100000 4 [.int .i64 (Int.ofNat (k + 5))] Heap.empty) = true := by kernel_rfl
theorem at0 : truth (callFast D 100000 4 [.int .i64 (Int.ofNat 0)] Heap.empty) = true := by kernel_rfl
theorem at1 : truth (callFast D 100000 4 [.int .i64 (Int.ofNat 1)] Heap.empty) = true := by kernel_rfl
theorem at2 : truth (callFast D 100000 4 [.int .i64 (Int.ofNat 2)] Heap.empty) = true := by kernel_rfl
theorem at3 : truth (callFast D 100000 4 [.int .i64 (Int.ofNat 3)] Heap.empty) = true := by kernel_rfl
theorem at4 : truth (callFast D 100000 4 [.int .i64 (Int.ofNat 4)] Heap.empty) = true := by kernel_rfl
end Go.Proofs.YthclejjieggdkaaDoor.ValueZero
