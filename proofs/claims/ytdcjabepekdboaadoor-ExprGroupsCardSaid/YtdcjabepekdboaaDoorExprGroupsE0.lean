/- ExprGroups in the abstract machine: some of the numbers. -/
import Derived.Test.YtdcjabepekdboaaDoorExprGroupsT
namespace Go.Proofs.YtdcjabepekdboaaDoor.ExprGroups
open Go Go.Ab CodesExpr
set_option maxRecDepth 100000
theorem lessX (k : Nat) (m : Int) : truth (callFast D 100000 6 [.int .i64 (Int.negSucc k), .int .i64 m] Heap.empty) = true := by kernel_rfl
theorem moreX (k : Nat) (m : Int) : truth (callFast D 100000 6 [.int .i64 (Int.ofNat (k + 8)), .int .i64 m] Heap.empty) = true := by kernel_rfl
theorem lessY0 (k : Nat) : truth (callFast D 100000 6 [.int .i64 (Int.ofNat 0), .int .i64 (Int.negSucc k)] Heap.empty) = true := by kernel_rfl
theorem moreY0 (k : Nat) : truth (callFast D 100000 6 [.int .i64 (Int.ofNat 0), .int .i64 (Int.ofNat (k + 8))] Heap.empty) = true := by kernel_rfl
theorem lessY1 (k : Nat) : truth (callFast D 100000 6 [.int .i64 (Int.ofNat 1), .int .i64 (Int.negSucc k)] Heap.empty) = true := by kernel_rfl
theorem moreY1 (k : Nat) : truth (callFast D 100000 6 [.int .i64 (Int.ofNat 1), .int .i64 (Int.ofNat (k + 8))] Heap.empty) = true := by kernel_rfl
theorem lessY2 (k : Nat) : truth (callFast D 100000 6 [.int .i64 (Int.ofNat 2), .int .i64 (Int.negSucc k)] Heap.empty) = true := by kernel_rfl
theorem moreY2 (k : Nat) : truth (callFast D 100000 6 [.int .i64 (Int.ofNat 2), .int .i64 (Int.ofNat (k + 8))] Heap.empty) = true := by kernel_rfl
theorem lessY3 (k : Nat) : truth (callFast D 100000 6 [.int .i64 (Int.ofNat 3), .int .i64 (Int.negSucc k)] Heap.empty) = true := by kernel_rfl
theorem moreY3 (k : Nat) : truth (callFast D 100000 6 [.int .i64 (Int.ofNat 3), .int .i64 (Int.ofNat (k + 8))] Heap.empty) = true := by kernel_rfl
theorem lessY4 (k : Nat) : truth (callFast D 100000 6 [.int .i64 (Int.ofNat 4), .int .i64 (Int.negSucc k)] Heap.empty) = true := by kernel_rfl
theorem moreY4 (k : Nat) : truth (callFast D 100000 6 [.int .i64 (Int.ofNat 4), .int .i64 (Int.ofNat (k + 8))] Heap.empty) = true := by kernel_rfl
theorem lessY5 (k : Nat) : truth (callFast D 100000 6 [.int .i64 (Int.ofNat 5), .int .i64 (Int.negSucc k)] Heap.empty) = true := by kernel_rfl
theorem moreY5 (k : Nat) : truth (callFast D 100000 6 [.int .i64 (Int.ofNat 5), .int .i64 (Int.ofNat (k + 8))] Heap.empty) = true := by kernel_rfl
theorem lessY6 (k : Nat) : truth (callFast D 100000 6 [.int .i64 (Int.ofNat 6), .int .i64 (Int.negSucc k)] Heap.empty) = true := by kernel_rfl
theorem moreY6 (k : Nat) : truth (callFast D 100000 6 [.int .i64 (Int.ofNat 6), .int .i64 (Int.ofNat (k + 8))] Heap.empty) = true := by kernel_rfl
theorem lessY7 (k : Nat) : truth (callFast D 100000 6 [.int .i64 (Int.ofNat 7), .int .i64 (Int.negSucc k)] Heap.empty) = true := by kernel_rfl
theorem moreY7 (k : Nat) : truth (callFast D 100000 6 [.int .i64 (Int.ofNat 7), .int .i64 (Int.ofNat (k + 8))] Heap.empty) = true := by kernel_rfl
end Go.Proofs.YtdcjabepekdboaaDoor.ExprGroups
