/- TreeWrong in the abstract machine: some of the numbers. -/
import Derived.Test.YtdcjabepekdboaaDoorTreeWrongM
namespace Go.Proofs.YtdcjabepekdboaaDoor.TreeWrong
open Go Go.Ab CodesTree
set_option maxRecDepth 100000
theorem less (k : Nat) : truth (callFast D1 100000 10 [.int .i64 (Int.negSucc k)] Heap.empty) = true := by kernel_rfl
theorem more (k : Nat) : truth (callFast D1 100000 10 [.int .i64 (Int.ofNat (k + 29))] Heap.empty) = true := by kernel_rfl
theorem at0 : truth (callFast D1 100000 10 [.int .i64 (Int.ofNat 0)] Heap.empty) = true := by kernel_rfl
theorem at1 : truth (callFast D1 100000 10 [.int .i64 (Int.ofNat 1)] Heap.empty) = true := by kernel_rfl
theorem at2 : truth (callFast D1 100000 10 [.int .i64 (Int.ofNat 2)] Heap.empty) = true := by kernel_rfl
theorem at3 : truth (callFast D1 100000 10 [.int .i64 (Int.ofNat 3)] Heap.empty) = true := by kernel_rfl
theorem at4 : truth (callFast D1 100000 10 [.int .i64 (Int.ofNat 4)] Heap.empty) = true := by kernel_rfl
end Go.Proofs.YtdcjabepekdboaaDoor.TreeWrong
