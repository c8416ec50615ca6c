/- TreeSame in the abstract machine: some of the numbers. -/
import Derived.Test.YtdcjabepekdboaaDoorTreeSameM
namespace Go.Proofs.YtdcjabepekdboaaDoor.TreeSame
open Go Go.Ab CodesTree
set_option maxRecDepth 100000
theorem less (k : Nat) : truth (callFast D1 100000 11 [.int .i64 (Int.negSucc k)] Heap.empty) = true := by kernel_rfl
theorem more (k : Nat) : truth (callFast D1 100000 11 [.int .i64 (Int.ofNat (k + 8))] Heap.empty) = true := by kernel_rfl
theorem at0 : truth (callFast D1 100000 11 [.int .i64 (Int.ofNat 0)] Heap.empty) = true := by kernel_rfl
theorem at7 : truth (callFast D1 100000 11 [.int .i64 (Int.ofNat 7)] Heap.empty) = true := by kernel_rfl
end Go.Proofs.YtdcjabepekdboaaDoor.TreeSame
