/- TreeWrong in the abstract machine: some of the numbers. -/
import Derived.Test.YtdcjabepekdboaaDoorTreeWrongM
namespace Go.Proofs.YtdcjabepekdboaaDoor.TreeWrong
open Go Go.Ab CodesTree
set_option maxRecDepth 100000
theorem at13 : truth (callFast D1 100000 10 [.int .i64 (Int.ofNat 13)] Heap.empty) = true := by kernel_rfl
theorem at14 : truth (callFast D1 100000 10 [.int .i64 (Int.ofNat 14)] Heap.empty) = true := by kernel_rfl
theorem at17 : truth (callFast D1 100000 10 [.int .i64 (Int.ofNat 17)] Heap.empty) = true := by kernel_rfl
theorem at18 : truth (callFast D1 100000 10 [.int .i64 (Int.ofNat 18)] Heap.empty) = true := by kernel_rfl
end Go.Proofs.YtdcjabepekdboaaDoor.TreeWrong
