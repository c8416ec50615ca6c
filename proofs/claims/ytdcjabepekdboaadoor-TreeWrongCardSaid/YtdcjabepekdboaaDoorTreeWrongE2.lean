/- TreeWrong in the abstract machine: some of the numbers. -/
import Derived.Test.YtdcjabepekdboaaDoorTreeWrongM
namespace Go.Proofs.YtdcjabepekdboaaDoor.TreeWrong
open Go Go.Ab CodesTree
set_option maxRecDepth 100000
theorem at9 : truth (callFast D1 100000 10 [.int .i64 (Int.ofNat 9)] Heap.empty) = true := by kernel_rfl
theorem at10 : truth (callFast D1 100000 10 [.int .i64 (Int.ofNat 10)] Heap.empty) = true := by kernel_rfl
theorem at11 : truth (callFast D1 100000 10 [.int .i64 (Int.ofNat 11)] Heap.empty) = true := by kernel_rfl
theorem at12 : truth (callFast D1 100000 10 [.int .i64 (Int.ofNat 12)] Heap.empty) = true := by kernel_rfl
end Go.Proofs.YtdcjabepekdboaaDoor.TreeWrong
