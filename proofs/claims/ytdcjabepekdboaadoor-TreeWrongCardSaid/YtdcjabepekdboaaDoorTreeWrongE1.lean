/- TreeWrong in the abstract machine: some of the numbers. -/
import Derived.Test.YtdcjabepekdboaaDoorTreeWrongM
namespace Go.Proofs.YtdcjabepekdboaaDoor.TreeWrong
open Go Go.Ab CodesTree
set_option maxRecDepth 100000
theorem at5 : truth (callFast D1 100000 10 [.int .i64 (Int.ofNat 5)] Heap.empty) = true := by kernel_rfl
theorem at6 : truth (callFast D1 100000 10 [.int .i64 (Int.ofNat 6)] Heap.empty) = true := by kernel_rfl
theorem at7 : truth (callFast D1 100000 10 [.int .i64 (Int.ofNat 7)] Heap.empty) = true := by kernel_rfl
theorem at8 : truth (callFast D1 100000 10 [.int .i64 (Int.ofNat 8)] Heap.empty) = true := by kernel_rfl
end Go.Proofs.YtdcjabepekdboaaDoor.TreeWrong
