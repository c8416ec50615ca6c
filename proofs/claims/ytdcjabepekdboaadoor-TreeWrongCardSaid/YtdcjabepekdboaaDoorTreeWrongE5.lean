/- TreeWrong in the abstract machine: some of the numbers. -/
import Derived.Test.YtdcjabepekdboaaDoorTreeWrongM
namespace Go.Proofs.YtdcjabepekdboaaDoor.TreeWrong
open Go Go.Ab CodesTree
set_option maxRecDepth 100000
theorem at20 : truth (callFast D1 100000 10 [.int .i64 (Int.ofNat 20)] Heap.empty) = true := by kernel_rfl
theorem at21 : truth (callFast D1 100000 10 [.int .i64 (Int.ofNat 21)] Heap.empty) = true := by kernel_rfl
theorem at22 : truth (callFast D1 100000 10 [.int .i64 (Int.ofNat 22)] Heap.empty) = true := by kernel_rfl
end Go.Proofs.YtdcjabepekdboaaDoor.TreeWrong
