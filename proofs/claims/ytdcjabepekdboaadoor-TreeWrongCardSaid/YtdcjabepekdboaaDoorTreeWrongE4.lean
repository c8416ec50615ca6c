/- TreeWrong in the abstract machine: some of the numbers. -/
import Derived.Test.YtdcjabepekdboaaDoorTreeWrongM
namespace Go.Proofs.YtdcjabepekdboaaDoor.TreeWrong
open Go Go.Ab CodesTree
set_option maxRecDepth 100000
theorem at15 : truth (callFast D1 100000 10 [.int .i64 (Int.ofNat 15)] Heap.empty) = true := by kernel_rfl
theorem at16 : truth (callFast D1 100000 10 [.int .i64 (Int.ofNat 16)] Heap.empty) = true := by kernel_rfl
theorem at19 : truth (callFast D1 100000 10 [.int .i64 (Int.ofNat 19)] Heap.empty) = true := by kernel_rfl
end Go.Proofs.YtdcjabepekdboaaDoor.TreeWrong
