/- TreeWrong in the abstract machine: some of the numbers. -/
import Derived.Test.YtdcjabepekdboaaDoorTreeWrongM
namespace Go.Proofs.YtdcjabepekdboaaDoor.TreeWrong
open Go Go.Ab CodesTree
set_option maxRecDepth 100000
theorem at26 : truth (callFast D1 100000 10 [.int .i64 (Int.ofNat 26)] Heap.empty) = true := by kernel_rfl
theorem at27 : truth (callFast D1 100000 10 [.int .i64 (Int.ofNat 27)] Heap.empty) = true := by kernel_rfl
theorem at28 : truth (callFast D1 100000 10 [.int .i64 (Int.ofNat 28)] Heap.empty) = true := by kernel_rfl
end Go.Proofs.YtdcjabepekdboaaDoor.TreeWrong
