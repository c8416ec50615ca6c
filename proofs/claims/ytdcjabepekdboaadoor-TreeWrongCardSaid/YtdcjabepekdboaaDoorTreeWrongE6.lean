/- TreeWrong in the abstract machine: some of the numbers. -/
import Derived.Test.YtdcjabepekdboaaDoorTreeWrongM
namespace Go.Proofs.YtdcjabepekdboaaDoor.TreeWrong
open Go Go.Ab CodesTree
set_option maxRecDepth 100000
theorem at23 : truth (callFast D1 100000 10 [.int .i64 (Int.ofNat 23)] Heap.empty) = true := by kernel_rfl
theorem at24 : truth (callFast D1 100000 10 [.int .i64 (Int.ofNat 24)] Heap.empty) = true := by kernel_rfl
theorem at25 : truth (callFast D1 100000 10 [.int .i64 (Int.ofNat 25)] Heap.empty) = true := by kernel_rfl
end Go.Proofs.YtdcjabepekdboaaDoor.TreeWrong
