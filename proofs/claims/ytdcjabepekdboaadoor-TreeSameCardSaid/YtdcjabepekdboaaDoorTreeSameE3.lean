/- TreeSame in the abstract machine: some of the numbers. -/
import Derived.Test.YtdcjabepekdboaaDoorTreeSameM
namespace Go.Proofs.YtdcjabepekdboaaDoor.TreeSame
open Go Go.Ab CodesTree
set_option maxRecDepth 100000
theorem at3 : truth (callFast D1 100000 11 [.int .i64 (Int.ofNat 3)] Heap.empty) = true := by kernel_rfl
end Go.Proofs.YtdcjabepekdboaaDoor.TreeSame
