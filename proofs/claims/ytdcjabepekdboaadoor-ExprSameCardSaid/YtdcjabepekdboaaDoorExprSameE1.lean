/- ExprSame in the abstract machine: some of the numbers. -/
import Derived.Test.YtdcjabepekdboaaDoorExprSameT
namespace Go.Proofs.YtdcjabepekdboaaDoor.ExprSame
open Go Go.Ab CodesExpr
set_option maxRecDepth 100000
theorem at4 : truth (callFast D 100000 7 [.int .i64 (Int.ofNat 4)] Heap.empty) = true := by kernel_rfl
theorem at5 : truth (callFast D 100000 7 [.int .i64 (Int.ofNat 5)] Heap.empty) = true := by kernel_rfl
theorem at6 : truth (callFast D 100000 7 [.int .i64 (Int.ofNat 6)] Heap.empty) = true := by kernel_rfl
theorem at12 : truth (callFast D 100000 7 [.int .i64 (Int.ofNat 12)] Heap.empty) = true := by kernel_rfl
end Go.Proofs.YtdcjabepekdboaaDoor.ExprSame
