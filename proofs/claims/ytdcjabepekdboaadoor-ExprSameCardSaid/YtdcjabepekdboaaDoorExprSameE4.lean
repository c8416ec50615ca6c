/- ExprSame in the abstract machine: some of the numbers. -/
import Derived.Test.YtdcjabepekdboaaDoorExprSameT
namespace Go.Proofs.YtdcjabepekdboaaDoor.ExprSame
open Go Go.Ab CodesExpr
set_option maxRecDepth 100000
theorem at11 : truth (callFast D 100000 7 [.int .i64 (Int.ofNat 11)] Heap.empty) = true := by kernel_rfl
theorem at13 : truth (callFast D 100000 7 [.int .i64 (Int.ofNat 13)] Heap.empty) = true := by kernel_rfl
end Go.Proofs.YtdcjabepekdboaaDoor.ExprSame
