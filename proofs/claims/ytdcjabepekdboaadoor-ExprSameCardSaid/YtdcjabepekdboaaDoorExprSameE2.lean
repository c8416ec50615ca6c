/- ExprSame in the abstract machine: some of the numbers. -/
import Derived.Test.YtdcjabepekdboaaDoorExprSameT
namespace Go.Proofs.YtdcjabepekdboaaDoor.ExprSame
open Go Go.Ab CodesExpr
set_option maxRecDepth 100000
theorem at7 : truth (callFast D 100000 7 [.int .i64 (Int.ofNat 7)] Heap.empty) = true := by kernel_rfl
theorem at8 : truth (callFast D 100000 7 [.int .i64 (Int.ofNat 8)] Heap.empty) = true := by kernel_rfl
end Go.Proofs.YtdcjabepekdboaaDoor.ExprSame
