/- ExprGroups in the abstract machine: some of the numbers. -/
import Derived.Test.YtdcjabepekdboaaDoorExprGroupsT
namespace Go.Proofs.YtdcjabepekdboaaDoor.ExprGroups
open Go Go.Ab CodesExpr
set_option maxRecDepth 100000
theorem at1x0 : truth (callFast D 100000 6 [.int .i64 (Int.ofNat 1), .int .i64 (Int.ofNat 0)] Heap.empty) = true := by kernel_rfl
theorem at1x1 : truth (callFast D 100000 6 [.int .i64 (Int.ofNat 1), .int .i64 (Int.ofNat 1)] Heap.empty) = true := by kernel_rfl
theorem at1x2 : truth (callFast D 100000 6 [.int .i64 (Int.ofNat 1), .int .i64 (Int.ofNat 2)] Heap.empty) = true := by kernel_rfl
theorem at1x3 : truth (callFast D 100000 6 [.int .i64 (Int.ofNat 1), .int .i64 (Int.ofNat 3)] Heap.empty) = true := by kernel_rfl
end Go.Proofs.YtdcjabepekdboaaDoor.ExprGroups
