/- ExprGroups in the abstract machine: some of the numbers. -/
import Derived.Test.YtdcjabepekdboaaDoorExprGroupsT
namespace Go.Proofs.YtdcjabepekdboaaDoor.ExprGroups
open Go Go.Ab CodesExpr
set_option maxRecDepth 100000
theorem at4x4 : truth (callFast D 100000 6 [.int .i64 (Int.ofNat 4), .int .i64 (Int.ofNat 4)] Heap.empty) = true := by kernel_rfl
theorem at4x5 : truth (callFast D 100000 6 [.int .i64 (Int.ofNat 4), .int .i64 (Int.ofNat 5)] Heap.empty) = true := by kernel_rfl
theorem at4x6 : truth (callFast D 100000 6 [.int .i64 (Int.ofNat 4), .int .i64 (Int.ofNat 6)] Heap.empty) = true := by kernel_rfl
theorem at4x7 : truth (callFast D 100000 6 [.int .i64 (Int.ofNat 4), .int .i64 (Int.ofNat 7)] Heap.empty) = true := by kernel_rfl
end Go.Proofs.YtdcjabepekdboaaDoor.ExprGroups
