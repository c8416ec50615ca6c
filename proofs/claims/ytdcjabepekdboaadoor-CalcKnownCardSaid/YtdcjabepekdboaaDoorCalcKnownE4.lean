/- CalcKnown in the abstract machine: some of the numbers. -/
import Derived.Test.YtdcjabepekdboaaDoorCalcKnownT
namespace Go.Proofs.YtdcjabepekdboaaDoor.CalcKnown
open Go Go.Ab CodesCalc
set_option maxRecDepth 100000
theorem at12 : truth (callFast C 100000 4 [.int .i64 (Int.ofNat 12)] Heap.empty) = true := by kernel_rfl
theorem at13 : truth (callFast C 100000 4 [.int .i64 (Int.ofNat 13)] Heap.empty) = true := by kernel_rfl
end Go.Proofs.YtdcjabepekdboaaDoor.CalcKnown
