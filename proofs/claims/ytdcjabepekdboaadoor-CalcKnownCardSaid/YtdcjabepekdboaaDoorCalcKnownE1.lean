/- CalcKnown in the abstract machine: some of the numbers. -/
import Derived.Test.YtdcjabepekdboaaDoorCalcKnownT
namespace Go.Proofs.YtdcjabepekdboaaDoor.CalcKnown
open Go Go.Ab CodesCalc
set_option maxRecDepth 100000
theorem at3 : truth (callFast C 100000 4 [.int .i64 (Int.ofNat 3)] Heap.empty) = true := by kernel_rfl
theorem at4 : truth (callFast C 100000 4 [.int .i64 (Int.ofNat 4)] Heap.empty) = true := by kernel_rfl
theorem at5 : truth (callFast C 100000 4 [.int .i64 (Int.ofNat 5)] Heap.empty) = true := by kernel_rfl
theorem at6 : truth (callFast C 100000 4 [.int .i64 (Int.ofNat 6)] Heap.empty) = true := by kernel_rfl
end Go.Proofs.YtdcjabepekdboaaDoor.CalcKnown
