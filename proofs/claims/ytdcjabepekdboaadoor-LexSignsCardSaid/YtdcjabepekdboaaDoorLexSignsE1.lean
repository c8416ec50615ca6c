/- LexSigns in the abstract machine: some of the numbers. -/
import Derived.Test.YtdcjabepekdboaaDoorLexSignsT
namespace Go.Proofs.YtdcjabepekdboaaDoor.LexSigns
open Go Go.Ab CodesLex
set_option maxRecDepth 100000
theorem at1 : truth (callFast C 100000 3 [.int .i64 (Int.ofNat 1)] Heap.empty) = true := by kernel_rfl
theorem at2 : truth (callFast C 100000 3 [.int .i64 (Int.ofNat 2)] Heap.empty) = true := by kernel_rfl
theorem at3 : truth (callFast C 100000 3 [.int .i64 (Int.ofNat 3)] Heap.empty) = true := by kernel_rfl
end Go.Proofs.YtdcjabepekdboaaDoor.LexSigns
