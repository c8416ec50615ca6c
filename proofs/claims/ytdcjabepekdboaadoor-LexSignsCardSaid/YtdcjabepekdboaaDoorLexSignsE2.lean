/- LexSigns in the abstract machine: some of the numbers. -/
import Derived.Test.YtdcjabepekdboaaDoorLexSignsT
namespace Go.Proofs.YtdcjabepekdboaaDoor.LexSigns
open Go Go.Ab CodesLex
set_option maxRecDepth 100000
theorem at4 : truth (callFast C 100000 3 [.int .i64 (Int.ofNat 4)] Heap.empty) = true := by kernel_rfl
theorem at5 : truth (callFast C 100000 3 [.int .i64 (Int.ofNat 5)] Heap.empty) = true := by kernel_rfl
theorem at6 : truth (callFast C 100000 3 [.int .i64 (Int.ofNat 6)] Heap.empty) = true := by kernel_rfl
end Go.Proofs.YtdcjabepekdboaaDoor.LexSigns
