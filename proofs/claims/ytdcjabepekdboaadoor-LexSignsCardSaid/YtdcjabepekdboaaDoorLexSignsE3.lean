/- LexSigns in the abstract machine: some of the numbers. -/
import Derived.Test.YtdcjabepekdboaaDoorLexSignsT
namespace Go.Proofs.YtdcjabepekdboaaDoor.LexSigns
open Go Go.Ab CodesLex
set_option maxRecDepth 100000
theorem at7 : truth (callFast C 100000 3 [.int .i64 (Int.ofNat 7)] Heap.empty) = true := by kernel_rfl
theorem at8 : truth (callFast C 100000 3 [.int .i64 (Int.ofNat 8)] Heap.empty) = true := by kernel_rfl
theorem at9 : truth (callFast C 100000 3 [.int .i64 (Int.ofNat 9)] Heap.empty) = true := by kernel_rfl
end Go.Proofs.YtdcjabepekdboaaDoor.LexSigns
