/- LexSigns in the abstract machine: some of the numbers. -/
import Derived.Test.YtdcjabepekdboaaDoorLexSignsT
namespace Go.Proofs.YtdcjabepekdboaaDoor.LexSigns
open Go Go.Ab CodesLex
set_option maxRecDepth 100000
theorem less (k : Nat) : truth (callFast C 100000 3 [.int .i64 (Int.negSucc k)] Heap.empty) = true := by kernel_rfl
theorem more (k : Nat) : truth (callFast C 100000 3 [.int .i64 (Int.ofNat (k + 10))] Heap.empty) = true := by kernel_rfl
theorem at0 : truth (callFast C 100000 3 [.int .i64 (Int.ofNat 0)] Heap.empty) = true := by kernel_rfl
end Go.Proofs.YtdcjabepekdboaaDoor.LexSigns
