/- CalcKnown in the abstract machine: some of the numbers. -/
import Derived.Test.YtdcjabepekdboaaDoorCalcKnownT
namespace Go.Proofs.YtdcjabepekdboaaDoor.CalcKnown
open Go Go.Ab CodesCalc
set_option maxRecDepth 100000
theorem less (k : Nat) : truth (callFast C 100000 4 [.int .i64 (Int.negSucc k)] Heap.empty) = true := by kernel_rfl
theorem more (k : Nat) : truth (callFast C 100000 4 [.int .i64 (Int.ofNat (k + 18))] Heap.empty) = true := by kernel_rfl
theorem at0 : truth (callFast C 100000 4 [.int .i64 (Int.ofNat 0)] Heap.empty) = true := by kernel_rfl
theorem at1 : truth (callFast C 100000 4 [.int .i64 (Int.ofNat 1)] Heap.empty) = true := by kernel_rfl
theorem at2 : truth (callFast C 100000 4 [.int .i64 (Int.ofNat 2)] Heap.empty) = true := by kernel_rfl
end Go.Proofs.YtdcjabepekdboaaDoor.CalcKnown
