/- WorldRefuses in the abstract machine: some of the numbers. -/
import Derived.Test.YthclejjieggdkaaGreatDoorWorldRefusesM
namespace Go.Proofs.YthclejjieggdkaaGreatDoor.WorldRefuses
open Go Go.Ab CodesW
set_option maxRecDepth 100000
theorem less (k : Nat)  : truth (callFast D2 100000 6 [.int .i64 (Int.negSucc k)] Heap.empty) = true := by kernel_rfl
theorem more (k : Nat)  : truth (callFast D2 100000 6 [.int .i64 (Int.ofNat (k + 26))] Heap.empty) = true := by kernel_rfl
end Go.Proofs.YthclejjieggdkaaGreatDoor.WorldRefuses
