/- A clock: the law's pieces, evaluated: a budget of 4. -/
import Derived.Test.YtfbikhkmamdjmaaGreatDoorWC3
namespace Go.Proofs.YtfbikhkmamdjmaaGreatDoor.CodesW
open Go Go.Ab
set_option maxRecDepth 100000
theorem clockS4 (j k : Nat) : lookC (runC (Int.ofNat j) (Int.ofNat (k + 1)) 4) = wantC (Int.ofNat (k + 1)) 4 2 (runC (Int.ofNat j) (Int.ofNat (k + 1)) 4) := by kernel_rfl
theorem clockZ4 (j : Nat) : lookC (runC (Int.ofNat j) 0 4) = wantC 0 4 2 (runC (Int.ofNat j) 0 4) := by kernel_rfl
end Go.Proofs.YtfbikhkmamdjmaaGreatDoor.CodesW
