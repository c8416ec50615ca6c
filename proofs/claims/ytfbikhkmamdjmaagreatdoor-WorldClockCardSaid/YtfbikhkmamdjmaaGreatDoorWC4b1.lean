/- A clock: the law's pieces, evaluated: a budget of 1. -/
import Derived.Test.YtfbikhkmamdjmaaGreatDoorWC3
namespace Go.Proofs.YtfbikhkmamdjmaaGreatDoor.CodesW
open Go Go.Ab
set_option maxRecDepth 100000
theorem clockS1 (j k : Nat) : lookC (runC (Int.ofNat j) (Int.ofNat (k + 1)) 1) = wantC (Int.ofNat (k + 1)) 1 5 (runC (Int.ofNat j) (Int.ofNat (k + 1)) 1) := by kernel_rfl
theorem clockZ1 (j : Nat) : lookC (runC (Int.ofNat j) 0 1) = wantC 0 1 5 (runC (Int.ofNat j) 0 1) := by kernel_rfl
end Go.Proofs.YtfbikhkmamdjmaaGreatDoor.CodesW
