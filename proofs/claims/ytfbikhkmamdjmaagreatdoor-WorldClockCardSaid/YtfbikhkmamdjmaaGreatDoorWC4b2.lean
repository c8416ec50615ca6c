/- A clock: the law's pieces, evaluated: a budget of 2. -/
import Derived.Test.YtfbikhkmamdjmaaGreatDoorWC3
namespace Go.Proofs.YtfbikhkmamdjmaaGreatDoor.CodesW
open Go Go.Ab
set_option maxRecDepth 100000
theorem clockS2 (j k : Nat) : lookC (runC (Int.ofNat j) (Int.ofNat (k + 1)) 2) = wantC (Int.ofNat (k + 1)) 2 3 (runC (Int.ofNat j) (Int.ofNat (k + 1)) 2) := by kernel_rfl
theorem clockZ2 (j : Nat) : lookC (runC (Int.ofNat j) 0 2) = wantC 0 2 3 (runC (Int.ofNat j) 0 2) := by kernel_rfl
end Go.Proofs.YtfbikhkmamdjmaaGreatDoor.CodesW
