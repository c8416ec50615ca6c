/- A clock: the law's pieces, evaluated: a budget of 3. -/
import Derived.Test.YtfbikhkmamdjmaaGreatDoorWC3
namespace Go.Proofs.YtfbikhkmamdjmaaGreatDoor.CodesW
open Go Go.Ab
set_option maxRecDepth 100000
theorem clockS3 (j k : Nat) : lookC (runC (Int.ofNat j) (Int.ofNat (k + 1)) 3) = wantC (Int.ofNat (k + 1)) 3 2 (runC (Int.ofNat j) (Int.ofNat (k + 1)) 3) := by kernel_rfl
theorem clockZ3 (j : Nat) : lookC (runC (Int.ofNat j) 0 3) = wantC 0 3 2 (runC (Int.ofNat j) 0 3) := by kernel_rfl
end Go.Proofs.YtfbikhkmamdjmaaGreatDoor.CodesW
