/- A clock: the law's pieces, evaluated: a budget of 5. -/
import Derived.Test.YtfbikhkmamdjmaaGreatDoorWC3
namespace Go.Proofs.YtfbikhkmamdjmaaGreatDoor.CodesW
open Go Go.Ab
set_option maxRecDepth 100000
theorem clockS5 (j k : Nat) : lookC (runC (Int.ofNat j) (Int.ofNat (k + 1)) 5) = wantC (Int.ofNat (k + 1)) 5 1 (runC (Int.ofNat j) (Int.ofNat (k + 1)) 5) := by kernel_rfl
theorem clockZ5 (j : Nat) : lookC (runC (Int.ofNat j) 0 5) = wantC 0 5 1 (runC (Int.ofNat j) 0 5) := by kernel_rfl
end Go.Proofs.YtfbikhkmamdjmaaGreatDoor.CodesW
