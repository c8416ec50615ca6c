/- BigAborts in the abstract machine: what is said of an answer. -/
import Derived.Test.YthclejjieggdkaaGreatDoorCodesB
namespace Go.Proofs.YthclejjieggdkaaGreatDoor.BigAborts
open Go Go.Ab CodesB
/-- the machine's answer is 'true' -/
def truth : Option (Out × Heap) → Bool
  | some (.ret (.bool b), _) => b
  | _ => false
end Go.Proofs.YthclejjieggdkaaGreatDoor.BigAborts
