/- CheckWrong in the abstract machine: what is said of an answer. -/
import Derived.Test.YtdcjabepekdboaaGreatDoorCodesCheck
namespace Go.Proofs.YtdcjabepekdboaaGreatDoor.CheckWrong
open Go Go.Ab CodesCheck
/-- the machine's answer is 'true' -/
def truth : Option (Out × Heap) → Bool
  | some (.ret (.bool b), _) => b
  | _ => false
end Go.Proofs.YtdcjabepekdboaaGreatDoor.CheckWrong
