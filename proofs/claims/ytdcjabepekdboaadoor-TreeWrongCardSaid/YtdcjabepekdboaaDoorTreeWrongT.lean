/- TreeWrong in the abstract machine: what is said of an answer. -/
import Derived.Test.YtdcjabepekdboaaDoorCodesTree
namespace Go.Proofs.YtdcjabepekdboaaDoor.TreeWrong
open Go Go.Ab CodesTree
/-- the machine's answer is 'true' -/
def truth : Option (Out × Heap) → Bool
  | some (.ret (.bool b), _) => b
  | _ => false
end Go.Proofs.YtdcjabepekdboaaDoor.TreeWrong
