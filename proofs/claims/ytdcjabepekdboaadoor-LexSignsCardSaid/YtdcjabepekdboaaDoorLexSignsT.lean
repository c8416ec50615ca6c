/- LexSigns in the abstract machine: what is said of an answer. -/
import Derived.Test.YtdcjabepekdboaaDoorCodesLex
namespace Go.Proofs.YtdcjabepekdboaaDoor.LexSigns
open Go Go.Ab CodesLex
/-- the machine's answer is 'true' -/
def truth : Option (Out × Heap) → Bool
  | some (.ret (.bool b), _) => b
  | _ => false
end Go.Proofs.YtdcjabepekdboaaDoor.LexSigns
