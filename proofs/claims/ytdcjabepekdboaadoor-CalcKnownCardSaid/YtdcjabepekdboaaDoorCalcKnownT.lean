/- CalcKnown in the abstract machine: what is said of an answer. -/
import Derived.Test.YtdcjabepekdboaaDoorCodesCalc
namespace Go.Proofs.YtdcjabepekdboaaDoor.CalcKnown
open Go Go.Ab CodesCalc
/-- the machine's answer is 'true' -/
def truth : Option (Out × Heap) → Bool
  | some (.ret (.bool b), _) => b
  | _ => false
end Go.Proofs.YtdcjabepekdboaaDoor.CalcKnown
