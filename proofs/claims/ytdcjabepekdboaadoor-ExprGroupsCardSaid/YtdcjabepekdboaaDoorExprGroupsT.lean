/- ExprGroups in the abstract machine: what is said of an answer. -/
import Derived.Test.YtdcjabepekdboaaDoorCodesExpr
namespace Go.Proofs.YtdcjabepekdboaaDoor.ExprGroups
open Go Go.Ab CodesExpr
/-- the machine's answer is 'true' -/
def truth : Option (Out × Heap) → Bool
  | some (.ret (.bool b), _) => b
  | _ => false
end Go.Proofs.YtdcjabepekdboaaDoor.ExprGroups
