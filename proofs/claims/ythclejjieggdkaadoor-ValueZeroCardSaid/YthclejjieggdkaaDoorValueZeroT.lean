/- ValueZero in the abstract machine: what is said of an answer. -/
import Derived.Test.YthclejjieggdkaaDoorCodesZ
namespace Go.Proofs.YthclejjieggdkaaDoor.ValueZero
open Go Go.Ab CodesZ
/-- the machine's answer is 'true' -/
def truth : Option (Out × Heap) → Bool
  | some (.ret (.bool b), _) => b
  | _ => false
end Go.Proofs.YthclejjieggdkaaDoor.ValueZero
