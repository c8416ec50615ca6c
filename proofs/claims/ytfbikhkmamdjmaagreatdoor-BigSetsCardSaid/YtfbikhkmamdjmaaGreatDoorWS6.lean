/- Sums that are set: ticks of trees of 12 parts. -/
import Derived.Test.YtfbikhkmamdjmaaGreatDoorWS1
import Derived.Test.YtfbikhkmamdjmaaGreatDoorWS2
namespace Go.Proofs.YtfbikhkmamdjmaaGreatDoor.CodesS
open Go Go.Ab
set_option maxRecDepth 100000
theorem tick12 (n : Int) (q0 q1 q2 q3 q4 q5 q6 q7 q8 q9 q10 q11 : Nat) : leftF (callS D3 two 100000 1000 8 [topV [q0, q1, q2, q3, q4, q5, q6, q7, q8, q9, q10, q11], .nilsl, envV n] Heap.empty [] []) = rightF (resV n [q0, q1, q2, q3, q4, q5, q6, q7, q8, q9, q10, q11]) (callS D3 two 100000 1000 8 [topV [q0, q1, q2, q3, q4, q5, q6, q7, q8, q9, q10, q11], .nilsl, envV n] Heap.empty [] []) := by kernel_rfl
end Go.Proofs.YtfbikhkmamdjmaaGreatDoor.CodesS
