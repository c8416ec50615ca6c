/- Sums that are set: ticks of trees of 1 to 6 parts. -/
import Derived.Test.YtfbikhkmamdjmaaGreatDoorWS1
namespace Go.Proofs.YtfbikhkmamdjmaaGreatDoor.CodesS
open Go Go.Ab
set_option maxRecDepth 100000
noncomputable def two (f : Nat) : Option (OFunc × OFunc) := match Nat.beq f 149 with
  | true => some (v149x0, v149x1)
  | false => none
theorem two_ok : TwoOk D3 two := by
  intro f o1 o2 h
  unfold two at h
  split at h
  · rename_i hf
    have := Nat.eq_of_beq_eq_true hf
    subst this
    cases h
    rfl
  · cases h
theorem tick1 (n : Int) (q0 : Nat) : leftF (callS D3 two 100000 1000 8 [topV [q0], .nilsl, envV n] Heap.empty [] []) = rightF (resV n [q0]) (callS D3 two 100000 1000 8 [topV [q0], .nilsl, envV n] Heap.empty [] []) := by kernel_rfl
theorem tick2 (n : Int) (q0 q1 : Nat) : leftF (callS D3 two 100000 1000 8 [topV [q0, q1], .nilsl, envV n] Heap.empty [] []) = rightF (resV n [q0, q1]) (callS D3 two 100000 1000 8 [topV [q0, q1], .nilsl, envV n] Heap.empty [] []) := by kernel_rfl
theorem tick3 (n : Int) (q0 q1 q2 : Nat) : leftF (callS D3 two 100000 1000 8 [topV [q0, q1, q2], .nilsl, envV n] Heap.empty [] []) = rightF (resV n [q0, q1, q2]) (callS D3 two 100000 1000 8 [topV [q0, q1, q2], .nilsl, envV n] Heap.empty [] []) := by kernel_rfl
theorem tick4 (n : Int) (q0 q1 q2 q3 : Nat) : leftF (callS D3 two 100000 1000 8 [topV [q0, q1, q2, q3], .nilsl, envV n] Heap.empty [] []) = rightF (resV n [q0, q1, q2, q3]) (callS D3 two 100000 1000 8 [topV [q0, q1, q2, q3], .nilsl, envV n] Heap.empty [] []) := by kernel_rfl
theorem tick5 (n : Int) (q0 q1 q2 q3 q4 : Nat) : leftF (callS D3 two 100000 1000 8 [topV [q0, q1, q2, q3, q4], .nilsl, envV n] Heap.empty [] []) = rightF (resV n [q0, q1, q2, q3, q4]) (callS D3 two 100000 1000 8 [topV [q0, q1, q2, q3, q4], .nilsl, envV n] Heap.empty [] []) := by kernel_rfl
theorem tick6 (n : Int) (q0 q1 q2 q3 q4 q5 : Nat) : leftF (callS D3 two 100000 1000 8 [topV [q0, q1, q2, q3, q4, q5], .nilsl, envV n] Heap.empty [] []) = rightF (resV n [q0, q1, q2, q3, q4, q5]) (callS D3 two 100000 1000 8 [topV [q0, q1, q2, q3, q4, q5], .nilsl, envV n] Heap.empty [] []) := by kernel_rfl
end Go.Proofs.YtfbikhkmamdjmaaGreatDoor.CodesS
