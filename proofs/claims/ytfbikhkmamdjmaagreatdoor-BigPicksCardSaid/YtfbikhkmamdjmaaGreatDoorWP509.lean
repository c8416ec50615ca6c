/- A pick: ticks of trees of 7 parts. -/
import Derived.Test.YtfbikhkmamdjmaaGreatDoorWP3
namespace Go.Proofs.YtfbikhkmamdjmaaGreatDoor.CodesS
open Go Go.Ab
set_option maxRecDepth 100000
theorem tick7x2 (w0 w1 w2 w3 w4 w5 w6 : Int) : leftF (tickP [w0, w1, w2, w3, w4, w5, w6] 2) = rightF (res1 7 2) (tickP [w0, w1, w2, w3, w4, w5, w6] 2) := by kernel_rfl
theorem next7x2x0 (w0 w1 w2 w3 w4 w5 w6 : Int) : leftF (nextP [w0, w1, w2, w3, w4, w5, w6] 2 0) = rightF (res2 7 2 0) (nextP [w0, w1, w2, w3, w4, w5, w6] 2 0) := by kernel_rfl
theorem next7x2x1 (w0 w1 w2 w3 w4 w5 w6 : Int) : leftF (nextP [w0, w1, w2, w3, w4, w5, w6] 2 1) = rightF (res2 7 2 1) (nextP [w0, w1, w2, w3, w4, w5, w6] 2 1) := by kernel_rfl
theorem next7x2x2 (w0 w1 w2 w3 w4 w5 w6 : Int) : leftF (nextP [w0, w1, w2, w3, w4, w5, w6] 2 2) = rightF (res1 7 2) (nextP [w0, w1, w2, w3, w4, w5, w6] 2 2) := by kernel_rfl
theorem next7x2x3 (w0 w1 w2 w3 w4 w5 w6 : Int) : leftF (nextP [w0, w1, w2, w3, w4, w5, w6] 2 3) = rightF (res2 7 2 3) (nextP [w0, w1, w2, w3, w4, w5, w6] 2 3) := by kernel_rfl
theorem next7x2x4 (w0 w1 w2 w3 w4 w5 w6 : Int) : leftF (nextP [w0, w1, w2, w3, w4, w5, w6] 2 4) = rightF (res2 7 2 4) (nextP [w0, w1, w2, w3, w4, w5, w6] 2 4) := by kernel_rfl
theorem next7x2x5 (w0 w1 w2 w3 w4 w5 w6 : Int) : leftF (nextP [w0, w1, w2, w3, w4, w5, w6] 2 5) = rightF (res2 7 2 5) (nextP [w0, w1, w2, w3, w4, w5, w6] 2 5) := by kernel_rfl
theorem next7x2x6 (w0 w1 w2 w3 w4 w5 w6 : Int) : leftF (nextP [w0, w1, w2, w3, w4, w5, w6] 2 6) = rightF (res2 7 2 6) (nextP [w0, w1, w2, w3, w4, w5, w6] 2 6) := by kernel_rfl
theorem tick7x3 (w0 w1 w2 w3 w4 w5 w6 : Int) : leftF (tickP [w0, w1, w2, w3, w4, w5, w6] 3) = rightF (res1 7 3) (tickP [w0, w1, w2, w3, w4, w5, w6] 3) := by kernel_rfl
theorem next7x3x0 (w0 w1 w2 w3 w4 w5 w6 : Int) : leftF (nextP [w0, w1, w2, w3, w4, w5, w6] 3 0) = rightF (res2 7 3 0) (nextP [w0, w1, w2, w3, w4, w5, w6] 3 0) := by kernel_rfl
theorem next7x3x1 (w0 w1 w2 w3 w4 w5 w6 : Int) : leftF (nextP [w0, w1, w2, w3, w4, w5, w6] 3 1) = rightF (res2 7 3 1) (nextP [w0, w1, w2, w3, w4, w5, w6] 3 1) := by kernel_rfl
theorem next7x3x2 (w0 w1 w2 w3 w4 w5 w6 : Int) : leftF (nextP [w0, w1, w2, w3, w4, w5, w6] 3 2) = rightF (res2 7 3 2) (nextP [w0, w1, w2, w3, w4, w5, w6] 3 2) := by kernel_rfl
theorem next7x3x3 (w0 w1 w2 w3 w4 w5 w6 : Int) : leftF (nextP [w0, w1, w2, w3, w4, w5, w6] 3 3) = rightF (res1 7 3) (nextP [w0, w1, w2, w3, w4, w5, w6] 3 3) := by kernel_rfl
theorem next7x3x4 (w0 w1 w2 w3 w4 w5 w6 : Int) : leftF (nextP [w0, w1, w2, w3, w4, w5, w6] 3 4) = rightF (res2 7 3 4) (nextP [w0, w1, w2, w3, w4, w5, w6] 3 4) := by kernel_rfl
theorem next7x3x5 (w0 w1 w2 w3 w4 w5 w6 : Int) : leftF (nextP [w0, w1, w2, w3, w4, w5, w6] 3 5) = rightF (res2 7 3 5) (nextP [w0, w1, w2, w3, w4, w5, w6] 3 5) := by kernel_rfl
theorem next7x3x6 (w0 w1 w2 w3 w4 w5 w6 : Int) : leftF (nextP [w0, w1, w2, w3, w4, w5, w6] 3 6) = rightF (res2 7 3 6) (nextP [w0, w1, w2, w3, w4, w5, w6] 3 6) := by kernel_rfl
end Go.Proofs.YtfbikhkmamdjmaaGreatDoor.CodesS
