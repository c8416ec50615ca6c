/- A pick: ticks of trees of 7 parts. -/
import Derived.Test.YtfbikhkmamdjmaaGreatDoorWP3
namespace Go.Proofs.YtfbikhkmamdjmaaGreatDoor.CodesS
open Go Go.Ab
set_option maxRecDepth 100000
theorem tick7x4 (w0 w1 w2 w3 w4 w5 w6 : Int) : leftF (tickP [w0, w1, w2, w3, w4, w5, w6] 4) = rightF (res1 7 4) (tickP [w0, w1, w2, w3, w4, w5, w6] 4) := by kernel_rfl
theorem next7x4x0 (w0 w1 w2 w3 w4 w5 w6 : Int) : leftF (nextP [w0, w1, w2, w3, w4, w5, w6] 4 0) = rightF (res2 7 4 0) (nextP [w0, w1, w2, w3, w4, w5, w6] 4 0) := by kernel_rfl
theorem next7x4x1 (w0 w1 w2 w3 w4 w5 w6 : Int) : leftF (nextP [w0, w1, w2, w3, w4, w5, w6] 4 1) = rightF (res2 7 4 1) (nextP [w0, w1, w2, w3, w4, w5, w6] 4 1) := by kernel_rfl
theorem next7x4x2 (w0 w1 w2 w3 w4 w5 w6 : Int) : leftF (nextP [w0, w1, w2, w3, w4, w5, w6] 4 2) = rightF (res2 7 4 2) (nextP [w0, w1, w2, w3, w4, w5, w6] 4 2) := by kernel_rfl
theorem next7x4x3 (w0 w1 w2 w3 w4 w5 w6 : Int) : leftF (nextP [w0, w1, w2, w3, w4, w5, w6] 4 3) = rightF (res2 7 4 3) (nextP [w0, w1, w2, w3, w4, w5, w6] 4 3) := by kernel_rfl
theorem next7x4x4 (w0 w1 w2 w3 w4 w5 w6 : Int) : leftF (nextP [w0, w1, w2, w3, w4, w5, w6] 4 4) = rightF (res1 7 4) (nextP [w0, w1, w2, w3, w4, w5, w6] 4 4) := by kernel_rfl
theorem next7x4x5 (w0 w1 w2 w3 w4 w5 w6 : Int) : leftF (nextP [w0, w1, w2, w3, w4, w5, w6] 4 5) = rightF (res2 7 4 5) (nextP [w0, w1, w2, w3, w4, w5, w6] 4 5) := by kernel_rfl
theorem next7x4x6 (w0 w1 w2 w3 w4 w5 w6 : Int) : leftF (nextP [w0, w1, w2, w3, w4, w5, w6] 4 6) = rightF (res2 7 4 6) (nextP [w0, w1, w2, w3, w4, w5, w6] 4 6) := by kernel_rfl
theorem tick7x5 (w0 w1 w2 w3 w4 w5 w6 : Int) : leftF (tickP [w0, w1, w2, w3, w4, w5, w6] 5) = rightF (res1 7 5) (tickP [w0, w1, w2, w3, w4, w5, w6] 5) := by kernel_rfl
theorem next7x5x0 (w0 w1 w2 w3 w4 w5 w6 : Int) : leftF (nextP [w0, w1, w2, w3, w4, w5, w6] 5 0) = rightF (res2 7 5 0) (nextP [w0, w1, w2, w3, w4, w5, w6] 5 0) := by kernel_rfl
theorem next7x5x1 (w0 w1 w2 w3 w4 w5 w6 : Int) : leftF (nextP [w0, w1, w2, w3, w4, w5, w6] 5 1) = rightF (res2 7 5 1) (nextP [w0, w1, w2, w3, w4, w5, w6] 5 1) := by kernel_rfl
theorem next7x5x2 (w0 w1 w2 w3 w4 w5 w6 : Int) : leftF (nextP [w0, w1, w2, w3, w4, w5, w6] 5 2) = rightF (res2 7 5 2) (nextP [w0, w1, w2, w3, w4, w5, w6] 5 2) := by kernel_rfl
theorem next7x5x3 (w0 w1 w2 w3 w4 w5 w6 : Int) : leftF (nextP [w0, w1, w2, w3, w4, w5, w6] 5 3) = rightF (res2 7 5 3) (nextP [w0, w1, w2, w3, w4, w5, w6] 5 3) := by kernel_rfl
theorem next7x5x4 (w0 w1 w2 w3 w4 w5 w6 : Int) : leftF (nextP [w0, w1, w2, w3, w4, w5, w6] 5 4) = rightF (res2 7 5 4) (nextP [w0, w1, w2, w3, w4, w5, w6] 5 4) := by kernel_rfl
theorem next7x5x5 (w0 w1 w2 w3 w4 w5 w6 : Int) : leftF (nextP [w0, w1, w2, w3, w4, w5, w6] 5 5) = rightF (res1 7 5) (nextP [w0, w1, w2, w3, w4, w5, w6] 5 5) := by kernel_rfl
theorem next7x5x6 (w0 w1 w2 w3 w4 w5 w6 : Int) : leftF (nextP [w0, w1, w2, w3, w4, w5, w6] 5 6) = rightF (res2 7 5 6) (nextP [w0, w1, w2, w3, w4, w5, w6] 5 6) := by kernel_rfl
end Go.Proofs.YtfbikhkmamdjmaaGreatDoor.CodesS
