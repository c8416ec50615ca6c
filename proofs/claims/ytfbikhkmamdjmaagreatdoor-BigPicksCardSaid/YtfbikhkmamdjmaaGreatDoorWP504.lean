/- A pick: ticks of trees of 5 parts. -/
import Derived.Test.YtfbikhkmamdjmaaGreatDoorWP3
namespace Go.Proofs.YtfbikhkmamdjmaaGreatDoor.CodesS
open Go Go.Ab
set_option maxRecDepth 100000
theorem next5x1x1 (w0 w1 w2 w3 w4 : Int) : leftF (nextP [w0, w1, w2, w3, w4] 1 1) = rightF (res1 5 1) (nextP [w0, w1, w2, w3, w4] 1 1) := by kernel_rfl
theorem next5x1x2 (w0 w1 w2 w3 w4 : Int) : leftF (nextP [w0, w1, w2, w3, w4] 1 2) = rightF (res2 5 1 2) (nextP [w0, w1, w2, w3, w4] 1 2) := by kernel_rfl
theorem next5x1x3 (w0 w1 w2 w3 w4 : Int) : leftF (nextP [w0, w1, w2, w3, w4] 1 3) = rightF (res2 5 1 3) (nextP [w0, w1, w2, w3, w4] 1 3) := by kernel_rfl
theorem next5x1x4 (w0 w1 w2 w3 w4 : Int) : leftF (nextP [w0, w1, w2, w3, w4] 1 4) = rightF (res2 5 1 4) (nextP [w0, w1, w2, w3, w4] 1 4) := by kernel_rfl
theorem tick5x2 (w0 w1 w2 w3 w4 : Int) : leftF (tickP [w0, w1, w2, w3, w4] 2) = rightF (res1 5 2) (tickP [w0, w1, w2, w3, w4] 2) := by kernel_rfl
theorem next5x2x0 (w0 w1 w2 w3 w4 : Int) : leftF (nextP [w0, w1, w2, w3, w4] 2 0) = rightF (res2 5 2 0) (nextP [w0, w1, w2, w3, w4] 2 0) := by kernel_rfl
theorem next5x2x1 (w0 w1 w2 w3 w4 : Int) : leftF (nextP [w0, w1, w2, w3, w4] 2 1) = rightF (res2 5 2 1) (nextP [w0, w1, w2, w3, w4] 2 1) := by kernel_rfl
theorem next5x2x2 (w0 w1 w2 w3 w4 : Int) : leftF (nextP [w0, w1, w2, w3, w4] 2 2) = rightF (res1 5 2) (nextP [w0, w1, w2, w3, w4] 2 2) := by kernel_rfl
theorem next5x2x3 (w0 w1 w2 w3 w4 : Int) : leftF (nextP [w0, w1, w2, w3, w4] 2 3) = rightF (res2 5 2 3) (nextP [w0, w1, w2, w3, w4] 2 3) := by kernel_rfl
theorem next5x2x4 (w0 w1 w2 w3 w4 : Int) : leftF (nextP [w0, w1, w2, w3, w4] 2 4) = rightF (res2 5 2 4) (nextP [w0, w1, w2, w3, w4] 2 4) := by kernel_rfl
theorem tick5x3 (w0 w1 w2 w3 w4 : Int) : leftF (tickP [w0, w1, w2, w3, w4] 3) = rightF (res1 5 3) (tickP [w0, w1, w2, w3, w4] 3) := by kernel_rfl
theorem next5x3x0 (w0 w1 w2 w3 w4 : Int) : leftF (nextP [w0, w1, w2, w3, w4] 3 0) = rightF (res2 5 3 0) (nextP [w0, w1, w2, w3, w4] 3 0) := by kernel_rfl
theorem next5x3x1 (w0 w1 w2 w3 w4 : Int) : leftF (nextP [w0, w1, w2, w3, w4] 3 1) = rightF (res2 5 3 1) (nextP [w0, w1, w2, w3, w4] 3 1) := by kernel_rfl
theorem next5x3x2 (w0 w1 w2 w3 w4 : Int) : leftF (nextP [w0, w1, w2, w3, w4] 3 2) = rightF (res2 5 3 2) (nextP [w0, w1, w2, w3, w4] 3 2) := by kernel_rfl
theorem next5x3x3 (w0 w1 w2 w3 w4 : Int) : leftF (nextP [w0, w1, w2, w3, w4] 3 3) = rightF (res1 5 3) (nextP [w0, w1, w2, w3, w4] 3 3) := by kernel_rfl
theorem next5x3x4 (w0 w1 w2 w3 w4 : Int) : leftF (nextP [w0, w1, w2, w3, w4] 3 4) = rightF (res2 5 3 4) (nextP [w0, w1, w2, w3, w4] 3 4) := by kernel_rfl
end Go.Proofs.YtfbikhkmamdjmaaGreatDoor.CodesS
