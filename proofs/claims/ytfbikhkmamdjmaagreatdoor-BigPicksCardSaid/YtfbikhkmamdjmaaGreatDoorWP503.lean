/- A pick: ticks of trees of 4 to 5 parts. -/
import Derived.Test.YtfbikhkmamdjmaaGreatDoorWP3
namespace Go.Proofs.YtfbikhkmamdjmaaGreatDoor.CodesS
open Go Go.Ab
set_option maxRecDepth 100000
theorem next4x2x1 (w0 w1 w2 w3 : Int) : leftF (nextP [w0, w1, w2, w3] 2 1) = rightF (res2 4 2 1) (nextP [w0, w1, w2, w3] 2 1) := by kernel_rfl
theorem next4x2x2 (w0 w1 w2 w3 : Int) : leftF (nextP [w0, w1, w2, w3] 2 2) = rightF (res1 4 2) (nextP [w0, w1, w2, w3] 2 2) := by kernel_rfl
theorem next4x2x3 (w0 w1 w2 w3 : Int) : leftF (nextP [w0, w1, w2, w3] 2 3) = rightF (res2 4 2 3) (nextP [w0, w1, w2, w3] 2 3) := by kernel_rfl
theorem tick4x3 (w0 w1 w2 w3 : Int) : leftF (tickP [w0, w1, w2, w3] 3) = rightF (res1 4 3) (tickP [w0, w1, w2, w3] 3) := by kernel_rfl
theorem next4x3x0 (w0 w1 w2 w3 : Int) : leftF (nextP [w0, w1, w2, w3] 3 0) = rightF (res2 4 3 0) (nextP [w0, w1, w2, w3] 3 0) := by kernel_rfl
theorem next4x3x1 (w0 w1 w2 w3 : Int) : leftF (nextP [w0, w1, w2, w3] 3 1) = rightF (res2 4 3 1) (nextP [w0, w1, w2, w3] 3 1) := by kernel_rfl
theorem next4x3x2 (w0 w1 w2 w3 : Int) : leftF (nextP [w0, w1, w2, w3] 3 2) = rightF (res2 4 3 2) (nextP [w0, w1, w2, w3] 3 2) := by kernel_rfl
theorem next4x3x3 (w0 w1 w2 w3 : Int) : leftF (nextP [w0, w1, w2, w3] 3 3) = rightF (res1 4 3) (nextP [w0, w1, w2, w3] 3 3) := by kernel_rfl
theorem tick5x0 (w0 w1 w2 w3 w4 : Int) : leftF (tickP [w0, w1, w2, w3, w4] 0) = rightF (res1 5 0) (tickP [w0, w1, w2, w3, w4] 0) := by kernel_rfl
theorem next5x0x0 (w0 w1 w2 w3 w4 : Int) : leftF (nextP [w0, w1, w2, w3, w4] 0 0) = rightF (res1 5 0) (nextP [w0, w1, w2, w3, w4] 0 0) := by kernel_rfl
theorem next5x0x1 (w0 w1 w2 w3 w4 : Int) : leftF (nextP [w0, w1, w2, w3, w4] 0 1) = rightF (res2 5 0 1) (nextP [w0, w1, w2, w3, w4] 0 1) := by kernel_rfl
theorem next5x0x2 (w0 w1 w2 w3 w4 : Int) : leftF (nextP [w0, w1, w2, w3, w4] 0 2) = rightF (res2 5 0 2) (nextP [w0, w1, w2, w3, w4] 0 2) := by kernel_rfl
theorem next5x0x3 (w0 w1 w2 w3 w4 : Int) : leftF (nextP [w0, w1, w2, w3, w4] 0 3) = rightF (res2 5 0 3) (nextP [w0, w1, w2, w3, w4] 0 3) := by kernel_rfl
theorem next5x0x4 (w0 w1 w2 w3 w4 : Int) : leftF (nextP [w0, w1, w2, w3, w4] 0 4) = rightF (res2 5 0 4) (nextP [w0, w1, w2, w3, w4] 0 4) := by kernel_rfl
theorem tick5x1 (w0 w1 w2 w3 w4 : Int) : leftF (tickP [w0, w1, w2, w3, w4] 1) = rightF (res1 5 1) (tickP [w0, w1, w2, w3, w4] 1) := by kernel_rfl
theorem next5x1x0 (w0 w1 w2 w3 w4 : Int) : leftF (nextP [w0, w1, w2, w3, w4] 1 0) = rightF (res2 5 1 0) (nextP [w0, w1, w2, w3, w4] 1 0) := by kernel_rfl
end Go.Proofs.YtfbikhkmamdjmaaGreatDoor.CodesS
