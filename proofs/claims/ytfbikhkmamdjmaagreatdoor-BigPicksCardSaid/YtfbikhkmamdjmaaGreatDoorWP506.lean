/- A pick: ticks of trees of 6 parts. -/
import Derived.Test.YtfbikhkmamdjmaaGreatDoorWP3
namespace Go.Proofs.YtfbikhkmamdjmaaGreatDoor.CodesS
open Go Go.Ab
set_option maxRecDepth 100000
theorem next6x1x2 (w0 w1 w2 w3 w4 w5 : Int) : leftF (nextP [w0, w1, w2, w3, w4, w5] 1 2) = rightF (res2 6 1 2) (nextP [w0, w1, w2, w3, w4, w5] 1 2) := by kernel_rfl
theorem next6x1x3 (w0 w1 w2 w3 w4 w5 : Int) : leftF (nextP [w0, w1, w2, w3, w4, w5] 1 3) = rightF (res2 6 1 3) (nextP [w0, w1, w2, w3, w4, w5] 1 3) := by kernel_rfl
theorem next6x1x4 (w0 w1 w2 w3 w4 w5 : Int) : leftF (nextP [w0, w1, w2, w3, w4, w5] 1 4) = rightF (res2 6 1 4) (nextP [w0, w1, w2, w3, w4, w5] 1 4) := by kernel_rfl
theorem next6x1x5 (w0 w1 w2 w3 w4 w5 : Int) : leftF (nextP [w0, w1, w2, w3, w4, w5] 1 5) = rightF (res2 6 1 5) (nextP [w0, w1, w2, w3, w4, w5] 1 5) := by kernel_rfl
theorem tick6x2 (w0 w1 w2 w3 w4 w5 : Int) : leftF (tickP [w0, w1, w2, w3, w4, w5] 2) = rightF (res1 6 2) (tickP [w0, w1, w2, w3, w4, w5] 2) := by kernel_rfl
theorem next6x2x0 (w0 w1 w2 w3 w4 w5 : Int) : leftF (nextP [w0, w1, w2, w3, w4, w5] 2 0) = rightF (res2 6 2 0) (nextP [w0, w1, w2, w3, w4, w5] 2 0) := by kernel_rfl
theorem next6x2x1 (w0 w1 w2 w3 w4 w5 : Int) : leftF (nextP [w0, w1, w2, w3, w4, w5] 2 1) = rightF (res2 6 2 1) (nextP [w0, w1, w2, w3, w4, w5] 2 1) := by kernel_rfl
theorem next6x2x2 (w0 w1 w2 w3 w4 w5 : Int) : leftF (nextP [w0, w1, w2, w3, w4, w5] 2 2) = rightF (res1 6 2) (nextP [w0, w1, w2, w3, w4, w5] 2 2) := by kernel_rfl
theorem next6x2x3 (w0 w1 w2 w3 w4 w5 : Int) : leftF (nextP [w0, w1, w2, w3, w4, w5] 2 3) = rightF (res2 6 2 3) (nextP [w0, w1, w2, w3, w4, w5] 2 3) := by kernel_rfl
theorem next6x2x4 (w0 w1 w2 w3 w4 w5 : Int) : leftF (nextP [w0, w1, w2, w3, w4, w5] 2 4) = rightF (res2 6 2 4) (nextP [w0, w1, w2, w3, w4, w5] 2 4) := by kernel_rfl
theorem next6x2x5 (w0 w1 w2 w3 w4 w5 : Int) : leftF (nextP [w0, w1, w2, w3, w4, w5] 2 5) = rightF (res2 6 2 5) (nextP [w0, w1, w2, w3, w4, w5] 2 5) := by kernel_rfl
theorem tick6x3 (w0 w1 w2 w3 w4 w5 : Int) : leftF (tickP [w0, w1, w2, w3, w4, w5] 3) = rightF (res1 6 3) (tickP [w0, w1, w2, w3, w4, w5] 3) := by kernel_rfl
theorem next6x3x0 (w0 w1 w2 w3 w4 w5 : Int) : leftF (nextP [w0, w1, w2, w3, w4, w5] 3 0) = rightF (res2 6 3 0) (nextP [w0, w1, w2, w3, w4, w5] 3 0) := by kernel_rfl
theorem next6x3x1 (w0 w1 w2 w3 w4 w5 : Int) : leftF (nextP [w0, w1, w2, w3, w4, w5] 3 1) = rightF (res2 6 3 1) (nextP [w0, w1, w2, w3, w4, w5] 3 1) := by kernel_rfl
theorem next6x3x2 (w0 w1 w2 w3 w4 w5 : Int) : leftF (nextP [w0, w1, w2, w3, w4, w5] 3 2) = rightF (res2 6 3 2) (nextP [w0, w1, w2, w3, w4, w5] 3 2) := by kernel_rfl
theorem next6x3x3 (w0 w1 w2 w3 w4 w5 : Int) : leftF (nextP [w0, w1, w2, w3, w4, w5] 3 3) = rightF (res1 6 3) (nextP [w0, w1, w2, w3, w4, w5] 3 3) := by kernel_rfl
end Go.Proofs.YtfbikhkmamdjmaaGreatDoor.CodesS
