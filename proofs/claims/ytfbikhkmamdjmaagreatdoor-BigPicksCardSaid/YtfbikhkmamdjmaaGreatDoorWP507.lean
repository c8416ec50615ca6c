/- A pick: ticks of trees of 6 parts. -/
import Derived.Test.YtfbikhkmamdjmaaGreatDoorWP3
namespace Go.Proofs.YtfbikhkmamdjmaaGreatDoor.CodesS
open Go Go.Ab
set_option maxRecDepth 100000
theorem next6x3x4 (w0 w1 w2 w3 w4 w5 : Int) : leftF (nextP [w0, w1, w2, w3, w4, w5] 3 4) = rightF (res2 6 3 4) (nextP [w0, w1, w2, w3, w4, w5] 3 4) := by kernel_rfl
theorem next6x3x5 (w0 w1 w2 w3 w4 w5 : Int) : leftF (nextP [w0, w1, w2, w3, w4, w5] 3 5) = rightF (res2 6 3 5) (nextP [w0, w1, w2, w3, w4, w5] 3 5) := by kernel_rfl
theorem tick6x4 (w0 w1 w2 w3 w4 w5 : Int) : leftF (tickP [w0, w1, w2, w3, w4, w5] 4) = rightF (res1 6 4) (tickP [w0, w1, w2, w3, w4, w5] 4) := by kernel_rfl
theorem next6x4x0 (w0 w1 w2 w3 w4 w5 : Int) : leftF (nextP [w0, w1, w2, w3, w4, w5] 4 0) = rightF (res2 6 4 0) (nextP [w0, w1, w2, w3, w4, w5] 4 0) := by kernel_rfl
theorem next6x4x1 (w0 w1 w2 w3 w4 w5 : Int) : leftF (nextP [w0, w1, w2, w3, w4, w5] 4 1) = rightF (res2 6 4 1) (nextP [w0, w1, w2, w3, w4, w5] 4 1) := by kernel_rfl
theorem next6x4x2 (w0 w1 w2 w3 w4 w5 : Int) : leftF (nextP [w0, w1, w2, w3, w4, w5] 4 2) = rightF (res2 6 4 2) (nextP [w0, w1, w2, w3, w4, w5] 4 2) := by kernel_rfl
theorem next6x4x3 (w0 w1 w2 w3 w4 w5 : Int) : leftF (nextP [w0, w1, w2, w3, w4, w5] 4 3) = rightF (res2 6 4 3) (nextP [w0, w1, w2, w3, w4, w5] 4 3) := by kernel_rfl
theorem next6x4x4 (w0 w1 w2 w3 w4 w5 : Int) : leftF (nextP [w0, w1, w2, w3, w4, w5] 4 4) = rightF (res1 6 4) (nextP [w0, w1, w2, w3, w4, w5] 4 4) := by kernel_rfl
theorem next6x4x5 (w0 w1 w2 w3 w4 w5 : Int) : leftF (nextP [w0, w1, w2, w3, w4, w5] 4 5) = rightF (res2 6 4 5) (nextP [w0, w1, w2, w3, w4, w5] 4 5) := by kernel_rfl
theorem tick6x5 (w0 w1 w2 w3 w4 w5 : Int) : leftF (tickP [w0, w1, w2, w3, w4, w5] 5) = rightF (res1 6 5) (tickP [w0, w1, w2, w3, w4, w5] 5) := by kernel_rfl
theorem next6x5x0 (w0 w1 w2 w3 w4 w5 : Int) : leftF (nextP [w0, w1, w2, w3, w4, w5] 5 0) = rightF (res2 6 5 0) (nextP [w0, w1, w2, w3, w4, w5] 5 0) := by kernel_rfl
theorem next6x5x1 (w0 w1 w2 w3 w4 w5 : Int) : leftF (nextP [w0, w1, w2, w3, w4, w5] 5 1) = rightF (res2 6 5 1) (nextP [w0, w1, w2, w3, w4, w5] 5 1) := by kernel_rfl
theorem next6x5x2 (w0 w1 w2 w3 w4 w5 : Int) : leftF (nextP [w0, w1, w2, w3, w4, w5] 5 2) = rightF (res2 6 5 2) (nextP [w0, w1, w2, w3, w4, w5] 5 2) := by kernel_rfl
theorem next6x5x3 (w0 w1 w2 w3 w4 w5 : Int) : leftF (nextP [w0, w1, w2, w3, w4, w5] 5 3) = rightF (res2 6 5 3) (nextP [w0, w1, w2, w3, w4, w5] 5 3) := by kernel_rfl
theorem next6x5x4 (w0 w1 w2 w3 w4 w5 : Int) : leftF (nextP [w0, w1, w2, w3, w4, w5] 5 4) = rightF (res2 6 5 4) (nextP [w0, w1, w2, w3, w4, w5] 5 4) := by kernel_rfl
theorem next6x5x5 (w0 w1 w2 w3 w4 w5 : Int) : leftF (nextP [w0, w1, w2, w3, w4, w5] 5 5) = rightF (res1 6 5) (nextP [w0, w1, w2, w3, w4, w5] 5 5) := by kernel_rfl
end Go.Proofs.YtfbikhkmamdjmaaGreatDoor.CodesS
