/- A pick: ticks of trees of 5 to 6 parts. -/
import Derived.Test.YtfbikhkmamdjmaaGreatDoorWP3
namespace Go.Proofs.YtfbikhkmamdjmaaGreatDoor.CodesS
open Go Go.Ab
set_option maxRecDepth 100000
theorem tick5x4 (w0 w1 w2 w3 w4 : Int) : leftF (tickP [w0, w1, w2, w3, w4] 4) = rightF (res1 5 4) (tickP [w0, w1, w2, w3, w4] 4) := by kernel_rfl
theorem next5x4x0 (w0 w1 w2 w3 w4 : Int) : leftF (nextP [w0, w1, w2, w3, w4] 4 0) = rightF (res2 5 4 0) (nextP [w0, w1, w2, w3, w4] 4 0) := by kernel_rfl
theorem next5x4x1 (w0 w1 w2 w3 w4 : Int) : leftF (nextP [w0, w1, w2, w3, w4] 4 1) = rightF (res2 5 4 1) (nextP [w0, w1, w2, w3, w4] 4 1) := by kernel_rfl
theorem next5x4x2 (w0 w1 w2 w3 w4 : Int) : leftF (nextP [w0, w1, w2, w3, w4] 4 2) = rightF (res2 5 4 2) (nextP [w0, w1, w2, w3, w4] 4 2) := by kernel_rfl
theorem next5x4x3 (w0 w1 w2 w3 w4 : Int) : leftF (nextP [w0, w1, w2, w3, w4] 4 3) = rightF (res2 5 4 3) (nextP [w0, w1, w2, w3, w4] 4 3) := by kernel_rfl
theorem next5x4x4 (w0 w1 w2 w3 w4 : Int) : leftF (nextP [w0, w1, w2, w3, w4] 4 4) = rightF (res1 5 4) (nextP [w0, w1, w2, w3, w4] 4 4) := by kernel_rfl
theorem tick6x0 (w0 w1 w2 w3 w4 w5 : Int) : leftF (tickP [w0, w1, w2, w3, w4, w5] 0) = rightF (res1 6 0) (tickP [w0, w1, w2, w3, w4, w5] 0) := by kernel_rfl
theorem next6x0x0 (w0 w1 w2 w3 w4 w5 : Int) : leftF (nextP [w0, w1, w2, w3, w4, w5] 0 0) = rightF (res1 6 0) (nextP [w0, w1, w2, w3, w4, w5] 0 0) := by kernel_rfl
theorem next6x0x1 (w0 w1 w2 w3 w4 w5 : Int) : leftF (nextP [w0, w1, w2, w3, w4, w5] 0 1) = rightF (res2 6 0 1) (nextP [w0, w1, w2, w3, w4, w5] 0 1) := by kernel_rfl
theorem next6x0x2 (w0 w1 w2 w3 w4 w5 : Int) : leftF (nextP [w0, w1, w2, w3, w4, w5] 0 2) = rightF (res2 6 0 2) (nextP [w0, w1, w2, w3, w4, w5] 0 2) := by kernel_rfl
theorem next6x0x3 (w0 w1 w2 w3 w4 w5 : Int) : leftF (nextP [w0, w1, w2, w3, w4, w5] 0 3) = rightF (res2 6 0 3) (nextP [w0, w1, w2, w3, w4, w5] 0 3) := by kernel_rfl
theorem next6x0x4 (w0 w1 w2 w3 w4 w5 : Int) : leftF (nextP [w0, w1, w2, w3, w4, w5] 0 4) = rightF (res2 6 0 4) (nextP [w0, w1, w2, w3, w4, w5] 0 4) := by kernel_rfl
theorem next6x0x5 (w0 w1 w2 w3 w4 w5 : Int) : leftF (nextP [w0, w1, w2, w3, w4, w5] 0 5) = rightF (res2 6 0 5) (nextP [w0, w1, w2, w3, w4, w5] 0 5) := by kernel_rfl
theorem tick6x1 (w0 w1 w2 w3 w4 w5 : Int) : leftF (tickP [w0, w1, w2, w3, w4, w5] 1) = rightF (res1 6 1) (tickP [w0, w1, w2, w3, w4, w5] 1) := by kernel_rfl
theorem next6x1x0 (w0 w1 w2 w3 w4 w5 : Int) : leftF (nextP [w0, w1, w2, w3, w4, w5] 1 0) = rightF (res2 6 1 0) (nextP [w0, w1, w2, w3, w4, w5] 1 0) := by kernel_rfl
theorem next6x1x1 (w0 w1 w2 w3 w4 w5 : Int) : leftF (nextP [w0, w1, w2, w3, w4, w5] 1 1) = rightF (res1 6 1) (nextP [w0, w1, w2, w3, w4, w5] 1 1) := by kernel_rfl
end Go.Proofs.YtfbikhkmamdjmaaGreatDoor.CodesS
