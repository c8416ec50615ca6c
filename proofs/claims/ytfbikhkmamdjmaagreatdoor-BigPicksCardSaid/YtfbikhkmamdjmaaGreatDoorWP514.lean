/- A pick: ticks of trees of 8 parts. -/
import Derived.Test.YtfbikhkmamdjmaaGreatDoorWP3
namespace Go.Proofs.YtfbikhkmamdjmaaGreatDoor.CodesS
open Go Go.Ab
set_option maxRecDepth 100000
theorem next8x4x3 (w0 w1 w2 w3 w4 w5 w6 w7 : Int) : leftF (nextP [w0, w1, w2, w3, w4, w5, w6, w7] 4 3) = rightF (res2 8 4 3) (nextP [w0, w1, w2, w3, w4, w5, w6, w7] 4 3) := by kernel_rfl
theorem next8x4x4 (w0 w1 w2 w3 w4 w5 w6 w7 : Int) : leftF (nextP [w0, w1, w2, w3, w4, w5, w6, w7] 4 4) = rightF (res1 8 4) (nextP [w0, w1, w2, w3, w4, w5, w6, w7] 4 4) := by kernel_rfl
theorem next8x4x5 (w0 w1 w2 w3 w4 w5 w6 w7 : Int) : leftF (nextP [w0, w1, w2, w3, w4, w5, w6, w7] 4 5) = rightF (res2 8 4 5) (nextP [w0, w1, w2, w3, w4, w5, w6, w7] 4 5) := by kernel_rfl
theorem next8x4x6 (w0 w1 w2 w3 w4 w5 w6 w7 : Int) : leftF (nextP [w0, w1, w2, w3, w4, w5, w6, w7] 4 6) = rightF (res2 8 4 6) (nextP [w0, w1, w2, w3, w4, w5, w6, w7] 4 6) := by kernel_rfl
theorem next8x4x7 (w0 w1 w2 w3 w4 w5 w6 w7 : Int) : leftF (nextP [w0, w1, w2, w3, w4, w5, w6, w7] 4 7) = rightF (res2 8 4 7) (nextP [w0, w1, w2, w3, w4, w5, w6, w7] 4 7) := by kernel_rfl
theorem tick8x5 (w0 w1 w2 w3 w4 w5 w6 w7 : Int) : leftF (tickP [w0, w1, w2, w3, w4, w5, w6, w7] 5) = rightF (res1 8 5) (tickP [w0, w1, w2, w3, w4, w5, w6, w7] 5) := by kernel_rfl
theorem next8x5x0 (w0 w1 w2 w3 w4 w5 w6 w7 : Int) : leftF (nextP [w0, w1, w2, w3, w4, w5, w6, w7] 5 0) = rightF (res2 8 5 0) (nextP [w0, w1, w2, w3, w4, w5, w6, w7] 5 0) := by kernel_rfl
theorem next8x5x1 (w0 w1 w2 w3 w4 w5 w6 w7 : Int) : leftF (nextP [w0, w1, w2, w3, w4, w5, w6, w7] 5 1) = rightF (res2 8 5 1) (nextP [w0, w1, w2, w3, w4, w5, w6, w7] 5 1) := by kernel_rfl
theorem next8x5x2 (w0 w1 w2 w3 w4 w5 w6 w7 : Int) : leftF (nextP [w0, w1, w2, w3, w4, w5, w6, w7] 5 2) = rightF (res2 8 5 2) (nextP [w0, w1, w2, w3, w4, w5, w6, w7] 5 2) := by kernel_rfl
theorem next8x5x3 (w0 w1 w2 w3 w4 w5 w6 w7 : Int) : leftF (nextP [w0, w1, w2, w3, w4, w5, w6, w7] 5 3) = rightF (res2 8 5 3) (nextP [w0, w1, w2, w3, w4, w5, w6, w7] 5 3) := by kernel_rfl
theorem next8x5x4 (w0 w1 w2 w3 w4 w5 w6 w7 : Int) : leftF (nextP [w0, w1, w2, w3, w4, w5, w6, w7] 5 4) = rightF (res2 8 5 4) (nextP [w0, w1, w2, w3, w4, w5, w6, w7] 5 4) := by kernel_rfl
theorem next8x5x5 (w0 w1 w2 w3 w4 w5 w6 w7 : Int) : leftF (nextP [w0, w1, w2, w3, w4, w5, w6, w7] 5 5) = rightF (res1 8 5) (nextP [w0, w1, w2, w3, w4, w5, w6, w7] 5 5) := by kernel_rfl
theorem next8x5x6 (w0 w1 w2 w3 w4 w5 w6 w7 : Int) : leftF (nextP [w0, w1, w2, w3, w4, w5, w6, w7] 5 6) = rightF (res2 8 5 6) (nextP [w0, w1, w2, w3, w4, w5, w6, w7] 5 6) := by kernel_rfl
theorem next8x5x7 (w0 w1 w2 w3 w4 w5 w6 w7 : Int) : leftF (nextP [w0, w1, w2, w3, w4, w5, w6, w7] 5 7) = rightF (res2 8 5 7) (nextP [w0, w1, w2, w3, w4, w5, w6, w7] 5 7) := by kernel_rfl
theorem tick8x6 (w0 w1 w2 w3 w4 w5 w6 w7 : Int) : leftF (tickP [w0, w1, w2, w3, w4, w5, w6, w7] 6) = rightF (res1 8 6) (tickP [w0, w1, w2, w3, w4, w5, w6, w7] 6) := by kernel_rfl
theorem next8x6x0 (w0 w1 w2 w3 w4 w5 w6 w7 : Int) : leftF (nextP [w0, w1, w2, w3, w4, w5, w6, w7] 6 0) = rightF (res2 8 6 0) (nextP [w0, w1, w2, w3, w4, w5, w6, w7] 6 0) := by kernel_rfl
end Go.Proofs.YtfbikhkmamdjmaaGreatDoor.CodesS
