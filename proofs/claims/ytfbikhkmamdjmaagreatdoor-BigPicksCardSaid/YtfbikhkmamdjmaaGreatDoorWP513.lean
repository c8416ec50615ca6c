/- A pick: ticks of trees of 8 parts. -/
import Derived.Test.YtfbikhkmamdjmaaGreatDoorWP3
namespace Go.Proofs.YtfbikhkmamdjmaaGreatDoor.CodesS
open Go Go.Ab
set_option maxRecDepth 100000
theorem next8x2x5 (w0 w1 w2 w3 w4 w5 w6 w7 : Int) : leftF (nextP [w0, w1, w2, w3, w4, w5, w6, w7] 2 5) = rightF (res2 8 2 5) (nextP [w0, w1, w2, w3, w4, w5, w6, w7] 2 5) := by kernel_rfl
theorem next8x2x6 (w0 w1 w2 w3 w4 w5 w6 w7 : Int) : leftF (nextP [w0, w1, w2, w3, w4, w5, w6, w7] 2 6) = rightF (res2 8 2 6) (nextP [w0, w1, w2, w3, w4, w5, w6, w7] 2 6) := by kernel_rfl
theorem next8x2x7 (w0 w1 w2 w3 w4 w5 w6 w7 : Int) : leftF (nextP [w0, w1, w2, w3, w4, w5, w6, w7] 2 7) = rightF (res2 8 2 7) (nextP [w0, w1, w2, w3, w4, w5, w6, w7] 2 7) := by kernel_rfl
theorem tick8x3 (w0 w1 w2 w3 w4 w5 w6 w7 : Int) : leftF (tickP [w0, w1, w2, w3, w4, w5, w6, w7] 3) = rightF (res1 8 3) (tickP [w0, w1, w2, w3, w4, w5, w6, w7] 3) := by kernel_rfl
theorem next8x3x0 (w0 w1 w2 w3 w4 w5 w6 w7 : Int) : leftF (nextP [w0, w1, w2, w3, w4, w5, w6, w7] 3 0) = rightF (res2 8 3 0) (nextP [w0, w1, w2, w3, w4, w5, w6, w7] 3 0) := by kernel_rfl
theorem next8x3x1 (w0 w1 w2 w3 w4 w5 w6 w7 : Int) : leftF (nextP [w0, w1, w2, w3, w4, w5, w6, w7] 3 1) = rightF (res2 8 3 1) (nextP [w0, w1, w2, w3, w4, w5, w6, w7] 3 1) := by kernel_rfl
theorem next8x3x2 (w0 w1 w2 w3 w4 w5 w6 w7 : Int) : leftF (nextP [w0, w1, w2, w3, w4, w5, w6, w7] 3 2) = rightF (res2 8 3 2) (nextP [w0, w1, w2, w3, w4, w5, w6, w7] 3 2) := by kernel_rfl
theorem next8x3x3 (w0 w1 w2 w3 w4 w5 w6 w7 : Int) : leftF (nextP [w0, w1, w2, w3, w4, w5, w6, w7] 3 3) = rightF (res1 8 3) (nextP [w0, w1, w2, w3, w4, w5, w6, w7] 3 3) := by kernel_rfl
theorem next8x3x4 (w0 w1 w2 w3 w4 w5 w6 w7 : Int) : leftF (nextP [w0, w1, w2, w3, w4, w5, w6, w7] 3 4) = rightF (res2 8 3 4) (nextP [w0, w1, w2, w3, w4, w5, w6, w7] 3 4) := by kernel_rfl
theorem next8x3x5 (w0 w1 w2 w3 w4 w5 w6 w7 : Int) : leftF (nextP [w0, w1, w2, w3, w4, w5, w6, w7] 3 5) = rightF (res2 8 3 5) (nextP [w0, w1, w2, w3, w4, w5, w6, w7] 3 5) := by kernel_rfl
theorem next8x3x6 (w0 w1 w2 w3 w4 w5 w6 w7 : Int) : leftF (nextP [w0, w1, w2, w3, w4, w5, w6, w7] 3 6) = rightF (res2 8 3 6) (nextP [w0, w1, w2, w3, w4, w5, w6, w7] 3 6) := by kernel_rfl
theorem next8x3x7 (w0 w1 w2 w3 w4 w5 w6 w7 : Int) : leftF (nextP [w0, w1, w2, w3, w4, w5, w6, w7] 3 7) = rightF (res2 8 3 7) (nextP [w0, w1, w2, w3, w4, w5, w6, w7] 3 7) := by kernel_rfl
theorem tick8x4 (w0 w1 w2 w3 w4 w5 w6 w7 : Int) : leftF (tickP [w0, w1, w2, w3, w4, w5, w6, w7] 4) = rightF (res1 8 4) (tickP [w0, w1, w2, w3, w4, w5, w6, w7] 4) := by kernel_rfl
theorem next8x4x0 (w0 w1 w2 w3 w4 w5 w6 w7 : Int) : leftF (nextP [w0, w1, w2, w3, w4, w5, w6, w7] 4 0) = rightF (res2 8 4 0) (nextP [w0, w1, w2, w3, w4, w5, w6, w7] 4 0) := by kernel_rfl
theorem next8x4x1 (w0 w1 w2 w3 w4 w5 w6 w7 : Int) : leftF (nextP [w0, w1, w2, w3, w4, w5, w6, w7] 4 1) = rightF (res2 8 4 1) (nextP [w0, w1, w2, w3, w4, w5, w6, w7] 4 1) := by kernel_rfl
theorem next8x4x2 (w0 w1 w2 w3 w4 w5 w6 w7 : Int) : leftF (nextP [w0, w1, w2, w3, w4, w5, w6, w7] 4 2) = rightF (res2 8 4 2) (nextP [w0, w1, w2, w3, w4, w5, w6, w7] 4 2) := by kernel_rfl
end Go.Proofs.YtfbikhkmamdjmaaGreatDoor.CodesS
