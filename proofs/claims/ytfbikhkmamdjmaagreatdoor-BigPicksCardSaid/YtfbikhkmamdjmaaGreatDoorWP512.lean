/- A pick: ticks of trees of 8 parts. -/
import Derived.Test.YtfbikhkmamdjmaaGreatDoorWP3
namespace Go.Proofs.YtfbikhkmamdjmaaGreatDoor.CodesS
open Go Go.Ab
set_option maxRecDepth 100000
theorem next8x0x7 (w0 w1 w2 w3 w4 w5 w6 w7 : Int) : leftF (nextP [w0, w1, w2, w3, w4, w5, w6, w7] 0 7) = rightF (res2 8 0 7) (nextP [w0, w1, w2, w3, w4, w5, w6, w7] 0 7) := by kernel_rfl
theorem tick8x1 (w0 w1 w2 w3 w4 w5 w6 w7 : Int) : leftF (tickP [w0, w1, w2, w3, w4, w5, w6, w7] 1) = rightF (res1 8 1) (tickP [w0, w1, w2, w3, w4, w5, w6, w7] 1) := by kernel_rfl
theorem next8x1x0 (w0 w1 w2 w3 w4 w5 w6 w7 : Int) : leftF (nextP [w0, w1, w2, w3, w4, w5, w6, w7] 1 0) = rightF (res2 8 1 0) (nextP [w0, w1, w2, w3, w4, w5, w6, w7] 1 0) := by kernel_rfl
theorem next8x1x1 (w0 w1 w2 w3 w4 w5 w6 w7 : Int) : leftF (nextP [w0, w1, w2, w3, w4, w5, w6, w7] 1 1) = rightF (res1 8 1) (nextP [w0, w1, w2, w3, w4, w5, w6, w7] 1 1) := by kernel_rfl
theorem next8x1x2 (w0 w1 w2 w3 w4 w5 w6 w7 : Int) : leftF (nextP [w0, w1, w2, w3, w4, w5, w6, w7] 1 2) = rightF (res2 8 1 2) (nextP [w0, w1, w2, w3, w4, w5, w6, w7] 1 2) := by kernel_rfl
theorem next8x1x3 (w0 w1 w2 w3 w4 w5 w6 w7 : Int) : leftF (nextP [w0, w1, w2, w3, w4, w5, w6, w7] 1 3) = rightF (res2 8 1 3) (nextP [w0, w1, w2, w3, w4, w5, w6, w7] 1 3) := by kernel_rfl
theorem next8x1x4 (w0 w1 w2 w3 w4 w5 w6 w7 : Int) : leftF (nextP [w0, w1, w2, w3, w4, w5, w6, w7] 1 4) = rightF (res2 8 1 4) (nextP [w0, w1, w2, w3, w4, w5, w6, w7] 1 4) := by kernel_rfl
theorem next8x1x5 (w0 w1 w2 w3 w4 w5 w6 w7 : Int) : leftF (nextP [w0, w1, w2, w3, w4, w5, w6, w7] 1 5) = rightF (res2 8 1 5) (nextP [w0, w1, w2, w3, w4, w5, w6, w7] 1 5) := by kernel_rfl
theorem next8x1x6 (w0 w1 w2 w3 w4 w5 w6 w7 : Int) : leftF (nextP [w0, w1, w2, w3, w4, w5, w6, w7] 1 6) = rightF (res2 8 1 6) (nextP [w0, w1, w2, w3, w4, w5, w6, w7] 1 6) := by kernel_rfl
theorem next8x1x7 (w0 w1 w2 w3 w4 w5 w6 w7 : Int) : leftF (nextP [w0, w1, w2, w3, w4, w5, w6, w7] 1 7) = rightF (res2 8 1 7) (nextP [w0, w1, w2, w3, w4, w5, w6, w7] 1 7) := by kernel_rfl
theorem tick8x2 (w0 w1 w2 w3 w4 w5 w6 w7 : Int) : leftF (tickP [w0, w1, w2, w3, w4, w5, w6, w7] 2) = rightF (res1 8 2) (tickP [w0, w1, w2, w3, w4, w5, w6, w7] 2) := by kernel_rfl
theorem next8x2x0 (w0 w1 w2 w3 w4 w5 w6 w7 : Int) : leftF (nextP [w0, w1, w2, w3, w4, w5, w6, w7] 2 0) = rightF (res2 8 2 0) (nextP [w0, w1, w2, w3, w4, w5, w6, w7] 2 0) := by kernel_rfl
theorem next8x2x1 (w0 w1 w2 w3 w4 w5 w6 w7 : Int) : leftF (nextP [w0, w1, w2, w3, w4, w5, w6, w7] 2 1) = rightF (res2 8 2 1) (nextP [w0, w1, w2, w3, w4, w5, w6, w7] 2 1) := by kernel_rfl
theorem next8x2x2 (w0 w1 w2 w3 w4 w5 w6 w7 : Int) : leftF (nextP [w0, w1, w2, w3, w4, w5, w6, w7] 2 2) = rightF (res1 8 2) (nextP [w0, w1, w2, w3, w4, w5, w6, w7] 2 2) := by kernel_rfl
theorem next8x2x3 (w0 w1 w2 w3 w4 w5 w6 w7 : Int) : leftF (nextP [w0, w1, w2, w3, w4, w5, w6, w7] 2 3) = rightF (res2 8 2 3) (nextP [w0, w1, w2, w3, w4, w5, w6, w7] 2 3) := by kernel_rfl
theorem next8x2x4 (w0 w1 w2 w3 w4 w5 w6 w7 : Int) : leftF (nextP [w0, w1, w2, w3, w4, w5, w6, w7] 2 4) = rightF (res2 8 2 4) (nextP [w0, w1, w2, w3, w4, w5, w6, w7] 2 4) := by kernel_rfl
end Go.Proofs.YtfbikhkmamdjmaaGreatDoor.CodesS
