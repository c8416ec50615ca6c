/- A pick: ticks of trees of 8 parts. -/
import Derived.Test.YtfbikhkmamdjmaaGreatDoorWP3
namespace Go.Proofs.YtfbikhkmamdjmaaGreatDoor.CodesS
open Go Go.Ab
set_option maxRecDepth 100000
theorem next8x6x1 (w0 w1 w2 w3 w4 w5 w6 w7 : Int) : leftF (nextP [w0, w1, w2, w3, w4, w5, w6, w7] 6 1) = rightF (res2 8 6 1) (nextP [w0, w1, w2, w3, w4, w5, w6, w7] 6 1) := by kernel_rfl
theorem next8x6x2 (w0 w1 w2 w3 w4 w5 w6 w7 : Int) : leftF (nextP [w0, w1, w2, w3, w4, w5, w6, w7] 6 2) = rightF (res2 8 6 2) (nextP [w0, w1, w2, w3, w4, w5, w6, w7] 6 2) := by kernel_rfl
theorem next8x6x3 (w0 w1 w2 w3 w4 w5 w6 w7 : Int) : leftF (nextP [w0, w1, w2, w3, w4, w5, w6, w7] 6 3) = rightF (res2 8 6 3) (nextP [w0, w1, w2, w3, w4, w5, w6, w7] 6 3) := by kernel_rfl
theorem next8x6x4 (w0 w1 w2 w3 w4 w5 w6 w7 : Int) : leftF (nextP [w0, w1, w2, w3, w4, w5, w6, w7] 6 4) = rightF (res2 8 6 4) (nextP [w0, w1, w2, w3, w4, w5, w6, w7] 6 4) := by kernel_rfl
theorem next8x6x5 (w0 w1 w2 w3 w4 w5 w6 w7 : Int) : leftF (nextP [w0, w1, w2, w3, w4, w5, w6, w7] 6 5) = rightF (res2 8 6 5) (nextP [w0, w1, w2, w3, w4, w5, w6, w7] 6 5) := by kernel_rfl
theorem next8x6x6 (w0 w1 w2 w3 w4 w5 w6 w7 : Int) : leftF (nextP [w0, w1, w2, w3, w4, w5, w6, w7] 6 6) = rightF (res1 8 6) (nextP [w0, w1, w2, w3, w4, w5, w6, w7] 6 6) := by kernel_rfl
theorem next8x6x7 (w0 w1 w2 w3 w4 w5 w6 w7 : Int) : leftF (nextP [w0, w1, w2, w3, w4, w5, w6, w7] 6 7) = rightF (res2 8 6 7) (nextP [w0, w1, w2, w3, w4, w5, w6, w7] 6 7) := by kernel_rfl
theorem tick8x7 (w0 w1 w2 w3 w4 w5 w6 w7 : Int) : leftF (tickP [w0, w1, w2, w3, w4, w5, w6, w7] 7) = rightF (res1 8 7) (tickP [w0, w1, w2, w3, w4, w5, w6, w7] 7) := by kernel_rfl
theorem next8x7x0 (w0 w1 w2 w3 w4 w5 w6 w7 : Int) : leftF (nextP [w0, w1, w2, w3, w4, w5, w6, w7] 7 0) = rightF (res2 8 7 0) (nextP [w0, w1, w2, w3, w4, w5, w6, w7] 7 0) := by kernel_rfl
theorem next8x7x1 (w0 w1 w2 w3 w4 w5 w6 w7 : Int) : leftF (nextP [w0, w1, w2, w3, w4, w5, w6, w7] 7 1) = rightF (res2 8 7 1) (nextP [w0, w1, w2, w3, w4, w5, w6, w7] 7 1) := by kernel_rfl
theorem next8x7x2 (w0 w1 w2 w3 w4 w5 w6 w7 : Int) : leftF (nextP [w0, w1, w2, w3, w4, w5, w6, w7] 7 2) = rightF (res2 8 7 2) (nextP [w0, w1, w2, w3, w4, w5, w6, w7] 7 2) := by kernel_rfl
theorem next8x7x3 (w0 w1 w2 w3 w4 w5 w6 w7 : Int) : leftF (nextP [w0, w1, w2, w3, w4, w5, w6, w7] 7 3) = rightF (res2 8 7 3) (nextP [w0, w1, w2, w3, w4, w5, w6, w7] 7 3) := by kernel_rfl
theorem next8x7x4 (w0 w1 w2 w3 w4 w5 w6 w7 : Int) : leftF (nextP [w0, w1, w2, w3, w4, w5, w6, w7] 7 4) = rightF (res2 8 7 4) (nextP [w0, w1, w2, w3, w4, w5, w6, w7] 7 4) := by kernel_rfl
theorem next8x7x5 (w0 w1 w2 w3 w4 w5 w6 w7 : Int) : leftF (nextP [w0, w1, w2, w3, w4, w5, w6, w7] 7 5) = rightF (res2 8 7 5) (nextP [w0, w1, w2, w3, w4, w5, w6, w7] 7 5) := by kernel_rfl
theorem next8x7x6 (w0 w1 w2 w3 w4 w5 w6 w7 : Int) : leftF (nextP [w0, w1, w2, w3, w4, w5, w6, w7] 7 6) = rightF (res2 8 7 6) (nextP [w0, w1, w2, w3, w4, w5, w6, w7] 7 6) := by kernel_rfl
theorem next8x7x7 (w0 w1 w2 w3 w4 w5 w6 w7 : Int) : leftF (nextP [w0, w1, w2, w3, w4, w5, w6, w7] 7 7) = rightF (res1 8 7) (nextP [w0, w1, w2, w3, w4, w5, w6, w7] 7 7) := by kernel_rfl
end Go.Proofs.YtfbikhkmamdjmaaGreatDoor.CodesS
