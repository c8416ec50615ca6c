/- A pick: ticks of trees of 7 to 8 parts. -/
import Derived.Test.YtfbikhkmamdjmaaGreatDoorWP3
namespace Go.Proofs.YtfbikhkmamdjmaaGreatDoor.CodesS
open Go Go.Ab
set_option maxRecDepth 100000
theorem tick7x6 (w0 w1 w2 w3 w4 w5 w6 : Int) : leftF (tickP [w0, w1, w2, w3, w4, w5, w6] 6) = rightF (res1 7 6) (tickP [w0, w1, w2, w3, w4, w5, w6] 6) := by kernel_rfl
theorem next7x6x0 (w0 w1 w2 w3 w4 w5 w6 : Int) : leftF (nextP [w0, w1, w2, w3, w4, w5, w6] 6 0) = rightF (res2 7 6 0) (nextP [w0, w1, w2, w3, w4, w5, w6] 6 0) := by kernel_rfl
theorem next7x6x1 (w0 w1 w2 w3 w4 w5 w6 : Int) : leftF (nextP [w0, w1, w2, w3, w4, w5, w6] 6 1) = rightF (res2 7 6 1) (nextP [w0, w1, w2, w3, w4, w5, w6] 6 1) := by kernel_rfl
theorem next7x6x2 (w0 w1 w2 w3 w4 w5 w6 : Int) : leftF (nextP [w0, w1, w2, w3, w4, w5, w6] 6 2) = rightF (res2 7 6 2) (nextP [w0, w1, w2, w3, w4, w5, w6] 6 2) := by kernel_rfl
theorem next7x6x3 (w0 w1 w2 w3 w4 w5 w6 : Int) : leftF (nextP [w0, w1, w2, w3, w4, w5, w6] 6 3) = rightF (res2 7 6 3) (nextP [w0, w1, w2, w3, w4, w5, w6] 6 3) := by kernel_rfl
theorem next7x6x4 (w0 w1 w2 w3 w4 w5 w6 : Int) : leftF (nextP [w0, w1, w2, w3, w4, w5, w6] 6 4) = rightF (res2 7 6 4) (nextP [w0, w1, w2, w3, w4, w5, w6] 6 4) := by kernel_rfl
theorem next7x6x5 (w0 w1 w2 w3 w4 w5 w6 : Int) : leftF (nextP [w0, w1, w2, w3, w4, w5, w6] 6 5) = rightF (res2 7 6 5) (nextP [w0, w1, w2, w3, w4, w5, w6] 6 5) := by kernel_rfl
theorem next7x6x6 (w0 w1 w2 w3 w4 w5 w6 : Int) : leftF (nextP [w0, w1, w2, w3, w4, w5, w6] 6 6) = rightF (res1 7 6) (nextP [w0, w1, w2, w3, w4, w5, w6] 6 6) := by kernel_rfl
theorem tick8x0 (w0 w1 w2 w3 w4 w5 w6 w7 : Int) : leftF (tickP [w0, w1, w2, w3, w4, w5, w6, w7] 0) = rightF (res1 8 0) (tickP [w0, w1, w2, w3, w4, w5, w6, w7] 0) := by kernel_rfl
theorem next8x0x0 (w0 w1 w2 w3 w4 w5 w6 w7 : Int) : leftF (nextP [w0, w1, w2, w3, w4, w5, w6, w7] 0 0) = rightF (res1 8 0) (nextP [w0, w1, w2, w3, w4, w5, w6, w7] 0 0) := by kernel_rfl
theorem next8x0x1 (w0 w1 w2 w3 w4 w5 w6 w7 : Int) : leftF (nextP [w0, w1, w2, w3, w4, w5, w6, w7] 0 1) = rightF (res2 8 0 1) (nextP [w0, w1, w2, w3, w4, w5, w6, w7] 0 1) := by kernel_rfl
theorem next8x0x2 (w0 w1 w2 w3 w4 w5 w6 w7 : Int) : leftF (nextP [w0, w1, w2, w3, w4, w5, w6, w7] 0 2) = rightF (res2 8 0 2) (nextP [w0, w1, w2, w3, w4, w5, w6, w7] 0 2) := by kernel_rfl
theorem next8x0x3 (w0 w1 w2 w3 w4 w5 w6 w7 : Int) : leftF (nextP [w0, w1, w2, w3, w4, w5, w6, w7] 0 3) = rightF (res2 8 0 3) (nextP [w0, w1, w2, w3, w4, w5, w6, w7] 0 3) := by kernel_rfl
theorem next8x0x4 (w0 w1 w2 w3 w4 w5 w6 w7 : Int) : leftF (nextP [w0, w1, w2, w3, w4, w5, w6, w7] 0 4) = rightF (res2 8 0 4) (nextP [w0, w1, w2, w3, w4, w5, w6, w7] 0 4) := by kernel_rfl
theorem next8x0x5 (w0 w1 w2 w3 w4 w5 w6 w7 : Int) : leftF (nextP [w0, w1, w2, w3, w4, w5, w6, w7] 0 5) = rightF (res2 8 0 5) (nextP [w0, w1, w2, w3, w4, w5, w6, w7] 0 5) := by kernel_rfl
theorem next8x0x6 (w0 w1 w2 w3 w4 w5 w6 w7 : Int) : leftF (nextP [w0, w1, w2, w3, w4, w5, w6, w7] 0 6) = rightF (res2 8 0 6) (nextP [w0, w1, w2, w3, w4, w5, w6, w7] 0 6) := by kernel_rfl
end Go.Proofs.YtfbikhkmamdjmaaGreatDoor.CodesS
