/- A pick: ticks of trees of 7 parts. -/
import Derived.Test.YtfbikhkmamdjmaaGreatDoorWP3
namespace Go.Proofs.YtfbikhkmamdjmaaGreatDoor.CodesS
open Go Go.Ab
set_option maxRecDepth 100000
theorem tick7x0 (w0 w1 w2 w3 w4 w5 w6 : Int) : leftF (tickP [w0, w1, w2, w3, w4, w5, w6] 0) = rightF (res1 7 0) (tickP [w0, w1, w2, w3, w4, w5, w6] 0) := by kernel_rfl
theorem next7x0x0 (w0 w1 w2 w3 w4 w5 w6 : Int) : leftF (nextP [w0, w1, w2, w3, w4, w5, w6] 0 0) = rightF (res1 7 0) (nextP [w0, w1, w2, w3, w4, w5, w6] 0 0) := by kernel_rfl
theorem next7x0x1 (w0 w1 w2 w3 w4 w5 w6 : Int) : leftF (nextP [w0, w1, w2, w3, w4, w5, w6] 0 1) = rightF (res2 7 0 1) (nextP [w0, w1, w2, w3, w4, w5, w6] 0 1) := by kernel_rfl
theorem next7x0x2 (w0 w1 w2 w3 w4 w5 w6 : Int) : leftF (nextP [w0, w1, w2, w3, w4, w5, w6] 0 2) = rightF (res2 7 0 2) (nextP [w0, w1, w2, w3, w4, w5, w6] 0 2) := by kernel_rfl
theorem next7x0x3 (w0 w1 w2 w3 w4 w5 w6 : Int) : leftF (nextP [w0, w1, w2, w3, w4, w5, w6] 0 3) = rightF (res2 7 0 3) (nextP [w0, w1, w2, w3, w4, w5, w6] 0 3) := by kernel_rfl
theorem next7x0x4 (w0 w1 w2 w3 w4 w5 w6 : Int) : leftF (nextP [w0, w1, w2, w3, w4, w5, w6] 0 4) = rightF (res2 7 0 4) (nextP [w0, w1, w2, w3, w4, w5, w6] 0 4) := by kernel_rfl
theorem next7x0x5 (w0 w1 w2 w3 w4 w5 w6 : Int) : leftF (nextP [w0, w1, w2, w3, w4, w5, w6] 0 5) = rightF (res2 7 0 5) (nextP [w0, w1, w2, w3, w4, w5, w6] 0 5) := by kernel_rfl
theorem next7x0x6 (w0 w1 w2 w3 w4 w5 w6 : Int) : leftF (nextP [w0, w1, w2, w3, w4, w5, w6] 0 6) = rightF (res2 7 0 6) (nextP [w0, w1, w2, w3, w4, w5, w6] 0 6) := by kernel_rfl
theorem tick7x1 (w0 w1 w2 w3 w4 w5 w6 : Int) : leftF (tickP [w0, w1, w2, w3, w4, w5, w6] 1) = rightF (res1 7 1) (tickP [w0, w1, w2, w3, w4, w5, w6] 1) := by kernel_rfl
theorem next7x1x0 (w0 w1 w2 w3 w4 w5 w6 : Int) : leftF (nextP [w0, w1, w2, w3, w4, w5, w6] 1 0) = rightF (res2 7 1 0) (nextP [w0, w1, w2, w3, w4, w5, w6] 1 0) := by kernel_rfl
theorem next7x1x1 (w0 w1 w2 w3 w4 w5 w6 : Int) : leftF (nextP [w0, w1, w2, w3, w4, w5, w6] 1 1) = rightF (res1 7 1) (nextP [w0, w1, w2, w3, w4, w5, w6] 1 1) := by kernel_rfl
theorem next7x1x2 (w0 w1 w2 w3 w4 w5 w6 : Int) : leftF (nextP [w0, w1, w2, w3, w4, w5, w6] 1 2) = rightF (res2 7 1 2) (nextP [w0, w1, w2, w3, w4, w5, w6] 1 2) := by kernel_rfl
theorem next7x1x3 (w0 w1 w2 w3 w4 w5 w6 : Int) : leftF (nextP [w0, w1, w2, w3, w4, w5, w6] 1 3) = rightF (res2 7 1 3) (nextP [w0, w1, w2, w3, w4, w5, w6] 1 3) := by kernel_rfl
theorem next7x1x4 (w0 w1 w2 w3 w4 w5 w6 : Int) : leftF (nextP [w0, w1, w2, w3, w4, w5, w6] 1 4) = rightF (res2 7 1 4) (nextP [w0, w1, w2, w3, w4, w5, w6] 1 4) := by kernel_rfl
theorem next7x1x5 (w0 w1 w2 w3 w4 w5 w6 : Int) : leftF (nextP [w0, w1, w2, w3, w4, w5, w6] 1 5) = rightF (res2 7 1 5) (nextP [w0, w1, w2, w3, w4, w5, w6] 1 5) := by kernel_rfl
theorem next7x1x6 (w0 w1 w2 w3 w4 w5 w6 : Int) : leftF (nextP [w0, w1, w2, w3, w4, w5, w6] 1 6) = rightF (res2 7 1 6) (nextP [w0, w1, w2, w3, w4, w5, w6] 1 6) := by kernel_rfl
end Go.Proofs.YtfbikhkmamdjmaaGreatDoor.CodesS
