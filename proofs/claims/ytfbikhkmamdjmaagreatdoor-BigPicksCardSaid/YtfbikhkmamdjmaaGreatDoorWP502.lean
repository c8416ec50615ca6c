/- A pick: ticks of trees of 3 to 4 parts. -/
import Derived.Test.YtfbikhkmamdjmaaGreatDoorWP3
namespace Go.Proofs.YtfbikhkmamdjmaaGreatDoor.CodesS
open Go Go.Ab
set_option maxRecDepth 100000
theorem tick3x2 (w0 w1 w2 : Int) : leftF (tickP [w0, w1, w2] 2) = rightF (res1 3 2) (tickP [w0, w1, w2] 2) := by kernel_rfl
theorem next3x2x0 (w0 w1 w2 : Int) : leftF (nextP [w0, w1, w2] 2 0) = rightF (res2 3 2 0) (nextP [w0, w1, w2] 2 0) := by kernel_rfl
theorem next3x2x1 (w0 w1 w2 : Int) : leftF (nextP [w0, w1, w2] 2 1) = rightF (res2 3 2 1) (nextP [w0, w1, w2] 2 1) := by kernel_rfl
theorem next3x2x2 (w0 w1 w2 : Int) : leftF (nextP [w0, w1, w2] 2 2) = rightF (res1 3 2) (nextP [w0, w1, w2] 2 2) := by kernel_rfl
theorem tick4x0 (w0 w1 w2 w3 : Int) : leftF (tickP [w0, w1, w2, w3] 0) = rightF (res1 4 0) (tickP [w0, w1, w2, w3] 0) := by kernel_rfl
theorem next4x0x0 (w0 w1 w2 w3 : Int) : leftF (nextP [w0, w1, w2, w3] 0 0) = rightF (res1 4 0) (nextP [w0, w1, w2, w3] 0 0) := by kernel_rfl
theorem next4x0x1 (w0 w1 w2 w3 : Int) : leftF (nextP [w0, w1, w2, w3] 0 1) = rightF (res2 4 0 1) (nextP [w0, w1, w2, w3] 0 1) := by kernel_rfl
theorem next4x0x2 (w0 w1 w2 w3 : Int) : leftF (nextP [w0, w1, w2, w3] 0 2) = rightF (res2 4 0 2) (nextP [w0, w1, w2, w3] 0 2) := by kernel_rfl
theorem next4x0x3 (w0 w1 w2 w3 : Int) : leftF (nextP [w0, w1, w2, w3] 0 3) = rightF (res2 4 0 3) (nextP [w0, w1, w2, w3] 0 3) := by kernel_rfl
theorem tick4x1 (w0 w1 w2 w3 : Int) : leftF (tickP [w0, w1, w2, w3] 1) = rightF (res1 4 1) (tickP [w0, w1, w2, w3] 1) := by kernel_rfl
theorem next4x1x0 (w0 w1 w2 w3 : Int) : leftF (nextP [w0, w1, w2, w3] 1 0) = rightF (res2 4 1 0) (nextP [w0, w1, w2, w3] 1 0) := by kernel_rfl
theorem next4x1x1 (w0 w1 w2 w3 : Int) : leftF (nextP [w0, w1, w2, w3] 1 1) = rightF (res1 4 1) (nextP [w0, w1, w2, w3] 1 1) := by kernel_rfl
theorem next4x1x2 (w0 w1 w2 w3 : Int) : leftF (nextP [w0, w1, w2, w3] 1 2) = rightF (res2 4 1 2) (nextP [w0, w1, w2, w3] 1 2) := by kernel_rfl
theorem next4x1x3 (w0 w1 w2 w3 : Int) : leftF (nextP [w0, w1, w2, w3] 1 3) = rightF (res2 4 1 3) (nextP [w0, w1, w2, w3] 1 3) := by kernel_rfl
theorem tick4x2 (w0 w1 w2 w3 : Int) : leftF (tickP [w0, w1, w2, w3] 2) = rightF (res1 4 2) (tickP [w0, w1, w2, w3] 2) := by kernel_rfl
theorem next4x2x0 (w0 w1 w2 w3 : Int) : leftF (nextP [w0, w1, w2, w3] 2 0) = rightF (res2 4 2 0) (nextP [w0, w1, w2, w3] 2 0) := by kernel_rfl
end Go.Proofs.YtfbikhkmamdjmaaGreatDoor.CodesS
