/- A pick: ticks of trees of 1 to 3 parts. -/
import Derived.Test.YtfbikhkmamdjmaaGreatDoorWP3
namespace Go.Proofs.YtfbikhkmamdjmaaGreatDoor.CodesS
open Go Go.Ab
set_option maxRecDepth 100000
theorem tick1x0 (w0 : Int) : leftF (tickP [w0] 0) = rightF (res1 1 0) (tickP [w0] 0) := by kernel_rfl
theorem next1x0x0 (w0 : Int) : leftF (nextP [w0] 0 0) = rightF (res1 1 0) (nextP [w0] 0 0) := by kernel_rfl
theorem tick2x0 (w0 w1 : Int) : leftF (tickP [w0, w1] 0) = rightF (res1 2 0) (tickP [w0, w1] 0) := by kernel_rfl
theorem next2x0x0 (w0 w1 : Int) : leftF (nextP [w0, w1] 0 0) = rightF (res1 2 0) (nextP [w0, w1] 0 0) := by kernel_rfl
theorem next2x0x1 (w0 w1 : Int) : leftF (nextP [w0, w1] 0 1) = rightF (res2 2 0 1) (nextP [w0, w1] 0 1) := by kernel_rfl
theorem tick2x1 (w0 w1 : Int) : leftF (tickP [w0, w1] 1) = rightF (res1 2 1) (tickP [w0, w1] 1) := by kernel_rfl
theorem next2x1x0 (w0 w1 : Int) : leftF (nextP [w0, w1] 1 0) = rightF (res2 2 1 0) (nextP [w0, w1] 1 0) := by kernel_rfl
theorem next2x1x1 (w0 w1 : Int) : leftF (nextP [w0, w1] 1 1) = rightF (res1 2 1) (nextP [w0, w1] 1 1) := by kernel_rfl
theorem tick3x0 (w0 w1 w2 : Int) : leftF (tickP [w0, w1, w2] 0) = rightF (res1 3 0) (tickP [w0, w1, w2] 0) := by kernel_rfl
theorem next3x0x0 (w0 w1 w2 : Int) : leftF (nextP [w0, w1, w2] 0 0) = rightF (res1 3 0) (nextP [w0, w1, w2] 0 0) := by kernel_rfl
theorem next3x0x1 (w0 w1 w2 : Int) : leftF (nextP [w0, w1, w2] 0 1) = rightF (res2 3 0 1) (nextP [w0, w1, w2] 0 1) := by kernel_rfl
theorem next3x0x2 (w0 w1 w2 : Int) : leftF (nextP [w0, w1, w2] 0 2) = rightF (res2 3 0 2) (nextP [w0, w1, w2] 0 2) := by kernel_rfl
theorem tick3x1 (w0 w1 w2 : Int) : leftF (tickP [w0, w1, w2] 1) = rightF (res1 3 1) (tickP [w0, w1, w2] 1) := by kernel_rfl
theorem next3x1x0 (w0 w1 w2 : Int) : leftF (nextP [w0, w1, w2] 1 0) = rightF (res2 3 1 0) (nextP [w0, w1, w2] 1 0) := by kernel_rfl
theorem next3x1x1 (w0 w1 w2 : Int) : leftF (nextP [w0, w1, w2] 1 1) = rightF (res1 3 1) (nextP [w0, w1, w2] 1 1) := by kernel_rfl
theorem next3x1x2 (w0 w1 w2 : Int) : leftF (nextP [w0, w1, w2] 1 2) = rightF (res2 3 1 2) (nextP [w0, w1, w2] 1 2) := by kernel_rfl
end Go.Proofs.YtfbikhkmamdjmaaGreatDoor.CodesS
