/- LAW: the layer of facts is so. -/
import Derived.Test.YtfbikhkmamdjmaaDoorWXZ
namespace Go.Proofs.YtfbikhkmamdjmaaDoor.CodesX
open Go Go.Ab
set_option maxRecDepth 100000
theorem space_low : V.low 0 space = true := by kernel_rfl
theorem low (g : Nat) (v : V) (h : G g = some v) : V.low 0 v = true := by
  unfold G at h
  split at h
  · cases h; exact space_low
  · cases h; rfl
theorem fine1 : DFine (ctxOf Tryd.prog G D1.tidy D1.orc) D1 := dfine codesOk
theorem ctxOk1 : CodeOk Tryd.prog G (ctxOf Tryd.prog G D1.tidy D1.orc) := over_ok ctxOk fine low l1_ok
end Go.Proofs.YtfbikhkmamdjmaaDoor.CodesX
