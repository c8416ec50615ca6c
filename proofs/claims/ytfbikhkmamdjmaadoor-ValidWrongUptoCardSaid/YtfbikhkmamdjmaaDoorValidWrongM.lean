/- LAW: the layers of facts are so. -/
import Derived.Test.YtfbikhkmamdjmaaDoorWV33w
namespace Go.Proofs.YtfbikhkmamdjmaaDoor.CodesK
open Go Go.Ab
set_option maxRecDepth 100000
theorem space_low : V.low 0 space = true := by kernel_rfl
theorem low (g : Nat) (v : V) (h : G g = some v) : V.low 0 v = true := by
  unfold G at h
  split at h
  · cases h; exact space_low
  · cases h; rfl
theorem fineD1 : DFine (ctxOf Tryd.prog G D1.tidy D1.orc) D1 := dfine codesOk
theorem okD1 : CodeOk Tryd.prog G (ctxOf Tryd.prog G D1.tidy D1.orc) := over_ok ctxOk fine low l1_ok
theorem fine1 : DFine (ctxOf Tryd.prog G D2.tidy D2.orc) D2 := dfine codesOk
theorem ctxOk1 : CodeOk Tryd.prog G (ctxOf Tryd.prog G D2.tidy D2.orc) := layer_ok okD1 fineD1 low
end Go.Proofs.YtfbikhkmamdjmaaDoor.CodesK
