/- LAW: the layers of facts are so. -/
import Derived.Test.YtfbikhkmamdjmaaGreatDoorWPZ
namespace Go.Proofs.YtfbikhkmamdjmaaGreatDoor.CodesS
open Go Go.Ab
set_option maxRecDepth 100000
theorem space_low : V.low 0 space = true := by kernel_rfl
theorem low (g : Nat) (v : V) (h : G g = some v) : V.low 0 v = true := by
  unfold G at h
  split at h
  · cases h; exact space_low
  · cases h; rfl
theorem fineP : DFine (ctxOf Tryz.prog G DP.tidy DP.orc) DP := dfine codesOk
theorem okP : CodeOk Tryz.prog G (ctxOf Tryz.prog G DP.tidy DP.orc) := over_ok ctxOk fine low lP_ok
theorem finePa : DFine (ctxOf Tryz.prog G DPa.tidy DPa.orc) DPa := dfine codesOk
theorem okPa : CodeOk Tryz.prog G (ctxOf Tryz.prog G DPa.tidy DPa.orc) := overN_ok okP fineP low lPa_ok
theorem finePb : DFine (ctxOf Tryz.prog G DPb.tidy DPb.orc) DPb := dfine codesOk
theorem okPb : CodeOk Tryz.prog G (ctxOf Tryz.prog G DPb.tidy DPb.orc) := over_ok okPa finePa low lPb_ok
theorem fineP2 : DFine (ctxOf Tryz.prog G DP2.tidy DP2.orc) DP2 := dfine codesOk
theorem okP2 : CodeOk Tryz.prog G (ctxOf Tryz.prog G DP2.tidy DP2.orc) := layer_ok okPb finePb low
theorem fine1 : DFine (ctxOf Tryz.prog G DQ.tidy DQ.orc) DQ := dfine codesOk
theorem ctxOk1 : CodeOk Tryz.prog G (ctxOf Tryz.prog G DQ.tidy DQ.orc) := layer_ok okP2 fineP2 low
end Go.Proofs.YtfbikhkmamdjmaaGreatDoor.CodesS
