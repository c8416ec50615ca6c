/- The card. -/
import Derived.Test.YtfbikhkmamdjmaaDoorValidWrongS
namespace Go.Proofs.YtfbikhkmamdjmaaDoor.ValidWrong
open Go Go.Ab CodesK Go.ChangeShapes Go.WideShapes Go.ChangeAt Go.RowKit
set_option maxRecDepth 100000
/-- no parameter wants a stand-in; the program's own looks -/
theorem plain (f : FuncId) (fn : Func) (hf : Tryd.pinned.checked.prog.funcNamed "puppeteer/puppeteerlaw16.ValidWrong" = some f) (hfn : Tryd.pinned.checked.prog.funcs[f]? = some fn) :
    true = Tryd.pinned.checked.prog.looks [] ∧ ∀ (j : Nat) t, fn.params[j]? = some t → Tryd.pinned.checked.prog.wantsStandIn t = false := by
  obtain rfl : f = 5 := Option.some.inj ((show Tryd.prog.funcNamed "puppeteer/puppeteerlaw16.ValidWrong" = some 5 by kernel_rfl).symm.trans hf) |>.symm
  obtain rfl : fn = Tryd.f5 := (Option.some.inj (Tryd.func5.symm.trans hfn)).symm
  refine ⟨by kernel_rfl, fun j t ht => ?_⟩
  rw [Tryd.params5] at ht
  have hm := Array.mem_of_getElem? ht
  simp only [List.mem_toArray, List.mem_cons, List.not_mem_nil, or_false] at hm
  rcases hm with rfl | rfl | rfl | rfl
  · exact (show Tryd.prog.wantsStandIn 41 = false by kernel_rfl)
  all_goals exact (show Tryd.prog.wantsStandIn 3 = false by kernel_rfl)
theorem wfSaid : Rows.validWrongUptoRow.wfByText (Rows.OpenSpec.upto Rows.validWrongSpec) = true := by kernel_rfl
theorem mainSaid : Tryd.pinned.checked.prog.mainIs = some (Rows.validWrongUptoCard.stood.harness.1, Rows.validWrongUptoCard.stood.harness.2.toList) := by kernel_rfl
theorem goesSaid : false = Rows.validWrongUptoRow.goesBy Tryd.pinned.checked.prog := by kernel_rfl
theorem card : Rows.ValidWrongUptoCardSaid :=
  Claim7.holds_tied_plain_at .later [] _ _ _ _ said (fun _ h => by cases h) wfSaid (fun _ h => by cases h) validWrongUpto_row_tie rfl ⟨rfl, rfl⟩ mainSaid rfl plain goesSaid
#print axioms card
end Go.Proofs.YtfbikhkmamdjmaaDoor.ValidWrong
