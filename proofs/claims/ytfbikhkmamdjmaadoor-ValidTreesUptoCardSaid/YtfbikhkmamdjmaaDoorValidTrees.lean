/-
  The row's statement of ValidTrees, and its card: whatever the text, the call returns true and leaves the text as it was.
  Conditions: those of the given row alone.
-/
import Derived.Test.YtfbikhkmamdjmaaDoorValidTreesS
namespace Go.Proofs.YtfbikhkmamdjmaaDoor.ValidTrees
open Go Go.Ab CodesK Go.ChangeShapes Go.WideShapes Go.ChangeAt Go.RowKit
set_option maxRecDepth 100000
/-- no parameter wants a stand-in; the program's own looks -/
theorem plain (f : FuncId) (fn : Func) (hf : Tryd.pinned.checked.prog.funcNamed "puppeteer/puppeteerlaw16.ValidTrees" = some f) (hfn : Tryd.pinned.checked.prog.funcs[f]? = some fn) :
    true = Tryd.pinned.checked.prog.looks [] ∧ ∀ (j : Nat) t, fn.params[j]? = some t → Tryd.pinned.checked.prog.wantsStandIn t = false := by
  obtain rfl : f = 6 := Option.some.inj ((show Tryd.prog.funcNamed "puppeteer/puppeteerlaw16.ValidTrees" = some 6 by kernel_rfl).symm.trans hf) |>.symm
  obtain rfl : fn = Tryd.f6 := (Option.some.inj (Tryd.func6.symm.trans hfn)).symm
  refine ⟨by kernel_rfl, fun j t ht => ?_⟩
  rw [Tryd.params6] at ht
  obtain rfl : t = 41 := by simpa using Array.mem_of_getElem? ht
  exact (show Tryd.prog.wantsStandIn 41 = false by kernel_rfl)

theorem wfSaid : Rows.validTreesUptoRow.wfByText (Rows.OpenSpec.upto Rows.validTreesSpec) = true := by kernel_rfl
theorem mainSaid : Tryd.pinned.checked.prog.mainIs = some (Rows.validTreesUptoCard.stood.harness.1, Rows.validTreesUptoCard.stood.harness.2.toList) := by kernel_rfl
theorem goesSaid : false = Rows.validTreesUptoRow.goesBy Tryd.pinned.checked.prog := by kernel_rfl

/-- the card -/
theorem card : Rows.ValidTreesUptoCardSaid :=
  Claim7.holds_tied_plain_at .later [] _ _ _ _ said (fun _ h => by cases h) wfSaid (fun _ h => by cases h) validTreesUpto_row_tie rfl ⟨rfl, rfl⟩ mainSaid rfl plain goesSaid
#print axioms card
end Go.Proofs.YtfbikhkmamdjmaaDoor.ValidTrees
