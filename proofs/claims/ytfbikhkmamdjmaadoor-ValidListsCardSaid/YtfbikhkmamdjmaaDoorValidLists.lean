/-
  The row's statement of ValidLists, and its card: whatever the text, the call returns true and leaves the text as it was.
  Conditions: those of the given row alone.
-/
import Derived.Test.YtfbikhkmamdjmaaDoorValidListsS
namespace Go.Proofs.YtfbikhkmamdjmaaDoor.ValidLists
open Go Go.Ab CodesK Go.ChangeShapes Go.WideShapes Go.ChangeAt Go.RowKit
set_option maxRecDepth 100000
/-- no parameter wants a stand-in; the program's own looks -/
theorem plain (f : FuncId) (fn : Func) (hf : Tryd.pinned.checked.prog.funcNamed "puppeteer/puppeteerlaw16.ValidLists" = some f) (hfn : Tryd.pinned.checked.prog.funcs[f]? = some fn) :
    true = Tryd.pinned.checked.prog.looks [] ∧ ∀ (j : Nat) t, fn.params[j]? = some t → Tryd.pinned.checked.prog.wantsStandIn t = false := by
  obtain rfl : f = 4 := Option.some.inj ((show Tryd.prog.funcNamed "puppeteer/puppeteerlaw16.ValidLists" = some 4 by kernel_rfl).symm.trans hf) |>.symm
  obtain rfl : fn = Tryd.f4 := (Option.some.inj (Tryd.func4.symm.trans hfn)).symm
  refine ⟨by kernel_rfl, fun j t ht => ?_⟩
  rw [Tryd.params4] at ht
  obtain rfl : t = 37 := by simpa using Array.mem_of_getElem? ht
  exact (show Tryd.prog.wantsStandIn 37 = false by kernel_rfl)

theorem wfSaid : Rows.validListsRow.wfByText (OpenSpec.ofChange Rows.validListsSpec) = true := by kernel_rfl
theorem mainSaid : Tryd.pinned.checked.prog.mainIs = some (Rows.validListsCard.stood.harness.1, Rows.validListsCard.stood.harness.2.toList) := by kernel_rfl
theorem goesSaid : false = Rows.validListsRow.goesBy Tryd.pinned.checked.prog := by kernel_rfl

/-- the card -/
theorem card : Rows.ValidListsCardSaid :=
  Claim7.holds_tied_plain_at .later [] _ _ _ _ said (fun _ h => by cases h) wfSaid (fun _ h => by cases h) validLists_row_tie rfl ⟨rfl, rfl⟩ mainSaid rfl plain goesSaid
#print axioms card
end Go.Proofs.YtfbikhkmamdjmaaDoor.ValidLists
