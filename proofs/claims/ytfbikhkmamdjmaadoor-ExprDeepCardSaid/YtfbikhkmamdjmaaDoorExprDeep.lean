/-
  The row's statement of ExprDeep, and its card: whatever the text, the call returns true and leaves the text as it was.
  Conditions: those of the given row alone.
-/
import Derived.Test.YtfbikhkmamdjmaaDoorExprDeepS
namespace Go.Proofs.YtfbikhkmamdjmaaDoor.ExprDeep
open Go Go.Ab CodesX Go.ChangeShapes Go.WideShapes Go.ChangeAt Go.RowKit
set_option maxRecDepth 100000
/-- no parameter wants a stand-in; the program's own looks -/
theorem plain (f : FuncId) (fn : Func) (hf : Tryd.pinned.checked.prog.funcNamed "puppeteer/puppeteerlaw10.ExprDeep" = some f) (hfn : Tryd.pinned.checked.prog.funcs[f]? = some fn) :
    true = Tryd.pinned.checked.prog.looks [] ∧ ∀ (j : Nat) t, fn.params[j]? = some t → Tryd.pinned.checked.prog.wantsStandIn t = false := by
  obtain rfl : f = 9 := Option.some.inj ((show Tryd.prog.funcNamed "puppeteer/puppeteerlaw10.ExprDeep" = some 9 by kernel_rfl).symm.trans hf) |>.symm
  obtain rfl : fn = Tryd.f9 := (Option.some.inj (Tryd.func9.symm.trans hfn)).symm
  refine ⟨by kernel_rfl, fun j t ht => ?_⟩
  rw [Tryd.params9] at ht
  have hm := Array.mem_of_getElem? ht
  simp only [List.mem_toArray, List.mem_cons, List.not_mem_nil, or_false] at hm
  rcases hm with rfl | rfl
  · exact (show Tryd.prog.wantsStandIn 3 = false by kernel_rfl)
  · exact (show Tryd.prog.wantsStandIn 3 = false by kernel_rfl)

theorem wfSaid : Rows.exprDeepRow.wfByText (OpenSpec.ofChange Rows.exprDeepSpec) = true := by kernel_rfl
theorem mainSaid : Tryd.pinned.checked.prog.mainIs = some (Rows.exprDeepCard.stood.harness.1, Rows.exprDeepCard.stood.harness.2.toList) := by kernel_rfl
theorem goesSaid : false = Rows.exprDeepRow.goesBy Tryd.pinned.checked.prog := by kernel_rfl

/-- the card -/
theorem card : Rows.ExprDeepCardSaid :=
  Claim7.holds_tied_plain_at .later [] _ _ _ _ said (fun _ h => by cases h) wfSaid (fun _ h => by cases h) exprDeep_row_tie rfl ⟨rfl, rfl⟩ mainSaid rfl plain goesSaid
#print axioms card
end Go.Proofs.YtfbikhkmamdjmaaDoor.ExprDeep
