/-
  The row's statement of CheckKinds, and its card: whatever the text, the call returns true and leaves the text as it was.
  Conditions: those of the given row alone.
-/
import Derived.Test.YtfbikhkmamdjmaaDoorCheckKindsS
namespace Go.Proofs.YtfbikhkmamdjmaaDoor.CheckKinds
open Go Go.Ab CodesK Go.ChangeShapes Go.WideShapes Go.ChangeAt Go.RowKit
set_option maxRecDepth 100000
/-- no parameter wants a stand-in; the program's own looks -/
theorem plain (f : FuncId) (fn : Func) (hf : Tryd.pinned.checked.prog.funcNamed "puppeteer/puppeteerlaw13.CheckKinds" = some f) (hfn : Tryd.pinned.checked.prog.funcs[f]? = some fn) :
    true = Tryd.pinned.checked.prog.looks [] ∧ ∀ (j : Nat) t, fn.params[j]? = some t → Tryd.pinned.checked.prog.wantsStandIn t = false := by
  obtain rfl : f = 3 := Option.some.inj ((show Tryd.prog.funcNamed "puppeteer/puppeteerlaw13.CheckKinds" = some 3 by kernel_rfl).symm.trans hf) |>.symm
  obtain rfl : fn = Tryd.f3 := (Option.some.inj (Tryd.func3.symm.trans hfn)).symm
  refine ⟨by kernel_rfl, fun j t ht => ?_⟩
  rw [Tryd.params3] at ht
  have hm := Array.mem_of_getElem? ht
  simp only [List.mem_toArray, List.mem_cons, List.not_mem_nil, or_false] at hm
  rcases hm with rfl | rfl
  · exact (show Tryd.prog.wantsStandIn 24 = false by kernel_rfl)
  · exact (show Tryd.prog.wantsStandIn 25 = false by kernel_rfl)

theorem wfSaid : Rows.checkKindsRow.wfByText (OpenSpec.ofChange Rows.checkKindsSpec) = true := by kernel_rfl
theorem mainSaid : Tryd.pinned.checked.prog.mainIs = some (Rows.checkKindsCard.stood.harness.1, Rows.checkKindsCard.stood.harness.2.toList) := by kernel_rfl
theorem goesSaid : false = Rows.checkKindsRow.goesBy Tryd.pinned.checked.prog := by kernel_rfl

/-- the card -/
theorem card : Rows.CheckKindsCardSaid :=
  Claim7.holds_tied_plain_at .later [] _ _ _ _ said (fun _ h => by cases h) wfSaid (fun _ h => by cases h) checkKinds_row_tie rfl ⟨rfl, rfl⟩ mainSaid rfl plain goesSaid
#print axioms card
end Go.Proofs.YtfbikhkmamdjmaaDoor.CheckKinds
