/-
  The row's statement of WorldRefuses, and its card: whatever the numbers, the call returns true and leaves them as they were.
  Conditions: those of the given row alone.
-/
import Derived.Test.YthclejjieggdkaaGreatDoorWorldRefusesS
namespace Go.Proofs.YthclejjieggdkaaGreatDoor.WorldRefuses
open Go Go.Ab CodesW Go.ChangeShapes Go.WideShapes Go.ChangeAt Go.RowKit
set_option maxRecDepth 100000
/-- no parameter wants a stand-in; the program's own looks -/
theorem plain (f : FuncId) (fn : Func) (hf : Tryz.pinned.checked.prog.funcNamed "puppeteer/puppeteerlaw25.WorldRefuses" = some f) (hfn : Tryz.pinned.checked.prog.funcs[f]? = some fn) :
    true = Tryz.pinned.checked.prog.looks [] ∧ ∀ (j : Nat) t, fn.params[j]? = some t → Tryz.pinned.checked.prog.wantsStandIn t = false := by
  obtain rfl : f = 6 := Option.some.inj ((show Tryz.prog.funcNamed "puppeteer/puppeteerlaw25.WorldRefuses" = some 6 by kernel_rfl).symm.trans hf) |>.symm
  obtain rfl : fn = Tryz.f6 := (Option.some.inj (Tryz.func6.symm.trans hfn)).symm
  refine ⟨by kernel_rfl, fun j t ht => ?_⟩
  rw [Tryz.params6] at ht
  obtain rfl : t = 3 := by simpa using Array.mem_of_getElem? ht
  exact (show Tryz.prog.wantsStandIn 3 = false by kernel_rfl)

theorem wfSaid : Rows.worldRefusesRow.wfByText (OpenSpec.ofChange Rows.worldRefusesSpec) = true := by kernel_rfl
theorem mainSaid : Tryz.pinned.checked.prog.mainIs = some (Rows.worldRefusesCard.stood.harness.1, Rows.worldRefusesCard.stood.harness.2.toList) := by kernel_rfl
theorem goesSaid : false = Rows.worldRefusesRow.goesBy Tryz.pinned.checked.prog := by kernel_rfl

/-- the card -/
theorem card : Rows.WorldRefusesCardSaid :=
  Claim7.holds_tied_plain_at .later [] _ _ _ _ said (fun _ h => by cases h) wfSaid (fun _ h => by cases h) worldRefuses_row_tie rfl ⟨rfl, rfl⟩ mainSaid rfl plain goesSaid
#print axioms card
end Go.Proofs.YthclejjieggdkaaGreatDoor.WorldRefuses
