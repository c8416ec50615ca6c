/-
  The row's statement of BigPicks, and its card: whatever the text, the call returns true and leaves the text as it was.
  Conditions: those of the given row alone.
-/
import Derived.Test.YtfbikhkmamdjmaaGreatDoorBigPicksS
namespace Go.Proofs.YtfbikhkmamdjmaaGreatDoor.BigPicks
open Go Go.Ab CodesS Go.ChangeShapes Go.WideShapes Go.ChangeAt Go.RowKit
set_option maxRecDepth 100000
/-- no parameter wants a stand-in; the program's own looks -/
theorem plain (f : FuncId) (fn : Func) (hf : Tryz.pinned.checked.prog.funcNamed "puppeteer/puppeteerlaw18.BigPicks" = some f) (hfn : Tryz.pinned.checked.prog.funcs[f]? = some fn) :
    true = Tryz.pinned.checked.prog.looks [] ∧ ∀ (j : Nat) t, fn.params[j]? = some t → Tryz.pinned.checked.prog.wantsStandIn t = false := by
  obtain rfl : f = 5 := Option.some.inj ((show Tryz.prog.funcNamed "puppeteer/puppeteerlaw18.BigPicks" = some 5 by kernel_rfl).symm.trans hf) |>.symm
  obtain rfl : fn = Tryz.f5 := (Option.some.inj (Tryz.func5.symm.trans hfn)).symm
  refine ⟨by kernel_rfl, fun j t ht => ?_⟩
  rw [Tryz.params5] at ht
  have hm := Array.mem_of_getElem? ht
  simp only [List.mem_toArray, List.mem_cons, List.not_mem_nil, or_false] at hm
  rcases hm with rfl | rfl
  · exact (show Tryz.prog.wantsStandIn 22 = false by kernel_rfl)
  · exact (show Tryz.prog.wantsStandIn 22 = false by kernel_rfl)

theorem wfSaid : Rows.bigPicksRow.wfByText (OpenSpec.ofChange Rows.bigPicksSpec) = true := by kernel_rfl
theorem mainSaid : Tryz.pinned.checked.prog.mainIs = some (Rows.bigPicksCard.stood.harness.1, Rows.bigPicksCard.stood.harness.2.toList) := by kernel_rfl
theorem goesSaid : false = Rows.bigPicksRow.goesBy Tryz.pinned.checked.prog := by kernel_rfl

/-- the card -/
theorem card : Rows.BigPicksCardSaid :=
  Claim7.holds_tied_plain_at .later [] _ _ _ _ said (fun _ h => by cases h) wfSaid (fun _ h => by cases h) bigPicks_row_tie rfl ⟨rfl, rfl⟩ mainSaid rfl plain goesSaid
#print axioms card
end Go.Proofs.YtfbikhkmamdjmaaGreatDoor.BigPicks
