/-
  DERIVED. GIVEN WITH THE SEED: THE CARDS: each row of YtpaadclighadaaaDoorRows.lean that lists a variable, with what it lists TIED to the program's text (the seventh form; the later family's looks); each row that meets fmt, with fmt's text TOLD by the authors' own Lean function (tested against real Go, not proved from fmt's source: count such statements apart). THE CARD IS WHAT COUNTS. Prove the row's statement (the work); the ties are given (YtpaadclighadaaaDoorTie.lean); close each card by the builder's one call (the guide's Derived/Test/ToyasCard.lean, 'card_holds'). Laid BY PROGRAM, IN A SANDBOX (cutbox-door.mjs). By AI agents, Wed Nov 11 2026. No macro, syntax, notation, axiom, sorry.
-/
import Derived.Test.YtpaadclighadaaaDoorRows
import GoSem.ClaimSeven
namespace Go.Proofs.YtpaadclighadaaaDoor
namespace Rows

/-- THE TIED CARD OF 'puppeteerlaw22.GoapSteps'. -/
def goapStepsCard : Claim7 := { stood := { row := goapStepsRow, standIns := [], harness := (true, "57c4cacaba2bce2ca648033f8b3424d3d85cc43640761837e800d9b4c4ac4cbb"), looks := true }, kinds := [], alts := [], laidByText := true, laidKinds := [.data, .data, .data], laidTests := true, laidLooks := .later }
def GoapStepsCardSaid : Prop := Claim7.holds Tryd.pinned (.plain (OpenSpec.ofChange goapStepsSpec)) goapStepsCard

/-- THE TIED CARD OF 'puppeteerlaw22.GoapGuess'. -/
def goapGuessCard : Claim7 := { stood := { row := goapGuessRow, standIns := [], harness := (true, "57c4cacaba2bce2ca648033f8b3424d3d85cc43640761837e800d9b4c4ac4cbb"), looks := true }, kinds := [], alts := [], laidByText := true, laidKinds := [.data, .data, .data], laidTests := true, laidLooks := .later }
def GoapGuessCardSaid : Prop := Claim7.holds Tryd.pinned (.plain (OpenSpec.ofChange goapGuessSpec)) goapGuessCard

/-- THE TIED CARD OF 'puppeteerlaw13.CheckKinds'. -/
def checkKindsCard : Claim7 := { stood := { row := checkKindsRow, standIns := [], harness := (true, "57c4cacaba2bce2ca648033f8b3424d3d85cc43640761837e800d9b4c4ac4cbb"), looks := true }, kinds := [], alts := [], laidByText := true, laidKinds := [.listed, .data], laidTests := true, laidLooks := .later }
def CheckKindsCardSaid : Prop := Claim7.holds Tryd.pinned (.plain (OpenSpec.ofChange checkKindsSpec)) checkKindsCard

/-- THE TIED CARD OF 'puppeteerlaw10.ExprDeep'. -/
def exprDeepCard : Claim7 := { stood := { row := exprDeepRow, standIns := [], harness := (true, "57c4cacaba2bce2ca648033f8b3424d3d85cc43640761837e800d9b4c4ac4cbb"), looks := true }, kinds := [], alts := [], laidByText := true, laidKinds := [.data, .data, .data, .listed, .data], laidTests := true, laidLooks := .later }
def ExprDeepCardSaid : Prop := Claim7.holds Tryd.pinned (.plain (OpenSpec.ofChange exprDeepSpec)) exprDeepCard

/-- THE TIED CARD OF 'puppeteerlaw11.TreeDeep'. -/
def treeDeepCard : Claim7 := { stood := { row := treeDeepRow, standIns := [], harness := (true, "57c4cacaba2bce2ca648033f8b3424d3d85cc43640761837e800d9b4c4ac4cbb"), looks := true }, kinds := [], alts := [], laidByText := true, laidKinds := [.data, .listed, .data, .pinned], laidTests := true, laidLooks := .later }
def TreeDeepCardSaid : Prop := Claim7.holds Tryd.pinned (.plain (OpenSpec.ofChange treeDeepSpec)) treeDeepCard

/-- THE TIED CARD OF 'puppeteerlaw11.TreeMany'. -/
def treeManyCard : Claim7 := { stood := { row := treeManyRow, standIns := [], harness := (true, "57c4cacaba2bce2ca648033f8b3424d3d85cc43640761837e800d9b4c4ac4cbb"), looks := true }, kinds := [], alts := [], laidByText := true, laidKinds := [.data, .listed, .data, .pinned], laidTests := true, laidLooks := .later }
def TreeManyCardSaid : Prop := Claim7.holds Tryd.pinned (.plain (OpenSpec.ofChange treeManySpec)) treeManyCard

/-- THE SECOND FORM's CARD OF 'puppeteerlaw22.GoapSteps'. -/
def goapStepsUptoCard : Claim7 := { stood := { row := goapStepsUptoRow, standIns := [], harness := (true, "57c4cacaba2bce2ca648033f8b3424d3d85cc43640761837e800d9b4c4ac4cbb"), looks := true }, kinds := [], alts := [], laidByText := true, laidKinds := [.data, .data, .data], laidTests := true, laidLooks := .later }
def GoapStepsUptoCardSaid : Prop := Claim7.holds Tryd.pinned (.plain (OpenSpec.upto goapStepsSpec)) goapStepsUptoCard

/-- THE SECOND FORM's CARD OF 'puppeteerlaw22.GoapGuess'. -/
def goapGuessUptoCard : Claim7 := { stood := { row := goapGuessUptoRow, standIns := [], harness := (true, "57c4cacaba2bce2ca648033f8b3424d3d85cc43640761837e800d9b4c4ac4cbb"), looks := true }, kinds := [], alts := [], laidByText := true, laidKinds := [.data, .data, .data], laidTests := true, laidLooks := .later }
def GoapGuessUptoCardSaid : Prop := Claim7.holds Tryd.pinned (.plain (OpenSpec.upto goapGuessSpec)) goapGuessUptoCard

/-- THE SECOND FORM's CARD OF 'puppeteerlaw13.CheckKinds'. -/
def checkKindsUptoCard : Claim7 := { stood := { row := checkKindsUptoRow, standIns := [], harness := (true, "57c4cacaba2bce2ca648033f8b3424d3d85cc43640761837e800d9b4c4ac4cbb"), looks := true }, kinds := [], alts := [], laidByText := true, laidKinds := [.listed, .data], laidTests := true, laidLooks := .later }
def CheckKindsUptoCardSaid : Prop := Claim7.holds Tryd.pinned (.plain (OpenSpec.upto checkKindsSpec)) checkKindsUptoCard

/-- THE SECOND FORM's CARD OF 'puppeteerlaw10.ExprDeep'. -/
def exprDeepUptoCard : Claim7 := { stood := { row := exprDeepUptoRow, standIns := [], harness := (true, "57c4cacaba2bce2ca648033f8b3424d3d85cc43640761837e800d9b4c4ac4cbb"), looks := true }, kinds := [], alts := [], laidByText := true, laidKinds := [.data, .data, .data, .listed, .data], laidTests := true, laidLooks := .later }
def ExprDeepUptoCardSaid : Prop := Claim7.holds Tryd.pinned (.plain (OpenSpec.upto exprDeepSpec)) exprDeepUptoCard

/-- THE SECOND FORM's CARD OF 'puppeteerlaw11.TreeDeep'. -/
def treeDeepUptoCard : Claim7 := { stood := { row := treeDeepUptoRow, standIns := [], harness := (true, "57c4cacaba2bce2ca648033f8b3424d3d85cc43640761837e800d9b4c4ac4cbb"), looks := true }, kinds := [], alts := [], laidByText := true, laidKinds := [.data, .listed, .data, .pinned], laidTests := true, laidLooks := .later }
def TreeDeepUptoCardSaid : Prop := Claim7.holds Tryd.pinned (.plain (OpenSpec.upto treeDeepSpec)) treeDeepUptoCard

/-- THE SECOND FORM's CARD OF 'puppeteerlaw11.TreeMany'. -/
def treeManyUptoCard : Claim7 := { stood := { row := treeManyUptoRow, standIns := [], harness := (true, "57c4cacaba2bce2ca648033f8b3424d3d85cc43640761837e800d9b4c4ac4cbb"), looks := true }, kinds := [], alts := [], laidByText := true, laidKinds := [.data, .listed, .data, .pinned], laidTests := true, laidLooks := .later }
def TreeManyUptoCardSaid : Prop := Claim7.holds Tryd.pinned (.plain (OpenSpec.upto treeManySpec)) treeManyUptoCard
end Rows
end Go.Proofs.YtpaadclighadaaaDoor
