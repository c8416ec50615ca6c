/-
  DERIVED. GIVEN WITH THE SEED: THE CARDS: each row of YtfbikhkmamdjmaaDoorRows.lean that lists a variable, with what it lists TIED to the program's text (the seventh form; the later family's looks); each row that meets fmt, with fmt's text TOLD by the authors' own Lean function (tested against real Go, not proved from fmt's source: count such statements apart). THE CARD IS WHAT COUNTS. Prove the row's statement (the work); the ties are given (YtfbikhkmamdjmaaDoorTie.lean); close each card by the builder's one call (the guide's Derived/Test/ToyasCard.lean, 'card_holds'). Laid BY PROGRAM, IN A SANDBOX (cutbox-door.mjs). By AI agents, Wed Nov 11 2026. No macro, syntax, notation, axiom, sorry.
-/
import Derived.Test.YtfbikhkmamdjmaaDoorRows
import GoSem.ClaimSeven
namespace Go.Proofs.YtfbikhkmamdjmaaDoor
namespace Rows

/-- THE TIED CARD OF 'puppeteerlaw13.CheckKinds'. -/
def checkKindsCard : Claim7 := { stood := { row := checkKindsRow, standIns := [], harness := (true, "26c7e09d1c120e9a66364413a6ab909ac60b67df80913551c0e21cf059dff1ee"), looks := true }, kinds := [], alts := [], laidByText := true, laidKinds := [.listed, .data], laidTests := true, laidLooks := .later }
def CheckKindsCardSaid : Prop := Claim7.holds Tryd.pinned (.plain (OpenSpec.ofChange checkKindsSpec)) checkKindsCard

/-- THE TIED CARD OF 'puppeteerlaw16.ValidLists'. -/
def validListsCard : Claim7 := { stood := { row := validListsRow, standIns := [], harness := (true, "26c7e09d1c120e9a66364413a6ab909ac60b67df80913551c0e21cf059dff1ee"), looks := true }, kinds := [], alts := [], laidByText := true, laidKinds := [.listed, .data], laidTests := true, laidLooks := .later }
def ValidListsCardSaid : Prop := Claim7.holds Tryd.pinned (.plain (OpenSpec.ofChange validListsSpec)) validListsCard

/-- THE TIED CARD OF 'puppeteerlaw16.ValidWrong'. -/
def validWrongCard : Claim7 := { stood := { row := validWrongRow, standIns := [], harness := (true, "26c7e09d1c120e9a66364413a6ab909ac60b67df80913551c0e21cf059dff1ee"), looks := true }, kinds := [], alts := [], laidByText := true, laidKinds := [.listed, .data], laidTests := true, laidLooks := .later }
def ValidWrongCardSaid : Prop := Claim7.holds Tryd.pinned (.plain (OpenSpec.ofChange validWrongSpec)) validWrongCard

/-- THE TIED CARD OF 'puppeteerlaw16.ValidTrees'. -/
def validTreesCard : Claim7 := { stood := { row := validTreesRow, standIns := [], harness := (true, "26c7e09d1c120e9a66364413a6ab909ac60b67df80913551c0e21cf059dff1ee"), looks := true }, kinds := [], alts := [], laidByText := true, laidKinds := [.listed, .data], laidTests := true, laidLooks := .later }
def ValidTreesCardSaid : Prop := Claim7.holds Tryd.pinned (.plain (OpenSpec.ofChange validTreesSpec)) validTreesCard

/-- THE TIED CARD OF 'puppeteerlaw17.CalcKinds'. -/
def calcKindsCard : Claim7 := { stood := { row := calcKindsRow, standIns := [], harness := (true, "26c7e09d1c120e9a66364413a6ab909ac60b67df80913551c0e21cf059dff1ee"), looks := true }, kinds := [], alts := [], laidByText := true, laidKinds := [.listed, .data], laidTests := true, laidLooks := .later }
def CalcKindsCardSaid : Prop := Claim7.holds Tryd.pinned (.plain (OpenSpec.ofChange calcKindsSpec)) calcKindsCard

/-- THE TIED CARD OF 'puppeteerlaw22.GoapNone'. -/
def goapNoneCard : Claim7 := { stood := { row := goapNoneRow, standIns := [], harness := (true, "26c7e09d1c120e9a66364413a6ab909ac60b67df80913551c0e21cf059dff1ee"), looks := true }, kinds := [], alts := [], laidByText := true, laidKinds := [.data, .data, .data], laidTests := true, laidLooks := .later }
def GoapNoneCardSaid : Prop := Claim7.holds Tryd.pinned (.plain (OpenSpec.ofChange goapNoneSpec)) goapNoneCard

/-- THE TIED CARD OF 'puppeteerlaw10.ExprDeep'. -/
def exprDeepCard : Claim7 := { stood := { row := exprDeepRow, standIns := [], harness := (true, "26c7e09d1c120e9a66364413a6ab909ac60b67df80913551c0e21cf059dff1ee"), looks := true }, kinds := [], alts := [], laidByText := true, laidKinds := [.data, .data, .data, .listed, .data], laidTests := true, laidLooks := .later }
def ExprDeepCardSaid : Prop := Claim7.holds Tryd.pinned (.plain (OpenSpec.ofChange exprDeepSpec)) exprDeepCard

/-- THE SECOND FORM's CARD OF 'puppeteerlaw13.CheckKinds'. -/
def checkKindsUptoCard : Claim7 := { stood := { row := checkKindsUptoRow, standIns := [], harness := (true, "26c7e09d1c120e9a66364413a6ab909ac60b67df80913551c0e21cf059dff1ee"), looks := true }, kinds := [], alts := [], laidByText := true, laidKinds := [.listed, .data], laidTests := true, laidLooks := .later }
def CheckKindsUptoCardSaid : Prop := Claim7.holds Tryd.pinned (.plain (OpenSpec.upto checkKindsSpec)) checkKindsUptoCard

/-- THE SECOND FORM's CARD OF 'puppeteerlaw16.ValidLists'. -/
def validListsUptoCard : Claim7 := { stood := { row := validListsUptoRow, standIns := [], harness := (true, "26c7e09d1c120e9a66364413a6ab909ac60b67df80913551c0e21cf059dff1ee"), looks := true }, kinds := [], alts := [], laidByText := true, laidKinds := [.listed, .data], laidTests := true, laidLooks := .later }
def ValidListsUptoCardSaid : Prop := Claim7.holds Tryd.pinned (.plain (OpenSpec.upto validListsSpec)) validListsUptoCard

/-- THE SECOND FORM's CARD OF 'puppeteerlaw16.ValidWrong'. -/
def validWrongUptoCard : Claim7 := { stood := { row := validWrongUptoRow, standIns := [], harness := (true, "26c7e09d1c120e9a66364413a6ab909ac60b67df80913551c0e21cf059dff1ee"), looks := true }, kinds := [], alts := [], laidByText := true, laidKinds := [.listed, .data], laidTests := true, laidLooks := .later }
def ValidWrongUptoCardSaid : Prop := Claim7.holds Tryd.pinned (.plain (OpenSpec.upto validWrongSpec)) validWrongUptoCard

/-- THE SECOND FORM's CARD OF 'puppeteerlaw16.ValidTrees'. -/
def validTreesUptoCard : Claim7 := { stood := { row := validTreesUptoRow, standIns := [], harness := (true, "26c7e09d1c120e9a66364413a6ab909ac60b67df80913551c0e21cf059dff1ee"), looks := true }, kinds := [], alts := [], laidByText := true, laidKinds := [.listed, .data], laidTests := true, laidLooks := .later }
def ValidTreesUptoCardSaid : Prop := Claim7.holds Tryd.pinned (.plain (OpenSpec.upto validTreesSpec)) validTreesUptoCard

/-- THE SECOND FORM's CARD OF 'puppeteerlaw17.CalcKinds'. -/
def calcKindsUptoCard : Claim7 := { stood := { row := calcKindsUptoRow, standIns := [], harness := (true, "26c7e09d1c120e9a66364413a6ab909ac60b67df80913551c0e21cf059dff1ee"), looks := true }, kinds := [], alts := [], laidByText := true, laidKinds := [.listed, .data], laidTests := true, laidLooks := .later }
def CalcKindsUptoCardSaid : Prop := Claim7.holds Tryd.pinned (.plain (OpenSpec.upto calcKindsSpec)) calcKindsUptoCard

/-- THE SECOND FORM's CARD OF 'puppeteerlaw22.GoapNone'. -/
def goapNoneUptoCard : Claim7 := { stood := { row := goapNoneUptoRow, standIns := [], harness := (true, "26c7e09d1c120e9a66364413a6ab909ac60b67df80913551c0e21cf059dff1ee"), looks := true }, kinds := [], alts := [], laidByText := true, laidKinds := [.data, .data, .data], laidTests := true, laidLooks := .later }
def GoapNoneUptoCardSaid : Prop := Claim7.holds Tryd.pinned (.plain (OpenSpec.upto goapNoneSpec)) goapNoneUptoCard

/-- THE SECOND FORM's CARD OF 'puppeteerlaw10.ExprDeep'. -/
def exprDeepUptoCard : Claim7 := { stood := { row := exprDeepUptoRow, standIns := [], harness := (true, "26c7e09d1c120e9a66364413a6ab909ac60b67df80913551c0e21cf059dff1ee"), looks := true }, kinds := [], alts := [], laidByText := true, laidKinds := [.data, .data, .data, .listed, .data], laidTests := true, laidLooks := .later }
def ExprDeepUptoCardSaid : Prop := Claim7.holds Tryd.pinned (.plain (OpenSpec.upto exprDeepSpec)) exprDeepUptoCard
end Rows
end Go.Proofs.YtfbikhkmamdjmaaDoor
