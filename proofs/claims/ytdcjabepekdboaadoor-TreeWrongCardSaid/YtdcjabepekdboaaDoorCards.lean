/-
  DERIVED. GIVEN WITH THE SEED: THE CARDS: each row of YtdcjabepekdboaaDoorRows.lean that lists a variable, with what it lists TIED to the program's text (the seventh form; the later family's looks); each row that meets fmt, with fmt's text TOLD by the authors' own Lean function (tested against real Go, not proved from fmt's source: count such statements apart). THE CARD IS WHAT COUNTS. Prove the row's statement (the work); the ties are given (YtdcjabepekdboaaDoorTie.lean); close each card by the builder's one call (the guide's Derived/Test/ToyasCard.lean, 'card_holds'). Laid BY PROGRAM, IN A SANDBOX (cutbox-door.mjs). By AI agents, Wed Nov 11 2026. No macro, syntax, notation, axiom, sorry.
-/
import Derived.Test.YtdcjabepekdboaaDoorRows
import GoSem.ClaimSeven
namespace Go.Proofs.YtdcjabepekdboaaDoor
namespace Rows

/-- THE TIED CARD OF 'puppeteerlaw9.LexSigns'. -/
def lexSignsCard : Claim7 := { stood := { row := lexSignsRow, standIns := [], harness := (true, "e8bfb8e76496a42dba648cf3291b403dd720025df474988c74324c7ce42a1b05"), looks := true }, kinds := [], alts := [], laidByText := true, laidKinds := [.data, .listed, .data, .pinned], laidTests := true, laidLooks := .later }
def LexSignsCardSaid : Prop := Claim7.holds Tryd.pinned (.plain (OpenSpec.ofChange lexSignsSpec)) lexSignsCard

/-- THE TIED CARD OF 'puppeteerlaw17.CalcKnown'. -/
def calcKnownCard : Claim7 := { stood := { row := calcKnownRow, standIns := [], harness := (true, "e8bfb8e76496a42dba648cf3291b403dd720025df474988c74324c7ce42a1b05"), looks := true }, kinds := [], alts := [], laidByText := true, laidKinds := [.listed, .data], laidTests := true, laidLooks := .later }
def CalcKnownCardSaid : Prop := Claim7.holds Tryd.pinned (.plain (OpenSpec.ofChange calcKnownSpec)) calcKnownCard

/-- THE TIED CARD OF 'puppeteerlaw10.ExprDeep'. -/
def exprDeepCard : Claim7 := { stood := { row := exprDeepRow, standIns := [], harness := (true, "e8bfb8e76496a42dba648cf3291b403dd720025df474988c74324c7ce42a1b05"), looks := true }, kinds := [], alts := [], laidByText := true, laidKinds := [.data, .data, .data, .listed, .data], laidTests := true, laidLooks := .later }
def ExprDeepCardSaid : Prop := Claim7.holds Tryd.pinned (.plain (OpenSpec.ofChange exprDeepSpec)) exprDeepCard

/-- THE TIED CARD OF 'puppeteerlaw10.ExprGroups'. -/
def exprGroupsCard : Claim7 := { stood := { row := exprGroupsRow, standIns := [], harness := (true, "e8bfb8e76496a42dba648cf3291b403dd720025df474988c74324c7ce42a1b05"), looks := true }, kinds := [], alts := [], laidByText := true, laidKinds := [.data, .data, .data, .listed, .data], laidTests := true, laidLooks := .later }
def ExprGroupsCardSaid : Prop := Claim7.holds Tryd.pinned (.plain (OpenSpec.ofChange exprGroupsSpec)) exprGroupsCard

/-- THE TIED CARD OF 'puppeteerlaw10.ExprSame'. -/
def exprSameCard : Claim7 := { stood := { row := exprSameRow, standIns := [], harness := (true, "e8bfb8e76496a42dba648cf3291b403dd720025df474988c74324c7ce42a1b05"), looks := true }, kinds := [], alts := [], laidByText := true, laidKinds := [.data, .data, .data, .listed, .data], laidTests := true, laidLooks := .later }
def ExprSameCardSaid : Prop := Claim7.holds Tryd.pinned (.plain (OpenSpec.ofChange exprSameSpec)) exprSameCard

/-- THE TIED CARD OF 'puppeteerlaw11.TreeDeep'. -/
def treeDeepCard : Claim7 := { stood := { row := treeDeepRow, standIns := [], harness := (true, "e8bfb8e76496a42dba648cf3291b403dd720025df474988c74324c7ce42a1b05"), looks := true }, kinds := [], alts := [], laidByText := true, laidKinds := [.data, .listed, .data, .pinned], laidTests := true, laidLooks := .later }
def TreeDeepCardSaid : Prop := Claim7.holds Tryd.pinned (.plain (OpenSpec.ofChange treeDeepSpec)) treeDeepCard

/-- THE TIED CARD OF 'puppeteerlaw11.TreeMany'. -/
def treeManyCard : Claim7 := { stood := { row := treeManyRow, standIns := [], harness := (true, "e8bfb8e76496a42dba648cf3291b403dd720025df474988c74324c7ce42a1b05"), looks := true }, kinds := [], alts := [], laidByText := true, laidKinds := [.data, .listed, .data, .pinned], laidTests := true, laidLooks := .later }
def TreeManyCardSaid : Prop := Claim7.holds Tryd.pinned (.plain (OpenSpec.ofChange treeManySpec)) treeManyCard

/-- THE TIED CARD OF 'puppeteerlaw11.TreeWrong'. -/
def treeWrongCard : Claim7 := { stood := { row := treeWrongRow, standIns := [], harness := (true, "e8bfb8e76496a42dba648cf3291b403dd720025df474988c74324c7ce42a1b05"), looks := true }, kinds := [], alts := [], laidByText := true, laidKinds := [.data, .listed, .data, .pinned], laidTests := true, laidLooks := .later }
def TreeWrongCardSaid : Prop := Claim7.holds Tryd.pinned (.plain (OpenSpec.ofChange treeWrongSpec)) treeWrongCard

/-- THE TIED CARD OF 'puppeteerlaw11.TreeSame'. -/
def treeSameCard : Claim7 := { stood := { row := treeSameRow, standIns := [], harness := (true, "e8bfb8e76496a42dba648cf3291b403dd720025df474988c74324c7ce42a1b05"), looks := true }, kinds := [], alts := [], laidByText := true, laidKinds := [.data, .listed, .data, .pinned], laidTests := true, laidLooks := .later }
def TreeSameCardSaid : Prop := Claim7.holds Tryd.pinned (.plain (OpenSpec.ofChange treeSameSpec)) treeSameCard

/-- THE SECOND FORM's CARD OF 'puppeteerlaw9.LexSigns'. -/
def lexSignsUptoCard : Claim7 := { stood := { row := lexSignsUptoRow, standIns := [], harness := (true, "e8bfb8e76496a42dba648cf3291b403dd720025df474988c74324c7ce42a1b05"), looks := true }, kinds := [], alts := [], laidByText := true, laidKinds := [.data, .listed, .data, .pinned], laidTests := true, laidLooks := .later }
def LexSignsUptoCardSaid : Prop := Claim7.holds Tryd.pinned (.plain (OpenSpec.upto lexSignsSpec)) lexSignsUptoCard

/-- THE SECOND FORM's CARD OF 'puppeteerlaw17.CalcKnown'. -/
def calcKnownUptoCard : Claim7 := { stood := { row := calcKnownUptoRow, standIns := [], harness := (true, "e8bfb8e76496a42dba648cf3291b403dd720025df474988c74324c7ce42a1b05"), looks := true }, kinds := [], alts := [], laidByText := true, laidKinds := [.listed, .data], laidTests := true, laidLooks := .later }
def CalcKnownUptoCardSaid : Prop := Claim7.holds Tryd.pinned (.plain (OpenSpec.upto calcKnownSpec)) calcKnownUptoCard

/-- THE SECOND FORM's CARD OF 'puppeteerlaw10.ExprDeep'. -/
def exprDeepUptoCard : Claim7 := { stood := { row := exprDeepUptoRow, standIns := [], harness := (true, "e8bfb8e76496a42dba648cf3291b403dd720025df474988c74324c7ce42a1b05"), looks := true }, kinds := [], alts := [], laidByText := true, laidKinds := [.data, .data, .data, .listed, .data], laidTests := true, laidLooks := .later }
def ExprDeepUptoCardSaid : Prop := Claim7.holds Tryd.pinned (.plain (OpenSpec.upto exprDeepSpec)) exprDeepUptoCard

/-- THE SECOND FORM's CARD OF 'puppeteerlaw10.ExprGroups'. -/
def exprGroupsUptoCard : Claim7 := { stood := { row := exprGroupsUptoRow, standIns := [], harness := (true, "e8bfb8e76496a42dba648cf3291b403dd720025df474988c74324c7ce42a1b05"), looks := true }, kinds := [], alts := [], laidByText := true, laidKinds := [.data, .data, .data, .listed, .data], laidTests := true, laidLooks := .later }
def ExprGroupsUptoCardSaid : Prop := Claim7.holds Tryd.pinned (.plain (OpenSpec.upto exprGroupsSpec)) exprGroupsUptoCard

/-- THE SECOND FORM's CARD OF 'puppeteerlaw10.ExprSame'. -/
def exprSameUptoCard : Claim7 := { stood := { row := exprSameUptoRow, standIns := [], harness := (true, "e8bfb8e76496a42dba648cf3291b403dd720025df474988c74324c7ce42a1b05"), looks := true }, kinds := [], alts := [], laidByText := true, laidKinds := [.data, .data, .data, .listed, .data], laidTests := true, laidLooks := .later }
def ExprSameUptoCardSaid : Prop := Claim7.holds Tryd.pinned (.plain (OpenSpec.upto exprSameSpec)) exprSameUptoCard

/-- THE SECOND FORM's CARD OF 'puppeteerlaw11.TreeDeep'. -/
def treeDeepUptoCard : Claim7 := { stood := { row := treeDeepUptoRow, standIns := [], harness := (true, "e8bfb8e76496a42dba648cf3291b403dd720025df474988c74324c7ce42a1b05"), looks := true }, kinds := [], alts := [], laidByText := true, laidKinds := [.data, .listed, .data, .pinned], laidTests := true, laidLooks := .later }
def TreeDeepUptoCardSaid : Prop := Claim7.holds Tryd.pinned (.plain (OpenSpec.upto treeDeepSpec)) treeDeepUptoCard

/-- THE SECOND FORM's CARD OF 'puppeteerlaw11.TreeMany'. -/
def treeManyUptoCard : Claim7 := { stood := { row := treeManyUptoRow, standIns := [], harness := (true, "e8bfb8e76496a42dba648cf3291b403dd720025df474988c74324c7ce42a1b05"), looks := true }, kinds := [], alts := [], laidByText := true, laidKinds := [.data, .listed, .data, .pinned], laidTests := true, laidLooks := .later }
def TreeManyUptoCardSaid : Prop := Claim7.holds Tryd.pinned (.plain (OpenSpec.upto treeManySpec)) treeManyUptoCard

/-- THE SECOND FORM's CARD OF 'puppeteerlaw11.TreeWrong'. -/
def treeWrongUptoCard : Claim7 := { stood := { row := treeWrongUptoRow, standIns := [], harness := (true, "e8bfb8e76496a42dba648cf3291b403dd720025df474988c74324c7ce42a1b05"), looks := true }, kinds := [], alts := [], laidByText := true, laidKinds := [.data, .listed, .data, .pinned], laidTests := true, laidLooks := .later }
def TreeWrongUptoCardSaid : Prop := Claim7.holds Tryd.pinned (.plain (OpenSpec.upto treeWrongSpec)) treeWrongUptoCard

/-- THE SECOND FORM's CARD OF 'puppeteerlaw11.TreeSame'. -/
def treeSameUptoCard : Claim7 := { stood := { row := treeSameUptoRow, standIns := [], harness := (true, "e8bfb8e76496a42dba648cf3291b403dd720025df474988c74324c7ce42a1b05"), looks := true }, kinds := [], alts := [], laidByText := true, laidKinds := [.data, .listed, .data, .pinned], laidTests := true, laidLooks := .later }
def TreeSameUptoCardSaid : Prop := Claim7.holds Tryd.pinned (.plain (OpenSpec.upto treeSameSpec)) treeSameUptoCard
end Rows
end Go.Proofs.YtdcjabepekdboaaDoor
