/-
  DERIVED. GIVEN WITH THE SEED: THE CARDS: each row of YthclejjieggdkaaGreatDoorRows.lean that lists a variable, with what it lists TIED to the program's text (the seventh form; the later family's looks); each row that meets fmt, with fmt's text TOLD by the authors' own Lean function (tested against real Go, not proved from fmt's source: count such statements apart). THE CARD IS WHAT COUNTS. Prove the row's statement (the work); the ties are given (YthclejjieggdkaaGreatDoorTie.lean); close each card by the builder's one call (the guide's Derived/Test/ToyasCard.lean, 'card_holds'). Laid BY PROGRAM, IN A SANDBOX (cutbox-door.mjs). By AI agents, Wed Nov 11 2026. No macro, syntax, notation, axiom, sorry.
-/
import Derived.Test.YthclejjieggdkaaGreatDoorRows
import GoSem.ClaimSeven
namespace Go.Proofs.YthclejjieggdkaaGreatDoor
namespace Rows

/-- THE TIED CARD OF 'puppeteerlaw12.PrinterKnown'. -/
def printerKnownCard : Claim7 := { stood := { row := printerKnownRow, standIns := [], harness := (true, "9f03850018fb49fbe7de9c3d2e08aa17d0483bacc64ef17bf8418171b9b84a2d"), looks := true }, kinds := [], alts := [], laidByText := true, laidKinds := [.data, .data, .data, .data, .listed, .data, .pinned], laidTests := true, laidLooks := .later }
def PrinterKnownCardSaid : Prop := Claim7.holds Tryz.pinned (.plain (OpenSpec.ofChange printerKnownSpec)) printerKnownCard

/-- THE TIED CARD OF 'puppeteerlaw18.BigKnown'. -/
def bigKnownCard : Claim7 := { stood := { row := bigKnownRow, standIns := [], harness := (true, "9f03850018fb49fbe7de9c3d2e08aa17d0483bacc64ef17bf8418171b9b84a2d"), looks := true }, kinds := [], alts := [], laidByText := true, laidKinds := [.data, .data, .data, .listed, .data], laidTests := true, laidLooks := .later }
def BigKnownCardSaid : Prop := Claim7.holds Tryz.pinned (.plain (OpenSpec.ofChange bigKnownSpec)) bigKnownCard

/-- THE TIED CARD OF 'puppeteerlaw18.BigAborts'. -/
def bigAbortsCard : Claim7 := { stood := { row := bigAbortsRow, standIns := [], harness := (true, "9f03850018fb49fbe7de9c3d2e08aa17d0483bacc64ef17bf8418171b9b84a2d"), looks := true }, kinds := [], alts := [], laidByText := true, laidKinds := [.data, .data, .data, .listed, .data], laidTests := true, laidLooks := .later }
def BigAbortsCardSaid : Prop := Claim7.holds Tryz.pinned (.plain (OpenSpec.ofChange bigAbortsSpec)) bigAbortsCard

/-- THE TIED CARD OF 'puppeteerlaw25.WorldRefuses'. -/
def worldRefusesCard : Claim7 := { stood := { row := worldRefusesRow, standIns := [], harness := (true, "9f03850018fb49fbe7de9c3d2e08aa17d0483bacc64ef17bf8418171b9b84a2d"), looks := true }, kinds := [], alts := [], laidByText := true, laidKinds := [.data, .data, .data, .data, .listed, .data, .pinned], laidTests := true, laidLooks := .later }
def WorldRefusesCardSaid : Prop := Claim7.holds Tryz.pinned (.plain (OpenSpec.ofChange worldRefusesSpec)) worldRefusesCard

/-- THE SECOND FORM's CARD OF 'puppeteerlaw12.PrinterKnown'. -/
def printerKnownUptoCard : Claim7 := { stood := { row := printerKnownUptoRow, standIns := [], harness := (true, "9f03850018fb49fbe7de9c3d2e08aa17d0483bacc64ef17bf8418171b9b84a2d"), looks := true }, kinds := [], alts := [], laidByText := true, laidKinds := [.data, .data, .data, .data, .listed, .data, .pinned], laidTests := true, laidLooks := .later }
def PrinterKnownUptoCardSaid : Prop := Claim7.holds Tryz.pinned (.plain (OpenSpec.upto printerKnownSpec)) printerKnownUptoCard

/-- THE SECOND FORM's CARD OF 'puppeteerlaw18.BigKnown'. -/
def bigKnownUptoCard : Claim7 := { stood := { row := bigKnownUptoRow, standIns := [], harness := (true, "9f03850018fb49fbe7de9c3d2e08aa17d0483bacc64ef17bf8418171b9b84a2d"), looks := true }, kinds := [], alts := [], laidByText := true, laidKinds := [.data, .data, .data, .listed, .data], laidTests := true, laidLooks := .later }
def BigKnownUptoCardSaid : Prop := Claim7.holds Tryz.pinned (.plain (OpenSpec.upto bigKnownSpec)) bigKnownUptoCard

/-- THE SECOND FORM's CARD OF 'puppeteerlaw18.BigAborts'. -/
def bigAbortsUptoCard : Claim7 := { stood := { row := bigAbortsUptoRow, standIns := [], harness := (true, "9f03850018fb49fbe7de9c3d2e08aa17d0483bacc64ef17bf8418171b9b84a2d"), looks := true }, kinds := [], alts := [], laidByText := true, laidKinds := [.data, .data, .data, .listed, .data], laidTests := true, laidLooks := .later }
def BigAbortsUptoCardSaid : Prop := Claim7.holds Tryz.pinned (.plain (OpenSpec.upto bigAbortsSpec)) bigAbortsUptoCard

/-- THE SECOND FORM's CARD OF 'puppeteerlaw25.WorldRefuses'. -/
def worldRefusesUptoCard : Claim7 := { stood := { row := worldRefusesUptoRow, standIns := [], harness := (true, "9f03850018fb49fbe7de9c3d2e08aa17d0483bacc64ef17bf8418171b9b84a2d"), looks := true }, kinds := [], alts := [], laidByText := true, laidKinds := [.data, .data, .data, .data, .listed, .data, .pinned], laidTests := true, laidLooks := .later }
def WorldRefusesUptoCardSaid : Prop := Claim7.holds Tryz.pinned (.plain (OpenSpec.upto worldRefusesSpec)) worldRefusesUptoCard
end Rows
end Go.Proofs.YthclejjieggdkaaGreatDoor
