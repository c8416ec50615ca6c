/-
  DERIVED. GIVEN WITH THE SEED: THE CARDS: each row of YtpaadclighadaaaGreatDoorRows.lean that lists a variable, with what it lists TIED to the program's text (the seventh form; the later family's looks); each row that meets fmt, with fmt's text TOLD by the authors' own Lean function (tested against real Go, not proved from fmt's source: count such statements apart). THE CARD IS WHAT COUNTS. Prove the row's statement (the work); the ties are given (YtpaadclighadaaaGreatDoorTie.lean); close each card by the builder's one call (the guide's Derived/Test/ToyasCard.lean, 'card_holds'). Laid BY PROGRAM, IN A SANDBOX (cutbox-door.mjs). By AI agents, Wed Nov 11 2026. No macro, syntax, notation, axiom, sorry.
-/
import Derived.Test.YtpaadclighadaaaGreatDoorRows
import GoSem.ClaimSeven
namespace Go.Proofs.YtpaadclighadaaaGreatDoor
namespace Rows

/-- THE TIED CARD OF 'puppeteerlaw13.CheckMany'. -/
def checkManyCard : Claim7 := { stood := { row := checkManyRow, standIns := [], harness := (true, "f6069fa5f8713eeb70c6f622ccbe6474116799690830c74ba9ff544def52f244"), looks := true }, kinds := [], alts := [], laidByText := true, laidKinds := [.listed, .data], laidTests := true, laidLooks := .later }
def CheckManyCardSaid : Prop := Claim7.holds Tryz.pinned (.plain (OpenSpec.ofChange checkManySpec)) checkManyCard

/-- THE TIED CARD OF 'puppeteerlaw18.BigRepeats'. -/
def bigRepeatsCard : Claim7 := { stood := { row := bigRepeatsRow, standIns := [], harness := (true, "f6069fa5f8713eeb70c6f622ccbe6474116799690830c74ba9ff544def52f244"), looks := true }, kinds := [], alts := [], laidByText := true, laidKinds := [.data, .data, .data, .listed, .data], laidTests := true, laidLooks := .later }
def BigRepeatsCardSaid : Prop := Claim7.holds Tryz.pinned (.plain (OpenSpec.ofChange bigRepeatsSpec)) bigRepeatsCard

/-- THE TIED CARD OF 'puppeteerlaw18.BigGoesOn'. -/
def bigGoesOnCard : Claim7 := { stood := { row := bigGoesOnRow, standIns := [], harness := (true, "f6069fa5f8713eeb70c6f622ccbe6474116799690830c74ba9ff544def52f244"), looks := true }, kinds := [], alts := [], laidByText := true, laidKinds := [.data, .data, .data, .listed, .data], laidTests := true, laidLooks := .later }
def BigGoesOnCardSaid : Prop := Claim7.holds Tryz.pinned (.plain (OpenSpec.ofChange bigGoesOnSpec)) bigGoesOnCard

/-- THE TIED CARD OF 'puppeteerlaw25.WorldSwaps'. -/
def worldSwapsCard : Claim7 := { stood := { row := worldSwapsRow, standIns := [], harness := (true, "f6069fa5f8713eeb70c6f622ccbe6474116799690830c74ba9ff544def52f244"), looks := true }, kinds := [], alts := [], laidByText := true, laidKinds := [.data, .data, .data, .data, .listed, .data, .pinned], laidTests := true, laidLooks := .later }
def WorldSwapsCardSaid : Prop := Claim7.holds Tryz.pinned (.plain (OpenSpec.ofChange worldSwapsSpec)) worldSwapsCard

/-- THE TIED CARD OF 'puppeteerlaw25.WorldRooms'. -/
def worldRoomsCard : Claim7 := { stood := { row := worldRoomsRow, standIns := [], harness := (true, "f6069fa5f8713eeb70c6f622ccbe6474116799690830c74ba9ff544def52f244"), looks := true }, kinds := [], alts := [], laidByText := true, laidKinds := [.data, .data, .data, .data, .listed, .data, .pinned], laidTests := true, laidLooks := .later }
def WorldRoomsCardSaid : Prop := Claim7.holds Tryz.pinned (.plain (OpenSpec.ofChange worldRoomsSpec)) worldRoomsCard

/-- THE TIED CARD OF 'puppeteerlaw25.WorldClock'. -/
def worldClockCard : Claim7 := { stood := { row := worldClockRow, standIns := [], harness := (true, "f6069fa5f8713eeb70c6f622ccbe6474116799690830c74ba9ff544def52f244"), looks := true }, kinds := [], alts := [], laidByText := true, laidKinds := [.data, .data, .data, .data, .listed, .data, .pinned], laidTests := true, laidLooks := .later }
def WorldClockCardSaid : Prop := Claim7.holds Tryz.pinned (.plain (OpenSpec.ofChange worldClockSpec)) worldClockCard

/-- THE SECOND FORM's CARD OF 'puppeteerlaw13.CheckMany'. -/
def checkManyUptoCard : Claim7 := { stood := { row := checkManyUptoRow, standIns := [], harness := (true, "f6069fa5f8713eeb70c6f622ccbe6474116799690830c74ba9ff544def52f244"), looks := true }, kinds := [], alts := [], laidByText := true, laidKinds := [.listed, .data], laidTests := true, laidLooks := .later }
def CheckManyUptoCardSaid : Prop := Claim7.holds Tryz.pinned (.plain (OpenSpec.upto checkManySpec)) checkManyUptoCard

/-- THE SECOND FORM's CARD OF 'puppeteerlaw18.BigRepeats'. -/
def bigRepeatsUptoCard : Claim7 := { stood := { row := bigRepeatsUptoRow, standIns := [], harness := (true, "f6069fa5f8713eeb70c6f622ccbe6474116799690830c74ba9ff544def52f244"), looks := true }, kinds := [], alts := [], laidByText := true, laidKinds := [.data, .data, .data, .listed, .data], laidTests := true, laidLooks := .later }
def BigRepeatsUptoCardSaid : Prop := Claim7.holds Tryz.pinned (.plain (OpenSpec.upto bigRepeatsSpec)) bigRepeatsUptoCard

/-- THE SECOND FORM's CARD OF 'puppeteerlaw18.BigGoesOn'. -/
def bigGoesOnUptoCard : Claim7 := { stood := { row := bigGoesOnUptoRow, standIns := [], harness := (true, "f6069fa5f8713eeb70c6f622ccbe6474116799690830c74ba9ff544def52f244"), looks := true }, kinds := [], alts := [], laidByText := true, laidKinds := [.data, .data, .data, .listed, .data], laidTests := true, laidLooks := .later }
def BigGoesOnUptoCardSaid : Prop := Claim7.holds Tryz.pinned (.plain (OpenSpec.upto bigGoesOnSpec)) bigGoesOnUptoCard

/-- THE SECOND FORM's CARD OF 'puppeteerlaw25.WorldSwaps'. -/
def worldSwapsUptoCard : Claim7 := { stood := { row := worldSwapsUptoRow, standIns := [], harness := (true, "f6069fa5f8713eeb70c6f622ccbe6474116799690830c74ba9ff544def52f244"), looks := true }, kinds := [], alts := [], laidByText := true, laidKinds := [.data, .data, .data, .data, .listed, .data, .pinned], laidTests := true, laidLooks := .later }
def WorldSwapsUptoCardSaid : Prop := Claim7.holds Tryz.pinned (.plain (OpenSpec.upto worldSwapsSpec)) worldSwapsUptoCard

/-- THE SECOND FORM's CARD OF 'puppeteerlaw25.WorldRooms'. -/
def worldRoomsUptoCard : Claim7 := { stood := { row := worldRoomsUptoRow, standIns := [], harness := (true, "f6069fa5f8713eeb70c6f622ccbe6474116799690830c74ba9ff544def52f244"), looks := true }, kinds := [], alts := [], laidByText := true, laidKinds := [.data, .data, .data, .data, .listed, .data, .pinned], laidTests := true, laidLooks := .later }
def WorldRoomsUptoCardSaid : Prop := Claim7.holds Tryz.pinned (.plain (OpenSpec.upto worldRoomsSpec)) worldRoomsUptoCard

/-- THE SECOND FORM's CARD OF 'puppeteerlaw25.WorldClock'. -/
def worldClockUptoCard : Claim7 := { stood := { row := worldClockUptoRow, standIns := [], harness := (true, "f6069fa5f8713eeb70c6f622ccbe6474116799690830c74ba9ff544def52f244"), looks := true }, kinds := [], alts := [], laidByText := true, laidKinds := [.data, .data, .data, .data, .listed, .data, .pinned], laidTests := true, laidLooks := .later }
def WorldClockUptoCardSaid : Prop := Claim7.holds Tryz.pinned (.plain (OpenSpec.upto worldClockSpec)) worldClockUptoCard
end Rows
end Go.Proofs.YtpaadclighadaaaGreatDoor
