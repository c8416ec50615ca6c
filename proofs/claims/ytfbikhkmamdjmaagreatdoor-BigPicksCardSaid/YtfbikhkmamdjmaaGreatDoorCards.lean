/-
  DERIVED. GIVEN WITH THE SEED: THE CARDS: each row of YtfbikhkmamdjmaaGreatDoorRows.lean that lists a variable, with what it lists TIED to the program's text (the seventh form; the later family's looks); each row that meets fmt, with fmt's text TOLD by the authors' own Lean function (tested against real Go, not proved from fmt's source: count such statements apart). THE CARD IS WHAT COUNTS. Prove the row's statement (the work); the ties are given (YtfbikhkmamdjmaaGreatDoorTie.lean); close each card by the builder's one call (the guide's Derived/Test/ToyasCard.lean, 'card_holds'). Laid BY PROGRAM, IN A SANDBOX (cutbox-door.mjs). By AI agents, Wed Nov 11 2026. No macro, syntax, notation, axiom, sorry.
-/
import Derived.Test.YtfbikhkmamdjmaaGreatDoorRows
import GoSem.ClaimSeven
namespace Go.Proofs.YtfbikhkmamdjmaaGreatDoor
namespace Rows

/-- THE TIED CARD OF 'puppeteerlaw18.BigSets'. -/
def bigSetsCard : Claim7 := { stood := { row := bigSetsRow, standIns := [], harness := (true, "3ff3d13b433f245384b9dee013f46e50ee58b8e3f234315c76f15a2322b8a81e"), looks := true }, kinds := [], alts := [], laidByText := true, laidKinds := [.data, .data, .data, .listed, .data], laidTests := true, laidLooks := .later }
def BigSetsCardSaid : Prop := Claim7.holds Tryz.pinned (.plain (OpenSpec.ofChange bigSetsSpec)) bigSetsCard

/-- THE TIED CARD OF 'puppeteerlaw18.BigThresholds'. -/
def bigThresholdsCard : Claim7 := { stood := { row := bigThresholdsRow, standIns := [], harness := (true, "3ff3d13b433f245384b9dee013f46e50ee58b8e3f234315c76f15a2322b8a81e"), looks := true }, kinds := [], alts := [], laidByText := true, laidKinds := [.data, .data, .data, .listed, .data], laidTests := true, laidLooks := .later }
def BigThresholdsCardSaid : Prop := Claim7.holds Tryz.pinned (.plain (OpenSpec.ofChange bigThresholdsSpec)) bigThresholdsCard

/-- THE TIED CARD OF 'puppeteerlaw18.BigPicks'. -/
def bigPicksCard : Claim7 := { stood := { row := bigPicksRow, standIns := [], harness := (true, "3ff3d13b433f245384b9dee013f46e50ee58b8e3f234315c76f15a2322b8a81e"), looks := true }, kinds := [], alts := [], laidByText := true, laidKinds := [.data, .data, .data, .listed, .data], laidTests := true, laidLooks := .later }
def BigPicksCardSaid : Prop := Claim7.holds Tryz.pinned (.plain (OpenSpec.ofChange bigPicksSpec)) bigPicksCard

/-- THE TIED CARD OF 'puppeteerlaw25.WorldClock'. -/
def worldClockCard : Claim7 := { stood := { row := worldClockRow, standIns := [], harness := (true, "3ff3d13b433f245384b9dee013f46e50ee58b8e3f234315c76f15a2322b8a81e"), looks := true }, kinds := [], alts := [], laidByText := true, laidKinds := [.data, .data, .data, .data, .listed, .data, .pinned], laidTests := true, laidLooks := .later }
def WorldClockCardSaid : Prop := Claim7.holds Tryz.pinned (.plain (OpenSpec.ofChange worldClockSpec)) worldClockCard

/-- THE SECOND FORM's CARD OF 'puppeteerlaw18.BigSets'. -/
def bigSetsUptoCard : Claim7 := { stood := { row := bigSetsUptoRow, standIns := [], harness := (true, "3ff3d13b433f245384b9dee013f46e50ee58b8e3f234315c76f15a2322b8a81e"), looks := true }, kinds := [], alts := [], laidByText := true, laidKinds := [.data, .data, .data, .listed, .data], laidTests := true, laidLooks := .later }
def BigSetsUptoCardSaid : Prop := Claim7.holds Tryz.pinned (.plain (OpenSpec.upto bigSetsSpec)) bigSetsUptoCard

/-- THE SECOND FORM's CARD OF 'puppeteerlaw18.BigThresholds'. -/
def bigThresholdsUptoCard : Claim7 := { stood := { row := bigThresholdsUptoRow, standIns := [], harness := (true, "3ff3d13b433f245384b9dee013f46e50ee58b8e3f234315c76f15a2322b8a81e"), looks := true }, kinds := [], alts := [], laidByText := true, laidKinds := [.data, .data, .data, .listed, .data], laidTests := true, laidLooks := .later }
def BigThresholdsUptoCardSaid : Prop := Claim7.holds Tryz.pinned (.plain (OpenSpec.upto bigThresholdsSpec)) bigThresholdsUptoCard

/-- THE SECOND FORM's CARD OF 'puppeteerlaw18.BigPicks'. -/
def bigPicksUptoCard : Claim7 := { stood := { row := bigPicksUptoRow, standIns := [], harness := (true, "3ff3d13b433f245384b9dee013f46e50ee58b8e3f234315c76f15a2322b8a81e"), looks := true }, kinds := [], alts := [], laidByText := true, laidKinds := [.data, .data, .data, .listed, .data], laidTests := true, laidLooks := .later }
def BigPicksUptoCardSaid : Prop := Claim7.holds Tryz.pinned (.plain (OpenSpec.upto bigPicksSpec)) bigPicksUptoCard

/-- THE SECOND FORM's CARD OF 'puppeteerlaw25.WorldClock'. -/
def worldClockUptoCard : Claim7 := { stood := { row := worldClockUptoRow, standIns := [], harness := (true, "3ff3d13b433f245384b9dee013f46e50ee58b8e3f234315c76f15a2322b8a81e"), looks := true }, kinds := [], alts := [], laidByText := true, laidKinds := [.data, .data, .data, .data, .listed, .data, .pinned], laidTests := true, laidLooks := .later }
def WorldClockUptoCardSaid : Prop := Claim7.holds Tryz.pinned (.plain (OpenSpec.upto worldClockSpec)) worldClockUptoCard
end Rows
end Go.Proofs.YtfbikhkmamdjmaaGreatDoor
