/-
  DERIVED. GIVEN WITH THE SEED: THE CARDS: each row of YtngjkjadncgdgaaDoorRows.lean that lists a variable, with what it lists TIED to the program's text (the seventh form; the later family's looks); each row that meets fmt, with fmt's text TOLD by the authors' own Lean function (tested against real Go, not proved from fmt's source: count such statements apart). THE CARD IS WHAT COUNTS. Prove the row's statement (the work); the ties are given (YtngjkjadncgdgaaDoorTie.lean); close each card by the builder's one call (the guide's Derived/Test/ToyasCard.lean, 'card_holds'). Laid BY PROGRAM, IN A SANDBOX (cutbox-door.mjs). By AI agents, Wed Nov 11 2026. No macro, syntax, notation, axiom, sorry.
-/
import Derived.Test.YtngjkjadncgdgaaDoorRows
import GoSem.ClaimSeven
namespace Go.Proofs.YtngjkjadncgdgaaDoor
namespace Rows

/-- THE TIED CARD OF 'demurragelaw.CalTells'. -/
def calTellsCard : Claim7 := { stood := { row := calTellsRow, standIns := [], harness := (true, "75bba678b8251c372601f3a303c23d84bbf4e17faa24bc82341307edab5a2726"), looks := false }, kinds := [], alts := [], laidByText := true, laidKinds := [.data], laidTests := true, laidLooks := .later }
def CalTellsCardSaid : Prop := Claim7.holds Tryd.pinned (.plain (OpenSpec.ofChange calTellsSpec)) calTellsCard

/-- THE TIED CARD OF 'demurragelaw.CalBack'. -/
def calBackCard : Claim7 := { stood := { row := calBackRow, standIns := [], harness := (true, "75bba678b8251c372601f3a303c23d84bbf4e17faa24bc82341307edab5a2726"), looks := false }, kinds := [], alts := [], laidByText := true, laidKinds := [.data], laidTests := true, laidLooks := .later }
def CalBackCardSaid : Prop := Claim7.holds Tryd.pinned (.plain (OpenSpec.ofChange calBackSpec)) calBackCard

/-- THE TIED CARD OF 'demurragelaw.CalParts'. -/
def calPartsCard : Claim7 := { stood := { row := calPartsRow, standIns := [], harness := (true, "75bba678b8251c372601f3a303c23d84bbf4e17faa24bc82341307edab5a2726"), looks := false }, kinds := [], alts := [], laidByText := true, laidKinds := [.data], laidTests := true, laidLooks := .later }
def CalPartsCardSaid : Prop := Claim7.holds Tryd.pinned (.plain (OpenSpec.ofChange calPartsSpec)) calPartsCard

/-- THE TIED CARD OF 'demurragelaw.CalNext'. -/
def calNextCard : Claim7 := { stood := { row := calNextRow, standIns := [], harness := (true, "75bba678b8251c372601f3a303c23d84bbf4e17faa24bc82341307edab5a2726"), looks := false }, kinds := [], alts := [], laidByText := true, laidKinds := [.data], laidTests := true, laidLooks := .later }
def CalNextCardSaid : Prop := Claim7.holds Tryd.pinned (.plain (OpenSpec.ofChange calNextSpec)) calNextCard

/-- THE TIED CARD OF 'demurragelaw.CalHoliday'. -/
def calHolidayCard : Claim7 := { stood := { row := calHolidayRow, standIns := [], harness := (true, "75bba678b8251c372601f3a303c23d84bbf4e17faa24bc82341307edab5a2726"), looks := false }, kinds := [], alts := [], laidByText := true, laidKinds := [.data], laidTests := true, laidLooks := .later }
def CalHolidayCardSaid : Prop := Claim7.holds Tryd.pinned (.plain (OpenSpec.ofChange calHolidaySpec)) calHolidayCard

/-- THE TIED CARD OF 'demurragelaw.CalFit'. -/
def calFitCard : Claim7 := { stood := { row := calFitRow, standIns := [], harness := (true, "75bba678b8251c372601f3a303c23d84bbf4e17faa24bc82341307edab5a2726"), looks := false }, kinds := [], alts := [], laidByText := true, laidKinds := [.data], laidTests := true, laidLooks := .later }
def CalFitCardSaid : Prop := Claim7.holds Tryd.pinned (.plain (OpenSpec.ofChange calFitSpec)) calFitCard

/-- THE SECOND FORM's CARD OF 'demurragelaw.CalTells'. -/
def calTellsUptoCard : Claim7 := { stood := { row := calTellsUptoRow, standIns := [], harness := (true, "75bba678b8251c372601f3a303c23d84bbf4e17faa24bc82341307edab5a2726"), looks := false }, kinds := [], alts := [], laidByText := true, laidKinds := [.data], laidTests := true, laidLooks := .later }
def CalTellsUptoCardSaid : Prop := Claim7.holds Tryd.pinned (.plain (OpenSpec.upto calTellsSpec)) calTellsUptoCard

/-- THE SECOND FORM's CARD OF 'demurragelaw.CalBack'. -/
def calBackUptoCard : Claim7 := { stood := { row := calBackUptoRow, standIns := [], harness := (true, "75bba678b8251c372601f3a303c23d84bbf4e17faa24bc82341307edab5a2726"), looks := false }, kinds := [], alts := [], laidByText := true, laidKinds := [.data], laidTests := true, laidLooks := .later }
def CalBackUptoCardSaid : Prop := Claim7.holds Tryd.pinned (.plain (OpenSpec.upto calBackSpec)) calBackUptoCard

/-- THE SECOND FORM's CARD OF 'demurragelaw.CalParts'. -/
def calPartsUptoCard : Claim7 := { stood := { row := calPartsUptoRow, standIns := [], harness := (true, "75bba678b8251c372601f3a303c23d84bbf4e17faa24bc82341307edab5a2726"), looks := false }, kinds := [], alts := [], laidByText := true, laidKinds := [.data], laidTests := true, laidLooks := .later }
def CalPartsUptoCardSaid : Prop := Claim7.holds Tryd.pinned (.plain (OpenSpec.upto calPartsSpec)) calPartsUptoCard

/-- THE SECOND FORM's CARD OF 'demurragelaw.CalNext'. -/
def calNextUptoCard : Claim7 := { stood := { row := calNextUptoRow, standIns := [], harness := (true, "75bba678b8251c372601f3a303c23d84bbf4e17faa24bc82341307edab5a2726"), looks := false }, kinds := [], alts := [], laidByText := true, laidKinds := [.data], laidTests := true, laidLooks := .later }
def CalNextUptoCardSaid : Prop := Claim7.holds Tryd.pinned (.plain (OpenSpec.upto calNextSpec)) calNextUptoCard

/-- THE SECOND FORM's CARD OF 'demurragelaw.CalHoliday'. -/
def calHolidayUptoCard : Claim7 := { stood := { row := calHolidayUptoRow, standIns := [], harness := (true, "75bba678b8251c372601f3a303c23d84bbf4e17faa24bc82341307edab5a2726"), looks := false }, kinds := [], alts := [], laidByText := true, laidKinds := [.data], laidTests := true, laidLooks := .later }
def CalHolidayUptoCardSaid : Prop := Claim7.holds Tryd.pinned (.plain (OpenSpec.upto calHolidaySpec)) calHolidayUptoCard

/-- THE SECOND FORM's CARD OF 'demurragelaw.CalFit'. -/
def calFitUptoCard : Claim7 := { stood := { row := calFitUptoRow, standIns := [], harness := (true, "75bba678b8251c372601f3a303c23d84bbf4e17faa24bc82341307edab5a2726"), looks := false }, kinds := [], alts := [], laidByText := true, laidKinds := [.data], laidTests := true, laidLooks := .later }
def CalFitUptoCardSaid : Prop := Claim7.holds Tryd.pinned (.plain (OpenSpec.upto calFitSpec)) calFitUptoCard
end Rows
end Go.Proofs.YtngjkjadncgdgaaDoor
