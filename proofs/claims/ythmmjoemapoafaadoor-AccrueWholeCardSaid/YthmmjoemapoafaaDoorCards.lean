/-
  DERIVED. GIVEN WITH THE SEED: THE CARDS: each row of YthmmjoemapoafaaDoorRows.lean that lists a variable, with what it lists TIED to the program's text (the seventh form; the later family's looks); each row that meets fmt, with fmt's text TOLD by the authors' own Lean function (tested against real Go, not proved from fmt's source: count such statements apart). THE CARD IS WHAT COUNTS. Prove the row's statement (the work); the ties are given (YthmmjoemapoafaaDoorTie.lean); close each card by the builder's one call (the guide's Derived/Test/ToyasCard.lean, 'card_holds'). Laid BY PROGRAM, IN A SANDBOX (cutbox-door.mjs). By AI agents, Wed Nov 11 2026. No macro, syntax, notation, axiom, sorry.
-/
import Derived.Test.YthmmjoemapoafaaDoorRows
import GoSem.ClaimSeven
namespace Go.Proofs.YthmmjoemapoafaaDoor
namespace Rows

/-- THE TIED CARD OF 'demurragelaw.AccrueYear'. -/
def accrueYearCard : Claim7 := { stood := { row := accrueYearRow, standIns := [], harness := (true, "663a61e260ae0efe1f62bbe08c72c4fd52e7b6bc99f6760d3bf7fc894bace8c7"), looks := false }, kinds := [], alts := [], laidByText := true, laidKinds := [.data], laidTests := true, laidLooks := .later }
def AccrueYearCardSaid : Prop := Claim7.holds Tryd.pinned (.plain (OpenSpec.ofChange accrueYearSpec)) accrueYearCard

/-- THE TIED CARD OF 'demurragelaw.AccrueWhole'. -/
def accrueWholeCard : Claim7 := { stood := { row := accrueWholeRow, standIns := [], harness := (true, "663a61e260ae0efe1f62bbe08c72c4fd52e7b6bc99f6760d3bf7fc894bace8c7"), looks := false }, kinds := [], alts := [], laidByText := true, laidKinds := [.data], laidTests := true, laidLooks := .later }
def AccrueWholeCardSaid : Prop := Claim7.holds Tryd.pinned (.plain (OpenSpec.ofChange accrueWholeSpec)) accrueWholeCard

/-- THE SECOND FORM's CARD OF 'demurragelaw.AccrueYear'. -/
def accrueYearUptoCard : Claim7 := { stood := { row := accrueYearUptoRow, standIns := [], harness := (true, "663a61e260ae0efe1f62bbe08c72c4fd52e7b6bc99f6760d3bf7fc894bace8c7"), looks := false }, kinds := [], alts := [], laidByText := true, laidKinds := [.data], laidTests := true, laidLooks := .later }
def AccrueYearUptoCardSaid : Prop := Claim7.holds Tryd.pinned (.plain (OpenSpec.upto accrueYearSpec)) accrueYearUptoCard

/-- THE SECOND FORM's CARD OF 'demurragelaw.AccrueWhole'. -/
def accrueWholeUptoCard : Claim7 := { stood := { row := accrueWholeUptoRow, standIns := [], harness := (true, "663a61e260ae0efe1f62bbe08c72c4fd52e7b6bc99f6760d3bf7fc894bace8c7"), looks := false }, kinds := [], alts := [], laidByText := true, laidKinds := [.data], laidTests := true, laidLooks := .later }
def AccrueWholeUptoCardSaid : Prop := Claim7.holds Tryd.pinned (.plain (OpenSpec.upto accrueWholeSpec)) accrueWholeUptoCard
end Rows
end Go.Proofs.YthmmjoemapoafaaDoor
