/-
  DERIVED. GIVEN WITH THE SEED: THE CARDS: each row of YtpanlcnoopmchaaGreatDoorRows.lean that lists a variable, with what it lists TIED to the program's text (the seventh form; the later family's looks); each row that meets fmt, with fmt's text TOLD by the authors' own Lean function (tested against real Go, not proved from fmt's source: count such statements apart). THE CARD IS WHAT COUNTS. Prove the row's statement (the work); the ties are given (YtpanlcnoopmchaaGreatDoorTie.lean); close each card by the builder's one call (the guide's Derived/Test/ToyasCard.lean, 'card_holds'). Laid BY PROGRAM, IN A SANDBOX (cutbox-door.mjs). By AI agents, Wed Nov 11 2026. No macro, syntax, notation, axiom, sorry.
-/
import Derived.Test.YtpanlcnoopmchaaGreatDoorRows
import GoSem.ClaimSeven
namespace Go.Proofs.YtpanlcnoopmchaaGreatDoor
namespace Rows

/-- THE TIED CARD OF 'demurragelaw.CycleRow'. -/
def cycleRowCard : Claim7 := { stood := { row := cycleRowRow, standIns := [], harness := (true, "740b790cc30fb2b773cda757c623f14eddf74f9f7be3ba2b91bf5af5c7ad8963"), looks := false }, kinds := [], alts := [], laidByText := true, laidKinds := [.data], laidTests := true, laidLooks := .later }
def CycleRowCardSaid : Prop := Claim7.holds Tryz.pinned (.plain (OpenSpec.ofChange cycleRowSpec)) cycleRowCard

/-- THE SECOND FORM's CARD OF 'demurragelaw.CycleRow'. -/
def cycleRowUptoCard : Claim7 := { stood := { row := cycleRowUptoRow, standIns := [], harness := (true, "740b790cc30fb2b773cda757c623f14eddf74f9f7be3ba2b91bf5af5c7ad8963"), looks := false }, kinds := [], alts := [], laidByText := true, laidKinds := [.data], laidTests := true, laidLooks := .later }
def CycleRowUptoCardSaid : Prop := Claim7.holds Tryz.pinned (.plain (OpenSpec.upto cycleRowSpec)) cycleRowUptoCard
end Rows
end Go.Proofs.YtpanlcnoopmchaaGreatDoor
