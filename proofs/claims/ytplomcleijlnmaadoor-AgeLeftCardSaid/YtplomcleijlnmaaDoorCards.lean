/-
  DERIVED. GIVEN WITH THE SEED: THE CARDS: each row of YtplomcleijlnmaaDoorRows.lean that lists a variable, with what it lists TIED to the program's text (the seventh form; the later family's looks); each row that meets fmt, with fmt's text TOLD by the authors' own Lean function (tested against real Go, not proved from fmt's source: count such statements apart). THE CARD IS WHAT COUNTS. Prove the row's statement (the work); the ties are given (YtplomcleijlnmaaDoorTie.lean); close each card by the builder's one call (the guide's Derived/Test/ToyasCard.lean, 'card_holds'). Laid BY PROGRAM, IN A SANDBOX (cutbox-door.mjs). By AI agents, Wed Nov 11 2026. No macro, syntax, notation, axiom, sorry.
-/
import Derived.Test.YtplomcleijlnmaaDoorRows
import GoSem.ClaimSeven
namespace Go.Proofs.YtplomcleijlnmaaDoor
namespace Rows

/-- THE TIED CARD OF 'demurragelaw.AgeDays'. -/
def ageDaysCard : Claim7 := { stood := { row := ageDaysRow, standIns := [], harness := (true, "37c58f77cec8b93cdb114ab558e2f09a5002cc29602db2119c8375c9e10dd08b"), looks := false }, kinds := [], alts := [], laidByText := true, laidKinds := [.data], laidTests := true, laidLooks := .later }
def AgeDaysCardSaid : Prop := Claim7.holds Tryd.pinned (.plain (OpenSpec.ofChange ageDaysSpec)) ageDaysCard

/-- THE TIED CARD OF 'demurragelaw.AgeLeft'. -/
def ageLeftCard : Claim7 := { stood := { row := ageLeftRow, standIns := [], harness := (true, "37c58f77cec8b93cdb114ab558e2f09a5002cc29602db2119c8375c9e10dd08b"), looks := false }, kinds := [], alts := [], laidByText := true, laidKinds := [.data], laidTests := true, laidLooks := .later }
def AgeLeftCardSaid : Prop := Claim7.holds Tryd.pinned (.plain (OpenSpec.ofChange ageLeftSpec)) ageLeftCard

/-- THE SECOND FORM's CARD OF 'demurragelaw.AgeDays'. -/
def ageDaysUptoCard : Claim7 := { stood := { row := ageDaysUptoRow, standIns := [], harness := (true, "37c58f77cec8b93cdb114ab558e2f09a5002cc29602db2119c8375c9e10dd08b"), looks := false }, kinds := [], alts := [], laidByText := true, laidKinds := [.data], laidTests := true, laidLooks := .later }
def AgeDaysUptoCardSaid : Prop := Claim7.holds Tryd.pinned (.plain (OpenSpec.upto ageDaysSpec)) ageDaysUptoCard

/-- THE SECOND FORM's CARD OF 'demurragelaw.AgeLeft'. -/
def ageLeftUptoCard : Claim7 := { stood := { row := ageLeftUptoRow, standIns := [], harness := (true, "37c58f77cec8b93cdb114ab558e2f09a5002cc29602db2119c8375c9e10dd08b"), looks := false }, kinds := [], alts := [], laidByText := true, laidKinds := [.data], laidTests := true, laidLooks := .later }
def AgeLeftUptoCardSaid : Prop := Claim7.holds Tryd.pinned (.plain (OpenSpec.upto ageLeftSpec)) ageLeftUptoCard
end Rows
end Go.Proofs.YtplomcleijlnmaaDoor
