/-
  DERIVED. GIVEN WITH THE SEED: THE CARDS: each row of YtlbffibpcjjpkaaDoorRows.lean that lists a variable, with what it lists TIED to the program's text (the seventh form; the later family's looks); each row that meets fmt, with fmt's text TOLD by the authors' own Lean function (tested against real Go, not proved from fmt's source: count such statements apart). THE CARD IS WHAT COUNTS. Prove the row's statement (the work); the ties are given (YtlbffibpcjjpkaaDoorTie.lean); close each card by the builder's one call (the guide's Derived/Test/ToyasCard.lean, 'card_holds'). Laid BY PROGRAM, IN A SANDBOX (cutbox-door.mjs). By AI agents, Wed Nov 11 2026. No macro, syntax, notation, axiom, sorry.
-/
import Derived.Test.YtlbffibpcjjpkaaDoorRows
import GoSem.ClaimSeven
namespace Go.Proofs.YtlbffibpcjjpkaaDoor
namespace Rows

/-- THE TIED CARD OF 'demurragelaw.PriceTells'. -/
def priceTellsCard : Claim7 := { stood := { row := priceTellsRow, standIns := [], harness := (true, "10c21f0de2c3bd8409db9d5053d0993423f5a4cea6e0a1fd44e744046a67b79b"), looks := true }, kinds := [], alts := [], laidByText := true, laidKinds := [.data, .data, .data, .data, .sentinel, .sentinel, .pinned], laidTests := true, laidLooks := .later }
def PriceTellsCardSaid : Prop := Claim7.holds Tryd.pinned (.plain (OpenSpec.ofChange priceTellsSpec)) priceTellsCard

/-- THE TIED CARD OF 'demurragelaw.PriceBack'. -/
def priceBackCard : Claim7 := { stood := { row := priceBackRow, standIns := [], harness := (true, "10c21f0de2c3bd8409db9d5053d0993423f5a4cea6e0a1fd44e744046a67b79b"), looks := true }, kinds := [], alts := [], laidByText := true, laidKinds := [.data, .data, .data, .data, .sentinel, .sentinel, .pinned], laidTests := true, laidLooks := .later }
def PriceBackCardSaid : Prop := Claim7.holds Tryd.pinned (.plain (OpenSpec.ofChange priceBackSpec)) priceBackCard

/-- THE TIED CARD OF 'demurragelaw.PriceSums'. -/
def priceSumsCard : Claim7 := { stood := { row := priceSumsRow, standIns := [], harness := (true, "10c21f0de2c3bd8409db9d5053d0993423f5a4cea6e0a1fd44e744046a67b79b"), looks := true }, kinds := [], alts := [], laidByText := true, laidKinds := [.data, .data, .data, .data, .sentinel, .sentinel, .pinned], laidTests := true, laidLooks := .later }
def PriceSumsCardSaid : Prop := Claim7.holds Tryd.pinned (.plain (OpenSpec.ofChange priceSumsSpec)) priceSumsCard

/-- THE TIED CARD OF 'demurragelaw.PriceWhole'. -/
def priceWholeCard : Claim7 := { stood := { row := priceWholeRow, standIns := [], harness := (true, "10c21f0de2c3bd8409db9d5053d0993423f5a4cea6e0a1fd44e744046a67b79b"), looks := true }, kinds := [], alts := [], laidByText := true, laidKinds := [.data, .data, .data, .data, .sentinel, .sentinel, .pinned], laidTests := true, laidLooks := .later }
def PriceWholeCardSaid : Prop := Claim7.holds Tryd.pinned (.plain (OpenSpec.ofChange priceWholeSpec)) priceWholeCard

/-- THE TIED CARD OF 'demurragelaw.PriceTurn'. -/
def priceTurnCard : Claim7 := { stood := { row := priceTurnRow, standIns := [], harness := (true, "10c21f0de2c3bd8409db9d5053d0993423f5a4cea6e0a1fd44e744046a67b79b"), looks := true }, kinds := [], alts := [], laidByText := true, laidKinds := [.data, .data, .data, .data, .sentinel, .sentinel, .pinned], laidTests := true, laidLooks := .later }
def PriceTurnCardSaid : Prop := Claim7.holds Tryd.pinned (.plain (OpenSpec.ofChange priceTurnSpec)) priceTurnCard

/-- THE SECOND FORM's CARD OF 'demurragelaw.PriceTells'. -/
def priceTellsUptoCard : Claim7 := { stood := { row := priceTellsUptoRow, standIns := [], harness := (true, "10c21f0de2c3bd8409db9d5053d0993423f5a4cea6e0a1fd44e744046a67b79b"), looks := true }, kinds := [], alts := [], laidByText := true, laidKinds := [.data, .data, .data, .data, .sentinel, .sentinel, .pinned], laidTests := true, laidLooks := .later }
def PriceTellsUptoCardSaid : Prop := Claim7.holds Tryd.pinned (.plain (OpenSpec.upto priceTellsSpec)) priceTellsUptoCard

/-- THE SECOND FORM's CARD OF 'demurragelaw.PriceBack'. -/
def priceBackUptoCard : Claim7 := { stood := { row := priceBackUptoRow, standIns := [], harness := (true, "10c21f0de2c3bd8409db9d5053d0993423f5a4cea6e0a1fd44e744046a67b79b"), looks := true }, kinds := [], alts := [], laidByText := true, laidKinds := [.data, .data, .data, .data, .sentinel, .sentinel, .pinned], laidTests := true, laidLooks := .later }
def PriceBackUptoCardSaid : Prop := Claim7.holds Tryd.pinned (.plain (OpenSpec.upto priceBackSpec)) priceBackUptoCard

/-- THE SECOND FORM's CARD OF 'demurragelaw.PriceSums'. -/
def priceSumsUptoCard : Claim7 := { stood := { row := priceSumsUptoRow, standIns := [], harness := (true, "10c21f0de2c3bd8409db9d5053d0993423f5a4cea6e0a1fd44e744046a67b79b"), looks := true }, kinds := [], alts := [], laidByText := true, laidKinds := [.data, .data, .data, .data, .sentinel, .sentinel, .pinned], laidTests := true, laidLooks := .later }
def PriceSumsUptoCardSaid : Prop := Claim7.holds Tryd.pinned (.plain (OpenSpec.upto priceSumsSpec)) priceSumsUptoCard

/-- THE SECOND FORM's CARD OF 'demurragelaw.PriceWhole'. -/
def priceWholeUptoCard : Claim7 := { stood := { row := priceWholeUptoRow, standIns := [], harness := (true, "10c21f0de2c3bd8409db9d5053d0993423f5a4cea6e0a1fd44e744046a67b79b"), looks := true }, kinds := [], alts := [], laidByText := true, laidKinds := [.data, .data, .data, .data, .sentinel, .sentinel, .pinned], laidTests := true, laidLooks := .later }
def PriceWholeUptoCardSaid : Prop := Claim7.holds Tryd.pinned (.plain (OpenSpec.upto priceWholeSpec)) priceWholeUptoCard

/-- THE SECOND FORM's CARD OF 'demurragelaw.PriceTurn'. -/
def priceTurnUptoCard : Claim7 := { stood := { row := priceTurnUptoRow, standIns := [], harness := (true, "10c21f0de2c3bd8409db9d5053d0993423f5a4cea6e0a1fd44e744046a67b79b"), looks := true }, kinds := [], alts := [], laidByText := true, laidKinds := [.data, .data, .data, .data, .sentinel, .sentinel, .pinned], laidTests := true, laidLooks := .later }
def PriceTurnUptoCardSaid : Prop := Claim7.holds Tryd.pinned (.plain (OpenSpec.upto priceTurnSpec)) priceTurnUptoCard
end Rows
end Go.Proofs.YtlbffibpcjjpkaaDoor
