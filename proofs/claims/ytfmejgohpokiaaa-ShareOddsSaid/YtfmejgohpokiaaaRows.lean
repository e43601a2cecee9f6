/-
  No cell of these rows narrows 'for every input' (looked for: loops, veiled, ifaces, maps, wideKeys, modest, calm, conditions, laid).
  DERIVED. THE GIVEN ROWS OF THIS SEAT. 8 by the template 'for every input the law returns true; each argument reads behind the call as it read before'; 0 by the template 'total and deterministic' (their statements: YtfmejgohpokiaaaTotals.lean).
  GIVEN WITH THE SEED: the statements are not yours to turn. If you find one false, say at which input.
  Laid BY PROGRAM, IN A SANDBOX (cutbox-rows.mjs): the forced cells as the released guide's own fill.sh prints them over the translation 6037bcb2ac440243… (all of the seat's roots in one cut). By AI agents, Wed Nov 11 2026. No macro, syntax, notation, axiom, sorry.
-/
import Derived.Test.YtfmejgohpokiaaaChecked
import GoSem.Claim
import GoSem.ClaimJoined
import GoSem.ClaimMapViews
import Derived.JoinedTies
import Derived.KernelRfl
namespace Go.Proofs.Ytfmejgohpokiaaa
/- THE CELL 'sum', in the pinned program and in every row, IS THE sha256 OF THE DUMP (.gsa) THAT YtfmejgohpokiaaaProg.lean LOADS. Nothing in Lean hashes anything: it is a label: what it is worth is what the hold of that sum in a sandbox is worth. -/
noncomputable def Try.pinned : Pinned := { name := "ytfmejgohpokiaaa", sum := "6037bcb2ac440243e6cad95825c617c267641a257119706b776f096fefd8c094", checked := Try.checked }
namespace Rows
def none {H : Type} : Left H := { results := [], args := [] }

/-- 'demurragelaw.ShareTells': WHATEVER THE INPUT: true; the input reads as it did. -/
def shareTellsSpec : ChangeSpec := { name := "shareTells", fn := fun _ => fun
  | [d1, d2, d3, d4] => { results := [.lit (.bool true)], args := [d1, d2, d3, d4] }
  | _ => none }
def shareTellsRow : OpenClaim := { program := "ytfmejgohpokiaaa", sum := "6037bcb2ac440243e6cad95825c617c267641a257119706b776f096fefd8c094", func := "demurrage/demurragelaw.ShareTells", spec := "shareTells", unfollowed := true, recurses := true, named := ["math/bits.divideError", "math/bits.overflowError"], apart := false }
def ShareTellsSaid : Prop := shareTellsRow.holds Try.pinned (OpenSpec.ofChange shareTellsSpec)

/-- ITS FALSE NEIGHBOUR: 'it returns false'. Refute it at one input. -/
def shareTellsWrong : ChangeSpec := { name := "shareTells", fn := fun _ => fun
  | [d1, d2, d3, d4] => { results := [.lit (.bool false)], args := [d1, d2, d3, d4] }
  | _ => none }
def ShareTellsWrongFalsely : Prop := shareTellsRow.holds Try.pinned (OpenSpec.ofChange shareTellsWrong)

/-- 'demurragelaw.ShareQuota': WHATEVER THE INPUT: true; the input reads as it did. -/
def shareQuotaSpec : ChangeSpec := { name := "shareQuota", fn := fun _ => fun
  | [d1, d2] => { results := [.lit (.bool true)], args := [d1, d2] }
  | _ => none }
def shareQuotaRow : OpenClaim := { program := "ytfmejgohpokiaaa", sum := "6037bcb2ac440243e6cad95825c617c267641a257119706b776f096fefd8c094", func := "demurrage/demurragelaw.ShareQuota", spec := "shareQuota", unfollowed := true, recurses := true, named := ["math/bits.divideError", "math/bits.overflowError"], apart := false }
def ShareQuotaSaid : Prop := shareQuotaRow.holds Try.pinned (OpenSpec.ofChange shareQuotaSpec)

/-- ITS FALSE NEIGHBOUR: 'it returns false'. Refute it at one input. -/
def shareQuotaWrong : ChangeSpec := { name := "shareQuota", fn := fun _ => fun
  | [d1, d2] => { results := [.lit (.bool false)], args := [d1, d2] }
  | _ => none }
def ShareQuotaWrongFalsely : Prop := shareQuotaRow.holds Try.pinned (OpenSpec.ofChange shareQuotaWrong)

/-- 'demurragelaw.ShareMore': WHATEVER THE INPUT: true; the input reads as it did. -/
def shareMoreSpec : ChangeSpec := { name := "shareMore", fn := fun _ => fun
  | [d1, d2, d3, d4] => { results := [.lit (.bool true)], args := [d1, d2, d3, d4] }
  | _ => none }
def shareMoreRow : OpenClaim := { program := "ytfmejgohpokiaaa", sum := "6037bcb2ac440243e6cad95825c617c267641a257119706b776f096fefd8c094", func := "demurrage/demurragelaw.ShareMore", spec := "shareMore", unfollowed := true, recurses := true, named := ["math/bits.divideError", "math/bits.overflowError"], apart := false }
def ShareMoreSaid : Prop := shareMoreRow.holds Try.pinned (OpenSpec.ofChange shareMoreSpec)

/-- ITS FALSE NEIGHBOUR: 'it returns false'. Refute it at one input. -/
def shareMoreWrong : ChangeSpec := { name := "shareMore", fn := fun _ => fun
  | [d1, d2, d3, d4] => { results := [.lit (.bool false)], args := [d1, d2, d3, d4] }
  | _ => none }
def ShareMoreWrongFalsely : Prop := shareMoreRow.holds Try.pinned (OpenSpec.ofChange shareMoreWrong)

/-- 'demurragelaw.ShareSeats': WHATEVER THE INPUT: true; the input reads as it did. -/
def shareSeatsSpec : ChangeSpec := { name := "shareSeats", fn := fun _ => fun
  | [d1, d2, d3] => { results := [.lit (.bool true)], args := [d1, d2, d3] }
  | _ => none }
def shareSeatsRow : OpenClaim := { program := "ytfmejgohpokiaaa", sum := "6037bcb2ac440243e6cad95825c617c267641a257119706b776f096fefd8c094", func := "demurrage/demurragelaw.ShareSeats", spec := "shareSeats", unfollowed := true, recurses := true, named := ["math/bits.divideError", "math/bits.overflowError"], apart := false }
def ShareSeatsSaid : Prop := shareSeatsRow.holds Try.pinned (OpenSpec.ofChange shareSeatsSpec)

/-- ITS FALSE NEIGHBOUR: 'it returns false'. Refute it at one input. -/
def shareSeatsWrong : ChangeSpec := { name := "shareSeats", fn := fun _ => fun
  | [d1, d2, d3] => { results := [.lit (.bool false)], args := [d1, d2, d3] }
  | _ => none }
def ShareSeatsWrongFalsely : Prop := shareSeatsRow.holds Try.pinned (OpenSpec.ofChange shareSeatsWrong)

/-- 'demurragelaw.ShareLeast': WHATEVER THE INPUT: true; the input reads as it did. -/
def shareLeastSpec : ChangeSpec := { name := "shareLeast", fn := fun _ => fun
  | [d1, d2, d3, d4] => { results := [.lit (.bool true)], args := [d1, d2, d3, d4] }
  | _ => none }
def shareLeastRow : OpenClaim := { program := "ytfmejgohpokiaaa", sum := "6037bcb2ac440243e6cad95825c617c267641a257119706b776f096fefd8c094", func := "demurrage/demurragelaw.ShareLeast", spec := "shareLeast", unfollowed := true, recurses := true, named := ["math/bits.divideError", "math/bits.overflowError"], apart := false }
def ShareLeastSaid : Prop := shareLeastRow.holds Try.pinned (OpenSpec.ofChange shareLeastSpec)

/-- ITS FALSE NEIGHBOUR: 'it returns false'. Refute it at one input. -/
def shareLeastWrong : ChangeSpec := { name := "shareLeast", fn := fun _ => fun
  | [d1, d2, d3, d4] => { results := [.lit (.bool false)], args := [d1, d2, d3, d4] }
  | _ => none }
def ShareLeastWrongFalsely : Prop := shareLeastRow.holds Try.pinned (OpenSpec.ofChange shareLeastWrong)

/-- 'demurragelaw.ShareTimes': WHATEVER THE INPUT: true; the input reads as it did. -/
def shareTimesSpec : ChangeSpec := { name := "shareTimes", fn := fun _ => fun
  | [d1, d2, d3, d4] => { results := [.lit (.bool true)], args := [d1, d2, d3, d4] }
  | _ => none }
def shareTimesRow : OpenClaim := { program := "ytfmejgohpokiaaa", sum := "6037bcb2ac440243e6cad95825c617c267641a257119706b776f096fefd8c094", func := "demurrage/demurragelaw.ShareTimes", spec := "shareTimes", unfollowed := true, recurses := true, named := ["math/bits.divideError", "math/bits.overflowError"], apart := false }
def ShareTimesSaid : Prop := shareTimesRow.holds Try.pinned (OpenSpec.ofChange shareTimesSpec)

/-- ITS FALSE NEIGHBOUR: 'it returns false'. Refute it at one input. -/
def shareTimesWrong : ChangeSpec := { name := "shareTimes", fn := fun _ => fun
  | [d1, d2, d3, d4] => { results := [.lit (.bool false)], args := [d1, d2, d3, d4] }
  | _ => none }
def ShareTimesWrongFalsely : Prop := shareTimesRow.holds Try.pinned (OpenSpec.ofChange shareTimesWrong)

/-- 'demurragelaw.ShareEven': WHATEVER THE INPUT: true; the input reads as it did. -/
def shareEvenSpec : ChangeSpec := { name := "shareEven", fn := fun _ => fun
  | [d1, d2, d3, d4] => { results := [.lit (.bool true)], args := [d1, d2, d3, d4] }
  | _ => none }
def shareEvenRow : OpenClaim := { program := "ytfmejgohpokiaaa", sum := "6037bcb2ac440243e6cad95825c617c267641a257119706b776f096fefd8c094", func := "demurrage/demurragelaw.ShareEven", spec := "shareEven", unfollowed := true, recurses := true, named := ["math/bits.divideError", "math/bits.overflowError"], apart := false }
def ShareEvenSaid : Prop := shareEvenRow.holds Try.pinned (OpenSpec.ofChange shareEvenSpec)

/-- ITS FALSE NEIGHBOUR: 'it returns false'. Refute it at one input. -/
def shareEvenWrong : ChangeSpec := { name := "shareEven", fn := fun _ => fun
  | [d1, d2, d3, d4] => { results := [.lit (.bool false)], args := [d1, d2, d3, d4] }
  | _ => none }
def ShareEvenWrongFalsely : Prop := shareEvenRow.holds Try.pinned (OpenSpec.ofChange shareEvenWrong)

/-- 'demurragelaw.ShareOdds': WHATEVER THE INPUT: true; the input reads as it did. -/
def shareOddsSpec : ChangeSpec := { name := "shareOdds", fn := fun _ => fun
  | [d1, d2, d3, d4] => { results := [.lit (.bool true)], args := [d1, d2, d3, d4] }
  | _ => none }
def shareOddsRow : OpenClaim := { program := "ytfmejgohpokiaaa", sum := "6037bcb2ac440243e6cad95825c617c267641a257119706b776f096fefd8c094", func := "demurrage/demurragelaw.ShareOdds", spec := "shareOdds", unfollowed := true, recurses := true, named := ["math/bits.divideError", "math/bits.overflowError"], apart := false }
def ShareOddsSaid : Prop := shareOddsRow.holds Try.pinned (OpenSpec.ofChange shareOddsSpec)

/-- ITS FALSE NEIGHBOUR: 'it returns false'. Refute it at one input. -/
def shareOddsWrong : ChangeSpec := { name := "shareOdds", fn := fun _ => fun
  | [d1, d2, d3, d4] => { results := [.lit (.bool false)], args := [d1, d2, d3, d4] }
  | _ => none }
def ShareOddsWrongFalsely : Prop := shareOddsRow.holds Try.pinned (OpenSpec.ofChange shareOddsWrong)

/- THE SECOND FORM. 'bulk': how many values and letters a reading holds, each counted each time it is reached (what is shared counts as often as it is met; a slice's spare places count too). A statement '..UptoSaid' is the law's where the arguments, and the package variables that the reading takes, are together of bulk at most 1048576: NARROWER than '..Said'. Prove '..Said' where nothing that the law and all that it calls make is longer than what came in: it says more and counts as full. Else prove '..UptoSaid'. A law counts once. -/
mutual
def uptoBulk {H : Type} : DataW H → Nat
  | .lit (.string bytes) => bytes.length + 1
  | .lit _ => 1
  | .nil => 1
  | .ptr d => uptoBulk d + 1
  | .slice elems spare => uptoBulkAll elems + uptoBulkAll spare + 1
  | .agg parts => uptoBulkAll parts + 1
  | .iface _ d => uptoBulk d + 1
  | .map entries => uptoBulkEntries entries + 1
  | .held _ => 1
def uptoBulkAll {H : Type} : List (DataW H) → Nat
  | [] => 0
  | d :: r => uptoBulk d + uptoBulkAll r
def uptoBulkEntries {H : Type} : List (Lit × DataW H) → Nat
  | [] => 0
  | x :: r => uptoBulkEntry x + uptoBulkEntries r
def uptoBulkEntry {H : Type} : Lit × DataW H → Nat
  | (.string bytes, d) => bytes.length + uptoBulk d + 1
  | (_, d) => uptoBulk d + 1
 end
def uptoSmall : (H : Type) → List (DataW H) → Bool := fun _ ds => decide (uptoBulkAll ds ≤ 1048576)
def OpenSpec.upto (s : _root_.Go.ChangeSpec) : _root_.Go.OpenSpec := { _root_.Go.OpenSpec.ofChange s with cond := some uptoSmall }

/-- 'demurragelaw.ShareTells', WHERE WHAT IT READS IS OF BULK AT MOST 1048576: true; the input reads as it did. -/
def shareTellsUptoRow : OpenClaim := { program := "ytfmejgohpokiaaa", sum := "6037bcb2ac440243e6cad95825c617c267641a257119706b776f096fefd8c094", func := "demurrage/demurragelaw.ShareTells", spec := "shareTells", unfollowed := true, recurses := true, named := ["math/bits.divideError", "math/bits.overflowError"], apart := false, narrowed := true }
def ShareTellsUptoSaid : Prop := shareTellsUptoRow.holds Try.pinned (OpenSpec.upto shareTellsSpec)

/-- 'demurragelaw.ShareQuota', WHERE WHAT IT READS IS OF BULK AT MOST 1048576: true; the input reads as it did. -/
def shareQuotaUptoRow : OpenClaim := { program := "ytfmejgohpokiaaa", sum := "6037bcb2ac440243e6cad95825c617c267641a257119706b776f096fefd8c094", func := "demurrage/demurragelaw.ShareQuota", spec := "shareQuota", unfollowed := true, recurses := true, named := ["math/bits.divideError", "math/bits.overflowError"], apart := false, narrowed := true }
def ShareQuotaUptoSaid : Prop := shareQuotaUptoRow.holds Try.pinned (OpenSpec.upto shareQuotaSpec)

/-- 'demurragelaw.ShareMore', WHERE WHAT IT READS IS OF BULK AT MOST 1048576: true; the input reads as it did. -/
def shareMoreUptoRow : OpenClaim := { program := "ytfmejgohpokiaaa", sum := "6037bcb2ac440243e6cad95825c617c267641a257119706b776f096fefd8c094", func := "demurrage/demurragelaw.ShareMore", spec := "shareMore", unfollowed := true, recurses := true, named := ["math/bits.divideError", "math/bits.overflowError"], apart := false, narrowed := true }
def ShareMoreUptoSaid : Prop := shareMoreUptoRow.holds Try.pinned (OpenSpec.upto shareMoreSpec)

/-- 'demurragelaw.ShareSeats', WHERE WHAT IT READS IS OF BULK AT MOST 1048576: true; the input reads as it did. -/
def shareSeatsUptoRow : OpenClaim := { program := "ytfmejgohpokiaaa", sum := "6037bcb2ac440243e6cad95825c617c267641a257119706b776f096fefd8c094", func := "demurrage/demurragelaw.ShareSeats", spec := "shareSeats", unfollowed := true, recurses := true, named := ["math/bits.divideError", "math/bits.overflowError"], apart := false, narrowed := true }
def ShareSeatsUptoSaid : Prop := shareSeatsUptoRow.holds Try.pinned (OpenSpec.upto shareSeatsSpec)

/-- 'demurragelaw.ShareLeast', WHERE WHAT IT READS IS OF BULK AT MOST 1048576: true; the input reads as it did. -/
def shareLeastUptoRow : OpenClaim := { program := "ytfmejgohpokiaaa", sum := "6037bcb2ac440243e6cad95825c617c267641a257119706b776f096fefd8c094", func := "demurrage/demurragelaw.ShareLeast", spec := "shareLeast", unfollowed := true, recurses := true, named := ["math/bits.divideError", "math/bits.overflowError"], apart := false, narrowed := true }
def ShareLeastUptoSaid : Prop := shareLeastUptoRow.holds Try.pinned (OpenSpec.upto shareLeastSpec)

/-- 'demurragelaw.ShareTimes', WHERE WHAT IT READS IS OF BULK AT MOST 1048576: true; the input reads as it did. -/
def shareTimesUptoRow : OpenClaim := { program := "ytfmejgohpokiaaa", sum := "6037bcb2ac440243e6cad95825c617c267641a257119706b776f096fefd8c094", func := "demurrage/demurragelaw.ShareTimes", spec := "shareTimes", unfollowed := true, recurses := true, named := ["math/bits.divideError", "math/bits.overflowError"], apart := false, narrowed := true }
def ShareTimesUptoSaid : Prop := shareTimesUptoRow.holds Try.pinned (OpenSpec.upto shareTimesSpec)

/-- 'demurragelaw.ShareEven', WHERE WHAT IT READS IS OF BULK AT MOST 1048576: true; the input reads as it did. -/
def shareEvenUptoRow : OpenClaim := { program := "ytfmejgohpokiaaa", sum := "6037bcb2ac440243e6cad95825c617c267641a257119706b776f096fefd8c094", func := "demurrage/demurragelaw.ShareEven", spec := "shareEven", unfollowed := true, recurses := true, named := ["math/bits.divideError", "math/bits.overflowError"], apart := false, narrowed := true }
def ShareEvenUptoSaid : Prop := shareEvenUptoRow.holds Try.pinned (OpenSpec.upto shareEvenSpec)

/-- 'demurragelaw.ShareOdds', WHERE WHAT IT READS IS OF BULK AT MOST 1048576: true; the input reads as it did. -/
def shareOddsUptoRow : OpenClaim := { program := "ytfmejgohpokiaaa", sum := "6037bcb2ac440243e6cad95825c617c267641a257119706b776f096fefd8c094", func := "demurrage/demurragelaw.ShareOdds", spec := "shareOdds", unfollowed := true, recurses := true, named := ["math/bits.divideError", "math/bits.overflowError"], apart := false, narrowed := true }
def ShareOddsUptoSaid : Prop := shareOddsUptoRow.holds Try.pinned (OpenSpec.upto shareOddsSpec)

end Rows
end Go.Proofs.Ytfmejgohpokiaaa
