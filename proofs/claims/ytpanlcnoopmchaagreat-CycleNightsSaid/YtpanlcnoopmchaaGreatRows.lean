/-
  No cell of these rows narrows 'for every input' (looked for: loops, veiled, ifaces, maps, wideKeys, modest, calm, conditions, laid).
  DERIVED. THE GIVEN ROWS OF THIS SEAT. 8 by the template 'for every input the law returns true; each argument reads behind the call as it read before'; 0 by the template 'total and deterministic' (their statements: YtpanlcnoopmchaaGreatTotals.lean).
  GIVEN WITH THE SEED: the statements are not yours to turn. If you find one false, say at which input.
  Laid BY PROGRAM, IN A SANDBOX (cutbox-rows.mjs): the forced cells as the released guide's own fill.sh prints them over the translation c8c0ea49828280e6… (all of the seat's roots in one cut). By AI agents, Wed Nov 11 2026. No macro, syntax, notation, axiom, sorry.
-/
import Derived.Test.YtpanlcnoopmchaaGreatChecked
import GoSem.Claim
import GoSem.ClaimJoined
import GoSem.ClaimMapViews
import Derived.JoinedTies
import Derived.KernelRfl
namespace Go.Proofs.YtpanlcnoopmchaaGreat
/- THE CELL 'sum', in the pinned program and in every row, IS THE sha256 OF THE DUMP (.gsa) THAT YtpanlcnoopmchaaGreatProg.lean LOADS. Nothing in Lean hashes anything: it is a label: what it is worth is what the hold of that sum in a sandbox is worth. -/
noncomputable def Tryz.pinned : Pinned := { name := "ytpanlcnoopmchaagreat", sum := "c8c0ea49828280e6fda70f74f5f8093b1540c4901f177c8c2fed1aa8c1b26b00", checked := Tryz.checked }
namespace Rows
def none {H : Type} : Left H := { results := [], args := [] }

/-- 'demurragelaw.CycleNights': WHATEVER THE INPUT: true; the input reads as it did. -/
def cycleNightsSpec : ChangeSpec := { name := "cycleNights", fn := fun _ => fun
  | [d1, d2, d3] => { results := [.lit (.bool true)], args := [d1, d2, d3] }
  | _ => none }
def cycleNightsRow : OpenClaim := { program := "ytpanlcnoopmchaagreat", sum := "c8c0ea49828280e6fda70f74f5f8093b1540c4901f177c8c2fed1aa8c1b26b00", func := "demurrage/demurragelaw.CycleNights", spec := "cycleNights", unfollowed := true, recurses := true, named := ["math/bits.divideError", "math/bits.overflowError"], apart := false }
def CycleNightsSaid : Prop := cycleNightsRow.holds Tryz.pinned (OpenSpec.ofChange cycleNightsSpec)

/-- ITS FALSE NEIGHBOUR: 'it returns false'. Refute it at one input. -/
def cycleNightsWrong : ChangeSpec := { name := "cycleNights", fn := fun _ => fun
  | [d1, d2, d3] => { results := [.lit (.bool false)], args := [d1, d2, d3] }
  | _ => none }
def CycleNightsWrongFalsely : Prop := cycleNightsRow.holds Tryz.pinned (OpenSpec.ofChange cycleNightsWrong)

/-- 'demurragelaw.CycleTells': WHATEVER THE INPUT: true; the input reads as it did. -/
def cycleTellsSpec : ChangeSpec := { name := "cycleTells", fn := fun _ => fun
  | [d1, d2, d3, d4] => { results := [.lit (.bool true)], args := [d1, d2, d3, d4] }
  | _ => none }
def cycleTellsRow : OpenClaim := { program := "ytpanlcnoopmchaagreat", sum := "c8c0ea49828280e6fda70f74f5f8093b1540c4901f177c8c2fed1aa8c1b26b00", func := "demurrage/demurragelaw.CycleTells", spec := "cycleTells", unfollowed := true, recurses := true, named := ["math/bits.divideError", "math/bits.overflowError"], apart := false }
def CycleTellsSaid : Prop := cycleTellsRow.holds Tryz.pinned (OpenSpec.ofChange cycleTellsSpec)

/-- ITS FALSE NEIGHBOUR: 'it returns false'. Refute it at one input. -/
def cycleTellsWrong : ChangeSpec := { name := "cycleTells", fn := fun _ => fun
  | [d1, d2, d3, d4] => { results := [.lit (.bool false)], args := [d1, d2, d3, d4] }
  | _ => none }
def CycleTellsWrongFalsely : Prop := cycleTellsRow.holds Tryz.pinned (OpenSpec.ofChange cycleTellsWrong)

/-- 'demurragelaw.CycleOnce': WHATEVER THE INPUT: true; the input reads as it did. -/
def cycleOnceSpec : ChangeSpec := { name := "cycleOnce", fn := fun _ => fun
  | [d1, d2, d3] => { results := [.lit (.bool true)], args := [d1, d2, d3] }
  | _ => none }
def cycleOnceRow : OpenClaim := { program := "ytpanlcnoopmchaagreat", sum := "c8c0ea49828280e6fda70f74f5f8093b1540c4901f177c8c2fed1aa8c1b26b00", func := "demurrage/demurragelaw.CycleOnce", spec := "cycleOnce", unfollowed := true, recurses := true, named := ["math/bits.divideError", "math/bits.overflowError"], apart := false }
def CycleOnceSaid : Prop := cycleOnceRow.holds Tryz.pinned (OpenSpec.ofChange cycleOnceSpec)

/-- ITS FALSE NEIGHBOUR: 'it returns false'. Refute it at one input. -/
def cycleOnceWrong : ChangeSpec := { name := "cycleOnce", fn := fun _ => fun
  | [d1, d2, d3] => { results := [.lit (.bool false)], args := [d1, d2, d3] }
  | _ => none }
def CycleOnceWrongFalsely : Prop := cycleOnceRow.holds Tryz.pinned (OpenSpec.ofChange cycleOnceWrong)

/-- 'demurragelaw.CycleAdds': WHATEVER THE INPUT: true; the input reads as it did. -/
def cycleAddsSpec : ChangeSpec := { name := "cycleAdds", fn := fun _ => fun
  | [d1, d2, d3] => { results := [.lit (.bool true)], args := [d1, d2, d3] }
  | _ => none }
def cycleAddsRow : OpenClaim := { program := "ytpanlcnoopmchaagreat", sum := "c8c0ea49828280e6fda70f74f5f8093b1540c4901f177c8c2fed1aa8c1b26b00", func := "demurrage/demurragelaw.CycleAdds", spec := "cycleAdds", unfollowed := true, recurses := true, named := ["math/bits.divideError", "math/bits.overflowError"], apart := false }
def CycleAddsSaid : Prop := cycleAddsRow.holds Tryz.pinned (OpenSpec.ofChange cycleAddsSpec)

/-- ITS FALSE NEIGHBOUR: 'it returns false'. Refute it at one input. -/
def cycleAddsWrong : ChangeSpec := { name := "cycleAdds", fn := fun _ => fun
  | [d1, d2, d3] => { results := [.lit (.bool false)], args := [d1, d2, d3] }
  | _ => none }
def CycleAddsWrongFalsely : Prop := cycleAddsRow.holds Tryz.pinned (OpenSpec.ofChange cycleAddsWrong)

/-- 'demurragelaw.CycleTidy': WHATEVER THE INPUT: true; the input reads as it did. -/
def cycleTidySpec : ChangeSpec := { name := "cycleTidy", fn := fun _ => fun
  | [d1, d2] => { results := [.lit (.bool true)], args := [d1, d2] }
  | _ => none }
def cycleTidyRow : OpenClaim := { program := "ytpanlcnoopmchaagreat", sum := "c8c0ea49828280e6fda70f74f5f8093b1540c4901f177c8c2fed1aa8c1b26b00", func := "demurrage/demurragelaw.CycleTidy", spec := "cycleTidy", unfollowed := true, recurses := true, named := ["math/bits.divideError", "math/bits.overflowError"], apart := false }
def CycleTidySaid : Prop := cycleTidyRow.holds Tryz.pinned (OpenSpec.ofChange cycleTidySpec)

/-- ITS FALSE NEIGHBOUR: 'it returns false'. Refute it at one input. -/
def cycleTidyWrong : ChangeSpec := { name := "cycleTidy", fn := fun _ => fun
  | [d1, d2] => { results := [.lit (.bool false)], args := [d1, d2] }
  | _ => none }
def CycleTidyWrongFalsely : Prop := cycleTidyRow.holds Tryz.pinned (OpenSpec.ofChange cycleTidyWrong)

/-- 'demurragelaw.CycleEnds': WHATEVER THE INPUT: true; the input reads as it did. -/
def cycleEndsSpec : ChangeSpec := { name := "cycleEnds", fn := fun _ => fun
  | [d1, d2, d3] => { results := [.lit (.bool true)], args := [d1, d2, d3] }
  | _ => none }
def cycleEndsRow : OpenClaim := { program := "ytpanlcnoopmchaagreat", sum := "c8c0ea49828280e6fda70f74f5f8093b1540c4901f177c8c2fed1aa8c1b26b00", func := "demurrage/demurragelaw.CycleEnds", spec := "cycleEnds", unfollowed := true, recurses := true, named := ["math/bits.divideError", "math/bits.overflowError"], apart := false }
def CycleEndsSaid : Prop := cycleEndsRow.holds Tryz.pinned (OpenSpec.ofChange cycleEndsSpec)

/-- ITS FALSE NEIGHBOUR: 'it returns false'. Refute it at one input. -/
def cycleEndsWrong : ChangeSpec := { name := "cycleEnds", fn := fun _ => fun
  | [d1, d2, d3] => { results := [.lit (.bool false)], args := [d1, d2, d3] }
  | _ => none }
def CycleEndsWrongFalsely : Prop := cycleEndsRow.holds Tryz.pinned (OpenSpec.ofChange cycleEndsWrong)

/-- 'demurragelaw.CycleGives': WHATEVER THE INPUT: true; the input reads as it did. -/
def cycleGivesSpec : ChangeSpec := { name := "cycleGives", fn := fun _ => fun
  | [d1, d2, d3, d4] => { results := [.lit (.bool true)], args := [d1, d2, d3, d4] }
  | _ => none }
def cycleGivesRow : OpenClaim := { program := "ytpanlcnoopmchaagreat", sum := "c8c0ea49828280e6fda70f74f5f8093b1540c4901f177c8c2fed1aa8c1b26b00", func := "demurrage/demurragelaw.CycleGives", spec := "cycleGives", unfollowed := true, recurses := true, named := ["math/bits.divideError", "math/bits.overflowError"], apart := false }
def CycleGivesSaid : Prop := cycleGivesRow.holds Tryz.pinned (OpenSpec.ofChange cycleGivesSpec)

/-- ITS FALSE NEIGHBOUR: 'it returns false'. Refute it at one input. -/
def cycleGivesWrong : ChangeSpec := { name := "cycleGives", fn := fun _ => fun
  | [d1, d2, d3, d4] => { results := [.lit (.bool false)], args := [d1, d2, d3, d4] }
  | _ => none }
def CycleGivesWrongFalsely : Prop := cycleGivesRow.holds Tryz.pinned (OpenSpec.ofChange cycleGivesWrong)

/-- 'demurragelaw.CycleEven': WHATEVER THE INPUT: true; the input reads as it did. -/
def cycleEvenSpec : ChangeSpec := { name := "cycleEven", fn := fun _ => fun
  | [d1, d2, d3, d4, d5] => { results := [.lit (.bool true)], args := [d1, d2, d3, d4, d5] }
  | _ => none }
def cycleEvenRow : OpenClaim := { program := "ytpanlcnoopmchaagreat", sum := "c8c0ea49828280e6fda70f74f5f8093b1540c4901f177c8c2fed1aa8c1b26b00", func := "demurrage/demurragelaw.CycleEven", spec := "cycleEven", unfollowed := true, recurses := true, named := ["math/bits.divideError", "math/bits.overflowError"], apart := false }
def CycleEvenSaid : Prop := cycleEvenRow.holds Tryz.pinned (OpenSpec.ofChange cycleEvenSpec)

/-- ITS FALSE NEIGHBOUR: 'it returns false'. Refute it at one input. -/
def cycleEvenWrong : ChangeSpec := { name := "cycleEven", fn := fun _ => fun
  | [d1, d2, d3, d4, d5] => { results := [.lit (.bool false)], args := [d1, d2, d3, d4, d5] }
  | _ => none }
def CycleEvenWrongFalsely : Prop := cycleEvenRow.holds Tryz.pinned (OpenSpec.ofChange cycleEvenWrong)

/- THE SECOND FORM. 'bulk': how many values and letters a reading holds, each counted each time it is reached (what is shared counts as often as it is met; a slice's spare places count too). A statement '..UptoSaid' is the law's where the arguments, and the package variables that the reading takes, are together of bulk at most 1048576: NARROWER than '..Said'. Prove '..Said' where nothing that the law and all that it calls make is longer than what came in: it says more and counts as full. Else prove '..UptoSaid'. A law counts once. -/
mutual
def uptoBulk {H : Type} : DataW H → Nat
  | .lit (.string bytes) => bytes.length + 1
  | .lit _ => 1
  | .nil => 1
  | .ptr d => uptoBulk d + 1
  | .slice elems spare => uptoBulkAll elems + uptoBulkAll spare + 1
  | .agg parts => uptoBulkAll parts + 1
  | .iface _ d => uptoBulk d + 1
  | .map entries => uptoBulkEntries entries + 1
  | .held _ => 1
def uptoBulkAll {H : Type} : List (DataW H) → Nat
  | [] => 0
  | d :: r => uptoBulk d + uptoBulkAll r
def uptoBulkEntries {H : Type} : List (Lit × DataW H) → Nat
  | [] => 0
  | x :: r => uptoBulkEntry x + uptoBulkEntries r
def uptoBulkEntry {H : Type} : Lit × DataW H → Nat
  | (.string bytes, d) => bytes.length + uptoBulk d + 1
  | (_, d) => uptoBulk d + 1
 end
def uptoSmall : (H : Type) → List (DataW H) → Bool := fun _ ds => decide (uptoBulkAll ds ≤ 1048576)
def OpenSpec.upto (s : _root_.Go.ChangeSpec) : _root_.Go.OpenSpec := { _root_.Go.OpenSpec.ofChange s with cond := some uptoSmall }

/-- 'demurragelaw.CycleNights', WHERE WHAT IT READS IS OF BULK AT MOST 1048576: true; the input reads as it did. -/
def cycleNightsUptoRow : OpenClaim := { program := "ytpanlcnoopmchaagreat", sum := "c8c0ea49828280e6fda70f74f5f8093b1540c4901f177c8c2fed1aa8c1b26b00", func := "demurrage/demurragelaw.CycleNights", spec := "cycleNights", unfollowed := true, recurses := true, named := ["math/bits.divideError", "math/bits.overflowError"], apart := false, narrowed := true }
def CycleNightsUptoSaid : Prop := cycleNightsUptoRow.holds Tryz.pinned (OpenSpec.upto cycleNightsSpec)

/-- 'demurragelaw.CycleTells', WHERE WHAT IT READS IS OF BULK AT MOST 1048576: true; the input reads as it did. -/
def cycleTellsUptoRow : OpenClaim := { program := "ytpanlcnoopmchaagreat", sum := "c8c0ea49828280e6fda70f74f5f8093b1540c4901f177c8c2fed1aa8c1b26b00", func := "demurrage/demurragelaw.CycleTells", spec := "cycleTells", unfollowed := true, recurses := true, named := ["math/bits.divideError", "math/bits.overflowError"], apart := false, narrowed := true }
def CycleTellsUptoSaid : Prop := cycleTellsUptoRow.holds Tryz.pinned (OpenSpec.upto cycleTellsSpec)

/-- 'demurragelaw.CycleOnce', WHERE WHAT IT READS IS OF BULK AT MOST 1048576: true; the input reads as it did. -/
def cycleOnceUptoRow : OpenClaim := { program := "ytpanlcnoopmchaagreat", sum := "c8c0ea49828280e6fda70f74f5f8093b1540c4901f177c8c2fed1aa8c1b26b00", func := "demurrage/demurragelaw.CycleOnce", spec := "cycleOnce", unfollowed := true, recurses := true, named := ["math/bits.divideError", "math/bits.overflowError"], apart := false, narrowed := true }
def CycleOnceUptoSaid : Prop := cycleOnceUptoRow.holds Tryz.pinned (OpenSpec.upto cycleOnceSpec)

/-- 'demurragelaw.CycleAdds', WHERE WHAT IT READS IS OF BULK AT MOST 1048576: true; the input reads as it did. -/
def cycleAddsUptoRow : OpenClaim := { program := "ytpanlcnoopmchaagreat", sum := "c8c0ea49828280e6fda70f74f5f8093b1540c4901f177c8c2fed1aa8c1b26b00", func := "demurrage/demurragelaw.CycleAdds", spec := "cycleAdds", unfollowed := true, recurses := true, named := ["math/bits.divideError", "math/bits.overflowError"], apart := false, narrowed := true }
def CycleAddsUptoSaid : Prop := cycleAddsUptoRow.holds Tryz.pinned (OpenSpec.upto cycleAddsSpec)

/-- 'demurragelaw.CycleTidy', WHERE WHAT IT READS IS OF BULK AT MOST 1048576: true; the input reads as it did. -/
def cycleTidyUptoRow : OpenClaim := { program := "ytpanlcnoopmchaagreat", sum := "c8c0ea49828280e6fda70f74f5f8093b1540c4901f177c8c2fed1aa8c1b26b00", func := "demurrage/demurragelaw.CycleTidy", spec := "cycleTidy", unfollowed := true, recurses := true, named := ["math/bits.divideError", "math/bits.overflowError"], apart := false, narrowed := true }
def CycleTidyUptoSaid : Prop := cycleTidyUptoRow.holds Tryz.pinned (OpenSpec.upto cycleTidySpec)

/-- 'demurragelaw.CycleEnds', WHERE WHAT IT READS IS OF BULK AT MOST 1048576: true; the input reads as it did. -/
def cycleEndsUptoRow : OpenClaim := { program := "ytpanlcnoopmchaagreat", sum := "c8c0ea49828280e6fda70f74f5f8093b1540c4901f177c8c2fed1aa8c1b26b00", func := "demurrage/demurragelaw.CycleEnds", spec := "cycleEnds", unfollowed := true, recurses := true, named := ["math/bits.divideError", "math/bits.overflowError"], apart := false, narrowed := true }
def CycleEndsUptoSaid : Prop := cycleEndsUptoRow.holds Tryz.pinned (OpenSpec.upto cycleEndsSpec)

/-- 'demurragelaw.CycleGives', WHERE WHAT IT READS IS OF BULK AT MOST 1048576: true; the input reads as it did. -/
def cycleGivesUptoRow : OpenClaim := { program := "ytpanlcnoopmchaagreat", sum := "c8c0ea49828280e6fda70f74f5f8093b1540c4901f177c8c2fed1aa8c1b26b00", func := "demurrage/demurragelaw.CycleGives", spec := "cycleGives", unfollowed := true, recurses := true, named := ["math/bits.divideError", "math/bits.overflowError"], apart := false, narrowed := true }
def CycleGivesUptoSaid : Prop := cycleGivesUptoRow.holds Tryz.pinned (OpenSpec.upto cycleGivesSpec)

/-- 'demurragelaw.CycleEven', WHERE WHAT IT READS IS OF BULK AT MOST 1048576: true; the input reads as it did. -/
def cycleEvenUptoRow : OpenClaim := { program := "ytpanlcnoopmchaagreat", sum := "c8c0ea49828280e6fda70f74f5f8093b1540c4901f177c8c2fed1aa8c1b26b00", func := "demurrage/demurragelaw.CycleEven", spec := "cycleEven", unfollowed := true, recurses := true, named := ["math/bits.divideError", "math/bits.overflowError"], apart := false, narrowed := true }
def CycleEvenUptoSaid : Prop := cycleEvenUptoRow.holds Tryz.pinned (OpenSpec.upto cycleEvenSpec)

end Rows
end Go.Proofs.YtpanlcnoopmchaaGreat
