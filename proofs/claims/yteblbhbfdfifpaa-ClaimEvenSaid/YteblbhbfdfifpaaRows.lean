/-
  No cell of these rows narrows 'for every input' (looked for: loops, veiled, ifaces, maps, wideKeys, modest, calm, conditions, laid).
  DERIVED. THE GIVEN ROWS OF THIS SEAT. 5 by the template 'for every input the law returns true; each argument reads behind the call as it read before'; 0 by the template 'total and deterministic' (their statements: YteblbhbfdfifpaaTotals.lean).
  GIVEN WITH THE SEED: the statements are not yours to turn. If you find one false, say at which input.
  Laid BY PROGRAM, IN A SANDBOX (cutbox-rows.mjs): the forced cells as the released guide's own fill.sh prints them over the translation 5ec543ca2e7f560c… (all of the seat's roots in one cut). By AI agents, Wed Nov 11 2026. No macro, syntax, notation, axiom, sorry.
-/
import Derived.Test.YteblbhbfdfifpaaChecked
import GoSem.Claim
import GoSem.ClaimJoined
import GoSem.ClaimMapViews
import Derived.JoinedTies
import Derived.KernelRfl
namespace Go.Proofs.Yteblbhbfdfifpaa
/- THE CELL 'sum', in the pinned program and in every row, IS THE sha256 OF THE DUMP (.gsa) THAT YteblbhbfdfifpaaProg.lean LOADS. Nothing in Lean hashes anything: it is a label: what it is worth is what the hold of that sum in a sandbox is worth. -/
noncomputable def Try.pinned : Pinned := { name := "yteblbhbfdfifpaa", sum := "5ec543ca2e7f560c3f6006c717d23a8b1b16290b83865bd0602a16c9b3045ea9", checked := Try.checked }
namespace Rows
def none {H : Type} : Left H := { results := [], args := [] }

/-- 'demurragelaw.ClaimTells': WHATEVER THE INPUT: true; the input reads as it did. -/
def claimTellsSpec : ChangeSpec := { name := "claimTells", fn := fun _ => fun
  | [d1, d2, d3] => { results := [.lit (.bool true)], args := [d1, d2, d3] }
  | _ => none }
def claimTellsRow : OpenClaim := { program := "yteblbhbfdfifpaa", sum := "5ec543ca2e7f560c3f6006c717d23a8b1b16290b83865bd0602a16c9b3045ea9", func := "demurrage/demurragelaw.ClaimTells", spec := "claimTells", unfollowed := true, recurses := true, named := ["math/bits.divideError", "math/bits.overflowError"], apart := false }
def ClaimTellsSaid : Prop := claimTellsRow.holds Try.pinned (OpenSpec.ofChange claimTellsSpec)

/-- ITS FALSE NEIGHBOUR: 'it returns false'. Refute it at one input. -/
def claimTellsWrong : ChangeSpec := { name := "claimTells", fn := fun _ => fun
  | [d1, d2, d3] => { results := [.lit (.bool false)], args := [d1, d2, d3] }
  | _ => none }
def ClaimTellsWrongFalsely : Prop := claimTellsRow.holds Try.pinned (OpenSpec.ofChange claimTellsWrong)

/-- 'demurragelaw.ClaimWhole': WHATEVER THE INPUT: true; the input reads as it did. -/
def claimWholeSpec : ChangeSpec := { name := "claimWhole", fn := fun _ => fun
  | [d1, d2, d3] => { results := [.lit (.bool true)], args := [d1, d2, d3] }
  | _ => none }
def claimWholeRow : OpenClaim := { program := "yteblbhbfdfifpaa", sum := "5ec543ca2e7f560c3f6006c717d23a8b1b16290b83865bd0602a16c9b3045ea9", func := "demurrage/demurragelaw.ClaimWhole", spec := "claimWhole", unfollowed := true, recurses := true, named := ["math/bits.divideError", "math/bits.overflowError"], apart := false }
def ClaimWholeSaid : Prop := claimWholeRow.holds Try.pinned (OpenSpec.ofChange claimWholeSpec)

/-- ITS FALSE NEIGHBOUR: 'it returns false'. Refute it at one input. -/
def claimWholeWrong : ChangeSpec := { name := "claimWhole", fn := fun _ => fun
  | [d1, d2, d3] => { results := [.lit (.bool false)], args := [d1, d2, d3] }
  | _ => none }
def ClaimWholeWrongFalsely : Prop := claimWholeRow.holds Try.pinned (OpenSpec.ofChange claimWholeWrong)

/-- 'demurragelaw.ClaimNone': WHATEVER THE INPUT: true; the input reads as it did. -/
def claimNoneSpec : ChangeSpec := { name := "claimNone", fn := fun _ => fun
  | [d1, d2] => { results := [.lit (.bool true)], args := [d1, d2] }
  | _ => none }
def claimNoneRow : OpenClaim := { program := "yteblbhbfdfifpaa", sum := "5ec543ca2e7f560c3f6006c717d23a8b1b16290b83865bd0602a16c9b3045ea9", func := "demurrage/demurragelaw.ClaimNone", spec := "claimNone", unfollowed := true, recurses := true, named := ["math/bits.divideError", "math/bits.overflowError"], apart := false }
def ClaimNoneSaid : Prop := claimNoneRow.holds Try.pinned (OpenSpec.ofChange claimNoneSpec)

/-- ITS FALSE NEIGHBOUR: 'it returns false'. Refute it at one input. -/
def claimNoneWrong : ChangeSpec := { name := "claimNone", fn := fun _ => fun
  | [d1, d2] => { results := [.lit (.bool false)], args := [d1, d2] }
  | _ => none }
def ClaimNoneWrongFalsely : Prop := claimNoneRow.holds Try.pinned (OpenSpec.ofChange claimNoneWrong)

/-- 'demurragelaw.ClaimGrow': WHATEVER THE INPUT: true; the input reads as it did. -/
def claimGrowSpec : ChangeSpec := { name := "claimGrow", fn := fun _ => fun
  | [d1, d2] => { results := [.lit (.bool true)], args := [d1, d2] }
  | _ => none }
def claimGrowRow : OpenClaim := { program := "yteblbhbfdfifpaa", sum := "5ec543ca2e7f560c3f6006c717d23a8b1b16290b83865bd0602a16c9b3045ea9", func := "demurrage/demurragelaw.ClaimGrow", spec := "claimGrow", unfollowed := true, recurses := true, named := ["math/bits.divideError", "math/bits.overflowError"], apart := false }
def ClaimGrowSaid : Prop := claimGrowRow.holds Try.pinned (OpenSpec.ofChange claimGrowSpec)

/-- ITS FALSE NEIGHBOUR: 'it returns false'. Refute it at one input. -/
def claimGrowWrong : ChangeSpec := { name := "claimGrow", fn := fun _ => fun
  | [d1, d2] => { results := [.lit (.bool false)], args := [d1, d2] }
  | _ => none }
def ClaimGrowWrongFalsely : Prop := claimGrowRow.holds Try.pinned (OpenSpec.ofChange claimGrowWrong)

/-- 'demurragelaw.ClaimEven': WHATEVER THE INPUT: true; the input reads as it did. -/
def claimEvenSpec : ChangeSpec := { name := "claimEven", fn := fun _ => fun
  | [d1, d2] => { results := [.lit (.bool true)], args := [d1, d2] }
  | _ => none }
def claimEvenRow : OpenClaim := { program := "yteblbhbfdfifpaa", sum := "5ec543ca2e7f560c3f6006c717d23a8b1b16290b83865bd0602a16c9b3045ea9", func := "demurrage/demurragelaw.ClaimEven", spec := "claimEven", unfollowed := true, recurses := true, named := ["math/bits.divideError", "math/bits.overflowError"], apart := false }
def ClaimEvenSaid : Prop := claimEvenRow.holds Try.pinned (OpenSpec.ofChange claimEvenSpec)

/-- ITS FALSE NEIGHBOUR: 'it returns false'. Refute it at one input. -/
def claimEvenWrong : ChangeSpec := { name := "claimEven", fn := fun _ => fun
  | [d1, d2] => { results := [.lit (.bool false)], args := [d1, d2] }
  | _ => none }
def ClaimEvenWrongFalsely : Prop := claimEvenRow.holds Try.pinned (OpenSpec.ofChange claimEvenWrong)

/- THE SECOND FORM. 'bulk': how many values and letters a reading holds, each counted each time it is reached (what is shared counts as often as it is met; a slice's spare places count too). A statement '..UptoSaid' is the law's where the arguments, and the package variables that the reading takes, are together of bulk at most 1048576: NARROWER than '..Said'. Prove '..Said' where nothing that the law and all that it calls make is longer than what came in: it says more and counts as full. Else prove '..UptoSaid'. A law counts once. -/
mutual
def uptoBulk {H : Type} : DataW H → Nat
  | .lit (.string bytes) => bytes.length + 1
  | .lit _ => 1
  | .nil => 1
  | .ptr d => uptoBulk d + 1
  | .slice elems spare => uptoBulkAll elems + uptoBulkAll spare + 1
  | .agg parts => uptoBulkAll parts + 1
  | .iface _ d => uptoBulk d + 1
  | .map entries => uptoBulkEntries entries + 1
  | .held _ => 1
def uptoBulkAll {H : Type} : List (DataW H) → Nat
  | [] => 0
  | d :: r => uptoBulk d + uptoBulkAll r
def uptoBulkEntries {H : Type} : List (Lit × DataW H) → Nat
  | [] => 0
  | x :: r => uptoBulkEntry x + uptoBulkEntries r
def uptoBulkEntry {H : Type} : Lit × DataW H → Nat
  | (.string bytes, d) => bytes.length + uptoBulk d + 1
  | (_, d) => uptoBulk d + 1
 end
def uptoSmall : (H : Type) → List (DataW H) → Bool := fun _ ds => decide (uptoBulkAll ds ≤ 1048576)
def OpenSpec.upto (s : _root_.Go.ChangeSpec) : _root_.Go.OpenSpec := { _root_.Go.OpenSpec.ofChange s with cond := some uptoSmall }

/-- 'demurragelaw.ClaimTells', WHERE WHAT IT READS IS OF BULK AT MOST 1048576: true; the input reads as it did. -/
def claimTellsUptoRow : OpenClaim := { program := "yteblbhbfdfifpaa", sum := "5ec543ca2e7f560c3f6006c717d23a8b1b16290b83865bd0602a16c9b3045ea9", func := "demurrage/demurragelaw.ClaimTells", spec := "claimTells", unfollowed := true, recurses := true, named := ["math/bits.divideError", "math/bits.overflowError"], apart := false, narrowed := true }
def ClaimTellsUptoSaid : Prop := claimTellsUptoRow.holds Try.pinned (OpenSpec.upto claimTellsSpec)

/-- 'demurragelaw.ClaimWhole', WHERE WHAT IT READS IS OF BULK AT MOST 1048576: true; the input reads as it did. -/
def claimWholeUptoRow : OpenClaim := { program := "yteblbhbfdfifpaa", sum := "5ec543ca2e7f560c3f6006c717d23a8b1b16290b83865bd0602a16c9b3045ea9", func := "demurrage/demurragelaw.ClaimWhole", spec := "claimWhole", unfollowed := true, recurses := true, named := ["math/bits.divideError", "math/bits.overflowError"], apart := false, narrowed := true }
def ClaimWholeUptoSaid : Prop := claimWholeUptoRow.holds Try.pinned (OpenSpec.upto claimWholeSpec)

/-- 'demurragelaw.ClaimNone', WHERE WHAT IT READS IS OF BULK AT MOST 1048576: true; the input reads as it did. -/
def claimNoneUptoRow : OpenClaim := { program := "yteblbhbfdfifpaa", sum := "5ec543ca2e7f560c3f6006c717d23a8b1b16290b83865bd0602a16c9b3045ea9", func := "demurrage/demurragelaw.ClaimNone", spec := "claimNone", unfollowed := true, recurses := true, named := ["math/bits.divideError", "math/bits.overflowError"], apart := false, narrowed := true }
def ClaimNoneUptoSaid : Prop := claimNoneUptoRow.holds Try.pinned (OpenSpec.upto claimNoneSpec)

/-- 'demurragelaw.ClaimGrow', WHERE WHAT IT READS IS OF BULK AT MOST 1048576: true; the input reads as it did. -/
def claimGrowUptoRow : OpenClaim := { program := "yteblbhbfdfifpaa", sum := "5ec543ca2e7f560c3f6006c717d23a8b1b16290b83865bd0602a16c9b3045ea9", func := "demurrage/demurragelaw.ClaimGrow", spec := "claimGrow", unfollowed := true, recurses := true, named := ["math/bits.divideError", "math/bits.overflowError"], apart := false, narrowed := true }
def ClaimGrowUptoSaid : Prop := claimGrowUptoRow.holds Try.pinned (OpenSpec.upto claimGrowSpec)

/-- 'demurragelaw.ClaimEven', WHERE WHAT IT READS IS OF BULK AT MOST 1048576: true; the input reads as it did. -/
def claimEvenUptoRow : OpenClaim := { program := "yteblbhbfdfifpaa", sum := "5ec543ca2e7f560c3f6006c717d23a8b1b16290b83865bd0602a16c9b3045ea9", func := "demurrage/demurragelaw.ClaimEven", spec := "claimEven", unfollowed := true, recurses := true, named := ["math/bits.divideError", "math/bits.overflowError"], apart := false, narrowed := true }
def ClaimEvenUptoSaid : Prop := claimEvenUptoRow.holds Try.pinned (OpenSpec.upto claimEvenSpec)

end Rows
end Go.Proofs.Yteblbhbfdfifpaa
