/-
  No cell of these rows narrows 'for every input' (looked for: loops, veiled, ifaces, maps, wideKeys, modest, calm, conditions, laid).
  DERIVED. THE GIVEN ROWS OF THIS SEAT. 6 by the template 'for every input the law returns true; each argument reads behind the call as it read before'; 0 by the template 'total and deterministic' (their statements: YtjjepkklaagmmaaTotals.lean).
  GIVEN WITH THE SEED: the statements are not yours to turn. If you find one false, say at which input.
  Laid BY PROGRAM, IN A SANDBOX (cutbox-rows.mjs): the forced cells as the released guide's own fill.sh prints them over the translation f063b76da6597125… (all of the seat's roots in one cut). By AI agents, Wed Nov 11 2026. No macro, syntax, notation, axiom, sorry.
-/
import Derived.Test.YtjjepkklaagmmaaChecked
import GoSem.Claim
import GoSem.ClaimJoined
import GoSem.ClaimMapViews
import Derived.JoinedTies
import Derived.KernelRfl
namespace Go.Proofs.Ytjjepkklaagmmaa
/- THE CELL 'sum', in the pinned program and in every row, IS THE sha256 OF THE DUMP (.gsa) THAT YtjjepkklaagmmaaProg.lean LOADS. Nothing in Lean hashes anything: it is a label: what it is worth is what the hold of that sum in a sandbox is worth. -/
noncomputable def Try.pinned : Pinned := { name := "ytjjepkklaagmmaa", sum := "f063b76da65971256404679fd5b42ae04a2d9ff3de8b2a681a139485032aa5df", checked := Try.checked }
namespace Rows
def none {H : Type} : Left H := { results := [], args := [] }

/-- 'demurragelaw.CompTells': WHATEVER THE INPUT: true; the input reads as it did. -/
def compTellsSpec : ChangeSpec := { name := "compTells", fn := fun _ => fun
  | [d1, d2, d3, d4, d5, d6, d7] => { results := [.lit (.bool true)], args := [d1, d2, d3, d4, d5, d6, d7] }
  | _ => none }
def compTellsRow : OpenClaim := { program := "ytjjepkklaagmmaa", sum := "f063b76da65971256404679fd5b42ae04a2d9ff3de8b2a681a139485032aa5df", func := "demurrage/demurragelaw.CompTells", spec := "compTells", unfollowed := true, recurses := true, named := ["math/bits.divideError", "math/bits.overflowError"], apart := false }
def CompTellsSaid : Prop := compTellsRow.holds Try.pinned (OpenSpec.ofChange compTellsSpec)

/-- ITS FALSE NEIGHBOUR: 'it returns false'. Refute it at one input. -/
def compTellsWrong : ChangeSpec := { name := "compTells", fn := fun _ => fun
  | [d1, d2, d3, d4, d5, d6, d7] => { results := [.lit (.bool false)], args := [d1, d2, d3, d4, d5, d6, d7] }
  | _ => none }
def CompTellsWrongFalsely : Prop := compTellsRow.holds Try.pinned (OpenSpec.ofChange compTellsWrong)

/-- 'demurragelaw.CompWorth': WHATEVER THE INPUT: true; the input reads as it did. -/
def compWorthSpec : ChangeSpec := { name := "compWorth", fn := fun _ => fun
  | [d1, d2, d3, d4] => { results := [.lit (.bool true)], args := [d1, d2, d3, d4] }
  | _ => none }
def compWorthRow : OpenClaim := { program := "ytjjepkklaagmmaa", sum := "f063b76da65971256404679fd5b42ae04a2d9ff3de8b2a681a139485032aa5df", func := "demurrage/demurragelaw.CompWorth", spec := "compWorth", unfollowed := true, recurses := true, named := ["math/bits.divideError", "math/bits.overflowError"], apart := false }
def CompWorthSaid : Prop := compWorthRow.holds Try.pinned (OpenSpec.ofChange compWorthSpec)

/-- ITS FALSE NEIGHBOUR: 'it returns false'. Refute it at one input. -/
def compWorthWrong : ChangeSpec := { name := "compWorth", fn := fun _ => fun
  | [d1, d2, d3, d4] => { results := [.lit (.bool false)], args := [d1, d2, d3, d4] }
  | _ => none }
def CompWorthWrongFalsely : Prop := compWorthRow.holds Try.pinned (OpenSpec.ofChange compWorthWrong)

/-- 'demurragelaw.CompMiddle': WHATEVER THE INPUT: true; the input reads as it did. -/
def compMiddleSpec : ChangeSpec := { name := "compMiddle", fn := fun _ => fun
  | [d1, d2] => { results := [.lit (.bool true)], args := [d1, d2] }
  | _ => none }
def compMiddleRow : OpenClaim := { program := "ytjjepkklaagmmaa", sum := "f063b76da65971256404679fd5b42ae04a2d9ff3de8b2a681a139485032aa5df", func := "demurrage/demurragelaw.CompMiddle", spec := "compMiddle", unfollowed := true, recurses := true, named := ["math/bits.divideError", "math/bits.overflowError"], apart := false }
def CompMiddleSaid : Prop := compMiddleRow.holds Try.pinned (OpenSpec.ofChange compMiddleSpec)

/-- ITS FALSE NEIGHBOUR: 'it returns false'. Refute it at one input. -/
def compMiddleWrong : ChangeSpec := { name := "compMiddle", fn := fun _ => fun
  | [d1, d2] => { results := [.lit (.bool false)], args := [d1, d2] }
  | _ => none }
def CompMiddleWrongFalsely : Prop := compMiddleRow.holds Try.pinned (OpenSpec.ofChange compMiddleWrong)

/-- 'demurragelaw.CompLimit': WHATEVER THE INPUT: true; the input reads as it did. -/
def compLimitSpec : ChangeSpec := { name := "compLimit", fn := fun _ => fun
  | [d1, d2, d3] => { results := [.lit (.bool true)], args := [d1, d2, d3] }
  | _ => none }
def compLimitRow : OpenClaim := { program := "ytjjepkklaagmmaa", sum := "f063b76da65971256404679fd5b42ae04a2d9ff3de8b2a681a139485032aa5df", func := "demurrage/demurragelaw.CompLimit", spec := "compLimit", unfollowed := true, recurses := true, named := ["math/bits.divideError", "math/bits.overflowError"], apart := false }
def CompLimitSaid : Prop := compLimitRow.holds Try.pinned (OpenSpec.ofChange compLimitSpec)

/-- ITS FALSE NEIGHBOUR: 'it returns false'. Refute it at one input. -/
def compLimitWrong : ChangeSpec := { name := "compLimit", fn := fun _ => fun
  | [d1, d2, d3] => { results := [.lit (.bool false)], args := [d1, d2, d3] }
  | _ => none }
def CompLimitWrongFalsely : Prop := compLimitRow.holds Try.pinned (OpenSpec.ofChange compLimitWrong)

/-- 'demurragelaw.CompFarther': WHATEVER THE INPUT: true; the input reads as it did. -/
def compFartherSpec : ChangeSpec := { name := "compFarther", fn := fun _ => fun
  | [d1, d2, d3, d4] => { results := [.lit (.bool true)], args := [d1, d2, d3, d4] }
  | _ => none }
def compFartherRow : OpenClaim := { program := "ytjjepkklaagmmaa", sum := "f063b76da65971256404679fd5b42ae04a2d9ff3de8b2a681a139485032aa5df", func := "demurrage/demurragelaw.CompFarther", spec := "compFarther", unfollowed := true, recurses := true, named := ["math/bits.divideError", "math/bits.overflowError"], apart := false }
def CompFartherSaid : Prop := compFartherRow.holds Try.pinned (OpenSpec.ofChange compFartherSpec)

/-- ITS FALSE NEIGHBOUR: 'it returns false'. Refute it at one input. -/
def compFartherWrong : ChangeSpec := { name := "compFarther", fn := fun _ => fun
  | [d1, d2, d3, d4] => { results := [.lit (.bool false)], args := [d1, d2, d3, d4] }
  | _ => none }
def CompFartherWrongFalsely : Prop := compFartherRow.holds Try.pinned (OpenSpec.ofChange compFartherWrong)

/-- 'demurragelaw.CompPays': WHATEVER THE INPUT: true; the input reads as it did. -/
def compPaysSpec : ChangeSpec := { name := "compPays", fn := fun _ => fun
  | [d1, d2, d3] => { results := [.lit (.bool true)], args := [d1, d2, d3] }
  | _ => none }
def compPaysRow : OpenClaim := { program := "ytjjepkklaagmmaa", sum := "f063b76da65971256404679fd5b42ae04a2d9ff3de8b2a681a139485032aa5df", func := "demurrage/demurragelaw.CompPays", spec := "compPays", unfollowed := true, recurses := true, named := ["math/bits.divideError", "math/bits.overflowError"], apart := false }
def CompPaysSaid : Prop := compPaysRow.holds Try.pinned (OpenSpec.ofChange compPaysSpec)

/-- ITS FALSE NEIGHBOUR: 'it returns false'. Refute it at one input. -/
def compPaysWrong : ChangeSpec := { name := "compPays", fn := fun _ => fun
  | [d1, d2, d3] => { results := [.lit (.bool false)], args := [d1, d2, d3] }
  | _ => none }
def CompPaysWrongFalsely : Prop := compPaysRow.holds Try.pinned (OpenSpec.ofChange compPaysWrong)

/- THE SECOND FORM. 'bulk': how many values and letters a reading holds, each counted each time it is reached (what is shared counts as often as it is met; a slice's spare places count too). A statement '..UptoSaid' is the law's where the arguments, and the package variables that the reading takes, are together of bulk at most 1048576: NARROWER than '..Said'. Prove '..Said' where nothing that the law and all that it calls make is longer than what came in: it says more and counts as full. Else prove '..UptoSaid'. A law counts once. -/
mutual
def uptoBulk {H : Type} : DataW H → Nat
  | .lit (.string bytes) => bytes.length + 1
  | .lit _ => 1
  | .nil => 1
  | .ptr d => uptoBulk d + 1
  | .slice elems spare => uptoBulkAll elems + uptoBulkAll spare + 1
  | .agg parts => uptoBulkAll parts + 1
  | .iface _ d => uptoBulk d + 1
  | .map entries => uptoBulkEntries entries + 1
  | .held _ => 1
def uptoBulkAll {H : Type} : List (DataW H) → Nat
  | [] => 0
  | d :: r => uptoBulk d + uptoBulkAll r
def uptoBulkEntries {H : Type} : List (Lit × DataW H) → Nat
  | [] => 0
  | x :: r => uptoBulkEntry x + uptoBulkEntries r
def uptoBulkEntry {H : Type} : Lit × DataW H → Nat
  | (.string bytes, d) => bytes.length + uptoBulk d + 1
  | (_, d) => uptoBulk d + 1
 end
def uptoSmall : (H : Type) → List (DataW H) → Bool := fun _ ds => decide (uptoBulkAll ds ≤ 1048576)
def OpenSpec.upto (s : _root_.Go.ChangeSpec) : _root_.Go.OpenSpec := { _root_.Go.OpenSpec.ofChange s with cond := some uptoSmall }

/-- 'demurragelaw.CompTells', WHERE WHAT IT READS IS OF BULK AT MOST 1048576: true; the input reads as it did. -/
def compTellsUptoRow : OpenClaim := { program := "ytjjepkklaagmmaa", sum := "f063b76da65971256404679fd5b42ae04a2d9ff3de8b2a681a139485032aa5df", func := "demurrage/demurragelaw.CompTells", spec := "compTells", unfollowed := true, recurses := true, named := ["math/bits.divideError", "math/bits.overflowError"], apart := false, narrowed := true }
def CompTellsUptoSaid : Prop := compTellsUptoRow.holds Try.pinned (OpenSpec.upto compTellsSpec)

/-- 'demurragelaw.CompWorth', WHERE WHAT IT READS IS OF BULK AT MOST 1048576: true; the input reads as it did. -/
def compWorthUptoRow : OpenClaim := { program := "ytjjepkklaagmmaa", sum := "f063b76da65971256404679fd5b42ae04a2d9ff3de8b2a681a139485032aa5df", func := "demurrage/demurragelaw.CompWorth", spec := "compWorth", unfollowed := true, recurses := true, named := ["math/bits.divideError", "math/bits.overflowError"], apart := false, narrowed := true }
def CompWorthUptoSaid : Prop := compWorthUptoRow.holds Try.pinned (OpenSpec.upto compWorthSpec)

/-- 'demurragelaw.CompMiddle', WHERE WHAT IT READS IS OF BULK AT MOST 1048576: true; the input reads as it did. -/
def compMiddleUptoRow : OpenClaim := { program := "ytjjepkklaagmmaa", sum := "f063b76da65971256404679fd5b42ae04a2d9ff3de8b2a681a139485032aa5df", func := "demurrage/demurragelaw.CompMiddle", spec := "compMiddle", unfollowed := true, recurses := true, named := ["math/bits.divideError", "math/bits.overflowError"], apart := false, narrowed := true }
def CompMiddleUptoSaid : Prop := compMiddleUptoRow.holds Try.pinned (OpenSpec.upto compMiddleSpec)

/-- 'demurragelaw.CompLimit', WHERE WHAT IT READS IS OF BULK AT MOST 1048576: true; the input reads as it did. -/
def compLimitUptoRow : OpenClaim := { program := "ytjjepkklaagmmaa", sum := "f063b76da65971256404679fd5b42ae04a2d9ff3de8b2a681a139485032aa5df", func := "demurrage/demurragelaw.CompLimit", spec := "compLimit", unfollowed := true, recurses := true, named := ["math/bits.divideError", "math/bits.overflowError"], apart := false, narrowed := true }
def CompLimitUptoSaid : Prop := compLimitUptoRow.holds Try.pinned (OpenSpec.upto compLimitSpec)

/-- 'demurragelaw.CompFarther', WHERE WHAT IT READS IS OF BULK AT MOST 1048576: true; the input reads as it did. -/
def compFartherUptoRow : OpenClaim := { program := "ytjjepkklaagmmaa", sum := "f063b76da65971256404679fd5b42ae04a2d9ff3de8b2a681a139485032aa5df", func := "demurrage/demurragelaw.CompFarther", spec := "compFarther", unfollowed := true, recurses := true, named := ["math/bits.divideError", "math/bits.overflowError"], apart := false, narrowed := true }
def CompFartherUptoSaid : Prop := compFartherUptoRow.holds Try.pinned (OpenSpec.upto compFartherSpec)

/-- 'demurragelaw.CompPays', WHERE WHAT IT READS IS OF BULK AT MOST 1048576: true; the input reads as it did. -/
def compPaysUptoRow : OpenClaim := { program := "ytjjepkklaagmmaa", sum := "f063b76da65971256404679fd5b42ae04a2d9ff3de8b2a681a139485032aa5df", func := "demurrage/demurragelaw.CompPays", spec := "compPays", unfollowed := true, recurses := true, named := ["math/bits.divideError", "math/bits.overflowError"], apart := false, narrowed := true }
def CompPaysUptoSaid : Prop := compPaysUptoRow.holds Try.pinned (OpenSpec.upto compPaysSpec)

end Rows
end Go.Proofs.Ytjjepkklaagmmaa
