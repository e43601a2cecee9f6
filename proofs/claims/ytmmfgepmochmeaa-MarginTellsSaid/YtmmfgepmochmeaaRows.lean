/-
  No cell of these rows narrows 'for every input' (looked for: loops, veiled, ifaces, maps, wideKeys, modest, calm, conditions, laid).
  DERIVED. THE GIVEN ROWS OF THIS SEAT. 6 by the template 'for every input the law returns true; each argument reads behind the call as it read before'; 0 by the template 'total and deterministic' (their statements: YtmmfgepmochmeaaTotals.lean).
  GIVEN WITH THE SEED: the statements are not yours to turn. If you find one false, say at which input.
  Laid BY PROGRAM, IN A SANDBOX (cutbox-rows.mjs): the forced cells as the released guide's own fill.sh prints them over the translation ee0677a703ed266f… (all of the seat's roots in one cut). By AI agents, Wed Nov 11 2026. No macro, syntax, notation, axiom, sorry.
-/
import Derived.Test.YtmmfgepmochmeaaChecked
import GoSem.Claim
import GoSem.ClaimJoined
import GoSem.ClaimMapViews
import Derived.JoinedTies
import Derived.KernelRfl
namespace Go.Proofs.Ytmmfgepmochmeaa
/- THE CELL 'sum', in the pinned program and in every row, IS THE sha256 OF THE DUMP (.gsa) THAT YtmmfgepmochmeaaProg.lean LOADS. Nothing in Lean hashes anything: it is a label: what it is worth is what the hold of that sum in a sandbox is worth. -/
noncomputable def Try.pinned : Pinned := { name := "ytmmfgepmochmeaa", sum := "ee0677a703ed266f13783ca73843b59fdc19ca1f2cc09b96c16bdd41f5a4f79b", checked := Try.checked }
namespace Rows
def none {H : Type} : Left H := { results := [], args := [] }

/-- 'demurragelaw.MarginTells': WHATEVER THE INPUT: true; the input reads as it did. -/
def marginTellsSpec : ChangeSpec := { name := "marginTells", fn := fun _ => fun
  | [d1, d2, d3, d4, d5, d6, d7, d8, d9] => { results := [.lit (.bool true)], args := [d1, d2, d3, d4, d5, d6, d7, d8, d9] }
  | _ => none }
def marginTellsRow : OpenClaim := { program := "ytmmfgepmochmeaa", sum := "ee0677a703ed266f13783ca73843b59fdc19ca1f2cc09b96c16bdd41f5a4f79b", func := "demurrage/demurragelaw.MarginTells", spec := "marginTells", unfollowed := true, recurses := true, named := ["math/bits.divideError", "math/bits.overflowError"], apart := false }
def MarginTellsSaid : Prop := marginTellsRow.holds Try.pinned (OpenSpec.ofChange marginTellsSpec)

/-- ITS FALSE NEIGHBOUR: 'it returns false'. Refute it at one input. -/
def marginTellsWrong : ChangeSpec := { name := "marginTells", fn := fun _ => fun
  | [d1, d2, d3, d4, d5, d6, d7, d8, d9] => { results := [.lit (.bool false)], args := [d1, d2, d3, d4, d5, d6, d7, d8, d9] }
  | _ => none }
def MarginTellsWrongFalsely : Prop := marginTellsRow.holds Try.pinned (OpenSpec.ofChange marginTellsWrong)

/-- 'demurragelaw.MarginSpare': WHATEVER THE INPUT: true; the input reads as it did. -/
def marginSpareSpec : ChangeSpec := { name := "marginSpare", fn := fun _ => fun
  | [d1, d2, d3, d4] => { results := [.lit (.bool true)], args := [d1, d2, d3, d4] }
  | _ => none }
def marginSpareRow : OpenClaim := { program := "ytmmfgepmochmeaa", sum := "ee0677a703ed266f13783ca73843b59fdc19ca1f2cc09b96c16bdd41f5a4f79b", func := "demurrage/demurragelaw.MarginSpare", spec := "marginSpare", unfollowed := true, recurses := true, named := ["math/bits.divideError", "math/bits.overflowError"], apart := false }
def MarginSpareSaid : Prop := marginSpareRow.holds Try.pinned (OpenSpec.ofChange marginSpareSpec)

/-- ITS FALSE NEIGHBOUR: 'it returns false'. Refute it at one input. -/
def marginSpareWrong : ChangeSpec := { name := "marginSpare", fn := fun _ => fun
  | [d1, d2, d3, d4] => { results := [.lit (.bool false)], args := [d1, d2, d3, d4] }
  | _ => none }
def MarginSpareWrongFalsely : Prop := marginSpareRow.holds Try.pinned (OpenSpec.ofChange marginSpareWrong)

/-- 'demurragelaw.MarginCall': WHATEVER THE INPUT: true; the input reads as it did. -/
def marginCallSpec : ChangeSpec := { name := "marginCall", fn := fun _ => fun
  | [d1, d2, d3] => { results := [.lit (.bool true)], args := [d1, d2, d3] }
  | _ => none }
def marginCallRow : OpenClaim := { program := "ytmmfgepmochmeaa", sum := "ee0677a703ed266f13783ca73843b59fdc19ca1f2cc09b96c16bdd41f5a4f79b", func := "demurrage/demurragelaw.MarginCall", spec := "marginCall", unfollowed := true, recurses := true, named := ["math/bits.divideError", "math/bits.overflowError"], apart := false }
def MarginCallSaid : Prop := marginCallRow.holds Try.pinned (OpenSpec.ofChange marginCallSpec)

/-- ITS FALSE NEIGHBOUR: 'it returns false'. Refute it at one input. -/
def marginCallWrong : ChangeSpec := { name := "marginCall", fn := fun _ => fun
  | [d1, d2, d3] => { results := [.lit (.bool false)], args := [d1, d2, d3] }
  | _ => none }
def MarginCallWrongFalsely : Prop := marginCallRow.holds Try.pinned (OpenSpec.ofChange marginCallWrong)

/-- 'demurragelaw.MarginNeed': WHATEVER THE INPUT: true; the input reads as it did. -/
def marginNeedSpec : ChangeSpec := { name := "marginNeed", fn := fun _ => fun
  | [d1, d2, d3, d4, d5] => { results := [.lit (.bool true)], args := [d1, d2, d3, d4, d5] }
  | _ => none }
def marginNeedRow : OpenClaim := { program := "ytmmfgepmochmeaa", sum := "ee0677a703ed266f13783ca73843b59fdc19ca1f2cc09b96c16bdd41f5a4f79b", func := "demurrage/demurragelaw.MarginNeed", spec := "marginNeed", unfollowed := true, recurses := true, named := ["math/bits.divideError", "math/bits.overflowError"], apart := false }
def MarginNeedSaid : Prop := marginNeedRow.holds Try.pinned (OpenSpec.ofChange marginNeedSpec)

/-- ITS FALSE NEIGHBOUR: 'it returns false'. Refute it at one input. -/
def marginNeedWrong : ChangeSpec := { name := "marginNeed", fn := fun _ => fun
  | [d1, d2, d3, d4, d5] => { results := [.lit (.bool false)], args := [d1, d2, d3, d4, d5] }
  | _ => none }
def MarginNeedWrongFalsely : Prop := marginNeedRow.holds Try.pinned (OpenSpec.ofChange marginNeedWrong)

/-- 'demurragelaw.MarginValue': WHATEVER THE INPUT: true; the input reads as it did. -/
def marginValueSpec : ChangeSpec := { name := "marginValue", fn := fun _ => fun
  | [d1, d2, d3] => { results := [.lit (.bool true)], args := [d1, d2, d3] }
  | _ => none }
def marginValueRow : OpenClaim := { program := "ytmmfgepmochmeaa", sum := "ee0677a703ed266f13783ca73843b59fdc19ca1f2cc09b96c16bdd41f5a4f79b", func := "demurrage/demurragelaw.MarginValue", spec := "marginValue", unfollowed := true, recurses := true, named := ["math/bits.divideError", "math/bits.overflowError"], apart := false }
def MarginValueSaid : Prop := marginValueRow.holds Try.pinned (OpenSpec.ofChange marginValueSpec)

/-- ITS FALSE NEIGHBOUR: 'it returns false'. Refute it at one input. -/
def marginValueWrong : ChangeSpec := { name := "marginValue", fn := fun _ => fun
  | [d1, d2, d3] => { results := [.lit (.bool false)], args := [d1, d2, d3] }
  | _ => none }
def MarginValueWrongFalsely : Prop := marginValueRow.holds Try.pinned (OpenSpec.ofChange marginValueWrong)

/-- 'demurragelaw.MarginNothing': WHATEVER THE INPUT: true; the input reads as it did. -/
def marginNothingSpec : ChangeSpec := { name := "marginNothing", fn := fun _ => fun
  | [d1, d2, d3, d4, d5, d6, d7] => { results := [.lit (.bool true)], args := [d1, d2, d3, d4, d5, d6, d7] }
  | _ => none }
def marginNothingRow : OpenClaim := { program := "ytmmfgepmochmeaa", sum := "ee0677a703ed266f13783ca73843b59fdc19ca1f2cc09b96c16bdd41f5a4f79b", func := "demurrage/demurragelaw.MarginNothing", spec := "marginNothing", unfollowed := true, recurses := true, named := ["math/bits.divideError", "math/bits.overflowError"], apart := false }
def MarginNothingSaid : Prop := marginNothingRow.holds Try.pinned (OpenSpec.ofChange marginNothingSpec)

/-- ITS FALSE NEIGHBOUR: 'it returns false'. Refute it at one input. -/
def marginNothingWrong : ChangeSpec := { name := "marginNothing", fn := fun _ => fun
  | [d1, d2, d3, d4, d5, d6, d7] => { results := [.lit (.bool false)], args := [d1, d2, d3, d4, d5, d6, d7] }
  | _ => none }
def MarginNothingWrongFalsely : Prop := marginNothingRow.holds Try.pinned (OpenSpec.ofChange marginNothingWrong)

/- THE SECOND FORM. 'bulk': how many values and letters a reading holds, each counted each time it is reached (what is shared counts as often as it is met; a slice's spare places count too). A statement '..UptoSaid' is the law's where the arguments, and the package variables that the reading takes, are together of bulk at most 1048576: NARROWER than '..Said'. Prove '..Said' where nothing that the law and all that it calls make is longer than what came in: it says more and counts as full. Else prove '..UptoSaid'. A law counts once. -/
mutual
def uptoBulk {H : Type} : DataW H → Nat
  | .lit (.string bytes) => bytes.length + 1
  | .lit _ => 1
  | .nil => 1
  | .ptr d => uptoBulk d + 1
  | .slice elems spare => uptoBulkAll elems + uptoBulkAll spare + 1
  | .agg parts => uptoBulkAll parts + 1
  | .iface _ d => uptoBulk d + 1
  | .map entries => uptoBulkEntries entries + 1
  | .held _ => 1
def uptoBulkAll {H : Type} : List (DataW H) → Nat
  | [] => 0
  | d :: r => uptoBulk d + uptoBulkAll r
def uptoBulkEntries {H : Type} : List (Lit × DataW H) → Nat
  | [] => 0
  | x :: r => uptoBulkEntry x + uptoBulkEntries r
def uptoBulkEntry {H : Type} : Lit × DataW H → Nat
  | (.string bytes, d) => bytes.length + uptoBulk d + 1
  | (_, d) => uptoBulk d + 1
 end
def uptoSmall : (H : Type) → List (DataW H) → Bool := fun _ ds => decide (uptoBulkAll ds ≤ 1048576)
def OpenSpec.upto (s : _root_.Go.ChangeSpec) : _root_.Go.OpenSpec := { _root_.Go.OpenSpec.ofChange s with cond := some uptoSmall }

/-- 'demurragelaw.MarginTells', WHERE WHAT IT READS IS OF BULK AT MOST 1048576: true; the input reads as it did. -/
def marginTellsUptoRow : OpenClaim := { program := "ytmmfgepmochmeaa", sum := "ee0677a703ed266f13783ca73843b59fdc19ca1f2cc09b96c16bdd41f5a4f79b", func := "demurrage/demurragelaw.MarginTells", spec := "marginTells", unfollowed := true, recurses := true, named := ["math/bits.divideError", "math/bits.overflowError"], apart := false, narrowed := true }
def MarginTellsUptoSaid : Prop := marginTellsUptoRow.holds Try.pinned (OpenSpec.upto marginTellsSpec)

/-- 'demurragelaw.MarginSpare', WHERE WHAT IT READS IS OF BULK AT MOST 1048576: true; the input reads as it did. -/
def marginSpareUptoRow : OpenClaim := { program := "ytmmfgepmochmeaa", sum := "ee0677a703ed266f13783ca73843b59fdc19ca1f2cc09b96c16bdd41f5a4f79b", func := "demurrage/demurragelaw.MarginSpare", spec := "marginSpare", unfollowed := true, recurses := true, named := ["math/bits.divideError", "math/bits.overflowError"], apart := false, narrowed := true }
def MarginSpareUptoSaid : Prop := marginSpareUptoRow.holds Try.pinned (OpenSpec.upto marginSpareSpec)

/-- 'demurragelaw.MarginCall', WHERE WHAT IT READS IS OF BULK AT MOST 1048576: true; the input reads as it did. -/
def marginCallUptoRow : OpenClaim := { program := "ytmmfgepmochmeaa", sum := "ee0677a703ed266f13783ca73843b59fdc19ca1f2cc09b96c16bdd41f5a4f79b", func := "demurrage/demurragelaw.MarginCall", spec := "marginCall", unfollowed := true, recurses := true, named := ["math/bits.divideError", "math/bits.overflowError"], apart := false, narrowed := true }
def MarginCallUptoSaid : Prop := marginCallUptoRow.holds Try.pinned (OpenSpec.upto marginCallSpec)

/-- 'demurragelaw.MarginNeed', WHERE WHAT IT READS IS OF BULK AT MOST 1048576: true; the input reads as it did. -/
def marginNeedUptoRow : OpenClaim := { program := "ytmmfgepmochmeaa", sum := "ee0677a703ed266f13783ca73843b59fdc19ca1f2cc09b96c16bdd41f5a4f79b", func := "demurrage/demurragelaw.MarginNeed", spec := "marginNeed", unfollowed := true, recurses := true, named := ["math/bits.divideError", "math/bits.overflowError"], apart := false, narrowed := true }
def MarginNeedUptoSaid : Prop := marginNeedUptoRow.holds Try.pinned (OpenSpec.upto marginNeedSpec)

/-- 'demurragelaw.MarginValue', WHERE WHAT IT READS IS OF BULK AT MOST 1048576: true; the input reads as it did. -/
def marginValueUptoRow : OpenClaim := { program := "ytmmfgepmochmeaa", sum := "ee0677a703ed266f13783ca73843b59fdc19ca1f2cc09b96c16bdd41f5a4f79b", func := "demurrage/demurragelaw.MarginValue", spec := "marginValue", unfollowed := true, recurses := true, named := ["math/bits.divideError", "math/bits.overflowError"], apart := false, narrowed := true }
def MarginValueUptoSaid : Prop := marginValueUptoRow.holds Try.pinned (OpenSpec.upto marginValueSpec)

/-- 'demurragelaw.MarginNothing', WHERE WHAT IT READS IS OF BULK AT MOST 1048576: true; the input reads as it did. -/
def marginNothingUptoRow : OpenClaim := { program := "ytmmfgepmochmeaa", sum := "ee0677a703ed266f13783ca73843b59fdc19ca1f2cc09b96c16bdd41f5a4f79b", func := "demurrage/demurragelaw.MarginNothing", spec := "marginNothing", unfollowed := true, recurses := true, named := ["math/bits.divideError", "math/bits.overflowError"], apart := false, narrowed := true }
def MarginNothingUptoSaid : Prop := marginNothingUptoRow.holds Try.pinned (OpenSpec.upto marginNothingSpec)

end Rows
end Go.Proofs.Ytmmfgepmochmeaa
