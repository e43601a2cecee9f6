/-
  No cell of these rows narrows 'for every input' (looked for: loops, veiled, ifaces, maps, wideKeys, modest, calm, conditions, laid).
  DERIVED. THE GIVEN ROWS OF THIS SEAT. 8 by the template 'for every input the law returns true; each argument reads behind the call as it read before'; 0 by the template 'total and deterministic' (their statements: YtbllokemalclbaaTotals.lean).
  GIVEN WITH THE SEED: the statements are not yours to turn. If you find one false, say at which input.
  Laid BY PROGRAM, IN A SANDBOX (cutbox-rows.mjs): the forced cells as the released guide's own fill.sh prints them over the translation ec2bf990c1f6ccf0… (all of the seat's roots in one cut). By AI agents, Wed Nov 11 2026. No macro, syntax, notation, axiom, sorry.
-/
import Derived.Test.YtbllokemalclbaaChecked
import GoSem.Claim
import GoSem.ClaimJoined
import GoSem.ClaimMapViews
import Derived.JoinedTies
import Derived.KernelRfl
namespace Go.Proofs.Ytbllokemalclbaa
/- THE CELL 'sum', in the pinned program and in every row, IS THE sha256 OF THE DUMP (.gsa) THAT YtbllokemalclbaaProg.lean LOADS. Nothing in Lean hashes anything: it is a label: what it is worth is what the hold of that sum in a sandbox is worth. -/
noncomputable def Try.pinned : Pinned := { name := "ytbllokemalclbaa", sum := "ec2bf990c1f6ccf0b6b58131069449b295c8359e8ae31c182c8c4bb9cb5cf9be", checked := Try.checked }
namespace Rows
def none {H : Type} : Left H := { results := [], args := [] }

/-- 'demurragelaw.MoneyTells': WHATEVER THE INPUT: true; the input reads as it did. -/
def moneyTellsSpec : ChangeSpec := { name := "moneyTells", fn := fun _ => fun
  | [d1, d2, d3, d4] => { results := [.lit (.bool true)], args := [d1, d2, d3, d4] }
  | _ => none }
def moneyTellsRow : OpenClaim := { program := "ytbllokemalclbaa", sum := "ec2bf990c1f6ccf0b6b58131069449b295c8359e8ae31c182c8c4bb9cb5cf9be", func := "demurrage/demurragelaw.MoneyTells", spec := "moneyTells", named := ["math/bits.divideError", "math/bits.overflowError"], apart := false }
def MoneyTellsSaid : Prop := moneyTellsRow.holds Try.pinned (OpenSpec.ofChange moneyTellsSpec)

/-- ITS FALSE NEIGHBOUR: 'it returns false'. Refute it at one input. -/
def moneyTellsWrong : ChangeSpec := { name := "moneyTells", fn := fun _ => fun
  | [d1, d2, d3, d4] => { results := [.lit (.bool false)], args := [d1, d2, d3, d4] }
  | _ => none }
def MoneyTellsWrongFalsely : Prop := moneyTellsRow.holds Try.pinned (OpenSpec.ofChange moneyTellsWrong)

/-- 'demurragelaw.MoneyAdds': WHATEVER THE INPUT: true; the input reads as it did. -/
def moneyAddsSpec : ChangeSpec := { name := "moneyAdds", fn := fun _ => fun
  | [d1, d2, d3] => { results := [.lit (.bool true)], args := [d1, d2, d3] }
  | _ => none }
def moneyAddsRow : OpenClaim := { program := "ytbllokemalclbaa", sum := "ec2bf990c1f6ccf0b6b58131069449b295c8359e8ae31c182c8c4bb9cb5cf9be", func := "demurrage/demurragelaw.MoneyAdds", spec := "moneyAdds", named := ["math/bits.divideError", "math/bits.overflowError"], apart := false }
def MoneyAddsSaid : Prop := moneyAddsRow.holds Try.pinned (OpenSpec.ofChange moneyAddsSpec)

/-- ITS FALSE NEIGHBOUR: 'it returns false'. Refute it at one input. -/
def moneyAddsWrong : ChangeSpec := { name := "moneyAdds", fn := fun _ => fun
  | [d1, d2, d3] => { results := [.lit (.bool false)], args := [d1, d2, d3] }
  | _ => none }
def MoneyAddsWrongFalsely : Prop := moneyAddsRow.holds Try.pinned (OpenSpec.ofChange moneyAddsWrong)

/-- 'demurragelaw.MoneyRest': WHATEVER THE INPUT: true; the input reads as it did. -/
def moneyRestSpec : ChangeSpec := { name := "moneyRest", fn := fun _ => fun
  | [d1, d2, d3] => { results := [.lit (.bool true)], args := [d1, d2, d3] }
  | _ => none }
def moneyRestRow : OpenClaim := { program := "ytbllokemalclbaa", sum := "ec2bf990c1f6ccf0b6b58131069449b295c8359e8ae31c182c8c4bb9cb5cf9be", func := "demurrage/demurragelaw.MoneyRest", spec := "moneyRest", named := ["math/bits.divideError", "math/bits.overflowError"], apart := false }
def MoneyRestSaid : Prop := moneyRestRow.holds Try.pinned (OpenSpec.ofChange moneyRestSpec)

/-- ITS FALSE NEIGHBOUR: 'it returns false'. Refute it at one input. -/
def moneyRestWrong : ChangeSpec := { name := "moneyRest", fn := fun _ => fun
  | [d1, d2, d3] => { results := [.lit (.bool false)], args := [d1, d2, d3] }
  | _ => none }
def MoneyRestWrongFalsely : Prop := moneyRestRow.holds Try.pinned (OpenSpec.ofChange moneyRestWrong)

/-- 'demurragelaw.MoneyRises': WHATEVER THE INPUT: true; the input reads as it did. -/
def moneyRisesSpec : ChangeSpec := { name := "moneyRises", fn := fun _ => fun
  | [d1, d2, d3, d4] => { results := [.lit (.bool true)], args := [d1, d2, d3, d4] }
  | _ => none }
def moneyRisesRow : OpenClaim := { program := "ytbllokemalclbaa", sum := "ec2bf990c1f6ccf0b6b58131069449b295c8359e8ae31c182c8c4bb9cb5cf9be", func := "demurrage/demurragelaw.MoneyRises", spec := "moneyRises", named := ["math/bits.divideError", "math/bits.overflowError"], apart := false }
def MoneyRisesSaid : Prop := moneyRisesRow.holds Try.pinned (OpenSpec.ofChange moneyRisesSpec)

/-- ITS FALSE NEIGHBOUR: 'it returns false'. Refute it at one input. -/
def moneyRisesWrong : ChangeSpec := { name := "moneyRises", fn := fun _ => fun
  | [d1, d2, d3, d4] => { results := [.lit (.bool false)], args := [d1, d2, d3, d4] }
  | _ => none }
def MoneyRisesWrongFalsely : Prop := moneyRisesRow.holds Try.pinned (OpenSpec.ofChange moneyRisesWrong)

/-- 'demurragelaw.MoneyNear': WHATEVER THE INPUT: true; the input reads as it did. -/
def moneyNearSpec : ChangeSpec := { name := "moneyNear", fn := fun _ => fun
  | [d1, d2, d3] => { results := [.lit (.bool true)], args := [d1, d2, d3] }
  | _ => none }
def moneyNearRow : OpenClaim := { program := "ytbllokemalclbaa", sum := "ec2bf990c1f6ccf0b6b58131069449b295c8359e8ae31c182c8c4bb9cb5cf9be", func := "demurrage/demurragelaw.MoneyNear", spec := "moneyNear", named := ["math/bits.divideError", "math/bits.overflowError"], apart := false }
def MoneyNearSaid : Prop := moneyNearRow.holds Try.pinned (OpenSpec.ofChange moneyNearSpec)

/-- ITS FALSE NEIGHBOUR: 'it returns false'. Refute it at one input. -/
def moneyNearWrong : ChangeSpec := { name := "moneyNear", fn := fun _ => fun
  | [d1, d2, d3] => { results := [.lit (.bool false)], args := [d1, d2, d3] }
  | _ => none }
def MoneyNearWrongFalsely : Prop := moneyNearRow.holds Try.pinned (OpenSpec.ofChange moneyNearWrong)

/-- 'demurragelaw.MoneyTotal': WHATEVER THE INPUT: true; the input reads as it did. -/
def moneyTotalSpec : ChangeSpec := { name := "moneyTotal", fn := fun _ => fun
  | [d] => { results := [.lit (.bool true)], args := [d] }
  | _ => none }
def moneyTotalRow : OpenClaim := { program := "ytbllokemalclbaa", sum := "ec2bf990c1f6ccf0b6b58131069449b295c8359e8ae31c182c8c4bb9cb5cf9be", func := "demurrage/demurragelaw.MoneyTotal", spec := "moneyTotal", named := ["math/bits.divideError", "math/bits.overflowError"], apart := false }
def MoneyTotalSaid : Prop := moneyTotalRow.holds Try.pinned (OpenSpec.ofChange moneyTotalSpec)

/-- ITS FALSE NEIGHBOUR: 'it returns false'. Refute it at one input. -/
def moneyTotalWrong : ChangeSpec := { name := "moneyTotal", fn := fun _ => fun
  | [d] => { results := [.lit (.bool false)], args := [d] }
  | _ => none }
def MoneyTotalWrongFalsely : Prop := moneyTotalRow.holds Try.pinned (OpenSpec.ofChange moneyTotalWrong)

/-- 'demurragelaw.MoneyScale': WHATEVER THE INPUT: true; the input reads as it did. -/
def moneyScaleSpec : ChangeSpec := { name := "moneyScale", fn := fun _ => fun
  | [d1, d2, d3, d4] => { results := [.lit (.bool true)], args := [d1, d2, d3, d4] }
  | _ => none }
def moneyScaleRow : OpenClaim := { program := "ytbllokemalclbaa", sum := "ec2bf990c1f6ccf0b6b58131069449b295c8359e8ae31c182c8c4bb9cb5cf9be", func := "demurrage/demurragelaw.MoneyScale", spec := "moneyScale", named := ["math/bits.divideError", "math/bits.overflowError"], apart := false }
def MoneyScaleSaid : Prop := moneyScaleRow.holds Try.pinned (OpenSpec.ofChange moneyScaleSpec)

/-- ITS FALSE NEIGHBOUR: 'it returns false'. Refute it at one input. -/
def moneyScaleWrong : ChangeSpec := { name := "moneyScale", fn := fun _ => fun
  | [d1, d2, d3, d4] => { results := [.lit (.bool false)], args := [d1, d2, d3, d4] }
  | _ => none }
def MoneyScaleWrongFalsely : Prop := moneyScaleRow.holds Try.pinned (OpenSpec.ofChange moneyScaleWrong)

/-- 'demurragelaw.MoneyNest': WHATEVER THE INPUT: true; the input reads as it did. -/
def moneyNestSpec : ChangeSpec := { name := "moneyNest", fn := fun _ => fun
  | [d1, d2, d3, d4] => { results := [.lit (.bool true)], args := [d1, d2, d3, d4] }
  | _ => none }
def moneyNestRow : OpenClaim := { program := "ytbllokemalclbaa", sum := "ec2bf990c1f6ccf0b6b58131069449b295c8359e8ae31c182c8c4bb9cb5cf9be", func := "demurrage/demurragelaw.MoneyNest", spec := "moneyNest", named := ["math/bits.divideError", "math/bits.overflowError"], apart := false }
def MoneyNestSaid : Prop := moneyNestRow.holds Try.pinned (OpenSpec.ofChange moneyNestSpec)

/-- ITS FALSE NEIGHBOUR: 'it returns false'. Refute it at one input. -/
def moneyNestWrong : ChangeSpec := { name := "moneyNest", fn := fun _ => fun
  | [d1, d2, d3, d4] => { results := [.lit (.bool false)], args := [d1, d2, d3, d4] }
  | _ => none }
def MoneyNestWrongFalsely : Prop := moneyNestRow.holds Try.pinned (OpenSpec.ofChange moneyNestWrong)

/- THE SECOND FORM. 'bulk': how many values and letters a reading holds, each counted each time it is reached (what is shared counts as often as it is met; a slice's spare places count too). A statement '..UptoSaid' is the law's where the arguments, and the package variables that the reading takes, are together of bulk at most 1048576: NARROWER than '..Said'. Prove '..Said' where nothing that the law and all that it calls make is longer than what came in: it says more and counts as full. Else prove '..UptoSaid'. A law counts once. -/
mutual
def uptoBulk {H : Type} : DataW H → Nat
  | .lit (.string bytes) => bytes.length + 1
  | .lit _ => 1
  | .nil => 1
  | .ptr d => uptoBulk d + 1
  | .slice elems spare => uptoBulkAll elems + uptoBulkAll spare + 1
  | .agg parts => uptoBulkAll parts + 1
  | .iface _ d => uptoBulk d + 1
  | .map entries => uptoBulkEntries entries + 1
  | .held _ => 1
def uptoBulkAll {H : Type} : List (DataW H) → Nat
  | [] => 0
  | d :: r => uptoBulk d + uptoBulkAll r
def uptoBulkEntries {H : Type} : List (Lit × DataW H) → Nat
  | [] => 0
  | x :: r => uptoBulkEntry x + uptoBulkEntries r
def uptoBulkEntry {H : Type} : Lit × DataW H → Nat
  | (.string bytes, d) => bytes.length + uptoBulk d + 1
  | (_, d) => uptoBulk d + 1
 end
def uptoSmall : (H : Type) → List (DataW H) → Bool := fun _ ds => decide (uptoBulkAll ds ≤ 1048576)
def OpenSpec.upto (s : _root_.Go.ChangeSpec) : _root_.Go.OpenSpec := { _root_.Go.OpenSpec.ofChange s with cond := some uptoSmall }

/-- 'demurragelaw.MoneyTells', WHERE WHAT IT READS IS OF BULK AT MOST 1048576: true; the input reads as it did. -/
def moneyTellsUptoRow : OpenClaim := { program := "ytbllokemalclbaa", sum := "ec2bf990c1f6ccf0b6b58131069449b295c8359e8ae31c182c8c4bb9cb5cf9be", func := "demurrage/demurragelaw.MoneyTells", spec := "moneyTells", named := ["math/bits.divideError", "math/bits.overflowError"], apart := false, narrowed := true }
def MoneyTellsUptoSaid : Prop := moneyTellsUptoRow.holds Try.pinned (OpenSpec.upto moneyTellsSpec)

/-- 'demurragelaw.MoneyAdds', WHERE WHAT IT READS IS OF BULK AT MOST 1048576: true; the input reads as it did. -/
def moneyAddsUptoRow : OpenClaim := { program := "ytbllokemalclbaa", sum := "ec2bf990c1f6ccf0b6b58131069449b295c8359e8ae31c182c8c4bb9cb5cf9be", func := "demurrage/demurragelaw.MoneyAdds", spec := "moneyAdds", named := ["math/bits.divideError", "math/bits.overflowError"], apart := false, narrowed := true }
def MoneyAddsUptoSaid : Prop := moneyAddsUptoRow.holds Try.pinned (OpenSpec.upto moneyAddsSpec)

/-- 'demurragelaw.MoneyRest', WHERE WHAT IT READS IS OF BULK AT MOST 1048576: true; the input reads as it did. -/
def moneyRestUptoRow : OpenClaim := { program := "ytbllokemalclbaa", sum := "ec2bf990c1f6ccf0b6b58131069449b295c8359e8ae31c182c8c4bb9cb5cf9be", func := "demurrage/demurragelaw.MoneyRest", spec := "moneyRest", named := ["math/bits.divideError", "math/bits.overflowError"], apart := false, narrowed := true }
def MoneyRestUptoSaid : Prop := moneyRestUptoRow.holds Try.pinned (OpenSpec.upto moneyRestSpec)

/-- 'demurragelaw.MoneyRises', WHERE WHAT IT READS IS OF BULK AT MOST 1048576: true; the input reads as it did. -/
def moneyRisesUptoRow : OpenClaim := { program := "ytbllokemalclbaa", sum := "ec2bf990c1f6ccf0b6b58131069449b295c8359e8ae31c182c8c4bb9cb5cf9be", func := "demurrage/demurragelaw.MoneyRises", spec := "moneyRises", named := ["math/bits.divideError", "math/bits.overflowError"], apart := false, narrowed := true }
def MoneyRisesUptoSaid : Prop := moneyRisesUptoRow.holds Try.pinned (OpenSpec.upto moneyRisesSpec)

/-- 'demurragelaw.MoneyNear', WHERE WHAT IT READS IS OF BULK AT MOST 1048576: true; the input reads as it did. -/
def moneyNearUptoRow : OpenClaim := { program := "ytbllokemalclbaa", sum := "ec2bf990c1f6ccf0b6b58131069449b295c8359e8ae31c182c8c4bb9cb5cf9be", func := "demurrage/demurragelaw.MoneyNear", spec := "moneyNear", named := ["math/bits.divideError", "math/bits.overflowError"], apart := false, narrowed := true }
def MoneyNearUptoSaid : Prop := moneyNearUptoRow.holds Try.pinned (OpenSpec.upto moneyNearSpec)

/-- 'demurragelaw.MoneyTotal', WHERE WHAT IT READS IS OF BULK AT MOST 1048576: true; the input reads as it did. -/
def moneyTotalUptoRow : OpenClaim := { program := "ytbllokemalclbaa", sum := "ec2bf990c1f6ccf0b6b58131069449b295c8359e8ae31c182c8c4bb9cb5cf9be", func := "demurrage/demurragelaw.MoneyTotal", spec := "moneyTotal", named := ["math/bits.divideError", "math/bits.overflowError"], apart := false, narrowed := true }
def MoneyTotalUptoSaid : Prop := moneyTotalUptoRow.holds Try.pinned (OpenSpec.upto moneyTotalSpec)

/-- 'demurragelaw.MoneyScale', WHERE WHAT IT READS IS OF BULK AT MOST 1048576: true; the input reads as it did. -/
def moneyScaleUptoRow : OpenClaim := { program := "ytbllokemalclbaa", sum := "ec2bf990c1f6ccf0b6b58131069449b295c8359e8ae31c182c8c4bb9cb5cf9be", func := "demurrage/demurragelaw.MoneyScale", spec := "moneyScale", named := ["math/bits.divideError", "math/bits.overflowError"], apart := false, narrowed := true }
def MoneyScaleUptoSaid : Prop := moneyScaleUptoRow.holds Try.pinned (OpenSpec.upto moneyScaleSpec)

/-- 'demurragelaw.MoneyNest', WHERE WHAT IT READS IS OF BULK AT MOST 1048576: true; the input reads as it did. -/
def moneyNestUptoRow : OpenClaim := { program := "ytbllokemalclbaa", sum := "ec2bf990c1f6ccf0b6b58131069449b295c8359e8ae31c182c8c4bb9cb5cf9be", func := "demurrage/demurragelaw.MoneyNest", spec := "moneyNest", named := ["math/bits.divideError", "math/bits.overflowError"], apart := false, narrowed := true }
def MoneyNestUptoSaid : Prop := moneyNestUptoRow.holds Try.pinned (OpenSpec.upto moneyNestSpec)

end Rows
end Go.Proofs.Ytbllokemalclbaa
