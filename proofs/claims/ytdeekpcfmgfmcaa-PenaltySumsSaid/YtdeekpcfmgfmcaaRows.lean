/-
  No cell of these rows narrows 'for every input' (looked for: loops, veiled, ifaces, maps, wideKeys, modest, calm, conditions, laid).
  DERIVED. THE GIVEN ROWS OF THIS SEAT. 6 by the template 'for every input the law returns true; each argument reads behind the call as it read before'; 0 by the template 'total and deterministic' (their statements: YtdeekpcfmgfmcaaTotals.lean).
  GIVEN WITH THE SEED: the statements are not yours to turn. If you find one false, say at which input.
  Laid BY PROGRAM, IN A SANDBOX (cutbox-rows.mjs): the forced cells as the released guide's own fill.sh prints them over the translation cd42ec373574b46d… (all of the seat's roots in one cut). By AI agents, Wed Nov 11 2026. No macro, syntax, notation, axiom, sorry.
-/
import Derived.Test.YtdeekpcfmgfmcaaChecked
import GoSem.Claim
import GoSem.ClaimJoined
import GoSem.ClaimMapViews
import Derived.JoinedTies
import Derived.KernelRfl
namespace Go.Proofs.Ytdeekpcfmgfmcaa
/- THE CELL 'sum', in the pinned program and in every row, IS THE sha256 OF THE DUMP (.gsa) THAT YtdeekpcfmgfmcaaProg.lean LOADS. Nothing in Lean hashes anything: it is a label: what it is worth is what the hold of that sum in a sandbox is worth. -/
noncomputable def Try.pinned : Pinned := { name := "ytdeekpcfmgfmcaa", sum := "cd42ec373574b46dc3aea6e386bfe42f9d9afd8133912cea8579f3b627310fbd", checked := Try.checked }
namespace Rows
def none {H : Type} : Left H := { results := [], args := [] }

/-- 'demurragelaw.PenaltyTells': WHATEVER THE INPUT: true; the input reads as it did. -/
def penaltyTellsSpec : ChangeSpec := { name := "penaltyTells", fn := fun _ => fun
  | [d1, d2, d3, d4, d5, d6, d7, d8] => { results := [.lit (.bool true)], args := [d1, d2, d3, d4, d5, d6, d7, d8] }
  | _ => none }
def penaltyTellsRow : OpenClaim := { program := "ytdeekpcfmgfmcaa", sum := "cd42ec373574b46dc3aea6e386bfe42f9d9afd8133912cea8579f3b627310fbd", func := "demurrage/demurragelaw.PenaltyTells", spec := "penaltyTells", unfollowed := true, recurses := true, named := ["math/bits.divideError", "math/bits.overflowError"], apart := false }
def PenaltyTellsSaid : Prop := penaltyTellsRow.holds Try.pinned (OpenSpec.ofChange penaltyTellsSpec)

/-- ITS FALSE NEIGHBOUR: 'it returns false'. Refute it at one input. -/
def penaltyTellsWrong : ChangeSpec := { name := "penaltyTells", fn := fun _ => fun
  | [d1, d2, d3, d4, d5, d6, d7, d8] => { results := [.lit (.bool false)], args := [d1, d2, d3, d4, d5, d6, d7, d8] }
  | _ => none }
def PenaltyTellsWrongFalsely : Prop := penaltyTellsRow.holds Try.pinned (OpenSpec.ofChange penaltyTellsWrong)

/-- 'demurragelaw.PenaltyRises': WHATEVER THE INPUT: true; the input reads as it did. -/
def penaltyRisesSpec : ChangeSpec := { name := "penaltyRises", fn := fun _ => fun
  | [d1, d2, d3, d4] => { results := [.lit (.bool true)], args := [d1, d2, d3, d4] }
  | _ => none }
def penaltyRisesRow : OpenClaim := { program := "ytdeekpcfmgfmcaa", sum := "cd42ec373574b46dc3aea6e386bfe42f9d9afd8133912cea8579f3b627310fbd", func := "demurrage/demurragelaw.PenaltyRises", spec := "penaltyRises", unfollowed := true, recurses := true, named := ["math/bits.divideError", "math/bits.overflowError"], apart := false }
def PenaltyRisesSaid : Prop := penaltyRisesRow.holds Try.pinned (OpenSpec.ofChange penaltyRisesSpec)

/-- ITS FALSE NEIGHBOUR: 'it returns false'. Refute it at one input. -/
def penaltyRisesWrong : ChangeSpec := { name := "penaltyRises", fn := fun _ => fun
  | [d1, d2, d3, d4] => { results := [.lit (.bool false)], args := [d1, d2, d3, d4] }
  | _ => none }
def PenaltyRisesWrongFalsely : Prop := penaltyRisesRow.holds Try.pinned (OpenSpec.ofChange penaltyRisesWrong)

/-- 'demurragelaw.PenaltyEach': WHATEVER THE INPUT: true; the input reads as it did. -/
def penaltyEachSpec : ChangeSpec := { name := "penaltyEach", fn := fun _ => fun
  | [d1, d2, d3, d4, d5, d6] => { results := [.lit (.bool true)], args := [d1, d2, d3, d4, d5, d6] }
  | _ => none }
def penaltyEachRow : OpenClaim := { program := "ytdeekpcfmgfmcaa", sum := "cd42ec373574b46dc3aea6e386bfe42f9d9afd8133912cea8579f3b627310fbd", func := "demurrage/demurragelaw.PenaltyEach", spec := "penaltyEach", unfollowed := true, recurses := true, named := ["math/bits.divideError", "math/bits.overflowError"], apart := false }
def PenaltyEachSaid : Prop := penaltyEachRow.holds Try.pinned (OpenSpec.ofChange penaltyEachSpec)

/-- ITS FALSE NEIGHBOUR: 'it returns false'. Refute it at one input. -/
def penaltyEachWrong : ChangeSpec := { name := "penaltyEach", fn := fun _ => fun
  | [d1, d2, d3, d4, d5, d6] => { results := [.lit (.bool false)], args := [d1, d2, d3, d4, d5, d6] }
  | _ => none }
def PenaltyEachWrongFalsely : Prop := penaltyEachRow.holds Try.pinned (OpenSpec.ofChange penaltyEachWrong)

/-- 'demurragelaw.PenaltyOnly': WHATEVER THE INPUT: true; the input reads as it did. -/
def penaltyOnlySpec : ChangeSpec := { name := "penaltyOnly", fn := fun _ => fun
  | [d1, d2, d3, d4, d5] => { results := [.lit (.bool true)], args := [d1, d2, d3, d4, d5] }
  | _ => none }
def penaltyOnlyRow : OpenClaim := { program := "ytdeekpcfmgfmcaa", sum := "cd42ec373574b46dc3aea6e386bfe42f9d9afd8133912cea8579f3b627310fbd", func := "demurrage/demurragelaw.PenaltyOnly", spec := "penaltyOnly", unfollowed := true, recurses := true, named := ["math/bits.divideError", "math/bits.overflowError"], apart := false }
def PenaltyOnlySaid : Prop := penaltyOnlyRow.holds Try.pinned (OpenSpec.ofChange penaltyOnlySpec)

/-- ITS FALSE NEIGHBOUR: 'it returns false'. Refute it at one input. -/
def penaltyOnlyWrong : ChangeSpec := { name := "penaltyOnly", fn := fun _ => fun
  | [d1, d2, d3, d4, d5] => { results := [.lit (.bool false)], args := [d1, d2, d3, d4, d5] }
  | _ => none }
def PenaltyOnlyWrongFalsely : Prop := penaltyOnlyRow.holds Try.pinned (OpenSpec.ofChange penaltyOnlyWrong)

/-- 'demurragelaw.PenaltyLess': WHATEVER THE INPUT: true; the input reads as it did. -/
def penaltyLessSpec : ChangeSpec := { name := "penaltyLess", fn := fun _ => fun
  | [d1, d2, d3, d4, d5, d6] => { results := [.lit (.bool true)], args := [d1, d2, d3, d4, d5, d6] }
  | _ => none }
def penaltyLessRow : OpenClaim := { program := "ytdeekpcfmgfmcaa", sum := "cd42ec373574b46dc3aea6e386bfe42f9d9afd8133912cea8579f3b627310fbd", func := "demurrage/demurragelaw.PenaltyLess", spec := "penaltyLess", unfollowed := true, recurses := true, named := ["math/bits.divideError", "math/bits.overflowError"], apart := false }
def PenaltyLessSaid : Prop := penaltyLessRow.holds Try.pinned (OpenSpec.ofChange penaltyLessSpec)

/-- ITS FALSE NEIGHBOUR: 'it returns false'. Refute it at one input. -/
def penaltyLessWrong : ChangeSpec := { name := "penaltyLess", fn := fun _ => fun
  | [d1, d2, d3, d4, d5, d6] => { results := [.lit (.bool false)], args := [d1, d2, d3, d4, d5, d6] }
  | _ => none }
def PenaltyLessWrongFalsely : Prop := penaltyLessRow.holds Try.pinned (OpenSpec.ofChange penaltyLessWrong)

/-- 'demurragelaw.PenaltySums': WHATEVER THE INPUT: true; the input reads as it did. -/
def penaltySumsSpec : ChangeSpec := { name := "penaltySums", fn := fun _ => fun
  | [d] => { results := [.lit (.bool true)], args := [d] }
  | _ => none }
def penaltySumsRow : OpenClaim := { program := "ytdeekpcfmgfmcaa", sum := "cd42ec373574b46dc3aea6e386bfe42f9d9afd8133912cea8579f3b627310fbd", func := "demurrage/demurragelaw.PenaltySums", spec := "penaltySums", unfollowed := true, recurses := true, named := ["math/bits.divideError", "math/bits.overflowError"], apart := false }
def PenaltySumsSaid : Prop := penaltySumsRow.holds Try.pinned (OpenSpec.ofChange penaltySumsSpec)

/-- ITS FALSE NEIGHBOUR: 'it returns false'. Refute it at one input. -/
def penaltySumsWrong : ChangeSpec := { name := "penaltySums", fn := fun _ => fun
  | [d] => { results := [.lit (.bool false)], args := [d] }
  | _ => none }
def PenaltySumsWrongFalsely : Prop := penaltySumsRow.holds Try.pinned (OpenSpec.ofChange penaltySumsWrong)

/- THE SECOND FORM. 'bulk': how many values and letters a reading holds, each counted each time it is reached (what is shared counts as often as it is met; a slice's spare places count too). A statement '..UptoSaid' is the law's where the arguments, and the package variables that the reading takes, are together of bulk at most 1048576: NARROWER than '..Said'. Prove '..Said' where nothing that the law and all that it calls make is longer than what came in: it says more and counts as full. Else prove '..UptoSaid'. A law counts once. -/
mutual
def uptoBulk {H : Type} : DataW H → Nat
  | .lit (.string bytes) => bytes.length + 1
  | .lit _ => 1
  | .nil => 1
  | .ptr d => uptoBulk d + 1
  | .slice elems spare => uptoBulkAll elems + uptoBulkAll spare + 1
  | .agg parts => uptoBulkAll parts + 1
  | .iface _ d => uptoBulk d + 1
  | .map entries => uptoBulkEntries entries + 1
  | .held _ => 1
def uptoBulkAll {H : Type} : List (DataW H) → Nat
  | [] => 0
  | d :: r => uptoBulk d + uptoBulkAll r
def uptoBulkEntries {H : Type} : List (Lit × DataW H) → Nat
  | [] => 0
  | x :: r => uptoBulkEntry x + uptoBulkEntries r
def uptoBulkEntry {H : Type} : Lit × DataW H → Nat
  | (.string bytes, d) => bytes.length + uptoBulk d + 1
  | (_, d) => uptoBulk d + 1
 end
def uptoSmall : (H : Type) → List (DataW H) → Bool := fun _ ds => decide (uptoBulkAll ds ≤ 1048576)
def OpenSpec.upto (s : _root_.Go.ChangeSpec) : _root_.Go.OpenSpec := { _root_.Go.OpenSpec.ofChange s with cond := some uptoSmall }

/-- 'demurragelaw.PenaltyTells', WHERE WHAT IT READS IS OF BULK AT MOST 1048576: true; the input reads as it did. -/
def penaltyTellsUptoRow : OpenClaim := { program := "ytdeekpcfmgfmcaa", sum := "cd42ec373574b46dc3aea6e386bfe42f9d9afd8133912cea8579f3b627310fbd", func := "demurrage/demurragelaw.PenaltyTells", spec := "penaltyTells", unfollowed := true, recurses := true, named := ["math/bits.divideError", "math/bits.overflowError"], apart := false, narrowed := true }
def PenaltyTellsUptoSaid : Prop := penaltyTellsUptoRow.holds Try.pinned (OpenSpec.upto penaltyTellsSpec)

/-- 'demurragelaw.PenaltyRises', WHERE WHAT IT READS IS OF BULK AT MOST 1048576: true; the input reads as it did. -/
def penaltyRisesUptoRow : OpenClaim := { program := "ytdeekpcfmgfmcaa", sum := "cd42ec373574b46dc3aea6e386bfe42f9d9afd8133912cea8579f3b627310fbd", func := "demurrage/demurragelaw.PenaltyRises", spec := "penaltyRises", unfollowed := true, recurses := true, named := ["math/bits.divideError", "math/bits.overflowError"], apart := false, narrowed := true }
def PenaltyRisesUptoSaid : Prop := penaltyRisesUptoRow.holds Try.pinned (OpenSpec.upto penaltyRisesSpec)

/-- 'demurragelaw.PenaltyEach', WHERE WHAT IT READS IS OF BULK AT MOST 1048576: true; the input reads as it did. -/
def penaltyEachUptoRow : OpenClaim := { program := "ytdeekpcfmgfmcaa", sum := "cd42ec373574b46dc3aea6e386bfe42f9d9afd8133912cea8579f3b627310fbd", func := "demurrage/demurragelaw.PenaltyEach", spec := "penaltyEach", unfollowed := true, recurses := true, named := ["math/bits.divideError", "math/bits.overflowError"], apart := false, narrowed := true }
def PenaltyEachUptoSaid : Prop := penaltyEachUptoRow.holds Try.pinned (OpenSpec.upto penaltyEachSpec)

/-- 'demurragelaw.PenaltyOnly', WHERE WHAT IT READS IS OF BULK AT MOST 1048576: true; the input reads as it did. -/
def penaltyOnlyUptoRow : OpenClaim := { program := "ytdeekpcfmgfmcaa", sum := "cd42ec373574b46dc3aea6e386bfe42f9d9afd8133912cea8579f3b627310fbd", func := "demurrage/demurragelaw.PenaltyOnly", spec := "penaltyOnly", unfollowed := true, recurses := true, named := ["math/bits.divideError", "math/bits.overflowError"], apart := false, narrowed := true }
def PenaltyOnlyUptoSaid : Prop := penaltyOnlyUptoRow.holds Try.pinned (OpenSpec.upto penaltyOnlySpec)

/-- 'demurragelaw.PenaltyLess', WHERE WHAT IT READS IS OF BULK AT MOST 1048576: true; the input reads as it did. -/
def penaltyLessUptoRow : OpenClaim := { program := "ytdeekpcfmgfmcaa", sum := "cd42ec373574b46dc3aea6e386bfe42f9d9afd8133912cea8579f3b627310fbd", func := "demurrage/demurragelaw.PenaltyLess", spec := "penaltyLess", unfollowed := true, recurses := true, named := ["math/bits.divideError", "math/bits.overflowError"], apart := false, narrowed := true }
def PenaltyLessUptoSaid : Prop := penaltyLessUptoRow.holds Try.pinned (OpenSpec.upto penaltyLessSpec)

/-- 'demurragelaw.PenaltySums', WHERE WHAT IT READS IS OF BULK AT MOST 1048576: true; the input reads as it did. -/
def penaltySumsUptoRow : OpenClaim := { program := "ytdeekpcfmgfmcaa", sum := "cd42ec373574b46dc3aea6e386bfe42f9d9afd8133912cea8579f3b627310fbd", func := "demurrage/demurragelaw.PenaltySums", spec := "penaltySums", unfollowed := true, recurses := true, named := ["math/bits.divideError", "math/bits.overflowError"], apart := false, narrowed := true }
def PenaltySumsUptoSaid : Prop := penaltySumsUptoRow.holds Try.pinned (OpenSpec.upto penaltySumsSpec)

end Rows
end Go.Proofs.Ytdeekpcfmgfmcaa
