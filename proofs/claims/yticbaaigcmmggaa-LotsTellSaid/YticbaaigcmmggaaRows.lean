/-
  No cell of these rows narrows 'for every input' (looked for: loops, veiled, ifaces, maps, wideKeys, modest, calm, conditions, laid).
  DERIVED. THE GIVEN ROWS OF THIS SEAT. 6 by the template 'for every input the law returns true; each argument reads behind the call as it read before'; 0 by the template 'total and deterministic' (their statements: YticbaaigcmmggaaTotals.lean).
  GIVEN WITH THE SEED: the statements are not yours to turn. If you find one false, say at which input.
  Laid BY PROGRAM, IN A SANDBOX (cutbox-rows.mjs): the forced cells as the released guide's own fill.sh prints them over the translation 89c88b0886371720… (all of the seat's roots in one cut). By AI agents, Wed Nov 11 2026. No macro, syntax, notation, axiom, sorry.
-/
import Derived.Test.YticbaaigcmmggaaChecked
import GoSem.Claim
import GoSem.ClaimJoined
import GoSem.ClaimMapViews
import Derived.JoinedTies
import Derived.KernelRfl
namespace Go.Proofs.Yticbaaigcmmggaa
/- THE CELL 'sum', in the pinned program and in every row, IS THE sha256 OF THE DUMP (.gsa) THAT YticbaaigcmmggaaProg.lean LOADS. Nothing in Lean hashes anything: it is a label: what it is worth is what the hold of that sum in a sandbox is worth. -/
noncomputable def Try.pinned : Pinned := { name := "yticbaaigcmmggaa", sum := "89c88b0886371720adfe0d155e542a6bc7584a52821df78fe835437767be06bf", checked := Try.checked }
namespace Rows
def none {H : Type} : Left H := { results := [], args := [] }

/-- 'demurragelaw.LotsTell': WHATEVER THE INPUT: true; the input reads as it did. -/
def lotsTellSpec : ChangeSpec := { name := "lotsTell", fn := fun _ => fun
  | [d1, d2, d3, d4] => { results := [.lit (.bool true)], args := [d1, d2, d3, d4] }
  | _ => none }
def lotsTellRow : OpenClaim := { program := "yticbaaigcmmggaa", sum := "89c88b0886371720adfe0d155e542a6bc7584a52821df78fe835437767be06bf", func := "demurrage/demurragelaw.LotsTell", spec := "lotsTell", unfollowed := true, recurses := true, named := ["math/bits.divideError", "math/bits.overflowError"], apart := false }
def LotsTellSaid : Prop := lotsTellRow.holds Try.pinned (OpenSpec.ofChange lotsTellSpec)

/-- ITS FALSE NEIGHBOUR: 'it returns false'. Refute it at one input. -/
def lotsTellWrong : ChangeSpec := { name := "lotsTell", fn := fun _ => fun
  | [d1, d2, d3, d4] => { results := [.lit (.bool false)], args := [d1, d2, d3, d4] }
  | _ => none }
def LotsTellWrongFalsely : Prop := lotsTellRow.holds Try.pinned (OpenSpec.ofChange lotsTellWrong)

/-- 'demurragelaw.LotsKeep': WHATEVER THE INPUT: true; the input reads as it did. -/
def lotsKeepSpec : ChangeSpec := { name := "lotsKeep", fn := fun _ => fun
  | [d1, d2, d3] => { results := [.lit (.bool true)], args := [d1, d2, d3] }
  | _ => none }
def lotsKeepRow : OpenClaim := { program := "yticbaaigcmmggaa", sum := "89c88b0886371720adfe0d155e542a6bc7584a52821df78fe835437767be06bf", func := "demurrage/demurragelaw.LotsKeep", spec := "lotsKeep", unfollowed := true, recurses := true, named := ["math/bits.divideError", "math/bits.overflowError"], apart := false }
def LotsKeepSaid : Prop := lotsKeepRow.holds Try.pinned (OpenSpec.ofChange lotsKeepSpec)

/-- ITS FALSE NEIGHBOUR: 'it returns false'. Refute it at one input. -/
def lotsKeepWrong : ChangeSpec := { name := "lotsKeep", fn := fun _ => fun
  | [d1, d2, d3] => { results := [.lit (.bool false)], args := [d1, d2, d3] }
  | _ => none }
def LotsKeepWrongFalsely : Prop := lotsKeepRow.holds Try.pinned (OpenSpec.ofChange lotsKeepWrong)

/-- 'demurragelaw.LotsBack': WHATEVER THE INPUT: true; the input reads as it did. -/
def lotsBackSpec : ChangeSpec := { name := "lotsBack", fn := fun _ => fun
  | [d1, d2] => { results := [.lit (.bool true)], args := [d1, d2] }
  | _ => none }
def lotsBackRow : OpenClaim := { program := "yticbaaigcmmggaa", sum := "89c88b0886371720adfe0d155e542a6bc7584a52821df78fe835437767be06bf", func := "demurrage/demurragelaw.LotsBack", spec := "lotsBack", unfollowed := true, recurses := true, named := ["math/bits.divideError", "math/bits.overflowError"], apart := false }
def LotsBackSaid : Prop := lotsBackRow.holds Try.pinned (OpenSpec.ofChange lotsBackSpec)

/-- ITS FALSE NEIGHBOUR: 'it returns false'. Refute it at one input. -/
def lotsBackWrong : ChangeSpec := { name := "lotsBack", fn := fun _ => fun
  | [d1, d2] => { results := [.lit (.bool false)], args := [d1, d2] }
  | _ => none }
def LotsBackWrongFalsely : Prop := lotsBackRow.holds Try.pinned (OpenSpec.ofChange lotsBackWrong)

/-- 'demurragelaw.LotsParts': WHATEVER THE INPUT: true; the input reads as it did. -/
def lotsPartsSpec : ChangeSpec := { name := "lotsParts", fn := fun _ => fun
  | [d1, d2, d3, d4] => { results := [.lit (.bool true)], args := [d1, d2, d3, d4] }
  | _ => none }
def lotsPartsRow : OpenClaim := { program := "yticbaaigcmmggaa", sum := "89c88b0886371720adfe0d155e542a6bc7584a52821df78fe835437767be06bf", func := "demurrage/demurragelaw.LotsParts", spec := "lotsParts", unfollowed := true, recurses := true, named := ["math/bits.divideError", "math/bits.overflowError"], apart := false }
def LotsPartsSaid : Prop := lotsPartsRow.holds Try.pinned (OpenSpec.ofChange lotsPartsSpec)

/-- ITS FALSE NEIGHBOUR: 'it returns false'. Refute it at one input. -/
def lotsPartsWrong : ChangeSpec := { name := "lotsParts", fn := fun _ => fun
  | [d1, d2, d3, d4] => { results := [.lit (.bool false)], args := [d1, d2, d3, d4] }
  | _ => none }
def LotsPartsWrongFalsely : Prop := lotsPartsRow.holds Try.pinned (OpenSpec.ofChange lotsPartsWrong)

/-- 'demurragelaw.LotsDear': WHATEVER THE INPUT: true; the input reads as it did. -/
def lotsDearSpec : ChangeSpec := { name := "lotsDear", fn := fun _ => fun
  | [d1, d2] => { results := [.lit (.bool true)], args := [d1, d2] }
  | _ => none }
def lotsDearRow : OpenClaim := { program := "yticbaaigcmmggaa", sum := "89c88b0886371720adfe0d155e542a6bc7584a52821df78fe835437767be06bf", func := "demurrage/demurragelaw.LotsDear", spec := "lotsDear", unfollowed := true, recurses := true, named := ["math/bits.divideError", "math/bits.overflowError"], apart := false }
def LotsDearSaid : Prop := lotsDearRow.holds Try.pinned (OpenSpec.ofChange lotsDearSpec)

/-- ITS FALSE NEIGHBOUR: 'it returns false'. Refute it at one input. -/
def lotsDearWrong : ChangeSpec := { name := "lotsDear", fn := fun _ => fun
  | [d1, d2] => { results := [.lit (.bool false)], args := [d1, d2] }
  | _ => none }
def LotsDearWrongFalsely : Prop := lotsDearRow.holds Try.pinned (OpenSpec.ofChange lotsDearWrong)

/-- 'demurragelaw.LotsAll': WHATEVER THE INPUT: true; the input reads as it did. -/
def lotsAllSpec : ChangeSpec := { name := "lotsAll", fn := fun _ => fun
  | [d1, d2] => { results := [.lit (.bool true)], args := [d1, d2] }
  | _ => none }
def lotsAllRow : OpenClaim := { program := "yticbaaigcmmggaa", sum := "89c88b0886371720adfe0d155e542a6bc7584a52821df78fe835437767be06bf", func := "demurrage/demurragelaw.LotsAll", spec := "lotsAll", unfollowed := true, recurses := true, named := ["math/bits.divideError", "math/bits.overflowError"], apart := false }
def LotsAllSaid : Prop := lotsAllRow.holds Try.pinned (OpenSpec.ofChange lotsAllSpec)

/-- ITS FALSE NEIGHBOUR: 'it returns false'. Refute it at one input. -/
def lotsAllWrong : ChangeSpec := { name := "lotsAll", fn := fun _ => fun
  | [d1, d2] => { results := [.lit (.bool false)], args := [d1, d2] }
  | _ => none }
def LotsAllWrongFalsely : Prop := lotsAllRow.holds Try.pinned (OpenSpec.ofChange lotsAllWrong)

/- THE SECOND FORM. 'bulk': how many values and letters a reading holds, each counted each time it is reached (what is shared counts as often as it is met; a slice's spare places count too). A statement '..UptoSaid' is the law's where the arguments, and the package variables that the reading takes, are together of bulk at most 1048576: NARROWER than '..Said'. Prove '..Said' where nothing that the law and all that it calls make is longer than what came in: it says more and counts as full. Else prove '..UptoSaid'. A law counts once. -/
mutual
def uptoBulk {H : Type} : DataW H → Nat
  | .lit (.string bytes) => bytes.length + 1
  | .lit _ => 1
  | .nil => 1
  | .ptr d => uptoBulk d + 1
  | .slice elems spare => uptoBulkAll elems + uptoBulkAll spare + 1
  | .agg parts => uptoBulkAll parts + 1
  | .iface _ d => uptoBulk d + 1
  | .map entries => uptoBulkEntries entries + 1
  | .held _ => 1
def uptoBulkAll {H : Type} : List (DataW H) → Nat
  | [] => 0
  | d :: r => uptoBulk d + uptoBulkAll r
def uptoBulkEntries {H : Type} : List (Lit × DataW H) → Nat
  | [] => 0
  | x :: r => uptoBulkEntry x + uptoBulkEntries r
def uptoBulkEntry {H : Type} : Lit × DataW H → Nat
  | (.string bytes, d) => bytes.length + uptoBulk d + 1
  | (_, d) => uptoBulk d + 1
 end
def uptoSmall : (H : Type) → List (DataW H) → Bool := fun _ ds => decide (uptoBulkAll ds ≤ 1048576)
def OpenSpec.upto (s : _root_.Go.ChangeSpec) : _root_.Go.OpenSpec := { _root_.Go.OpenSpec.ofChange s with cond := some uptoSmall }

/-- 'demurragelaw.LotsTell', WHERE WHAT IT READS IS OF BULK AT MOST 1048576: true; the input reads as it did. -/
def lotsTellUptoRow : OpenClaim := { program := "yticbaaigcmmggaa", sum := "89c88b0886371720adfe0d155e542a6bc7584a52821df78fe835437767be06bf", func := "demurrage/demurragelaw.LotsTell", spec := "lotsTell", unfollowed := true, recurses := true, named := ["math/bits.divideError", "math/bits.overflowError"], apart := false, narrowed := true }
def LotsTellUptoSaid : Prop := lotsTellUptoRow.holds Try.pinned (OpenSpec.upto lotsTellSpec)

/-- 'demurragelaw.LotsKeep', WHERE WHAT IT READS IS OF BULK AT MOST 1048576: true; the input reads as it did. -/
def lotsKeepUptoRow : OpenClaim := { program := "yticbaaigcmmggaa", sum := "89c88b0886371720adfe0d155e542a6bc7584a52821df78fe835437767be06bf", func := "demurrage/demurragelaw.LotsKeep", spec := "lotsKeep", unfollowed := true, recurses := true, named := ["math/bits.divideError", "math/bits.overflowError"], apart := false, narrowed := true }
def LotsKeepUptoSaid : Prop := lotsKeepUptoRow.holds Try.pinned (OpenSpec.upto lotsKeepSpec)

/-- 'demurragelaw.LotsBack', WHERE WHAT IT READS IS OF BULK AT MOST 1048576: true; the input reads as it did. -/
def lotsBackUptoRow : OpenClaim := { program := "yticbaaigcmmggaa", sum := "89c88b0886371720adfe0d155e542a6bc7584a52821df78fe835437767be06bf", func := "demurrage/demurragelaw.LotsBack", spec := "lotsBack", unfollowed := true, recurses := true, named := ["math/bits.divideError", "math/bits.overflowError"], apart := false, narrowed := true }
def LotsBackUptoSaid : Prop := lotsBackUptoRow.holds Try.pinned (OpenSpec.upto lotsBackSpec)

/-- 'demurragelaw.LotsParts', WHERE WHAT IT READS IS OF BULK AT MOST 1048576: true; the input reads as it did. -/
def lotsPartsUptoRow : OpenClaim := { program := "yticbaaigcmmggaa", sum := "89c88b0886371720adfe0d155e542a6bc7584a52821df78fe835437767be06bf", func := "demurrage/demurragelaw.LotsParts", spec := "lotsParts", unfollowed := true, recurses := true, named := ["math/bits.divideError", "math/bits.overflowError"], apart := false, narrowed := true }
def LotsPartsUptoSaid : Prop := lotsPartsUptoRow.holds Try.pinned (OpenSpec.upto lotsPartsSpec)

/-- 'demurragelaw.LotsDear', WHERE WHAT IT READS IS OF BULK AT MOST 1048576: true; the input reads as it did. -/
def lotsDearUptoRow : OpenClaim := { program := "yticbaaigcmmggaa", sum := "89c88b0886371720adfe0d155e542a6bc7584a52821df78fe835437767be06bf", func := "demurrage/demurragelaw.LotsDear", spec := "lotsDear", unfollowed := true, recurses := true, named := ["math/bits.divideError", "math/bits.overflowError"], apart := false, narrowed := true }
def LotsDearUptoSaid : Prop := lotsDearUptoRow.holds Try.pinned (OpenSpec.upto lotsDearSpec)

/-- 'demurragelaw.LotsAll', WHERE WHAT IT READS IS OF BULK AT MOST 1048576: true; the input reads as it did. -/
def lotsAllUptoRow : OpenClaim := { program := "yticbaaigcmmggaa", sum := "89c88b0886371720adfe0d155e542a6bc7584a52821df78fe835437767be06bf", func := "demurrage/demurragelaw.LotsAll", spec := "lotsAll", unfollowed := true, recurses := true, named := ["math/bits.divideError", "math/bits.overflowError"], apart := false, narrowed := true }
def LotsAllUptoSaid : Prop := lotsAllUptoRow.holds Try.pinned (OpenSpec.upto lotsAllSpec)

end Rows
end Go.Proofs.Yticbaaigcmmggaa
