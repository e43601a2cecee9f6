/-
  No cell of these rows narrows 'for every input' (looked for: loops, veiled, ifaces, maps, wideKeys, modest, calm, conditions, laid).
  DERIVED. THE GIVEN ROWS OF THIS SEAT. 6 by the template 'for every input the law returns true; each argument reads behind the call as it read before'; 0 by the template 'total and deterministic' (their statements: YtmbcdkgnlididaaTotals.lean).
  GIVEN WITH THE SEED: the statements are not yours to turn. If you find one false, say at which input.
  Laid BY PROGRAM, IN A SANDBOX (cutbox-rows.mjs): the forced cells as the released guide's own fill.sh prints them over the translation d5eb1e42af95a986… (all of the seat's roots in one cut). By AI agents, Wed Nov 11 2026. No macro, syntax, notation, axiom, sorry.
-/
import Derived.Test.YtmbcdkgnlididaaChecked
import GoSem.Claim
import GoSem.ClaimJoined
import GoSem.ClaimMapViews
import Derived.JoinedTies
import Derived.KernelRfl
namespace Go.Proofs.Ytmbcdkgnlididaa
/- THE CELL 'sum', in the pinned program and in every row, IS THE sha256 OF THE DUMP (.gsa) THAT YtmbcdkgnlididaaProg.lean LOADS. Nothing in Lean hashes anything: it is a label: what it is worth is what the hold of that sum in a sandbox is worth. -/
noncomputable def Try.pinned : Pinned := { name := "ytmbcdkgnlididaa", sum := "d5eb1e42af95a986762a9ba7906a9d6144e1ee8c28a111e82d0b3f50750abaf7", checked := Try.checked }
namespace Rows
def none {H : Type} : Left H := { results := [], args := [] }

/-- 'demurragelaw.GridTells': WHATEVER THE INPUT: true; the input reads as it did. -/
def gridTellsSpec : ChangeSpec := { name := "gridTells", fn := fun _ => fun
  | [d1, d2, d3] => { results := [.lit (.bool true)], args := [d1, d2, d3] }
  | _ => none }
def gridTellsRow : OpenClaim := { program := "ytmbcdkgnlididaa", sum := "d5eb1e42af95a986762a9ba7906a9d6144e1ee8c28a111e82d0b3f50750abaf7", func := "demurrage/demurragelaw.GridTells", spec := "gridTells", unfollowed := true, recurses := true, apart := false }
def GridTellsSaid : Prop := gridTellsRow.holds Try.pinned (OpenSpec.ofChange gridTellsSpec)

/-- ITS FALSE NEIGHBOUR: 'it returns false'. Refute it at one input. -/
def gridTellsWrong : ChangeSpec := { name := "gridTells", fn := fun _ => fun
  | [d1, d2, d3] => { results := [.lit (.bool false)], args := [d1, d2, d3] }
  | _ => none }
def GridTellsWrongFalsely : Prop := gridTellsRow.holds Try.pinned (OpenSpec.ofChange gridTellsWrong)

/-- 'demurragelaw.GridFair': WHATEVER THE INPUT: true; the input reads as it did. -/
def gridFairSpec : ChangeSpec := { name := "gridFair", fn := fun _ => fun
  | [d1, d2] => { results := [.lit (.bool true)], args := [d1, d2] }
  | _ => none }
def gridFairRow : OpenClaim := { program := "ytmbcdkgnlididaa", sum := "d5eb1e42af95a986762a9ba7906a9d6144e1ee8c28a111e82d0b3f50750abaf7", func := "demurrage/demurragelaw.GridFair", spec := "gridFair", unfollowed := true, recurses := true, apart := false }
def GridFairSaid : Prop := gridFairRow.holds Try.pinned (OpenSpec.ofChange gridFairSpec)

/-- ITS FALSE NEIGHBOUR: 'it returns false'. Refute it at one input. -/
def gridFairWrong : ChangeSpec := { name := "gridFair", fn := fun _ => fun
  | [d1, d2] => { results := [.lit (.bool false)], args := [d1, d2] }
  | _ => none }
def GridFairWrongFalsely : Prop := gridFairRow.holds Try.pinned (OpenSpec.ofChange gridFairWrong)

/-- 'demurragelaw.GridMost': WHATEVER THE INPUT: true; the input reads as it did. -/
def gridMostSpec : ChangeSpec := { name := "gridMost", fn := fun _ => fun
  | [d1, d2, d3] => { results := [.lit (.bool true)], args := [d1, d2, d3] }
  | _ => none }
def gridMostRow : OpenClaim := { program := "ytmbcdkgnlididaa", sum := "d5eb1e42af95a986762a9ba7906a9d6144e1ee8c28a111e82d0b3f50750abaf7", func := "demurrage/demurragelaw.GridMost", spec := "gridMost", unfollowed := true, recurses := true, apart := false }
def GridMostSaid : Prop := gridMostRow.holds Try.pinned (OpenSpec.ofChange gridMostSpec)

/-- ITS FALSE NEIGHBOUR: 'it returns false'. Refute it at one input. -/
def gridMostWrong : ChangeSpec := { name := "gridMost", fn := fun _ => fun
  | [d1, d2, d3] => { results := [.lit (.bool false)], args := [d1, d2, d3] }
  | _ => none }
def GridMostWrongFalsely : Prop := gridMostRow.holds Try.pinned (OpenSpec.ofChange gridMostWrong)

/-- 'demurragelaw.GridMore': WHATEVER THE INPUT: true; the input reads as it did. -/
def gridMoreSpec : ChangeSpec := { name := "gridMore", fn := fun _ => fun
  | [d1, d2, d3, d4] => { results := [.lit (.bool true)], args := [d1, d2, d3, d4] }
  | _ => none }
def gridMoreRow : OpenClaim := { program := "ytmbcdkgnlididaa", sum := "d5eb1e42af95a986762a9ba7906a9d6144e1ee8c28a111e82d0b3f50750abaf7", func := "demurrage/demurragelaw.GridMore", spec := "gridMore", unfollowed := true, recurses := true, apart := false }
def GridMoreSaid : Prop := gridMoreRow.holds Try.pinned (OpenSpec.ofChange gridMoreSpec)

/-- ITS FALSE NEIGHBOUR: 'it returns false'. Refute it at one input. -/
def gridMoreWrong : ChangeSpec := { name := "gridMore", fn := fun _ => fun
  | [d1, d2, d3, d4] => { results := [.lit (.bool false)], args := [d1, d2, d3, d4] }
  | _ => none }
def GridMoreWrongFalsely : Prop := gridMoreRow.holds Try.pinned (OpenSpec.ofChange gridMoreWrong)

/-- 'demurragelaw.GridRing': WHATEVER THE INPUT: true; the input reads as it did. -/
def gridRingSpec : ChangeSpec := { name := "gridRing", fn := fun _ => fun
  | [d1, d2, d3] => { results := [.lit (.bool true)], args := [d1, d2, d3] }
  | _ => none }
def gridRingRow : OpenClaim := { program := "ytmbcdkgnlididaa", sum := "d5eb1e42af95a986762a9ba7906a9d6144e1ee8c28a111e82d0b3f50750abaf7", func := "demurrage/demurragelaw.GridRing", spec := "gridRing", unfollowed := true, recurses := true, apart := false }
def GridRingSaid : Prop := gridRingRow.holds Try.pinned (OpenSpec.ofChange gridRingSpec)

/-- ITS FALSE NEIGHBOUR: 'it returns false'. Refute it at one input. -/
def gridRingWrong : ChangeSpec := { name := "gridRing", fn := fun _ => fun
  | [d1, d2, d3] => { results := [.lit (.bool false)], args := [d1, d2, d3] }
  | _ => none }
def GridRingWrongFalsely : Prop := gridRingRow.holds Try.pinned (OpenSpec.ofChange gridRingWrong)

/-- 'demurragelaw.GridRich': WHATEVER THE INPUT: true; the input reads as it did. -/
def gridRichSpec : ChangeSpec := { name := "gridRich", fn := fun _ => fun
  | [d] => { results := [.lit (.bool true)], args := [d] }
  | _ => none }
def gridRichRow : OpenClaim := { program := "ytmbcdkgnlididaa", sum := "d5eb1e42af95a986762a9ba7906a9d6144e1ee8c28a111e82d0b3f50750abaf7", func := "demurrage/demurragelaw.GridRich", spec := "gridRich", unfollowed := true, recurses := true, apart := false }
def GridRichSaid : Prop := gridRichRow.holds Try.pinned (OpenSpec.ofChange gridRichSpec)

/-- ITS FALSE NEIGHBOUR: 'it returns false'. Refute it at one input. -/
def gridRichWrong : ChangeSpec := { name := "gridRich", fn := fun _ => fun
  | [d] => { results := [.lit (.bool false)], args := [d] }
  | _ => none }
def GridRichWrongFalsely : Prop := gridRichRow.holds Try.pinned (OpenSpec.ofChange gridRichWrong)

/- THE SECOND FORM. 'bulk': how many values and letters a reading holds, each counted each time it is reached (what is shared counts as often as it is met; a slice's spare places count too). A statement '..UptoSaid' is the law's where the arguments, and the package variables that the reading takes, are together of bulk at most 1048576: NARROWER than '..Said'. Prove '..Said' where nothing that the law and all that it calls make is longer than what came in: it says more and counts as full. Else prove '..UptoSaid'. A law counts once. -/
mutual
def uptoBulk {H : Type} : DataW H → Nat
  | .lit (.string bytes) => bytes.length + 1
  | .lit _ => 1
  | .nil => 1
  | .ptr d => uptoBulk d + 1
  | .slice elems spare => uptoBulkAll elems + uptoBulkAll spare + 1
  | .agg parts => uptoBulkAll parts + 1
  | .iface _ d => uptoBulk d + 1
  | .map entries => uptoBulkEntries entries + 1
  | .held _ => 1
def uptoBulkAll {H : Type} : List (DataW H) → Nat
  | [] => 0
  | d :: r => uptoBulk d + uptoBulkAll r
def uptoBulkEntries {H : Type} : List (Lit × DataW H) → Nat
  | [] => 0
  | x :: r => uptoBulkEntry x + uptoBulkEntries r
def uptoBulkEntry {H : Type} : Lit × DataW H → Nat
  | (.string bytes, d) => bytes.length + uptoBulk d + 1
  | (_, d) => uptoBulk d + 1
 end
def uptoSmall : (H : Type) → List (DataW H) → Bool := fun _ ds => decide (uptoBulkAll ds ≤ 1048576)
def OpenSpec.upto (s : _root_.Go.ChangeSpec) : _root_.Go.OpenSpec := { _root_.Go.OpenSpec.ofChange s with cond := some uptoSmall }

/-- 'demurragelaw.GridTells', WHERE WHAT IT READS IS OF BULK AT MOST 1048576: true; the input reads as it did. -/
def gridTellsUptoRow : OpenClaim := { program := "ytmbcdkgnlididaa", sum := "d5eb1e42af95a986762a9ba7906a9d6144e1ee8c28a111e82d0b3f50750abaf7", func := "demurrage/demurragelaw.GridTells", spec := "gridTells", unfollowed := true, recurses := true, apart := false, narrowed := true }
def GridTellsUptoSaid : Prop := gridTellsUptoRow.holds Try.pinned (OpenSpec.upto gridTellsSpec)

/-- 'demurragelaw.GridFair', WHERE WHAT IT READS IS OF BULK AT MOST 1048576: true; the input reads as it did. -/
def gridFairUptoRow : OpenClaim := { program := "ytmbcdkgnlididaa", sum := "d5eb1e42af95a986762a9ba7906a9d6144e1ee8c28a111e82d0b3f50750abaf7", func := "demurrage/demurragelaw.GridFair", spec := "gridFair", unfollowed := true, recurses := true, apart := false, narrowed := true }
def GridFairUptoSaid : Prop := gridFairUptoRow.holds Try.pinned (OpenSpec.upto gridFairSpec)

/-- 'demurragelaw.GridMost', WHERE WHAT IT READS IS OF BULK AT MOST 1048576: true; the input reads as it did. -/
def gridMostUptoRow : OpenClaim := { program := "ytmbcdkgnlididaa", sum := "d5eb1e42af95a986762a9ba7906a9d6144e1ee8c28a111e82d0b3f50750abaf7", func := "demurrage/demurragelaw.GridMost", spec := "gridMost", unfollowed := true, recurses := true, apart := false, narrowed := true }
def GridMostUptoSaid : Prop := gridMostUptoRow.holds Try.pinned (OpenSpec.upto gridMostSpec)

/-- 'demurragelaw.GridMore', WHERE WHAT IT READS IS OF BULK AT MOST 1048576: true; the input reads as it did. -/
def gridMoreUptoRow : OpenClaim := { program := "ytmbcdkgnlididaa", sum := "d5eb1e42af95a986762a9ba7906a9d6144e1ee8c28a111e82d0b3f50750abaf7", func := "demurrage/demurragelaw.GridMore", spec := "gridMore", unfollowed := true, recurses := true, apart := false, narrowed := true }
def GridMoreUptoSaid : Prop := gridMoreUptoRow.holds Try.pinned (OpenSpec.upto gridMoreSpec)

/-- 'demurragelaw.GridRing', WHERE WHAT IT READS IS OF BULK AT MOST 1048576: true; the input reads as it did. -/
def gridRingUptoRow : OpenClaim := { program := "ytmbcdkgnlididaa", sum := "d5eb1e42af95a986762a9ba7906a9d6144e1ee8c28a111e82d0b3f50750abaf7", func := "demurrage/demurragelaw.GridRing", spec := "gridRing", unfollowed := true, recurses := true, apart := false, narrowed := true }
def GridRingUptoSaid : Prop := gridRingUptoRow.holds Try.pinned (OpenSpec.upto gridRingSpec)

/-- 'demurragelaw.GridRich', WHERE WHAT IT READS IS OF BULK AT MOST 1048576: true; the input reads as it did. -/
def gridRichUptoRow : OpenClaim := { program := "ytmbcdkgnlididaa", sum := "d5eb1e42af95a986762a9ba7906a9d6144e1ee8c28a111e82d0b3f50750abaf7", func := "demurrage/demurragelaw.GridRich", spec := "gridRich", unfollowed := true, recurses := true, apart := false, narrowed := true }
def GridRichUptoSaid : Prop := gridRichUptoRow.holds Try.pinned (OpenSpec.upto gridRichSpec)

end Rows
end Go.Proofs.Ytmbcdkgnlididaa
