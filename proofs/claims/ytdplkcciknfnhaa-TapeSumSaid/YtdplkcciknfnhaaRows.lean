/-
  No cell of these rows narrows 'for every input' (looked for: loops, veiled, ifaces, maps, wideKeys, modest, calm, conditions, laid).
  DERIVED. THE GIVEN ROWS OF THIS SEAT. 6 by the template 'for every input the law returns true; each argument reads behind the call as it read before'; 0 by the template 'total and deterministic' (their statements: YtdplkcciknfnhaaTotals.lean).
  GIVEN WITH THE SEED: the statements are not yours to turn. If you find one false, say at which input.
  Laid BY PROGRAM, IN A SANDBOX (cutbox-rows.mjs): the forced cells as the released guide's own fill.sh prints them over the translation 19a1f66a47d0beb5… (all of the seat's roots in one cut). By AI agents, Wed Nov 11 2026. No macro, syntax, notation, axiom, sorry.
-/
import Derived.Test.YtdplkcciknfnhaaChecked
import GoSem.Claim
import GoSem.ClaimJoined
import GoSem.ClaimMapViews
import Derived.JoinedTies
import Derived.KernelRfl
namespace Go.Proofs.Ytdplkcciknfnhaa
/- THE CELL 'sum', in the pinned program and in every row, IS THE sha256 OF THE DUMP (.gsa) THAT YtdplkcciknfnhaaProg.lean LOADS. Nothing in Lean hashes anything: it is a label: what it is worth is what the hold of that sum in a sandbox is worth. -/
noncomputable def Try.pinned : Pinned := { name := "ytdplkcciknfnhaa", sum := "19a1f66a47d0beb50cb8eb274eabb5eb50c4022b4126dce0fbbcff63d0c7cc1b", checked := Try.checked }
namespace Rows
def none {H : Type} : Left H := { results := [], args := [] }

/-- 'demurragelaw.TapeTells': WHATEVER THE INPUT: true; the input reads as it did. -/
def tapeTellsSpec : ChangeSpec := { name := "tapeTells", fn := fun _ => fun
  | [d1, d2, d3] => { results := [.lit (.bool true)], args := [d1, d2, d3] }
  | _ => none }
def tapeTellsRow : OpenClaim := { program := "ytdplkcciknfnhaa", sum := "19a1f66a47d0beb50cb8eb274eabb5eb50c4022b4126dce0fbbcff63d0c7cc1b", func := "demurrage/demurragelaw.TapeTells", spec := "tapeTells", unfollowed := true, recurses := true, apart := false }
def TapeTellsSaid : Prop := tapeTellsRow.holds Try.pinned (OpenSpec.ofChange tapeTellsSpec)

/-- ITS FALSE NEIGHBOUR: 'it returns false'. Refute it at one input. -/
def tapeTellsWrong : ChangeSpec := { name := "tapeTells", fn := fun _ => fun
  | [d1, d2, d3] => { results := [.lit (.bool false)], args := [d1, d2, d3] }
  | _ => none }
def TapeTellsWrongFalsely : Prop := tapeTellsRow.holds Try.pinned (OpenSpec.ofChange tapeTellsWrong)

/-- 'demurragelaw.TapeBack': WHATEVER THE INPUT: true; the input reads as it did. -/
def tapeBackSpec : ChangeSpec := { name := "tapeBack", fn := fun _ => fun
  | [d1, d2] => { results := [.lit (.bool true)], args := [d1, d2] }
  | _ => none }
def tapeBackRow : OpenClaim := { program := "ytdplkcciknfnhaa", sum := "19a1f66a47d0beb50cb8eb274eabb5eb50c4022b4126dce0fbbcff63d0c7cc1b", func := "demurrage/demurragelaw.TapeBack", spec := "tapeBack", unfollowed := true, recurses := true, apart := false }
def TapeBackSaid : Prop := tapeBackRow.holds Try.pinned (OpenSpec.ofChange tapeBackSpec)

/-- ITS FALSE NEIGHBOUR: 'it returns false'. Refute it at one input. -/
def tapeBackWrong : ChangeSpec := { name := "tapeBack", fn := fun _ => fun
  | [d1, d2] => { results := [.lit (.bool false)], args := [d1, d2] }
  | _ => none }
def TapeBackWrongFalsely : Prop := tapeBackRow.holds Try.pinned (OpenSpec.ofChange tapeBackWrong)

/-- 'demurragelaw.TapeTorn': WHATEVER THE INPUT: true; the input reads as it did. -/
def tapeTornSpec : ChangeSpec := { name := "tapeTorn", fn := fun _ => fun
  | [d1, d2] => { results := [.lit (.bool true)], args := [d1, d2] }
  | _ => none }
def tapeTornRow : OpenClaim := { program := "ytdplkcciknfnhaa", sum := "19a1f66a47d0beb50cb8eb274eabb5eb50c4022b4126dce0fbbcff63d0c7cc1b", func := "demurrage/demurragelaw.TapeTorn", spec := "tapeTorn", unfollowed := true, recurses := true, apart := false }
def TapeTornSaid : Prop := tapeTornRow.holds Try.pinned (OpenSpec.ofChange tapeTornSpec)

/-- ITS FALSE NEIGHBOUR: 'it returns false'. Refute it at one input. -/
def tapeTornWrong : ChangeSpec := { name := "tapeTorn", fn := fun _ => fun
  | [d1, d2] => { results := [.lit (.bool false)], args := [d1, d2] }
  | _ => none }
def TapeTornWrongFalsely : Prop := tapeTornRow.holds Try.pinned (OpenSpec.ofChange tapeTornWrong)

/-- 'demurragelaw.TapeSum': WHATEVER THE INPUT: true; the input reads as it did. -/
def tapeSumSpec : ChangeSpec := { name := "tapeSum", fn := fun _ => fun
  | [d1, d2, d3, d4] => { results := [.lit (.bool true)], args := [d1, d2, d3, d4] }
  | _ => none }
def tapeSumRow : OpenClaim := { program := "ytdplkcciknfnhaa", sum := "19a1f66a47d0beb50cb8eb274eabb5eb50c4022b4126dce0fbbcff63d0c7cc1b", func := "demurrage/demurragelaw.TapeSum", spec := "tapeSum", unfollowed := true, recurses := true, apart := false }
def TapeSumSaid : Prop := tapeSumRow.holds Try.pinned (OpenSpec.ofChange tapeSumSpec)

/-- ITS FALSE NEIGHBOUR: 'it returns false'. Refute it at one input. -/
def tapeSumWrong : ChangeSpec := { name := "tapeSum", fn := fun _ => fun
  | [d1, d2, d3, d4] => { results := [.lit (.bool false)], args := [d1, d2, d3, d4] }
  | _ => none }
def TapeSumWrongFalsely : Prop := tapeSumRow.holds Try.pinned (OpenSpec.ofChange tapeSumWrong)

/-- 'demurragelaw.TapeCut': WHATEVER THE INPUT: true; the input reads as it did. -/
def tapeCutSpec : ChangeSpec := { name := "tapeCut", fn := fun _ => fun
  | [d1, d2, d3] => { results := [.lit (.bool true)], args := [d1, d2, d3] }
  | _ => none }
def tapeCutRow : OpenClaim := { program := "ytdplkcciknfnhaa", sum := "19a1f66a47d0beb50cb8eb274eabb5eb50c4022b4126dce0fbbcff63d0c7cc1b", func := "demurrage/demurragelaw.TapeCut", spec := "tapeCut", unfollowed := true, recurses := true, apart := false }
def TapeCutSaid : Prop := tapeCutRow.holds Try.pinned (OpenSpec.ofChange tapeCutSpec)

/-- ITS FALSE NEIGHBOUR: 'it returns false'. Refute it at one input. -/
def tapeCutWrong : ChangeSpec := { name := "tapeCut", fn := fun _ => fun
  | [d1, d2, d3] => { results := [.lit (.bool false)], args := [d1, d2, d3] }
  | _ => none }
def TapeCutWrongFalsely : Prop := tapeCutRow.holds Try.pinned (OpenSpec.ofChange tapeCutWrong)

/-- 'demurragelaw.TapeMany': WHATEVER THE INPUT: true; the input reads as it did. -/
def tapeManySpec : ChangeSpec := { name := "tapeMany", fn := fun _ => fun
  | [d] => { results := [.lit (.bool true)], args := [d] }
  | _ => none }
def tapeManyRow : OpenClaim := { program := "ytdplkcciknfnhaa", sum := "19a1f66a47d0beb50cb8eb274eabb5eb50c4022b4126dce0fbbcff63d0c7cc1b", func := "demurrage/demurragelaw.TapeMany", spec := "tapeMany", unfollowed := true, recurses := true, apart := false }
def TapeManySaid : Prop := tapeManyRow.holds Try.pinned (OpenSpec.ofChange tapeManySpec)

/-- ITS FALSE NEIGHBOUR: 'it returns false'. Refute it at one input. -/
def tapeManyWrong : ChangeSpec := { name := "tapeMany", fn := fun _ => fun
  | [d] => { results := [.lit (.bool false)], args := [d] }
  | _ => none }
def TapeManyWrongFalsely : Prop := tapeManyRow.holds Try.pinned (OpenSpec.ofChange tapeManyWrong)

/- THE SECOND FORM. 'bulk': how many values and letters a reading holds, each counted each time it is reached (what is shared counts as often as it is met; a slice's spare places count too). A statement '..UptoSaid' is the law's where the arguments, and the package variables that the reading takes, are together of bulk at most 1048576: NARROWER than '..Said'. Prove '..Said' where nothing that the law and all that it calls make is longer than what came in: it says more and counts as full. Else prove '..UptoSaid'. A law counts once. -/
mutual
def uptoBulk {H : Type} : DataW H → Nat
  | .lit (.string bytes) => bytes.length + 1
  | .lit _ => 1
  | .nil => 1
  | .ptr d => uptoBulk d + 1
  | .slice elems spare => uptoBulkAll elems + uptoBulkAll spare + 1
  | .agg parts => uptoBulkAll parts + 1
  | .iface _ d => uptoBulk d + 1
  | .map entries => uptoBulkEntries entries + 1
  | .held _ => 1
def uptoBulkAll {H : Type} : List (DataW H) → Nat
  | [] => 0
  | d :: r => uptoBulk d + uptoBulkAll r
def uptoBulkEntries {H : Type} : List (Lit × DataW H) → Nat
  | [] => 0
  | x :: r => uptoBulkEntry x + uptoBulkEntries r
def uptoBulkEntry {H : Type} : Lit × DataW H → Nat
  | (.string bytes, d) => bytes.length + uptoBulk d + 1
  | (_, d) => uptoBulk d + 1
 end
def uptoSmall : (H : Type) → List (DataW H) → Bool := fun _ ds => decide (uptoBulkAll ds ≤ 1048576)
def OpenSpec.upto (s : _root_.Go.ChangeSpec) : _root_.Go.OpenSpec := { _root_.Go.OpenSpec.ofChange s with cond := some uptoSmall }

/-- 'demurragelaw.TapeTells', WHERE WHAT IT READS IS OF BULK AT MOST 1048576: true; the input reads as it did. -/
def tapeTellsUptoRow : OpenClaim := { program := "ytdplkcciknfnhaa", sum := "19a1f66a47d0beb50cb8eb274eabb5eb50c4022b4126dce0fbbcff63d0c7cc1b", func := "demurrage/demurragelaw.TapeTells", spec := "tapeTells", unfollowed := true, recurses := true, apart := false, narrowed := true }
def TapeTellsUptoSaid : Prop := tapeTellsUptoRow.holds Try.pinned (OpenSpec.upto tapeTellsSpec)

/-- 'demurragelaw.TapeBack', WHERE WHAT IT READS IS OF BULK AT MOST 1048576: true; the input reads as it did. -/
def tapeBackUptoRow : OpenClaim := { program := "ytdplkcciknfnhaa", sum := "19a1f66a47d0beb50cb8eb274eabb5eb50c4022b4126dce0fbbcff63d0c7cc1b", func := "demurrage/demurragelaw.TapeBack", spec := "tapeBack", unfollowed := true, recurses := true, apart := false, narrowed := true }
def TapeBackUptoSaid : Prop := tapeBackUptoRow.holds Try.pinned (OpenSpec.upto tapeBackSpec)

/-- 'demurragelaw.TapeTorn', WHERE WHAT IT READS IS OF BULK AT MOST 1048576: true; the input reads as it did. -/
def tapeTornUptoRow : OpenClaim := { program := "ytdplkcciknfnhaa", sum := "19a1f66a47d0beb50cb8eb274eabb5eb50c4022b4126dce0fbbcff63d0c7cc1b", func := "demurrage/demurragelaw.TapeTorn", spec := "tapeTorn", unfollowed := true, recurses := true, apart := false, narrowed := true }
def TapeTornUptoSaid : Prop := tapeTornUptoRow.holds Try.pinned (OpenSpec.upto tapeTornSpec)

/-- 'demurragelaw.TapeSum', WHERE WHAT IT READS IS OF BULK AT MOST 1048576: true; the input reads as it did. -/
def tapeSumUptoRow : OpenClaim := { program := "ytdplkcciknfnhaa", sum := "19a1f66a47d0beb50cb8eb274eabb5eb50c4022b4126dce0fbbcff63d0c7cc1b", func := "demurrage/demurragelaw.TapeSum", spec := "tapeSum", unfollowed := true, recurses := true, apart := false, narrowed := true }
def TapeSumUptoSaid : Prop := tapeSumUptoRow.holds Try.pinned (OpenSpec.upto tapeSumSpec)

/-- 'demurragelaw.TapeCut', WHERE WHAT IT READS IS OF BULK AT MOST 1048576: true; the input reads as it did. -/
def tapeCutUptoRow : OpenClaim := { program := "ytdplkcciknfnhaa", sum := "19a1f66a47d0beb50cb8eb274eabb5eb50c4022b4126dce0fbbcff63d0c7cc1b", func := "demurrage/demurragelaw.TapeCut", spec := "tapeCut", unfollowed := true, recurses := true, apart := false, narrowed := true }
def TapeCutUptoSaid : Prop := tapeCutUptoRow.holds Try.pinned (OpenSpec.upto tapeCutSpec)

/-- 'demurragelaw.TapeMany', WHERE WHAT IT READS IS OF BULK AT MOST 1048576: true; the input reads as it did. -/
def tapeManyUptoRow : OpenClaim := { program := "ytdplkcciknfnhaa", sum := "19a1f66a47d0beb50cb8eb274eabb5eb50c4022b4126dce0fbbcff63d0c7cc1b", func := "demurrage/demurragelaw.TapeMany", spec := "tapeMany", unfollowed := true, recurses := true, apart := false, narrowed := true }
def TapeManyUptoSaid : Prop := tapeManyUptoRow.holds Try.pinned (OpenSpec.upto tapeManySpec)

end Rows
end Go.Proofs.Ytdplkcciknfnhaa
