/-
  No cell of these rows narrows 'for every input' (looked for: loops, veiled, ifaces, maps, wideKeys, modest, calm, conditions, laid).
  DERIVED. THE GIVEN ROWS OF THIS SEAT. 5 by the template 'for every input the law returns true; each argument reads behind the call as it read before'; 0 by the template 'total and deterministic' (their statements: YtdehibmofmfkbaaTotals.lean).
  GIVEN WITH THE SEED: the statements are not yours to turn. If you find one false, say at which input.
  Laid BY PROGRAM, IN A SANDBOX (cutbox-rows.mjs): the forced cells as the released guide's own fill.sh prints them over the translation cf6e5fe32c7cb0f3… (all of the seat's roots in one cut). By AI agents, Wed Nov 11 2026. No macro, syntax, notation, axiom, sorry.
-/
import Derived.Test.YtdehibmofmfkbaaChecked
import GoSem.Claim
import GoSem.ClaimJoined
import GoSem.ClaimMapViews
import Derived.JoinedTies
import Derived.KernelRfl
namespace Go.Proofs.Ytdehibmofmfkbaa
/- THE CELL 'sum', in the pinned program and in every row, IS THE sha256 OF THE DUMP (.gsa) THAT YtdehibmofmfkbaaProg.lean LOADS. Nothing in Lean hashes anything: it is a label: what it is worth is what the hold of that sum in a sandbox is worth. -/
noncomputable def Try.pinned : Pinned := { name := "ytdehibmofmfkbaa", sum := "cf6e5fe32c7cb0f3c965aa2ec21455a049c92d6836ea4d902b3f2b67a1f1006c", checked := Try.checked }
namespace Rows
def none {H : Type} : Left H := { results := [], args := [] }

/-- 'demurragelaw.ReportTells': WHATEVER THE INPUT: true; the input reads as it did. -/
def reportTellsSpec : ChangeSpec := { name := "reportTells", fn := fun _ => fun
  | [d1, d2, d3, d4, d5, d6] => { results := [.lit (.bool true)], args := [d1, d2, d3, d4, d5, d6] }
  | _ => none }
def reportTellsRow : OpenClaim := { program := "ytdehibmofmfkbaa", sum := "cf6e5fe32c7cb0f3c965aa2ec21455a049c92d6836ea4d902b3f2b67a1f1006c", func := "demurrage/demurragelaw.ReportTells", spec := "reportTells", unfollowed := true, recurses := true, named := ["math/bits.divideError", "math/bits.overflowError"], apart := false }
def ReportTellsSaid : Prop := reportTellsRow.holds Try.pinned (OpenSpec.ofChange reportTellsSpec)

/-- ITS FALSE NEIGHBOUR: 'it returns false'. Refute it at one input. -/
def reportTellsWrong : ChangeSpec := { name := "reportTells", fn := fun _ => fun
  | [d1, d2, d3, d4, d5, d6] => { results := [.lit (.bool false)], args := [d1, d2, d3, d4, d5, d6] }
  | _ => none }
def ReportTellsWrongFalsely : Prop := reportTellsRow.holds Try.pinned (OpenSpec.ofChange reportTellsWrong)

/-- 'demurragelaw.ReportFiner': WHATEVER THE INPUT: true; the input reads as it did. -/
def reportFinerSpec : ChangeSpec := { name := "reportFiner", fn := fun _ => fun
  | [d1, d2, d3, d4, d5] => { results := [.lit (.bool true)], args := [d1, d2, d3, d4, d5] }
  | _ => none }
def reportFinerRow : OpenClaim := { program := "ytdehibmofmfkbaa", sum := "cf6e5fe32c7cb0f3c965aa2ec21455a049c92d6836ea4d902b3f2b67a1f1006c", func := "demurrage/demurragelaw.ReportFiner", spec := "reportFiner", unfollowed := true, recurses := true, named := ["math/bits.divideError", "math/bits.overflowError"], apart := false }
def ReportFinerSaid : Prop := reportFinerRow.holds Try.pinned (OpenSpec.ofChange reportFinerSpec)

/-- ITS FALSE NEIGHBOUR: 'it returns false'. Refute it at one input. -/
def reportFinerWrong : ChangeSpec := { name := "reportFiner", fn := fun _ => fun
  | [d1, d2, d3, d4, d5] => { results := [.lit (.bool false)], args := [d1, d2, d3, d4, d5] }
  | _ => none }
def ReportFinerWrongFalsely : Prop := reportFinerRow.holds Try.pinned (OpenSpec.ofChange reportFinerWrong)

/-- 'demurragelaw.ReportTop': WHATEVER THE INPUT: true; the input reads as it did. -/
def reportTopSpec : ChangeSpec := { name := "reportTop", fn := fun _ => fun
  | [d1, d2, d3, d4] => { results := [.lit (.bool true)], args := [d1, d2, d3, d4] }
  | _ => none }
def reportTopRow : OpenClaim := { program := "ytdehibmofmfkbaa", sum := "cf6e5fe32c7cb0f3c965aa2ec21455a049c92d6836ea4d902b3f2b67a1f1006c", func := "demurrage/demurragelaw.ReportTop", spec := "reportTop", unfollowed := true, recurses := true, named := ["math/bits.divideError", "math/bits.overflowError"], apart := false }
def ReportTopSaid : Prop := reportTopRow.holds Try.pinned (OpenSpec.ofChange reportTopSpec)

/-- ITS FALSE NEIGHBOUR: 'it returns false'. Refute it at one input. -/
def reportTopWrong : ChangeSpec := { name := "reportTop", fn := fun _ => fun
  | [d1, d2, d3, d4] => { results := [.lit (.bool false)], args := [d1, d2, d3, d4] }
  | _ => none }
def ReportTopWrongFalsely : Prop := reportTopRow.holds Try.pinned (OpenSpec.ofChange reportTopWrong)

/-- 'demurragelaw.ReportAll': WHATEVER THE INPUT: true; the input reads as it did. -/
def reportAllSpec : ChangeSpec := { name := "reportAll", fn := fun _ => fun
  | [d1, d2, d3, d4] => { results := [.lit (.bool true)], args := [d1, d2, d3, d4] }
  | _ => none }
def reportAllRow : OpenClaim := { program := "ytdehibmofmfkbaa", sum := "cf6e5fe32c7cb0f3c965aa2ec21455a049c92d6836ea4d902b3f2b67a1f1006c", func := "demurrage/demurragelaw.ReportAll", spec := "reportAll", unfollowed := true, recurses := true, named := ["math/bits.divideError", "math/bits.overflowError"], apart := false }
def ReportAllSaid : Prop := reportAllRow.holds Try.pinned (OpenSpec.ofChange reportAllSpec)

/-- ITS FALSE NEIGHBOUR: 'it returns false'. Refute it at one input. -/
def reportAllWrong : ChangeSpec := { name := "reportAll", fn := fun _ => fun
  | [d1, d2, d3, d4] => { results := [.lit (.bool false)], args := [d1, d2, d3, d4] }
  | _ => none }
def ReportAllWrongFalsely : Prop := reportAllRow.holds Try.pinned (OpenSpec.ofChange reportAllWrong)

/-- 'demurragelaw.ReportRate': WHATEVER THE INPUT: true; the input reads as it did. -/
def reportRateSpec : ChangeSpec := { name := "reportRate", fn := fun _ => fun
  | [d1, d2, d3] => { results := [.lit (.bool true)], args := [d1, d2, d3] }
  | _ => none }
def reportRateRow : OpenClaim := { program := "ytdehibmofmfkbaa", sum := "cf6e5fe32c7cb0f3c965aa2ec21455a049c92d6836ea4d902b3f2b67a1f1006c", func := "demurrage/demurragelaw.ReportRate", spec := "reportRate", unfollowed := true, recurses := true, named := ["math/bits.divideError", "math/bits.overflowError"], apart := false }
def ReportRateSaid : Prop := reportRateRow.holds Try.pinned (OpenSpec.ofChange reportRateSpec)

/-- ITS FALSE NEIGHBOUR: 'it returns false'. Refute it at one input. -/
def reportRateWrong : ChangeSpec := { name := "reportRate", fn := fun _ => fun
  | [d1, d2, d3] => { results := [.lit (.bool false)], args := [d1, d2, d3] }
  | _ => none }
def ReportRateWrongFalsely : Prop := reportRateRow.holds Try.pinned (OpenSpec.ofChange reportRateWrong)

/- THE SECOND FORM. 'bulk': how many values and letters a reading holds, each counted each time it is reached (what is shared counts as often as it is met; a slice's spare places count too). A statement '..UptoSaid' is the law's where the arguments, and the package variables that the reading takes, are together of bulk at most 1048576: NARROWER than '..Said'. Prove '..Said' where nothing that the law and all that it calls make is longer than what came in: it says more and counts as full. Else prove '..UptoSaid'. A law counts once. -/
mutual
def uptoBulk {H : Type} : DataW H → Nat
  | .lit (.string bytes) => bytes.length + 1
  | .lit _ => 1
  | .nil => 1
  | .ptr d => uptoBulk d + 1
  | .slice elems spare => uptoBulkAll elems + uptoBulkAll spare + 1
  | .agg parts => uptoBulkAll parts + 1
  | .iface _ d => uptoBulk d + 1
  | .map entries => uptoBulkEntries entries + 1
  | .held _ => 1
def uptoBulkAll {H : Type} : List (DataW H) → Nat
  | [] => 0
  | d :: r => uptoBulk d + uptoBulkAll r
def uptoBulkEntries {H : Type} : List (Lit × DataW H) → Nat
  | [] => 0
  | x :: r => uptoBulkEntry x + uptoBulkEntries r
def uptoBulkEntry {H : Type} : Lit × DataW H → Nat
  | (.string bytes, d) => bytes.length + uptoBulk d + 1
  | (_, d) => uptoBulk d + 1
 end
def uptoSmall : (H : Type) → List (DataW H) → Bool := fun _ ds => decide (uptoBulkAll ds ≤ 1048576)
def OpenSpec.upto (s : _root_.Go.ChangeSpec) : _root_.Go.OpenSpec := { _root_.Go.OpenSpec.ofChange s with cond := some uptoSmall }

/-- 'demurragelaw.ReportTells', WHERE WHAT IT READS IS OF BULK AT MOST 1048576: true; the input reads as it did. -/
def reportTellsUptoRow : OpenClaim := { program := "ytdehibmofmfkbaa", sum := "cf6e5fe32c7cb0f3c965aa2ec21455a049c92d6836ea4d902b3f2b67a1f1006c", func := "demurrage/demurragelaw.ReportTells", spec := "reportTells", unfollowed := true, recurses := true, named := ["math/bits.divideError", "math/bits.overflowError"], apart := false, narrowed := true }
def ReportTellsUptoSaid : Prop := reportTellsUptoRow.holds Try.pinned (OpenSpec.upto reportTellsSpec)

/-- 'demurragelaw.ReportFiner', WHERE WHAT IT READS IS OF BULK AT MOST 1048576: true; the input reads as it did. -/
def reportFinerUptoRow : OpenClaim := { program := "ytdehibmofmfkbaa", sum := "cf6e5fe32c7cb0f3c965aa2ec21455a049c92d6836ea4d902b3f2b67a1f1006c", func := "demurrage/demurragelaw.ReportFiner", spec := "reportFiner", unfollowed := true, recurses := true, named := ["math/bits.divideError", "math/bits.overflowError"], apart := false, narrowed := true }
def ReportFinerUptoSaid : Prop := reportFinerUptoRow.holds Try.pinned (OpenSpec.upto reportFinerSpec)

/-- 'demurragelaw.ReportTop', WHERE WHAT IT READS IS OF BULK AT MOST 1048576: true; the input reads as it did. -/
def reportTopUptoRow : OpenClaim := { program := "ytdehibmofmfkbaa", sum := "cf6e5fe32c7cb0f3c965aa2ec21455a049c92d6836ea4d902b3f2b67a1f1006c", func := "demurrage/demurragelaw.ReportTop", spec := "reportTop", unfollowed := true, recurses := true, named := ["math/bits.divideError", "math/bits.overflowError"], apart := false, narrowed := true }
def ReportTopUptoSaid : Prop := reportTopUptoRow.holds Try.pinned (OpenSpec.upto reportTopSpec)

/-- 'demurragelaw.ReportAll', WHERE WHAT IT READS IS OF BULK AT MOST 1048576: true; the input reads as it did. -/
def reportAllUptoRow : OpenClaim := { program := "ytdehibmofmfkbaa", sum := "cf6e5fe32c7cb0f3c965aa2ec21455a049c92d6836ea4d902b3f2b67a1f1006c", func := "demurrage/demurragelaw.ReportAll", spec := "reportAll", unfollowed := true, recurses := true, named := ["math/bits.divideError", "math/bits.overflowError"], apart := false, narrowed := true }
def ReportAllUptoSaid : Prop := reportAllUptoRow.holds Try.pinned (OpenSpec.upto reportAllSpec)

/-- 'demurragelaw.ReportRate', WHERE WHAT IT READS IS OF BULK AT MOST 1048576: true; the input reads as it did. -/
def reportRateUptoRow : OpenClaim := { program := "ytdehibmofmfkbaa", sum := "cf6e5fe32c7cb0f3c965aa2ec21455a049c92d6836ea4d902b3f2b67a1f1006c", func := "demurrage/demurragelaw.ReportRate", spec := "reportRate", unfollowed := true, recurses := true, named := ["math/bits.divideError", "math/bits.overflowError"], apart := false, narrowed := true }
def ReportRateUptoSaid : Prop := reportRateUptoRow.holds Try.pinned (OpenSpec.upto reportRateSpec)

end Rows
end Go.Proofs.Ytdehibmofmfkbaa
