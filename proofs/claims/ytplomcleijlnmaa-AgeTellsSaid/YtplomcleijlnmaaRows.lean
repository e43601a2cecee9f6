/-
  No cell of these rows narrows 'for every input' (looked for: loops, veiled, ifaces, maps, wideKeys, modest, calm, conditions, laid).
  DERIVED. THE GIVEN ROWS OF THIS SEAT. 5 by the template 'for every input the law returns true; each argument reads behind the call as it read before'; 0 by the template 'total and deterministic' (their statements: YtplomcleijlnmaaTotals.lean).
  GIVEN WITH THE SEED: the statements are not yours to turn. If you find one false, say at which input.
  Laid BY PROGRAM, IN A SANDBOX (cutbox-rows.mjs): the forced cells as the released guide's own fill.sh prints them over the translation 9ef990ad8a03027a… (all of the seat's roots in one cut). By AI agents, Wed Nov 11 2026. No macro, syntax, notation, axiom, sorry.
-/
import Derived.Test.YtplomcleijlnmaaChecked
import GoSem.Claim
import GoSem.ClaimJoined
import GoSem.ClaimMapViews
import Derived.JoinedTies
import Derived.KernelRfl
namespace Go.Proofs.Ytplomcleijlnmaa
/- THE CELL 'sum', in the pinned program and in every row, IS THE sha256 OF THE DUMP (.gsa) THAT YtplomcleijlnmaaProg.lean LOADS. Nothing in Lean hashes anything: it is a label: what it is worth is what the hold of that sum in a sandbox is worth. -/
noncomputable def Try.pinned : Pinned := { name := "ytplomcleijlnmaa", sum := "9ef990ad8a03027a4046f316a7a0d661680c3e18001546cf50c615694f6e5fd9", checked := Try.checked }
namespace Rows
def none {H : Type} : Left H := { results := [], args := [] }

/-- 'demurragelaw.AgeTells': WHATEVER THE INPUT: true; the input reads as it did. -/
def ageTellsSpec : ChangeSpec := { name := "ageTells", fn := fun _ => fun
  | [d1, d2, d3, d4] => { results := [.lit (.bool true)], args := [d1, d2, d3, d4] }
  | _ => none }
def ageTellsRow : OpenClaim := { program := "ytplomcleijlnmaa", sum := "9ef990ad8a03027a4046f316a7a0d661680c3e18001546cf50c615694f6e5fd9", func := "demurrage/demurragelaw.AgeTells", spec := "ageTells", unfollowed := true, recurses := true, apart := false }
def AgeTellsSaid : Prop := ageTellsRow.holds Try.pinned (OpenSpec.ofChange ageTellsSpec)

/-- ITS FALSE NEIGHBOUR: 'it returns false'. Refute it at one input. -/
def ageTellsWrong : ChangeSpec := { name := "ageTells", fn := fun _ => fun
  | [d1, d2, d3, d4] => { results := [.lit (.bool false)], args := [d1, d2, d3, d4] }
  | _ => none }
def AgeTellsWrongFalsely : Prop := ageTellsRow.holds Try.pinned (OpenSpec.ofChange ageTellsWrong)

/-- 'demurragelaw.AgeLater': WHATEVER THE INPUT: true; the input reads as it did. -/
def ageLaterSpec : ChangeSpec := { name := "ageLater", fn := fun _ => fun
  | [d1, d2, d3, d4] => { results := [.lit (.bool true)], args := [d1, d2, d3, d4] }
  | _ => none }
def ageLaterRow : OpenClaim := { program := "ytplomcleijlnmaa", sum := "9ef990ad8a03027a4046f316a7a0d661680c3e18001546cf50c615694f6e5fd9", func := "demurrage/demurragelaw.AgeLater", spec := "ageLater", unfollowed := true, recurses := true, apart := false }
def AgeLaterSaid : Prop := ageLaterRow.holds Try.pinned (OpenSpec.ofChange ageLaterSpec)

/-- ITS FALSE NEIGHBOUR: 'it returns false'. Refute it at one input. -/
def ageLaterWrong : ChangeSpec := { name := "ageLater", fn := fun _ => fun
  | [d1, d2, d3, d4] => { results := [.lit (.bool false)], args := [d1, d2, d3, d4] }
  | _ => none }
def AgeLaterWrongFalsely : Prop := ageLaterRow.holds Try.pinned (OpenSpec.ofChange ageLaterWrong)

/-- 'demurragelaw.AgeRises': WHATEVER THE INPUT: true; the input reads as it did. -/
def ageRisesSpec : ChangeSpec := { name := "ageRises", fn := fun _ => fun
  | [d1, d2, d3, d4, d5] => { results := [.lit (.bool true)], args := [d1, d2, d3, d4, d5] }
  | _ => none }
def ageRisesRow : OpenClaim := { program := "ytplomcleijlnmaa", sum := "9ef990ad8a03027a4046f316a7a0d661680c3e18001546cf50c615694f6e5fd9", func := "demurrage/demurragelaw.AgeRises", spec := "ageRises", unfollowed := true, recurses := true, apart := false }
def AgeRisesSaid : Prop := ageRisesRow.holds Try.pinned (OpenSpec.ofChange ageRisesSpec)

/-- ITS FALSE NEIGHBOUR: 'it returns false'. Refute it at one input. -/
def ageRisesWrong : ChangeSpec := { name := "ageRises", fn := fun _ => fun
  | [d1, d2, d3, d4, d5] => { results := [.lit (.bool false)], args := [d1, d2, d3, d4, d5] }
  | _ => none }
def AgeRisesWrongFalsely : Prop := ageRisesRow.holds Try.pinned (OpenSpec.ofChange ageRisesWrong)

/-- 'demurragelaw.AgeDone': WHATEVER THE INPUT: true; the input reads as it did. -/
def ageDoneSpec : ChangeSpec := { name := "ageDone", fn := fun _ => fun
  | [d1, d2, d3, d4] => { results := [.lit (.bool true)], args := [d1, d2, d3, d4] }
  | _ => none }
def ageDoneRow : OpenClaim := { program := "ytplomcleijlnmaa", sum := "9ef990ad8a03027a4046f316a7a0d661680c3e18001546cf50c615694f6e5fd9", func := "demurrage/demurragelaw.AgeDone", spec := "ageDone", unfollowed := true, recurses := true, apart := false }
def AgeDoneSaid : Prop := ageDoneRow.holds Try.pinned (OpenSpec.ofChange ageDoneSpec)

/-- ITS FALSE NEIGHBOUR: 'it returns false'. Refute it at one input. -/
def ageDoneWrong : ChangeSpec := { name := "ageDone", fn := fun _ => fun
  | [d1, d2, d3, d4] => { results := [.lit (.bool false)], args := [d1, d2, d3, d4] }
  | _ => none }
def AgeDoneWrongFalsely : Prop := ageDoneRow.holds Try.pinned (OpenSpec.ofChange ageDoneWrong)

/-- 'demurragelaw.AgeKeeps': WHATEVER THE INPUT: true; the input reads as it did. -/
def ageKeepsSpec : ChangeSpec := { name := "ageKeeps", fn := fun _ => fun
  | [d1, d2, d3, d4, d5] => { results := [.lit (.bool true)], args := [d1, d2, d3, d4, d5] }
  | _ => none }
def ageKeepsRow : OpenClaim := { program := "ytplomcleijlnmaa", sum := "9ef990ad8a03027a4046f316a7a0d661680c3e18001546cf50c615694f6e5fd9", func := "demurrage/demurragelaw.AgeKeeps", spec := "ageKeeps", unfollowed := true, recurses := true, apart := false }
def AgeKeepsSaid : Prop := ageKeepsRow.holds Try.pinned (OpenSpec.ofChange ageKeepsSpec)

/-- ITS FALSE NEIGHBOUR: 'it returns false'. Refute it at one input. -/
def ageKeepsWrong : ChangeSpec := { name := "ageKeeps", fn := fun _ => fun
  | [d1, d2, d3, d4, d5] => { results := [.lit (.bool false)], args := [d1, d2, d3, d4, d5] }
  | _ => none }
def AgeKeepsWrongFalsely : Prop := ageKeepsRow.holds Try.pinned (OpenSpec.ofChange ageKeepsWrong)

/- THE SECOND FORM. 'bulk': how many values and letters a reading holds, each counted each time it is reached (what is shared counts as often as it is met; a slice's spare places count too). A statement '..UptoSaid' is the law's where the arguments, and the package variables that the reading takes, are together of bulk at most 1048576: NARROWER than '..Said'. Prove '..Said' where nothing that the law and all that it calls make is longer than what came in: it says more and counts as full. Else prove '..UptoSaid'. A law counts once. -/
mutual
def uptoBulk {H : Type} : DataW H → Nat
  | .lit (.string bytes) => bytes.length + 1
  | .lit _ => 1
  | .nil => 1
  | .ptr d => uptoBulk d + 1
  | .slice elems spare => uptoBulkAll elems + uptoBulkAll spare + 1
  | .agg parts => uptoBulkAll parts + 1
  | .iface _ d => uptoBulk d + 1
  | .map entries => uptoBulkEntries entries + 1
  | .held _ => 1
def uptoBulkAll {H : Type} : List (DataW H) → Nat
  | [] => 0
  | d :: r => uptoBulk d + uptoBulkAll r
def uptoBulkEntries {H : Type} : List (Lit × DataW H) → Nat
  | [] => 0
  | x :: r => uptoBulkEntry x + uptoBulkEntries r
def uptoBulkEntry {H : Type} : Lit × DataW H → Nat
  | (.string bytes, d) => bytes.length + uptoBulk d + 1
  | (_, d) => uptoBulk d + 1
 end
def uptoSmall : (H : Type) → List (DataW H) → Bool := fun _ ds => decide (uptoBulkAll ds ≤ 1048576)
def OpenSpec.upto (s : _root_.Go.ChangeSpec) : _root_.Go.OpenSpec := { _root_.Go.OpenSpec.ofChange s with cond := some uptoSmall }

/-- 'demurragelaw.AgeTells', WHERE WHAT IT READS IS OF BULK AT MOST 1048576: true; the input reads as it did. -/
def ageTellsUptoRow : OpenClaim := { program := "ytplomcleijlnmaa", sum := "9ef990ad8a03027a4046f316a7a0d661680c3e18001546cf50c615694f6e5fd9", func := "demurrage/demurragelaw.AgeTells", spec := "ageTells", unfollowed := true, recurses := true, apart := false, narrowed := true }
def AgeTellsUptoSaid : Prop := ageTellsUptoRow.holds Try.pinned (OpenSpec.upto ageTellsSpec)

/-- 'demurragelaw.AgeLater', WHERE WHAT IT READS IS OF BULK AT MOST 1048576: true; the input reads as it did. -/
def ageLaterUptoRow : OpenClaim := { program := "ytplomcleijlnmaa", sum := "9ef990ad8a03027a4046f316a7a0d661680c3e18001546cf50c615694f6e5fd9", func := "demurrage/demurragelaw.AgeLater", spec := "ageLater", unfollowed := true, recurses := true, apart := false, narrowed := true }
def AgeLaterUptoSaid : Prop := ageLaterUptoRow.holds Try.pinned (OpenSpec.upto ageLaterSpec)

/-- 'demurragelaw.AgeRises', WHERE WHAT IT READS IS OF BULK AT MOST 1048576: true; the input reads as it did. -/
def ageRisesUptoRow : OpenClaim := { program := "ytplomcleijlnmaa", sum := "9ef990ad8a03027a4046f316a7a0d661680c3e18001546cf50c615694f6e5fd9", func := "demurrage/demurragelaw.AgeRises", spec := "ageRises", unfollowed := true, recurses := true, apart := false, narrowed := true }
def AgeRisesUptoSaid : Prop := ageRisesUptoRow.holds Try.pinned (OpenSpec.upto ageRisesSpec)

/-- 'demurragelaw.AgeDone', WHERE WHAT IT READS IS OF BULK AT MOST 1048576: true; the input reads as it did. -/
def ageDoneUptoRow : OpenClaim := { program := "ytplomcleijlnmaa", sum := "9ef990ad8a03027a4046f316a7a0d661680c3e18001546cf50c615694f6e5fd9", func := "demurrage/demurragelaw.AgeDone", spec := "ageDone", unfollowed := true, recurses := true, apart := false, narrowed := true }
def AgeDoneUptoSaid : Prop := ageDoneUptoRow.holds Try.pinned (OpenSpec.upto ageDoneSpec)

/-- 'demurragelaw.AgeKeeps', WHERE WHAT IT READS IS OF BULK AT MOST 1048576: true; the input reads as it did. -/
def ageKeepsUptoRow : OpenClaim := { program := "ytplomcleijlnmaa", sum := "9ef990ad8a03027a4046f316a7a0d661680c3e18001546cf50c615694f6e5fd9", func := "demurrage/demurragelaw.AgeKeeps", spec := "ageKeeps", unfollowed := true, recurses := true, apart := false, narrowed := true }
def AgeKeepsUptoSaid : Prop := ageKeepsUptoRow.holds Try.pinned (OpenSpec.upto ageKeepsSpec)

end Rows
end Go.Proofs.Ytplomcleijlnmaa
