/-
  NARROWER THAN 'FOR EVERY INPUT', by the rows' own cells (each row's printed sentence says how): DateTells: laid · DateBack: laid · DateRound: laid · DateOrder: laid · DateMonths: laid · DateLong: laid.
  DERIVED. THE GIVEN ROWS OF THIS SEAT. 6 by the template 'for every input the law returns true; each argument reads behind the call as it read before'; 0 by the template 'total and deterministic' (their statements: YtljmpbopgoagcaaDoorTotals.lean).
  GIVEN WITH THE SEED: the statements are not yours to turn. If you find one false, say at which input.
  Laid BY PROGRAM, IN A SANDBOX (cutbox-rows.mjs): the forced cells as the released guide's own fill.sh prints them over the translation 19dc8934bdae71d9… (all of the seat's roots in one cut). By AI agents, Wed Nov 11 2026. No macro, syntax, notation, axiom, sorry.
-/
import Derived.Test.YtljmpbopgoagcaaDoorChecked
import GoSem.Claim
import GoSem.ClaimJoined
import GoSem.ClaimMapViews
import Derived.JoinedTies
import Derived.KernelRfl
namespace Go.Proofs.YtljmpbopgoagcaaDoor
/- THE CELL 'sum', in the pinned program and in every row, IS THE sha256 OF THE DUMP (.gsa) THAT YtljmpbopgoagcaaDoorProg.lean LOADS. Nothing in Lean hashes anything: it is a label: what it is worth is what the hold of that sum in a sandbox is worth. -/
noncomputable def Tryd.pinned : Pinned := { name := "ytljmpbopgoagcaadoor", sum := "19dc8934bdae71d945579a3c2f5f84e3cb5e2b389be19bb22621b6799120381f", checked := Tryd.checked }
namespace Rows
def none {H : Type} : Left H := { results := [], args := [] }

/- WHAT THE LISTED PACKAGE-LEVEL VARIABLES READ AS WHEN THE CALL BEGINS. Each datum BY PROGRAM (the guide's laid-datum.mjs) off the statement by which the dump's own 'gosem.cut.vars' lays the variable. In a bare row this is a premise. The card (YtljmpbopgoagcaaDoorCards.lean) ties it to the program's text. -/
def laid_demurrage_date_long {H : Type} : DataW H := .agg [.lit (.int .i64 31), .lit (.int .i64 28), .lit (.int .i64 31), .lit (.int .i64 30), .lit (.int .i64 31), .lit (.int .i64 30), .lit (.int .i64 31), .lit (.int .i64 31), .lit (.int .i64 30), .lit (.int .i64 31), .lit (.int .i64 30), .lit (.int .i64 31)]

/-- 'demurragelaw.DateTells': WHATEVER THE INPUT: true; the input reads as it did. -/
def dateTellsSpec : ChangeSpec := { name := "dateTells", fn := fun _ => fun
  | [d1, d2, d3, d4, d5] => { results := [.lit (.bool true)], args := [d1, d2, d3, d4, d5] }
  | _ => none }
def dateTellsRow : OpenClaim := { program := "ytljmpbopgoagcaadoor", sum := "19dc8934bdae71d945579a3c2f5f84e3cb5e2b389be19bb22621b6799120381f", func := "demurrage/demurragelaw.DateTells", spec := "dateTells", named := ["demurrage/date.long"], apart := false, laid := [("demurrage/date.long", laid_demurrage_date_long)] }
def DateTellsSaid : Prop := dateTellsRow.holds Tryd.pinned (OpenSpec.ofChange dateTellsSpec)

/-- ITS FALSE NEIGHBOUR: 'it returns false'. Refute it at one input. -/
def dateTellsWrong : ChangeSpec := { name := "dateTells", fn := fun _ => fun
  | [d1, d2, d3, d4, d5] => { results := [.lit (.bool false)], args := [d1, d2, d3, d4, d5] }
  | _ => none }
def DateTellsWrongFalsely : Prop := dateTellsRow.holds Tryd.pinned (OpenSpec.ofChange dateTellsWrong)

/-- 'demurragelaw.DateBack': WHATEVER THE INPUT: true; the input reads as it did. -/
def dateBackSpec : ChangeSpec := { name := "dateBack", fn := fun _ => fun
  | [d1, d2, d3, d4] => { results := [.lit (.bool true)], args := [d1, d2, d3, d4] }
  | _ => none }
def dateBackRow : OpenClaim := { program := "ytljmpbopgoagcaadoor", sum := "19dc8934bdae71d945579a3c2f5f84e3cb5e2b389be19bb22621b6799120381f", func := "demurrage/demurragelaw.DateBack", spec := "dateBack", named := ["demurrage/date.long"], apart := false, laid := [("demurrage/date.long", laid_demurrage_date_long)] }
def DateBackSaid : Prop := dateBackRow.holds Tryd.pinned (OpenSpec.ofChange dateBackSpec)

/-- ITS FALSE NEIGHBOUR: 'it returns false'. Refute it at one input. -/
def dateBackWrong : ChangeSpec := { name := "dateBack", fn := fun _ => fun
  | [d1, d2, d3, d4] => { results := [.lit (.bool false)], args := [d1, d2, d3, d4] }
  | _ => none }
def DateBackWrongFalsely : Prop := dateBackRow.holds Tryd.pinned (OpenSpec.ofChange dateBackWrong)

/-- 'demurragelaw.DateRound': WHATEVER THE INPUT: true; the input reads as it did. -/
def dateRoundSpec : ChangeSpec := { name := "dateRound", fn := fun _ => fun
  | [d1, d2, d3] => { results := [.lit (.bool true)], args := [d1, d2, d3] }
  | _ => none }
def dateRoundRow : OpenClaim := { program := "ytljmpbopgoagcaadoor", sum := "19dc8934bdae71d945579a3c2f5f84e3cb5e2b389be19bb22621b6799120381f", func := "demurrage/demurragelaw.DateRound", spec := "dateRound", named := ["demurrage/date.long"], apart := false, laid := [("demurrage/date.long", laid_demurrage_date_long)] }
def DateRoundSaid : Prop := dateRoundRow.holds Tryd.pinned (OpenSpec.ofChange dateRoundSpec)

/-- ITS FALSE NEIGHBOUR: 'it returns false'. Refute it at one input. -/
def dateRoundWrong : ChangeSpec := { name := "dateRound", fn := fun _ => fun
  | [d1, d2, d3] => { results := [.lit (.bool false)], args := [d1, d2, d3] }
  | _ => none }
def DateRoundWrongFalsely : Prop := dateRoundRow.holds Tryd.pinned (OpenSpec.ofChange dateRoundWrong)

/-- 'demurragelaw.DateOrder': WHATEVER THE INPUT: true; the input reads as it did. -/
def dateOrderSpec : ChangeSpec := { name := "dateOrder", fn := fun _ => fun
  | [d1, d2] => { results := [.lit (.bool true)], args := [d1, d2] }
  | _ => none }
def dateOrderRow : OpenClaim := { program := "ytljmpbopgoagcaadoor", sum := "19dc8934bdae71d945579a3c2f5f84e3cb5e2b389be19bb22621b6799120381f", func := "demurrage/demurragelaw.DateOrder", spec := "dateOrder", named := ["demurrage/date.long"], apart := false, laid := [("demurrage/date.long", laid_demurrage_date_long)] }
def DateOrderSaid : Prop := dateOrderRow.holds Tryd.pinned (OpenSpec.ofChange dateOrderSpec)

/-- ITS FALSE NEIGHBOUR: 'it returns false'. Refute it at one input. -/
def dateOrderWrong : ChangeSpec := { name := "dateOrder", fn := fun _ => fun
  | [d1, d2] => { results := [.lit (.bool false)], args := [d1, d2] }
  | _ => none }
def DateOrderWrongFalsely : Prop := dateOrderRow.holds Tryd.pinned (OpenSpec.ofChange dateOrderWrong)

/-- 'demurragelaw.DateMonths': WHATEVER THE INPUT: true; the input reads as it did. -/
def dateMonthsSpec : ChangeSpec := { name := "dateMonths", fn := fun _ => fun
  | [d1, d2] => { results := [.lit (.bool true)], args := [d1, d2] }
  | _ => none }
def dateMonthsRow : OpenClaim := { program := "ytljmpbopgoagcaadoor", sum := "19dc8934bdae71d945579a3c2f5f84e3cb5e2b389be19bb22621b6799120381f", func := "demurrage/demurragelaw.DateMonths", spec := "dateMonths", named := ["demurrage/date.long"], apart := false, laid := [("demurrage/date.long", laid_demurrage_date_long)] }
def DateMonthsSaid : Prop := dateMonthsRow.holds Tryd.pinned (OpenSpec.ofChange dateMonthsSpec)

/-- ITS FALSE NEIGHBOUR: 'it returns false'. Refute it at one input. -/
def dateMonthsWrong : ChangeSpec := { name := "dateMonths", fn := fun _ => fun
  | [d1, d2] => { results := [.lit (.bool false)], args := [d1, d2] }
  | _ => none }
def DateMonthsWrongFalsely : Prop := dateMonthsRow.holds Tryd.pinned (OpenSpec.ofChange dateMonthsWrong)

/-- 'demurragelaw.DateLong': WHATEVER THE INPUT: true; the input reads as it did. -/
def dateLongSpec : ChangeSpec := { name := "dateLong", fn := fun _ => fun
  | [d] => { results := [.lit (.bool true)], args := [d] }
  | _ => none }
def dateLongRow : OpenClaim := { program := "ytljmpbopgoagcaadoor", sum := "19dc8934bdae71d945579a3c2f5f84e3cb5e2b389be19bb22621b6799120381f", func := "demurrage/demurragelaw.DateLong", spec := "dateLong", named := ["demurrage/date.long"], apart := false, laid := [("demurrage/date.long", laid_demurrage_date_long)] }
def DateLongSaid : Prop := dateLongRow.holds Tryd.pinned (OpenSpec.ofChange dateLongSpec)

/-- ITS FALSE NEIGHBOUR: 'it returns false'. Refute it at one input. -/
def dateLongWrong : ChangeSpec := { name := "dateLong", fn := fun _ => fun
  | [d] => { results := [.lit (.bool false)], args := [d] }
  | _ => none }
def DateLongWrongFalsely : Prop := dateLongRow.holds Tryd.pinned (OpenSpec.ofChange dateLongWrong)

/- THE SECOND FORM. 'bulk': how many values and letters a reading holds, each counted each time it is reached (what is shared counts as often as it is met; a slice's spare places count too). A statement '..UptoSaid' is the law's where the arguments, and the package variables that the reading takes, are together of bulk at most 1048576: NARROWER than '..Said'. Prove '..Said' where nothing that the law and all that it calls make is longer than what came in: it says more and counts as full. Else prove '..UptoSaid'. A law counts once. -/
mutual
def uptoBulk {H : Type} : DataW H → Nat
  | .lit (.string bytes) => bytes.length + 1
  | .lit _ => 1
  | .nil => 1
  | .ptr d => uptoBulk d + 1
  | .slice elems spare => uptoBulkAll elems + uptoBulkAll spare + 1
  | .agg parts => uptoBulkAll parts + 1
  | .iface _ d => uptoBulk d + 1
  | .map entries => uptoBulkEntries entries + 1
  | .held _ => 1
def uptoBulkAll {H : Type} : List (DataW H) → Nat
  | [] => 0
  | d :: r => uptoBulk d + uptoBulkAll r
def uptoBulkEntries {H : Type} : List (Lit × DataW H) → Nat
  | [] => 0
  | x :: r => uptoBulkEntry x + uptoBulkEntries r
def uptoBulkEntry {H : Type} : Lit × DataW H → Nat
  | (.string bytes, d) => bytes.length + uptoBulk d + 1
  | (_, d) => uptoBulk d + 1
 end
def uptoSmall : (H : Type) → List (DataW H) → Bool := fun _ ds => decide (uptoBulkAll ds ≤ 1048576)
def OpenSpec.upto (s : _root_.Go.ChangeSpec) : _root_.Go.OpenSpec := { _root_.Go.OpenSpec.ofChange s with cond := some uptoSmall }

/-- 'demurragelaw.DateTells', WHERE WHAT IT READS IS OF BULK AT MOST 1048576: true; the input reads as it did. -/
def dateTellsUptoRow : OpenClaim := { program := "ytljmpbopgoagcaadoor", sum := "19dc8934bdae71d945579a3c2f5f84e3cb5e2b389be19bb22621b6799120381f", func := "demurrage/demurragelaw.DateTells", spec := "dateTells", named := ["demurrage/date.long"], apart := false, laid := [("demurrage/date.long", laid_demurrage_date_long)], narrowed := true }
def DateTellsUptoSaid : Prop := dateTellsUptoRow.holds Tryd.pinned (OpenSpec.upto dateTellsSpec)

/-- 'demurragelaw.DateBack', WHERE WHAT IT READS IS OF BULK AT MOST 1048576: true; the input reads as it did. -/
def dateBackUptoRow : OpenClaim := { program := "ytljmpbopgoagcaadoor", sum := "19dc8934bdae71d945579a3c2f5f84e3cb5e2b389be19bb22621b6799120381f", func := "demurrage/demurragelaw.DateBack", spec := "dateBack", named := ["demurrage/date.long"], apart := false, laid := [("demurrage/date.long", laid_demurrage_date_long)], narrowed := true }
def DateBackUptoSaid : Prop := dateBackUptoRow.holds Tryd.pinned (OpenSpec.upto dateBackSpec)

/-- 'demurragelaw.DateRound', WHERE WHAT IT READS IS OF BULK AT MOST 1048576: true; the input reads as it did. -/
def dateRoundUptoRow : OpenClaim := { program := "ytljmpbopgoagcaadoor", sum := "19dc8934bdae71d945579a3c2f5f84e3cb5e2b389be19bb22621b6799120381f", func := "demurrage/demurragelaw.DateRound", spec := "dateRound", named := ["demurrage/date.long"], apart := false, laid := [("demurrage/date.long", laid_demurrage_date_long)], narrowed := true }
def DateRoundUptoSaid : Prop := dateRoundUptoRow.holds Tryd.pinned (OpenSpec.upto dateRoundSpec)

/-- 'demurragelaw.DateOrder', WHERE WHAT IT READS IS OF BULK AT MOST 1048576: true; the input reads as it did. -/
def dateOrderUptoRow : OpenClaim := { program := "ytljmpbopgoagcaadoor", sum := "19dc8934bdae71d945579a3c2f5f84e3cb5e2b389be19bb22621b6799120381f", func := "demurrage/demurragelaw.DateOrder", spec := "dateOrder", named := ["demurrage/date.long"], apart := false, laid := [("demurrage/date.long", laid_demurrage_date_long)], narrowed := true }
def DateOrderUptoSaid : Prop := dateOrderUptoRow.holds Tryd.pinned (OpenSpec.upto dateOrderSpec)

/-- 'demurragelaw.DateMonths', WHERE WHAT IT READS IS OF BULK AT MOST 1048576: true; the input reads as it did. -/
def dateMonthsUptoRow : OpenClaim := { program := "ytljmpbopgoagcaadoor", sum := "19dc8934bdae71d945579a3c2f5f84e3cb5e2b389be19bb22621b6799120381f", func := "demurrage/demurragelaw.DateMonths", spec := "dateMonths", named := ["demurrage/date.long"], apart := false, laid := [("demurrage/date.long", laid_demurrage_date_long)], narrowed := true }
def DateMonthsUptoSaid : Prop := dateMonthsUptoRow.holds Tryd.pinned (OpenSpec.upto dateMonthsSpec)

/-- 'demurragelaw.DateLong', WHERE WHAT IT READS IS OF BULK AT MOST 1048576: true; the input reads as it did. -/
def dateLongUptoRow : OpenClaim := { program := "ytljmpbopgoagcaadoor", sum := "19dc8934bdae71d945579a3c2f5f84e3cb5e2b389be19bb22621b6799120381f", func := "demurrage/demurragelaw.DateLong", spec := "dateLong", named := ["demurrage/date.long"], apart := false, laid := [("demurrage/date.long", laid_demurrage_date_long)], narrowed := true }
def DateLongUptoSaid : Prop := dateLongUptoRow.holds Tryd.pinned (OpenSpec.upto dateLongSpec)

end Rows
end Go.Proofs.YtljmpbopgoagcaaDoor
