/-
  NARROWER THAN 'FOR EVERY INPUT', by the rows' own cells (each row's printed sentence says how): CalTells: laid · CalBack: laid · CalParts: laid · CalNext: laid · CalHoliday: laid · CalFit: laid.
  DERIVED. THE GIVEN ROWS OF THIS SEAT. 6 by the template 'for every input the law returns true; each argument reads behind the call as it read before'; 0 by the template 'total and deterministic' (their statements: YtngjkjadncgdgaaDoorTotals.lean).
  GIVEN WITH THE SEED: the statements are not yours to turn. If you find one false, say at which input.
  Laid BY PROGRAM, IN A SANDBOX (cutbox-rows.mjs): the forced cells as the released guide's own fill.sh prints them over the translation eaa7aeefc1e22e75… (all of the seat's roots in one cut). By AI agents, Wed Nov 11 2026. No macro, syntax, notation, axiom, sorry.
-/
import Derived.Test.YtngjkjadncgdgaaDoorChecked
import GoSem.Claim
import GoSem.ClaimJoined
import GoSem.ClaimMapViews
import Derived.JoinedTies
import Derived.KernelRfl
namespace Go.Proofs.YtngjkjadncgdgaaDoor
/- THE CELL 'sum', in the pinned program and in every row, IS THE sha256 OF THE DUMP (.gsa) THAT YtngjkjadncgdgaaDoorProg.lean LOADS. Nothing in Lean hashes anything: it is a label: what it is worth is what the hold of that sum in a sandbox is worth. -/
noncomputable def Tryd.pinned : Pinned := { name := "ytngjkjadncgdgaadoor", sum := "eaa7aeefc1e22e75ce9997d9c15cc148f8c1093c027efc642406efac78c6a1ed", checked := Tryd.checked }
namespace Rows
def none {H : Type} : Left H := { results := [], args := [] }

/- WHAT THE LISTED PACKAGE-LEVEL VARIABLES READ AS WHEN THE CALL BEGINS. Each datum BY PROGRAM (the guide's laid-datum.mjs) off the statement by which the dump's own 'gosem.cut.vars' lays the variable. In a bare row this is a premise. The card (YtngjkjadncgdgaaDoorCards.lean) ties it to the program's text. -/
def laid_demurrage_date_long {H : Type} : DataW H := .agg [.lit (.int .i64 31), .lit (.int .i64 28), .lit (.int .i64 31), .lit (.int .i64 30), .lit (.int .i64 31), .lit (.int .i64 30), .lit (.int .i64 31), .lit (.int .i64 31), .lit (.int .i64 30), .lit (.int .i64 31), .lit (.int .i64 30), .lit (.int .i64 31)]

/-- 'demurragelaw.CalTells': WHATEVER THE INPUT: true; the input reads as it did. -/
def calTellsSpec : ChangeSpec := { name := "calTells", fn := fun _ => fun
  | [d1, d2, d3, d4] => { results := [.lit (.bool true)], args := [d1, d2, d3, d4] }
  | _ => none }
def calTellsRow : OpenClaim := { program := "ytngjkjadncgdgaadoor", sum := "eaa7aeefc1e22e75ce9997d9c15cc148f8c1093c027efc642406efac78c6a1ed", func := "demurrage/demurragelaw.CalTells", spec := "calTells", unfollowed := true, recurses := true, named := ["demurrage/date.long"], apart := false, laid := [("demurrage/date.long", laid_demurrage_date_long)] }
def CalTellsSaid : Prop := calTellsRow.holds Tryd.pinned (OpenSpec.ofChange calTellsSpec)

/-- ITS FALSE NEIGHBOUR: 'it returns false'. Refute it at one input. -/
def calTellsWrong : ChangeSpec := { name := "calTells", fn := fun _ => fun
  | [d1, d2, d3, d4] => { results := [.lit (.bool false)], args := [d1, d2, d3, d4] }
  | _ => none }
def CalTellsWrongFalsely : Prop := calTellsRow.holds Tryd.pinned (OpenSpec.ofChange calTellsWrong)

/-- 'demurragelaw.CalBack': WHATEVER THE INPUT: true; the input reads as it did. -/
def calBackSpec : ChangeSpec := { name := "calBack", fn := fun _ => fun
  | [d1, d2, d3] => { results := [.lit (.bool true)], args := [d1, d2, d3] }
  | _ => none }
def calBackRow : OpenClaim := { program := "ytngjkjadncgdgaadoor", sum := "eaa7aeefc1e22e75ce9997d9c15cc148f8c1093c027efc642406efac78c6a1ed", func := "demurrage/demurragelaw.CalBack", spec := "calBack", unfollowed := true, recurses := true, named := ["demurrage/date.long"], apart := false, laid := [("demurrage/date.long", laid_demurrage_date_long)] }
def CalBackSaid : Prop := calBackRow.holds Tryd.pinned (OpenSpec.ofChange calBackSpec)

/-- ITS FALSE NEIGHBOUR: 'it returns false'. Refute it at one input. -/
def calBackWrong : ChangeSpec := { name := "calBack", fn := fun _ => fun
  | [d1, d2, d3] => { results := [.lit (.bool false)], args := [d1, d2, d3] }
  | _ => none }
def CalBackWrongFalsely : Prop := calBackRow.holds Tryd.pinned (OpenSpec.ofChange calBackWrong)

/-- 'demurragelaw.CalParts': WHATEVER THE INPUT: true; the input reads as it did. -/
def calPartsSpec : ChangeSpec := { name := "calParts", fn := fun _ => fun
  | [d1, d2, d3, d4, d5] => { results := [.lit (.bool true)], args := [d1, d2, d3, d4, d5] }
  | _ => none }
def calPartsRow : OpenClaim := { program := "ytngjkjadncgdgaadoor", sum := "eaa7aeefc1e22e75ce9997d9c15cc148f8c1093c027efc642406efac78c6a1ed", func := "demurrage/demurragelaw.CalParts", spec := "calParts", unfollowed := true, recurses := true, named := ["demurrage/date.long"], apart := false, laid := [("demurrage/date.long", laid_demurrage_date_long)] }
def CalPartsSaid : Prop := calPartsRow.holds Tryd.pinned (OpenSpec.ofChange calPartsSpec)

/-- ITS FALSE NEIGHBOUR: 'it returns false'. Refute it at one input. -/
def calPartsWrong : ChangeSpec := { name := "calParts", fn := fun _ => fun
  | [d1, d2, d3, d4, d5] => { results := [.lit (.bool false)], args := [d1, d2, d3, d4, d5] }
  | _ => none }
def CalPartsWrongFalsely : Prop := calPartsRow.holds Tryd.pinned (OpenSpec.ofChange calPartsWrong)

/-- 'demurragelaw.CalNext': WHATEVER THE INPUT: true; the input reads as it did. -/
def calNextSpec : ChangeSpec := { name := "calNext", fn := fun _ => fun
  | [d1, d2, d3] => { results := [.lit (.bool true)], args := [d1, d2, d3] }
  | _ => none }
def calNextRow : OpenClaim := { program := "ytngjkjadncgdgaadoor", sum := "eaa7aeefc1e22e75ce9997d9c15cc148f8c1093c027efc642406efac78c6a1ed", func := "demurrage/demurragelaw.CalNext", spec := "calNext", unfollowed := true, recurses := true, named := ["demurrage/date.long"], apart := false, laid := [("demurrage/date.long", laid_demurrage_date_long)] }
def CalNextSaid : Prop := calNextRow.holds Tryd.pinned (OpenSpec.ofChange calNextSpec)

/-- ITS FALSE NEIGHBOUR: 'it returns false'. Refute it at one input. -/
def calNextWrong : ChangeSpec := { name := "calNext", fn := fun _ => fun
  | [d1, d2, d3] => { results := [.lit (.bool false)], args := [d1, d2, d3] }
  | _ => none }
def CalNextWrongFalsely : Prop := calNextRow.holds Tryd.pinned (OpenSpec.ofChange calNextWrong)

/-- 'demurragelaw.CalHoliday': WHATEVER THE INPUT: true; the input reads as it did. -/
def calHolidaySpec : ChangeSpec := { name := "calHoliday", fn := fun _ => fun
  | [d1, d2, d3, d4, d5] => { results := [.lit (.bool true)], args := [d1, d2, d3, d4, d5] }
  | _ => none }
def calHolidayRow : OpenClaim := { program := "ytngjkjadncgdgaadoor", sum := "eaa7aeefc1e22e75ce9997d9c15cc148f8c1093c027efc642406efac78c6a1ed", func := "demurrage/demurragelaw.CalHoliday", spec := "calHoliday", unfollowed := true, recurses := true, named := ["demurrage/date.long"], apart := false, laid := [("demurrage/date.long", laid_demurrage_date_long)] }
def CalHolidaySaid : Prop := calHolidayRow.holds Tryd.pinned (OpenSpec.ofChange calHolidaySpec)

/-- ITS FALSE NEIGHBOUR: 'it returns false'. Refute it at one input. -/
def calHolidayWrong : ChangeSpec := { name := "calHoliday", fn := fun _ => fun
  | [d1, d2, d3, d4, d5] => { results := [.lit (.bool false)], args := [d1, d2, d3, d4, d5] }
  | _ => none }
def CalHolidayWrongFalsely : Prop := calHolidayRow.holds Tryd.pinned (OpenSpec.ofChange calHolidayWrong)

/-- 'demurragelaw.CalFit': WHATEVER THE INPUT: true; the input reads as it did. -/
def calFitSpec : ChangeSpec := { name := "calFit", fn := fun _ => fun
  | [d1, d2] => { results := [.lit (.bool true)], args := [d1, d2] }
  | _ => none }
def calFitRow : OpenClaim := { program := "ytngjkjadncgdgaadoor", sum := "eaa7aeefc1e22e75ce9997d9c15cc148f8c1093c027efc642406efac78c6a1ed", func := "demurrage/demurragelaw.CalFit", spec := "calFit", unfollowed := true, recurses := true, named := ["demurrage/date.long"], apart := false, laid := [("demurrage/date.long", laid_demurrage_date_long)] }
def CalFitSaid : Prop := calFitRow.holds Tryd.pinned (OpenSpec.ofChange calFitSpec)

/-- ITS FALSE NEIGHBOUR: 'it returns false'. Refute it at one input. -/
def calFitWrong : ChangeSpec := { name := "calFit", fn := fun _ => fun
  | [d1, d2] => { results := [.lit (.bool false)], args := [d1, d2] }
  | _ => none }
def CalFitWrongFalsely : Prop := calFitRow.holds Tryd.pinned (OpenSpec.ofChange calFitWrong)

/- THE SECOND FORM. 'bulk': how many values and letters a reading holds, each counted each time it is reached (what is shared counts as often as it is met; a slice's spare places count too). A statement '..UptoSaid' is the law's where the arguments, and the package variables that the reading takes, are together of bulk at most 1048576: NARROWER than '..Said'. Prove '..Said' where nothing that the law and all that it calls make is longer than what came in: it says more and counts as full. Else prove '..UptoSaid'. A law counts once. -/
mutual
def uptoBulk {H : Type} : DataW H → Nat
  | .lit (.string bytes) => bytes.length + 1
  | .lit _ => 1
  | .nil => 1
  | .ptr d => uptoBulk d + 1
  | .slice elems spare => uptoBulkAll elems + uptoBulkAll spare + 1
  | .agg parts => uptoBulkAll parts + 1
  | .iface _ d => uptoBulk d + 1
  | .map entries => uptoBulkEntries entries + 1
  | .held _ => 1
def uptoBulkAll {H : Type} : List (DataW H) → Nat
  | [] => 0
  | d :: r => uptoBulk d + uptoBulkAll r
def uptoBulkEntries {H : Type} : List (Lit × DataW H) → Nat
  | [] => 0
  | x :: r => uptoBulkEntry x + uptoBulkEntries r
def uptoBulkEntry {H : Type} : Lit × DataW H → Nat
  | (.string bytes, d) => bytes.length + uptoBulk d + 1
  | (_, d) => uptoBulk d + 1
 end
def uptoSmall : (H : Type) → List (DataW H) → Bool := fun _ ds => decide (uptoBulkAll ds ≤ 1048576)
def OpenSpec.upto (s : _root_.Go.ChangeSpec) : _root_.Go.OpenSpec := { _root_.Go.OpenSpec.ofChange s with cond := some uptoSmall }

/-- 'demurragelaw.CalTells', WHERE WHAT IT READS IS OF BULK AT MOST 1048576: true; the input reads as it did. -/
def calTellsUptoRow : OpenClaim := { program := "ytngjkjadncgdgaadoor", sum := "eaa7aeefc1e22e75ce9997d9c15cc148f8c1093c027efc642406efac78c6a1ed", func := "demurrage/demurragelaw.CalTells", spec := "calTells", unfollowed := true, recurses := true, named := ["demurrage/date.long"], apart := false, laid := [("demurrage/date.long", laid_demurrage_date_long)], narrowed := true }
def CalTellsUptoSaid : Prop := calTellsUptoRow.holds Tryd.pinned (OpenSpec.upto calTellsSpec)

/-- 'demurragelaw.CalBack', WHERE WHAT IT READS IS OF BULK AT MOST 1048576: true; the input reads as it did. -/
def calBackUptoRow : OpenClaim := { program := "ytngjkjadncgdgaadoor", sum := "eaa7aeefc1e22e75ce9997d9c15cc148f8c1093c027efc642406efac78c6a1ed", func := "demurrage/demurragelaw.CalBack", spec := "calBack", unfollowed := true, recurses := true, named := ["demurrage/date.long"], apart := false, laid := [("demurrage/date.long", laid_demurrage_date_long)], narrowed := true }
def CalBackUptoSaid : Prop := calBackUptoRow.holds Tryd.pinned (OpenSpec.upto calBackSpec)

/-- 'demurragelaw.CalParts', WHERE WHAT IT READS IS OF BULK AT MOST 1048576: true; the input reads as it did. -/
def calPartsUptoRow : OpenClaim := { program := "ytngjkjadncgdgaadoor", sum := "eaa7aeefc1e22e75ce9997d9c15cc148f8c1093c027efc642406efac78c6a1ed", func := "demurrage/demurragelaw.CalParts", spec := "calParts", unfollowed := true, recurses := true, named := ["demurrage/date.long"], apart := false, laid := [("demurrage/date.long", laid_demurrage_date_long)], narrowed := true }
def CalPartsUptoSaid : Prop := calPartsUptoRow.holds Tryd.pinned (OpenSpec.upto calPartsSpec)

/-- 'demurragelaw.CalNext', WHERE WHAT IT READS IS OF BULK AT MOST 1048576: true; the input reads as it did. -/
def calNextUptoRow : OpenClaim := { program := "ytngjkjadncgdgaadoor", sum := "eaa7aeefc1e22e75ce9997d9c15cc148f8c1093c027efc642406efac78c6a1ed", func := "demurrage/demurragelaw.CalNext", spec := "calNext", unfollowed := true, recurses := true, named := ["demurrage/date.long"], apart := false, laid := [("demurrage/date.long", laid_demurrage_date_long)], narrowed := true }
def CalNextUptoSaid : Prop := calNextUptoRow.holds Tryd.pinned (OpenSpec.upto calNextSpec)

/-- 'demurragelaw.CalHoliday', WHERE WHAT IT READS IS OF BULK AT MOST 1048576: true; the input reads as it did. -/
def calHolidayUptoRow : OpenClaim := { program := "ytngjkjadncgdgaadoor", sum := "eaa7aeefc1e22e75ce9997d9c15cc148f8c1093c027efc642406efac78c6a1ed", func := "demurrage/demurragelaw.CalHoliday", spec := "calHoliday", unfollowed := true, recurses := true, named := ["demurrage/date.long"], apart := false, laid := [("demurrage/date.long", laid_demurrage_date_long)], narrowed := true }
def CalHolidayUptoSaid : Prop := calHolidayUptoRow.holds Tryd.pinned (OpenSpec.upto calHolidaySpec)

/-- 'demurragelaw.CalFit', WHERE WHAT IT READS IS OF BULK AT MOST 1048576: true; the input reads as it did. -/
def calFitUptoRow : OpenClaim := { program := "ytngjkjadncgdgaadoor", sum := "eaa7aeefc1e22e75ce9997d9c15cc148f8c1093c027efc642406efac78c6a1ed", func := "demurrage/demurragelaw.CalFit", spec := "calFit", unfollowed := true, recurses := true, named := ["demurrage/date.long"], apart := false, laid := [("demurrage/date.long", laid_demurrage_date_long)], narrowed := true }
def CalFitUptoSaid : Prop := calFitUptoRow.holds Tryd.pinned (OpenSpec.upto calFitSpec)

end Rows
end Go.Proofs.YtngjkjadncgdgaaDoor
