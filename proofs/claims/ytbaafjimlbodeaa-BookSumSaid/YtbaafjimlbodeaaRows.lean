/-
  No cell of these rows narrows 'for every input' (looked for: loops, veiled, ifaces, maps, wideKeys, modest, calm, conditions, laid).
  DERIVED. THE GIVEN ROWS OF THIS SEAT. 7 by the template 'for every input the law returns true; each argument reads behind the call as it read before'; 0 by the template 'total and deterministic' (their statements: YtbaafjimlbodeaaTotals.lean).
  GIVEN WITH THE SEED: the statements are not yours to turn. If you find one false, say at which input.
  Laid BY PROGRAM, IN A SANDBOX (cutbox-rows.mjs): the forced cells as the released guide's own fill.sh prints them over the translation 59429b5315c03295… (all of the seat's roots in one cut). By AI agents, Wed Nov 11 2026. No macro, syntax, notation, axiom, sorry.
-/
import Derived.Test.YtbaafjimlbodeaaChecked
import GoSem.Claim
import GoSem.ClaimJoined
import GoSem.ClaimMapViews
import Derived.JoinedTies
import Derived.KernelRfl
namespace Go.Proofs.Ytbaafjimlbodeaa
/- THE CELL 'sum', in the pinned program and in every row, IS THE sha256 OF THE DUMP (.gsa) THAT YtbaafjimlbodeaaProg.lean LOADS. Nothing in Lean hashes anything: it is a label: what it is worth is what the hold of that sum in a sandbox is worth. -/
noncomputable def Try.pinned : Pinned := { name := "ytbaafjimlbodeaa", sum := "59429b5315c03295bffda63ccc5b420ce64f9db4de67c0a675e45ba574e295f0", checked := Try.checked }
namespace Rows
def none {H : Type} : Left H := { results := [], args := [] }

/-- 'demurragelaw.BookTells': WHATEVER THE INPUT: true; the input reads as it did. -/
def bookTellsSpec : ChangeSpec := { name := "bookTells", fn := fun _ => fun
  | [d1, d2, d3, d4] => { results := [.lit (.bool true)], args := [d1, d2, d3, d4] }
  | _ => none }
def bookTellsRow : OpenClaim := { program := "ytbaafjimlbodeaa", sum := "59429b5315c03295bffda63ccc5b420ce64f9db4de67c0a675e45ba574e295f0", func := "demurrage/demurragelaw.BookTells", spec := "bookTells", unfollowed := true, recurses := true, apart := false }
def BookTellsSaid : Prop := bookTellsRow.holds Try.pinned (OpenSpec.ofChange bookTellsSpec)

/-- ITS FALSE NEIGHBOUR: 'it returns false'. Refute it at one input. -/
def bookTellsWrong : ChangeSpec := { name := "bookTells", fn := fun _ => fun
  | [d1, d2, d3, d4] => { results := [.lit (.bool false)], args := [d1, d2, d3, d4] }
  | _ => none }
def BookTellsWrongFalsely : Prop := bookTellsRow.holds Try.pinned (OpenSpec.ofChange bookTellsWrong)

/-- 'demurragelaw.BookEven': WHATEVER THE INPUT: true; the input reads as it did. -/
def bookEvenSpec : ChangeSpec := { name := "bookEven", fn := fun _ => fun
  | [d1, d2, d3, d4] => { results := [.lit (.bool true)], args := [d1, d2, d3, d4] }
  | _ => none }
def bookEvenRow : OpenClaim := { program := "ytbaafjimlbodeaa", sum := "59429b5315c03295bffda63ccc5b420ce64f9db4de67c0a675e45ba574e295f0", func := "demurrage/demurragelaw.BookEven", spec := "bookEven", unfollowed := true, recurses := true, apart := false }
def BookEvenSaid : Prop := bookEvenRow.holds Try.pinned (OpenSpec.ofChange bookEvenSpec)

/-- ITS FALSE NEIGHBOUR: 'it returns false'. Refute it at one input. -/
def bookEvenWrong : ChangeSpec := { name := "bookEven", fn := fun _ => fun
  | [d1, d2, d3, d4] => { results := [.lit (.bool false)], args := [d1, d2, d3, d4] }
  | _ => none }
def BookEvenWrongFalsely : Prop := bookEvenRow.holds Try.pinned (OpenSpec.ofChange bookEvenWrong)

/-- 'demurragelaw.BookTurn': WHATEVER THE INPUT: true; the input reads as it did. -/
def bookTurnSpec : ChangeSpec := { name := "bookTurn", fn := fun _ => fun
  | [d1, d2] => { results := [.lit (.bool true)], args := [d1, d2] }
  | _ => none }
def bookTurnRow : OpenClaim := { program := "ytbaafjimlbodeaa", sum := "59429b5315c03295bffda63ccc5b420ce64f9db4de67c0a675e45ba574e295f0", func := "demurrage/demurragelaw.BookTurn", spec := "bookTurn", unfollowed := true, recurses := true, apart := false }
def BookTurnSaid : Prop := bookTurnRow.holds Try.pinned (OpenSpec.ofChange bookTurnSpec)

/-- ITS FALSE NEIGHBOUR: 'it returns false'. Refute it at one input. -/
def bookTurnWrong : ChangeSpec := { name := "bookTurn", fn := fun _ => fun
  | [d1, d2] => { results := [.lit (.bool false)], args := [d1, d2] }
  | _ => none }
def BookTurnWrongFalsely : Prop := bookTurnRow.holds Try.pinned (OpenSpec.ofChange bookTurnWrong)

/-- 'demurragelaw.BookOrder': WHATEVER THE INPUT: true; the input reads as it did. -/
def bookOrderSpec : ChangeSpec := { name := "bookOrder", fn := fun _ => fun
  | [d1, d2, d3] => { results := [.lit (.bool true)], args := [d1, d2, d3] }
  | _ => none }
def bookOrderRow : OpenClaim := { program := "ytbaafjimlbodeaa", sum := "59429b5315c03295bffda63ccc5b420ce64f9db4de67c0a675e45ba574e295f0", func := "demurrage/demurragelaw.BookOrder", spec := "bookOrder", unfollowed := true, recurses := true, apart := false }
def BookOrderSaid : Prop := bookOrderRow.holds Try.pinned (OpenSpec.ofChange bookOrderSpec)

/-- ITS FALSE NEIGHBOUR: 'it returns false'. Refute it at one input. -/
def bookOrderWrong : ChangeSpec := { name := "bookOrder", fn := fun _ => fun
  | [d1, d2, d3] => { results := [.lit (.bool false)], args := [d1, d2, d3] }
  | _ => none }
def BookOrderWrongFalsely : Prop := bookOrderRow.holds Try.pinned (OpenSpec.ofChange bookOrderWrong)

/-- 'demurragelaw.BookTrial': WHATEVER THE INPUT: true; the input reads as it did. -/
def bookTrialSpec : ChangeSpec := { name := "bookTrial", fn := fun _ => fun
  | [d] => { results := [.lit (.bool true)], args := [d] }
  | _ => none }
def bookTrialRow : OpenClaim := { program := "ytbaafjimlbodeaa", sum := "59429b5315c03295bffda63ccc5b420ce64f9db4de67c0a675e45ba574e295f0", func := "demurrage/demurragelaw.BookTrial", spec := "bookTrial", unfollowed := true, recurses := true, apart := false }
def BookTrialSaid : Prop := bookTrialRow.holds Try.pinned (OpenSpec.ofChange bookTrialSpec)

/-- ITS FALSE NEIGHBOUR: 'it returns false'. Refute it at one input. -/
def bookTrialWrong : ChangeSpec := { name := "bookTrial", fn := fun _ => fun
  | [d] => { results := [.lit (.bool false)], args := [d] }
  | _ => none }
def BookTrialWrongFalsely : Prop := bookTrialRow.holds Try.pinned (OpenSpec.ofChange bookTrialWrong)

/-- 'demurragelaw.BookSplit': WHATEVER THE INPUT: true; the input reads as it did. -/
def bookSplitSpec : ChangeSpec := { name := "bookSplit", fn := fun _ => fun
  | [d1, d2, d3] => { results := [.lit (.bool true)], args := [d1, d2, d3] }
  | _ => none }
def bookSplitRow : OpenClaim := { program := "ytbaafjimlbodeaa", sum := "59429b5315c03295bffda63ccc5b420ce64f9db4de67c0a675e45ba574e295f0", func := "demurrage/demurragelaw.BookSplit", spec := "bookSplit", unfollowed := true, recurses := true, apart := false }
def BookSplitSaid : Prop := bookSplitRow.holds Try.pinned (OpenSpec.ofChange bookSplitSpec)

/-- ITS FALSE NEIGHBOUR: 'it returns false'. Refute it at one input. -/
def bookSplitWrong : ChangeSpec := { name := "bookSplit", fn := fun _ => fun
  | [d1, d2, d3] => { results := [.lit (.bool false)], args := [d1, d2, d3] }
  | _ => none }
def BookSplitWrongFalsely : Prop := bookSplitRow.holds Try.pinned (OpenSpec.ofChange bookSplitWrong)

/-- 'demurragelaw.BookSum': WHATEVER THE INPUT: true; the input reads as it did. -/
def bookSumSpec : ChangeSpec := { name := "bookSum", fn := fun _ => fun
  | [d1, d2] => { results := [.lit (.bool true)], args := [d1, d2] }
  | _ => none }
def bookSumRow : OpenClaim := { program := "ytbaafjimlbodeaa", sum := "59429b5315c03295bffda63ccc5b420ce64f9db4de67c0a675e45ba574e295f0", func := "demurrage/demurragelaw.BookSum", spec := "bookSum", unfollowed := true, recurses := true, apart := false }
def BookSumSaid : Prop := bookSumRow.holds Try.pinned (OpenSpec.ofChange bookSumSpec)

/-- ITS FALSE NEIGHBOUR: 'it returns false'. Refute it at one input. -/
def bookSumWrong : ChangeSpec := { name := "bookSum", fn := fun _ => fun
  | [d1, d2] => { results := [.lit (.bool false)], args := [d1, d2] }
  | _ => none }
def BookSumWrongFalsely : Prop := bookSumRow.holds Try.pinned (OpenSpec.ofChange bookSumWrong)

/- THE SECOND FORM. 'bulk': how many values and letters a reading holds, each counted each time it is reached (what is shared counts as often as it is met; a slice's spare places count too). A statement '..UptoSaid' is the law's where the arguments, and the package variables that the reading takes, are together of bulk at most 1048576: NARROWER than '..Said'. Prove '..Said' where nothing that the law and all that it calls make is longer than what came in: it says more and counts as full. Else prove '..UptoSaid'. A law counts once. -/
mutual
def uptoBulk {H : Type} : DataW H → Nat
  | .lit (.string bytes) => bytes.length + 1
  | .lit _ => 1
  | .nil => 1
  | .ptr d => uptoBulk d + 1
  | .slice elems spare => uptoBulkAll elems + uptoBulkAll spare + 1
  | .agg parts => uptoBulkAll parts + 1
  | .iface _ d => uptoBulk d + 1
  | .map entries => uptoBulkEntries entries + 1
  | .held _ => 1
def uptoBulkAll {H : Type} : List (DataW H) → Nat
  | [] => 0
  | d :: r => uptoBulk d + uptoBulkAll r
def uptoBulkEntries {H : Type} : List (Lit × DataW H) → Nat
  | [] => 0
  | x :: r => uptoBulkEntry x + uptoBulkEntries r
def uptoBulkEntry {H : Type} : Lit × DataW H → Nat
  | (.string bytes, d) => bytes.length + uptoBulk d + 1
  | (_, d) => uptoBulk d + 1
 end
def uptoSmall : (H : Type) → List (DataW H) → Bool := fun _ ds => decide (uptoBulkAll ds ≤ 1048576)
def OpenSpec.upto (s : _root_.Go.ChangeSpec) : _root_.Go.OpenSpec := { _root_.Go.OpenSpec.ofChange s with cond := some uptoSmall }

/-- 'demurragelaw.BookTells', WHERE WHAT IT READS IS OF BULK AT MOST 1048576: true; the input reads as it did. -/
def bookTellsUptoRow : OpenClaim := { program := "ytbaafjimlbodeaa", sum := "59429b5315c03295bffda63ccc5b420ce64f9db4de67c0a675e45ba574e295f0", func := "demurrage/demurragelaw.BookTells", spec := "bookTells", unfollowed := true, recurses := true, apart := false, narrowed := true }
def BookTellsUptoSaid : Prop := bookTellsUptoRow.holds Try.pinned (OpenSpec.upto bookTellsSpec)

/-- 'demurragelaw.BookEven', WHERE WHAT IT READS IS OF BULK AT MOST 1048576: true; the input reads as it did. -/
def bookEvenUptoRow : OpenClaim := { program := "ytbaafjimlbodeaa", sum := "59429b5315c03295bffda63ccc5b420ce64f9db4de67c0a675e45ba574e295f0", func := "demurrage/demurragelaw.BookEven", spec := "bookEven", unfollowed := true, recurses := true, apart := false, narrowed := true }
def BookEvenUptoSaid : Prop := bookEvenUptoRow.holds Try.pinned (OpenSpec.upto bookEvenSpec)

/-- 'demurragelaw.BookTurn', WHERE WHAT IT READS IS OF BULK AT MOST 1048576: true; the input reads as it did. -/
def bookTurnUptoRow : OpenClaim := { program := "ytbaafjimlbodeaa", sum := "59429b5315c03295bffda63ccc5b420ce64f9db4de67c0a675e45ba574e295f0", func := "demurrage/demurragelaw.BookTurn", spec := "bookTurn", unfollowed := true, recurses := true, apart := false, narrowed := true }
def BookTurnUptoSaid : Prop := bookTurnUptoRow.holds Try.pinned (OpenSpec.upto bookTurnSpec)

/-- 'demurragelaw.BookOrder', WHERE WHAT IT READS IS OF BULK AT MOST 1048576: true; the input reads as it did. -/
def bookOrderUptoRow : OpenClaim := { program := "ytbaafjimlbodeaa", sum := "59429b5315c03295bffda63ccc5b420ce64f9db4de67c0a675e45ba574e295f0", func := "demurrage/demurragelaw.BookOrder", spec := "bookOrder", unfollowed := true, recurses := true, apart := false, narrowed := true }
def BookOrderUptoSaid : Prop := bookOrderUptoRow.holds Try.pinned (OpenSpec.upto bookOrderSpec)

/-- 'demurragelaw.BookTrial', WHERE WHAT IT READS IS OF BULK AT MOST 1048576: true; the input reads as it did. -/
def bookTrialUptoRow : OpenClaim := { program := "ytbaafjimlbodeaa", sum := "59429b5315c03295bffda63ccc5b420ce64f9db4de67c0a675e45ba574e295f0", func := "demurrage/demurragelaw.BookTrial", spec := "bookTrial", unfollowed := true, recurses := true, apart := false, narrowed := true }
def BookTrialUptoSaid : Prop := bookTrialUptoRow.holds Try.pinned (OpenSpec.upto bookTrialSpec)

/-- 'demurragelaw.BookSplit', WHERE WHAT IT READS IS OF BULK AT MOST 1048576: true; the input reads as it did. -/
def bookSplitUptoRow : OpenClaim := { program := "ytbaafjimlbodeaa", sum := "59429b5315c03295bffda63ccc5b420ce64f9db4de67c0a675e45ba574e295f0", func := "demurrage/demurragelaw.BookSplit", spec := "bookSplit", unfollowed := true, recurses := true, apart := false, narrowed := true }
def BookSplitUptoSaid : Prop := bookSplitUptoRow.holds Try.pinned (OpenSpec.upto bookSplitSpec)

/-- 'demurragelaw.BookSum', WHERE WHAT IT READS IS OF BULK AT MOST 1048576: true; the input reads as it did. -/
def bookSumUptoRow : OpenClaim := { program := "ytbaafjimlbodeaa", sum := "59429b5315c03295bffda63ccc5b420ce64f9db4de67c0a675e45ba574e295f0", func := "demurrage/demurragelaw.BookSum", spec := "bookSum", unfollowed := true, recurses := true, apart := false, narrowed := true }
def BookSumUptoSaid : Prop := bookSumUptoRow.holds Try.pinned (OpenSpec.upto bookSumSpec)

end Rows
end Go.Proofs.Ytbaafjimlbodeaa
