/-
  No cell of these rows narrows 'for every input' (looked for: loops, veiled, ifaces, maps, wideKeys, modest, calm, conditions, laid).
  DERIVED. THE GIVEN ROWS OF THIS SEAT. 6 by the template 'for every input the law returns true; each argument reads behind the call as it read before'; 0 by the template 'total and deterministic' (their statements: YthimkklcphoohaaTotals.lean).
  GIVEN WITH THE SEED: the statements are not yours to turn. If you find one false, say at which input.
  Laid BY PROGRAM, IN A SANDBOX (cutbox-rows.mjs): the forced cells as the released guide's own fill.sh prints them over the translation a7b2ef66896542de… (all of the seat's roots in one cut). By AI agents, Wed Nov 11 2026. No macro, syntax, notation, axiom, sorry.
-/
import Derived.Test.YthimkklcphoohaaChecked
import GoSem.Claim
import GoSem.ClaimJoined
import GoSem.ClaimMapViews
import Derived.JoinedTies
import Derived.KernelRfl
namespace Go.Proofs.Ythimkklcphoohaa
/- THE CELL 'sum', in the pinned program and in every row, IS THE sha256 OF THE DUMP (.gsa) THAT YthimkklcphoohaaProg.lean LOADS. Nothing in Lean hashes anything: it is a label: what it is worth is what the hold of that sum in a sandbox is worth. -/
noncomputable def Try.pinned : Pinned := { name := "ythimkklcphoohaa", sum := "a7b2ef66896542de24ea92f68dda8e6d5cade2a243560f6916407b3ac32de80c", checked := Try.checked }
namespace Rows
def none {H : Type} : Left H := { results := [], args := [] }

/-- 'demurragelaw.LoanTells': WHATEVER THE INPUT: true; the input reads as it did. -/
def loanTellsSpec : ChangeSpec := { name := "loanTells", fn := fun _ => fun
  | [d1, d2, d3] => { results := [.lit (.bool true)], args := [d1, d2, d3] }
  | _ => none }
def loanTellsRow : OpenClaim := { program := "ythimkklcphoohaa", sum := "a7b2ef66896542de24ea92f68dda8e6d5cade2a243560f6916407b3ac32de80c", func := "demurrage/demurragelaw.LoanTells", spec := "loanTells", unfollowed := true, recurses := true, named := ["math/bits.divideError", "math/bits.overflowError"], apart := false }
def LoanTellsSaid : Prop := loanTellsRow.holds Try.pinned (OpenSpec.ofChange loanTellsSpec)

/-- ITS FALSE NEIGHBOUR: 'it returns false'. Refute it at one input. -/
def loanTellsWrong : ChangeSpec := { name := "loanTells", fn := fun _ => fun
  | [d1, d2, d3] => { results := [.lit (.bool false)], args := [d1, d2, d3] }
  | _ => none }
def LoanTellsWrongFalsely : Prop := loanTellsRow.holds Try.pinned (OpenSpec.ofChange loanTellsWrong)

/-- 'demurragelaw.LoanFits': WHATEVER THE INPUT: true; the input reads as it did. -/
def loanFitsSpec : ChangeSpec := { name := "loanFits", fn := fun _ => fun
  | [d1, d2] => { results := [.lit (.bool true)], args := [d1, d2] }
  | _ => none }
def loanFitsRow : OpenClaim := { program := "ythimkklcphoohaa", sum := "a7b2ef66896542de24ea92f68dda8e6d5cade2a243560f6916407b3ac32de80c", func := "demurrage/demurragelaw.LoanFits", spec := "loanFits", unfollowed := true, recurses := true, named := ["math/bits.divideError", "math/bits.overflowError"], apart := false }
def LoanFitsSaid : Prop := loanFitsRow.holds Try.pinned (OpenSpec.ofChange loanFitsSpec)

/-- ITS FALSE NEIGHBOUR: 'it returns false'. Refute it at one input. -/
def loanFitsWrong : ChangeSpec := { name := "loanFits", fn := fun _ => fun
  | [d1, d2] => { results := [.lit (.bool false)], args := [d1, d2] }
  | _ => none }
def LoanFitsWrongFalsely : Prop := loanFitsRow.holds Try.pinned (OpenSpec.ofChange loanFitsWrong)

/-- 'demurragelaw.LoanBest': WHATEVER THE INPUT: true; the input reads as it did. -/
def loanBestSpec : ChangeSpec := { name := "loanBest", fn := fun _ => fun
  | [d1, d2, d3] => { results := [.lit (.bool true)], args := [d1, d2, d3] }
  | _ => none }
def loanBestRow : OpenClaim := { program := "ythimkklcphoohaa", sum := "a7b2ef66896542de24ea92f68dda8e6d5cade2a243560f6916407b3ac32de80c", func := "demurrage/demurragelaw.LoanBest", spec := "loanBest", unfollowed := true, recurses := true, named := ["math/bits.divideError", "math/bits.overflowError"], apart := false }
def LoanBestSaid : Prop := loanBestRow.holds Try.pinned (OpenSpec.ofChange loanBestSpec)

/-- ITS FALSE NEIGHBOUR: 'it returns false'. Refute it at one input. -/
def loanBestWrong : ChangeSpec := { name := "loanBest", fn := fun _ => fun
  | [d1, d2, d3] => { results := [.lit (.bool false)], args := [d1, d2, d3] }
  | _ => none }
def LoanBestWrongFalsely : Prop := loanBestRow.holds Try.pinned (OpenSpec.ofChange loanBestWrong)

/-- 'demurragelaw.LoanBack': WHATEVER THE INPUT: true; the input reads as it did. -/
def loanBackSpec : ChangeSpec := { name := "loanBack", fn := fun _ => fun
  | [d1, d2, d3, d4] => { results := [.lit (.bool true)], args := [d1, d2, d3, d4] }
  | _ => none }
def loanBackRow : OpenClaim := { program := "ythimkklcphoohaa", sum := "a7b2ef66896542de24ea92f68dda8e6d5cade2a243560f6916407b3ac32de80c", func := "demurrage/demurragelaw.LoanBack", spec := "loanBack", unfollowed := true, recurses := true, named := ["math/bits.divideError", "math/bits.overflowError"], apart := false }
def LoanBackSaid : Prop := loanBackRow.holds Try.pinned (OpenSpec.ofChange loanBackSpec)

/-- ITS FALSE NEIGHBOUR: 'it returns false'. Refute it at one input. -/
def loanBackWrong : ChangeSpec := { name := "loanBack", fn := fun _ => fun
  | [d1, d2, d3, d4] => { results := [.lit (.bool false)], args := [d1, d2, d3, d4] }
  | _ => none }
def LoanBackWrongFalsely : Prop := loanBackRow.holds Try.pinned (OpenSpec.ofChange loanBackWrong)

/-- 'demurragelaw.LoanMore': WHATEVER THE INPUT: true; the input reads as it did. -/
def loanMoreSpec : ChangeSpec := { name := "loanMore", fn := fun _ => fun
  | [d1, d2, d3] => { results := [.lit (.bool true)], args := [d1, d2, d3] }
  | _ => none }
def loanMoreRow : OpenClaim := { program := "ythimkklcphoohaa", sum := "a7b2ef66896542de24ea92f68dda8e6d5cade2a243560f6916407b3ac32de80c", func := "demurrage/demurragelaw.LoanMore", spec := "loanMore", unfollowed := true, recurses := true, named := ["math/bits.divideError", "math/bits.overflowError"], apart := false }
def LoanMoreSaid : Prop := loanMoreRow.holds Try.pinned (OpenSpec.ofChange loanMoreSpec)

/-- ITS FALSE NEIGHBOUR: 'it returns false'. Refute it at one input. -/
def loanMoreWrong : ChangeSpec := { name := "loanMore", fn := fun _ => fun
  | [d1, d2, d3] => { results := [.lit (.bool false)], args := [d1, d2, d3] }
  | _ => none }
def LoanMoreWrongFalsely : Prop := loanMoreRow.holds Try.pinned (OpenSpec.ofChange loanMoreWrong)

/-- 'demurragelaw.LoanOne': WHATEVER THE INPUT: true; the input reads as it did. -/
def loanOneSpec : ChangeSpec := { name := "loanOne", fn := fun _ => fun
  | [d1, d2] => { results := [.lit (.bool true)], args := [d1, d2] }
  | _ => none }
def loanOneRow : OpenClaim := { program := "ythimkklcphoohaa", sum := "a7b2ef66896542de24ea92f68dda8e6d5cade2a243560f6916407b3ac32de80c", func := "demurrage/demurragelaw.LoanOne", spec := "loanOne", unfollowed := true, recurses := true, named := ["math/bits.divideError", "math/bits.overflowError"], apart := false }
def LoanOneSaid : Prop := loanOneRow.holds Try.pinned (OpenSpec.ofChange loanOneSpec)

/-- ITS FALSE NEIGHBOUR: 'it returns false'. Refute it at one input. -/
def loanOneWrong : ChangeSpec := { name := "loanOne", fn := fun _ => fun
  | [d1, d2] => { results := [.lit (.bool false)], args := [d1, d2] }
  | _ => none }
def LoanOneWrongFalsely : Prop := loanOneRow.holds Try.pinned (OpenSpec.ofChange loanOneWrong)

/- THE SECOND FORM. 'bulk': how many values and letters a reading holds, each counted each time it is reached (what is shared counts as often as it is met; a slice's spare places count too). A statement '..UptoSaid' is the law's where the arguments, and the package variables that the reading takes, are together of bulk at most 1048576: NARROWER than '..Said'. Prove '..Said' where nothing that the law and all that it calls make is longer than what came in: it says more and counts as full. Else prove '..UptoSaid'. A law counts once. -/
mutual
def uptoBulk {H : Type} : DataW H → Nat
  | .lit (.string bytes) => bytes.length + 1
  | .lit _ => 1
  | .nil => 1
  | .ptr d => uptoBulk d + 1
  | .slice elems spare => uptoBulkAll elems + uptoBulkAll spare + 1
  | .agg parts => uptoBulkAll parts + 1
  | .iface _ d => uptoBulk d + 1
  | .map entries => uptoBulkEntries entries + 1
  | .held _ => 1
def uptoBulkAll {H : Type} : List (DataW H) → Nat
  | [] => 0
  | d :: r => uptoBulk d + uptoBulkAll r
def uptoBulkEntries {H : Type} : List (Lit × DataW H) → Nat
  | [] => 0
  | x :: r => uptoBulkEntry x + uptoBulkEntries r
def uptoBulkEntry {H : Type} : Lit × DataW H → Nat
  | (.string bytes, d) => bytes.length + uptoBulk d + 1
  | (_, d) => uptoBulk d + 1
 end
def uptoSmall : (H : Type) → List (DataW H) → Bool := fun _ ds => decide (uptoBulkAll ds ≤ 1048576)
def OpenSpec.upto (s : _root_.Go.ChangeSpec) : _root_.Go.OpenSpec := { _root_.Go.OpenSpec.ofChange s with cond := some uptoSmall }

/-- 'demurragelaw.LoanTells', WHERE WHAT IT READS IS OF BULK AT MOST 1048576: true; the input reads as it did. -/
def loanTellsUptoRow : OpenClaim := { program := "ythimkklcphoohaa", sum := "a7b2ef66896542de24ea92f68dda8e6d5cade2a243560f6916407b3ac32de80c", func := "demurrage/demurragelaw.LoanTells", spec := "loanTells", unfollowed := true, recurses := true, named := ["math/bits.divideError", "math/bits.overflowError"], apart := false, narrowed := true }
def LoanTellsUptoSaid : Prop := loanTellsUptoRow.holds Try.pinned (OpenSpec.upto loanTellsSpec)

/-- 'demurragelaw.LoanFits', WHERE WHAT IT READS IS OF BULK AT MOST 1048576: true; the input reads as it did. -/
def loanFitsUptoRow : OpenClaim := { program := "ythimkklcphoohaa", sum := "a7b2ef66896542de24ea92f68dda8e6d5cade2a243560f6916407b3ac32de80c", func := "demurrage/demurragelaw.LoanFits", spec := "loanFits", unfollowed := true, recurses := true, named := ["math/bits.divideError", "math/bits.overflowError"], apart := false, narrowed := true }
def LoanFitsUptoSaid : Prop := loanFitsUptoRow.holds Try.pinned (OpenSpec.upto loanFitsSpec)

/-- 'demurragelaw.LoanBest', WHERE WHAT IT READS IS OF BULK AT MOST 1048576: true; the input reads as it did. -/
def loanBestUptoRow : OpenClaim := { program := "ythimkklcphoohaa", sum := "a7b2ef66896542de24ea92f68dda8e6d5cade2a243560f6916407b3ac32de80c", func := "demurrage/demurragelaw.LoanBest", spec := "loanBest", unfollowed := true, recurses := true, named := ["math/bits.divideError", "math/bits.overflowError"], apart := false, narrowed := true }
def LoanBestUptoSaid : Prop := loanBestUptoRow.holds Try.pinned (OpenSpec.upto loanBestSpec)

/-- 'demurragelaw.LoanBack', WHERE WHAT IT READS IS OF BULK AT MOST 1048576: true; the input reads as it did. -/
def loanBackUptoRow : OpenClaim := { program := "ythimkklcphoohaa", sum := "a7b2ef66896542de24ea92f68dda8e6d5cade2a243560f6916407b3ac32de80c", func := "demurrage/demurragelaw.LoanBack", spec := "loanBack", unfollowed := true, recurses := true, named := ["math/bits.divideError", "math/bits.overflowError"], apart := false, narrowed := true }
def LoanBackUptoSaid : Prop := loanBackUptoRow.holds Try.pinned (OpenSpec.upto loanBackSpec)

/-- 'demurragelaw.LoanMore', WHERE WHAT IT READS IS OF BULK AT MOST 1048576: true; the input reads as it did. -/
def loanMoreUptoRow : OpenClaim := { program := "ythimkklcphoohaa", sum := "a7b2ef66896542de24ea92f68dda8e6d5cade2a243560f6916407b3ac32de80c", func := "demurrage/demurragelaw.LoanMore", spec := "loanMore", unfollowed := true, recurses := true, named := ["math/bits.divideError", "math/bits.overflowError"], apart := false, narrowed := true }
def LoanMoreUptoSaid : Prop := loanMoreUptoRow.holds Try.pinned (OpenSpec.upto loanMoreSpec)

/-- 'demurragelaw.LoanOne', WHERE WHAT IT READS IS OF BULK AT MOST 1048576: true; the input reads as it did. -/
def loanOneUptoRow : OpenClaim := { program := "ythimkklcphoohaa", sum := "a7b2ef66896542de24ea92f68dda8e6d5cade2a243560f6916407b3ac32de80c", func := "demurrage/demurragelaw.LoanOne", spec := "loanOne", unfollowed := true, recurses := true, named := ["math/bits.divideError", "math/bits.overflowError"], apart := false, narrowed := true }
def LoanOneUptoSaid : Prop := loanOneUptoRow.holds Try.pinned (OpenSpec.upto loanOneSpec)

end Rows
end Go.Proofs.Ythimkklcphoohaa
