/-
  No cell of these rows narrows 'for every input' (looked for: loops, veiled, ifaces, maps, wideKeys, modest, calm, conditions, laid).
  DERIVED. THE GIVEN ROWS OF THIS SEAT. 6 by the template 'for every input the law returns true; each argument reads behind the call as it read before'; 0 by the template 'total and deterministic' (their statements: YtcdlhfbpmpjfkaaTotals.lean).
  GIVEN WITH THE SEED: the statements are not yours to turn. If you find one false, say at which input.
  Laid BY PROGRAM, IN A SANDBOX (cutbox-rows.mjs): the forced cells as the released guide's own fill.sh prints them over the translation c3f15b43a7b397a2… (all of the seat's roots in one cut). By AI agents, Wed Nov 11 2026. No macro, syntax, notation, axiom, sorry.
-/
import Derived.Test.YtcdlhfbpmpjfkaaChecked
import GoSem.Claim
import GoSem.ClaimJoined
import GoSem.ClaimMapViews
import Derived.JoinedTies
import Derived.KernelRfl
namespace Go.Proofs.Ytcdlhfbpmpjfkaa
/- THE CELL 'sum', in the pinned program and in every row, IS THE sha256 OF THE DUMP (.gsa) THAT YtcdlhfbpmpjfkaaProg.lean LOADS. Nothing in Lean hashes anything: it is a label: what it is worth is what the hold of that sum in a sandbox is worth. -/
noncomputable def Try.pinned : Pinned := { name := "ytcdlhfbpmpjfkaa", sum := "c3f15b43a7b397a2f34e5583befc75071128974c1c3423003c7c1b40349d0344", checked := Try.checked }
namespace Rows
def none {H : Type} : Left H := { results := [], args := [] }

/-- 'demurragelaw.BuyinTells': WHATEVER THE INPUT: true; the input reads as it did. -/
def buyinTellsSpec : ChangeSpec := { name := "buyinTells", fn := fun _ => fun
  | [d1, d2, d3, d4] => { results := [.lit (.bool true)], args := [d1, d2, d3, d4] }
  | _ => none }
def buyinTellsRow : OpenClaim := { program := "ytcdlhfbpmpjfkaa", sum := "c3f15b43a7b397a2f34e5583befc75071128974c1c3423003c7c1b40349d0344", func := "demurrage/demurragelaw.BuyinTells", spec := "buyinTells", unfollowed := true, recurses := true, named := ["math/bits.divideError", "math/bits.overflowError"], apart := false }
def BuyinTellsSaid : Prop := buyinTellsRow.holds Try.pinned (OpenSpec.ofChange buyinTellsSpec)

/-- ITS FALSE NEIGHBOUR: 'it returns false'. Refute it at one input. -/
def buyinTellsWrong : ChangeSpec := { name := "buyinTells", fn := fun _ => fun
  | [d1, d2, d3, d4] => { results := [.lit (.bool false)], args := [d1, d2, d3, d4] }
  | _ => none }
def BuyinTellsWrongFalsely : Prop := buyinTellsRow.holds Try.pinned (OpenSpec.ofChange buyinTellsWrong)

/-- 'demurragelaw.BuyinLimit': WHATEVER THE INPUT: true; the input reads as it did. -/
def buyinLimitSpec : ChangeSpec := { name := "buyinLimit", fn := fun _ => fun
  | [d1, d2, d3, d4] => { results := [.lit (.bool true)], args := [d1, d2, d3, d4] }
  | _ => none }
def buyinLimitRow : OpenClaim := { program := "ytcdlhfbpmpjfkaa", sum := "c3f15b43a7b397a2f34e5583befc75071128974c1c3423003c7c1b40349d0344", func := "demurrage/demurragelaw.BuyinLimit", spec := "buyinLimit", unfollowed := true, recurses := true, named := ["math/bits.divideError", "math/bits.overflowError"], apart := false }
def BuyinLimitSaid : Prop := buyinLimitRow.holds Try.pinned (OpenSpec.ofChange buyinLimitSpec)

/-- ITS FALSE NEIGHBOUR: 'it returns false'. Refute it at one input. -/
def buyinLimitWrong : ChangeSpec := { name := "buyinLimit", fn := fun _ => fun
  | [d1, d2, d3, d4] => { results := [.lit (.bool false)], args := [d1, d2, d3, d4] }
  | _ => none }
def BuyinLimitWrongFalsely : Prop := buyinLimitRow.holds Try.pinned (OpenSpec.ofChange buyinLimitWrong)

/-- 'demurragelaw.BuyinOne': WHATEVER THE INPUT: true; the input reads as it did. -/
def buyinOneSpec : ChangeSpec := { name := "buyinOne", fn := fun _ => fun
  | [d1, d2] => { results := [.lit (.bool true)], args := [d1, d2] }
  | _ => none }
def buyinOneRow : OpenClaim := { program := "ytcdlhfbpmpjfkaa", sum := "c3f15b43a7b397a2f34e5583befc75071128974c1c3423003c7c1b40349d0344", func := "demurrage/demurragelaw.BuyinOne", spec := "buyinOne", unfollowed := true, recurses := true, named := ["math/bits.divideError", "math/bits.overflowError"], apart := false }
def BuyinOneSaid : Prop := buyinOneRow.holds Try.pinned (OpenSpec.ofChange buyinOneSpec)

/-- ITS FALSE NEIGHBOUR: 'it returns false'. Refute it at one input. -/
def buyinOneWrong : ChangeSpec := { name := "buyinOne", fn := fun _ => fun
  | [d1, d2] => { results := [.lit (.bool false)], args := [d1, d2] }
  | _ => none }
def BuyinOneWrongFalsely : Prop := buyinOneRow.holds Try.pinned (OpenSpec.ofChange buyinOneWrong)

/-- 'demurragelaw.BuyinApart': WHATEVER THE INPUT: true; the input reads as it did. -/
def buyinApartSpec : ChangeSpec := { name := "buyinApart", fn := fun _ => fun
  | [d1, d2, d3, d4] => { results := [.lit (.bool true)], args := [d1, d2, d3, d4] }
  | _ => none }
def buyinApartRow : OpenClaim := { program := "ytcdlhfbpmpjfkaa", sum := "c3f15b43a7b397a2f34e5583befc75071128974c1c3423003c7c1b40349d0344", func := "demurrage/demurragelaw.BuyinApart", spec := "buyinApart", unfollowed := true, recurses := true, named := ["math/bits.divideError", "math/bits.overflowError"], apart := false }
def BuyinApartSaid : Prop := buyinApartRow.holds Try.pinned (OpenSpec.ofChange buyinApartSpec)

/-- ITS FALSE NEIGHBOUR: 'it returns false'. Refute it at one input. -/
def buyinApartWrong : ChangeSpec := { name := "buyinApart", fn := fun _ => fun
  | [d1, d2, d3, d4] => { results := [.lit (.bool false)], args := [d1, d2, d3, d4] }
  | _ => none }
def BuyinApartWrongFalsely : Prop := buyinApartRow.holds Try.pinned (OpenSpec.ofChange buyinApartWrong)

/-- 'demurragelaw.BuyinOrder': WHATEVER THE INPUT: true; the input reads as it did. -/
def buyinOrderSpec : ChangeSpec := { name := "buyinOrder", fn := fun _ => fun
  | [d] => { results := [.lit (.bool true)], args := [d] }
  | _ => none }
def buyinOrderRow : OpenClaim := { program := "ytcdlhfbpmpjfkaa", sum := "c3f15b43a7b397a2f34e5583befc75071128974c1c3423003c7c1b40349d0344", func := "demurrage/demurragelaw.BuyinOrder", spec := "buyinOrder", unfollowed := true, recurses := true, named := ["math/bits.divideError", "math/bits.overflowError"], apart := false }
def BuyinOrderSaid : Prop := buyinOrderRow.holds Try.pinned (OpenSpec.ofChange buyinOrderSpec)

/-- ITS FALSE NEIGHBOUR: 'it returns false'. Refute it at one input. -/
def buyinOrderWrong : ChangeSpec := { name := "buyinOrder", fn := fun _ => fun
  | [d] => { results := [.lit (.bool false)], args := [d] }
  | _ => none }
def BuyinOrderWrongFalsely : Prop := buyinOrderRow.holds Try.pinned (OpenSpec.ofChange buyinOrderWrong)

/-- 'demurragelaw.BuyinSame': WHATEVER THE INPUT: true; the input reads as it did. -/
def buyinSameSpec : ChangeSpec := { name := "buyinSame", fn := fun _ => fun
  | [d1, d2, d3] => { results := [.lit (.bool true)], args := [d1, d2, d3] }
  | _ => none }
def buyinSameRow : OpenClaim := { program := "ytcdlhfbpmpjfkaa", sum := "c3f15b43a7b397a2f34e5583befc75071128974c1c3423003c7c1b40349d0344", func := "demurrage/demurragelaw.BuyinSame", spec := "buyinSame", unfollowed := true, recurses := true, named := ["math/bits.divideError", "math/bits.overflowError"], apart := false }
def BuyinSameSaid : Prop := buyinSameRow.holds Try.pinned (OpenSpec.ofChange buyinSameSpec)

/-- ITS FALSE NEIGHBOUR: 'it returns false'. Refute it at one input. -/
def buyinSameWrong : ChangeSpec := { name := "buyinSame", fn := fun _ => fun
  | [d1, d2, d3] => { results := [.lit (.bool false)], args := [d1, d2, d3] }
  | _ => none }
def BuyinSameWrongFalsely : Prop := buyinSameRow.holds Try.pinned (OpenSpec.ofChange buyinSameWrong)

/- THE SECOND FORM. 'bulk': how many values and letters a reading holds, each counted each time it is reached (what is shared counts as often as it is met; a slice's spare places count too). A statement '..UptoSaid' is the law's where the arguments, and the package variables that the reading takes, are together of bulk at most 1048576: NARROWER than '..Said'. Prove '..Said' where nothing that the law and all that it calls make is longer than what came in: it says more and counts as full. Else prove '..UptoSaid'. A law counts once. -/
mutual
def uptoBulk {H : Type} : DataW H → Nat
  | .lit (.string bytes) => bytes.length + 1
  | .lit _ => 1
  | .nil => 1
  | .ptr d => uptoBulk d + 1
  | .slice elems spare => uptoBulkAll elems + uptoBulkAll spare + 1
  | .agg parts => uptoBulkAll parts + 1
  | .iface _ d => uptoBulk d + 1
  | .map entries => uptoBulkEntries entries + 1
  | .held _ => 1
def uptoBulkAll {H : Type} : List (DataW H) → Nat
  | [] => 0
  | d :: r => uptoBulk d + uptoBulkAll r
def uptoBulkEntries {H : Type} : List (Lit × DataW H) → Nat
  | [] => 0
  | x :: r => uptoBulkEntry x + uptoBulkEntries r
def uptoBulkEntry {H : Type} : Lit × DataW H → Nat
  | (.string bytes, d) => bytes.length + uptoBulk d + 1
  | (_, d) => uptoBulk d + 1
 end
def uptoSmall : (H : Type) → List (DataW H) → Bool := fun _ ds => decide (uptoBulkAll ds ≤ 1048576)
def OpenSpec.upto (s : _root_.Go.ChangeSpec) : _root_.Go.OpenSpec := { _root_.Go.OpenSpec.ofChange s with cond := some uptoSmall }

/-- 'demurragelaw.BuyinTells', WHERE WHAT IT READS IS OF BULK AT MOST 1048576: true; the input reads as it did. -/
def buyinTellsUptoRow : OpenClaim := { program := "ytcdlhfbpmpjfkaa", sum := "c3f15b43a7b397a2f34e5583befc75071128974c1c3423003c7c1b40349d0344", func := "demurrage/demurragelaw.BuyinTells", spec := "buyinTells", unfollowed := true, recurses := true, named := ["math/bits.divideError", "math/bits.overflowError"], apart := false, narrowed := true }
def BuyinTellsUptoSaid : Prop := buyinTellsUptoRow.holds Try.pinned (OpenSpec.upto buyinTellsSpec)

/-- 'demurragelaw.BuyinLimit', WHERE WHAT IT READS IS OF BULK AT MOST 1048576: true; the input reads as it did. -/
def buyinLimitUptoRow : OpenClaim := { program := "ytcdlhfbpmpjfkaa", sum := "c3f15b43a7b397a2f34e5583befc75071128974c1c3423003c7c1b40349d0344", func := "demurrage/demurragelaw.BuyinLimit", spec := "buyinLimit", unfollowed := true, recurses := true, named := ["math/bits.divideError", "math/bits.overflowError"], apart := false, narrowed := true }
def BuyinLimitUptoSaid : Prop := buyinLimitUptoRow.holds Try.pinned (OpenSpec.upto buyinLimitSpec)

/-- 'demurragelaw.BuyinOne', WHERE WHAT IT READS IS OF BULK AT MOST 1048576: true; the input reads as it did. -/
def buyinOneUptoRow : OpenClaim := { program := "ytcdlhfbpmpjfkaa", sum := "c3f15b43a7b397a2f34e5583befc75071128974c1c3423003c7c1b40349d0344", func := "demurrage/demurragelaw.BuyinOne", spec := "buyinOne", unfollowed := true, recurses := true, named := ["math/bits.divideError", "math/bits.overflowError"], apart := false, narrowed := true }
def BuyinOneUptoSaid : Prop := buyinOneUptoRow.holds Try.pinned (OpenSpec.upto buyinOneSpec)

/-- 'demurragelaw.BuyinApart', WHERE WHAT IT READS IS OF BULK AT MOST 1048576: true; the input reads as it did. -/
def buyinApartUptoRow : OpenClaim := { program := "ytcdlhfbpmpjfkaa", sum := "c3f15b43a7b397a2f34e5583befc75071128974c1c3423003c7c1b40349d0344", func := "demurrage/demurragelaw.BuyinApart", spec := "buyinApart", unfollowed := true, recurses := true, named := ["math/bits.divideError", "math/bits.overflowError"], apart := false, narrowed := true }
def BuyinApartUptoSaid : Prop := buyinApartUptoRow.holds Try.pinned (OpenSpec.upto buyinApartSpec)

/-- 'demurragelaw.BuyinOrder', WHERE WHAT IT READS IS OF BULK AT MOST 1048576: true; the input reads as it did. -/
def buyinOrderUptoRow : OpenClaim := { program := "ytcdlhfbpmpjfkaa", sum := "c3f15b43a7b397a2f34e5583befc75071128974c1c3423003c7c1b40349d0344", func := "demurrage/demurragelaw.BuyinOrder", spec := "buyinOrder", unfollowed := true, recurses := true, named := ["math/bits.divideError", "math/bits.overflowError"], apart := false, narrowed := true }
def BuyinOrderUptoSaid : Prop := buyinOrderUptoRow.holds Try.pinned (OpenSpec.upto buyinOrderSpec)

/-- 'demurragelaw.BuyinSame', WHERE WHAT IT READS IS OF BULK AT MOST 1048576: true; the input reads as it did. -/
def buyinSameUptoRow : OpenClaim := { program := "ytcdlhfbpmpjfkaa", sum := "c3f15b43a7b397a2f34e5583befc75071128974c1c3423003c7c1b40349d0344", func := "demurrage/demurragelaw.BuyinSame", spec := "buyinSame", unfollowed := true, recurses := true, named := ["math/bits.divideError", "math/bits.overflowError"], apart := false, narrowed := true }
def BuyinSameUptoSaid : Prop := buyinSameUptoRow.holds Try.pinned (OpenSpec.upto buyinSameSpec)

end Rows
end Go.Proofs.Ytcdlhfbpmpjfkaa
