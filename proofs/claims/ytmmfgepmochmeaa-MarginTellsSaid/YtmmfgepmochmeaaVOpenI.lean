/- How a list of numbers is read off an argument. -/
import Derived.Test.YtmmfgepmochmeaaVOpen
namespace Go.Proofs.Ytmmfgepmochmeaa
open Go Go.RowKit Go.ChangeShapes Go.WideShapes Go.Deep V
theorem intCells : Try.prog.cellsOf 3 = 1 := by kernel_rfl
theorem open_il {H : Type} {enc : TypeId × Value → H} {W : World} {base : Nat} {spare : Nat → Bool} {held : Bool} {r : Reach} {b0 : Nat} {v : Value} {d : DataW H} {p : List MemPlace} (hv : Value.okWide Try.prog W r b0 23 v) (h : DataW.Trod enc Try.prog W base spare held 23 v d p) :
    ∃ l : List Int, ArrIs W v 1 l.length (ga e1 l) ∧ ∀ f ∈ l, (Lit.int .i64 f).wf = true :=
  open_ints_ Try.underlying23 Try.underlying3 intCells hv h
end Go.Proofs.Ytmmfgepmochmeaa
