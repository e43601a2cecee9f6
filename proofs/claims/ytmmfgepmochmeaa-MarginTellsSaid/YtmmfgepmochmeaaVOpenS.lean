/- How a list of stakes is read off an argument. -/
import Derived.Test.YtmmfgepmochmeaaVMargin
namespace Go.Proofs.Ytmmfgepmochmeaa
open Go Go.RowKit Go.ChangeShapes Go.WideShapes Go.Deep V
noncomputable def stFields : Array Field := (match Try.prog.underlying 37 with | some (.struct fs) => fs | _ => #[])
theorem stStruct : Try.prog.underlying 37 = some (.struct stFields) := by kernel_rfl
theorem stOne : oneCellFields Try.prog stFields = true := by kernel_rfl
theorem stSize : stFields.size = 3 := by kernel_rfl
theorem stCells : Try.prog.cellsOf 37 = 3 := by kernel_rfl
theorem stInts : (List.range 3).all (fun j => (stFields[j]?).all (fun f => decide (f.type = 3))) = true := by kernel_rfl
theorem stInt (j : Nat) (f : Field) (h : stFields[j]? = some f) : Try.prog.underlying f.type = some (.int .i64) := by
  have hj : j < 3 := by have := (Array.getElem?_eq_some_iff.1 h).1; rw [stSize] at this; exact this
  have := List.all_eq_true.1 stInts j (List.mem_range.2 hj)
  rw [h] at this
  have e : f.type = 3 := by simpa using this
  rw [e]
  exact Try.underlying3
def WfS (d : St) : Prop := ∀ n ∈ [d.pa, d.un, d.ct], (Lit.int .i64 n).wf = true
theorem st_of {H : Type} {enc : TypeId × Value → H} {w : World} {base : Nat} {spare : Nat → Bool} {held : Bool} {fuel : Nat} {cs : List Value} {x : DataW H × List MemPlace} (h : DataW.trod enc Try.prog w base spare held fuel 37 cs = some x) :
    ∃ f : St, cs = encS f ∧ WfS f := by
  obtain ⟨ns, e, hl, wf⟩ := ints_struct stStruct stOne (stCells.trans stSize.symm) stInt h
  rw [stSize] at hl
  match ns, hl with
  | [a, b, c], _ => exact ⟨⟨a, b, c⟩, by simpa [encS] using e, wf⟩
theorem open_sts {H : Type} {enc : TypeId × Value → H} {W : World} {base : Nat} {spare : Nat → Bool} {held : Bool} {r : Reach} {b0 : Nat} {v : Value} {d : DataW H} {p : List MemPlace} (hv : Value.okWide Try.prog W r b0 22 v) (h : DataW.Trod enc Try.prog W base spare held 22 v d p) :
    ∃ l : List St, ArrIs W v 3 l.length (ga encS l) ∧ ∀ f ∈ l, WfS f :=
  open_list Try.underlying22 stCells (by omega) (fun fuel cs x hx => by
    obtain ⟨f, e, wf⟩ := st_of hx
    exact ⟨f, e, wf⟩) hv h
end Go.Proofs.Ytmmfgepmochmeaa
