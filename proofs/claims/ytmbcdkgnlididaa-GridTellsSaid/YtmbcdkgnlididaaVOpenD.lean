/- How a list of dues is read off an argument. -/
import Derived.Test.YtmbcdkgnlididaaVNet0
namespace Go.Proofs.Ytmbcdkgnlididaa
open Go Go.RowKit Go.ChangeShapes Go.WideShapes Go.Deep V
noncomputable def dueFields : Array Field := (match Try.prog.underlying 38 with | some (.struct fs) => fs | _ => #[])
theorem dueStruct : Try.prog.underlying 38 = some (.struct dueFields) := by kernel_rfl
theorem dueOne : oneCellFields Try.prog dueFields = true := by kernel_rfl
theorem dueSize : dueFields.size = 3 := by kernel_rfl
theorem dueCells : Try.prog.cellsOf 38 = 3 := by kernel_rfl
theorem dueInts : (List.range 3).all (fun j => (dueFields[j]?).all (fun f => decide (f.type = 3))) = true := by kernel_rfl
theorem dueInt (j : Nat) (f : Field) (h : dueFields[j]? = some f) : Try.prog.underlying f.type = some (.int .i64) := by
  have hj : j < 3 := by have := (Array.getElem?_eq_some_iff.1 h).1; rw [dueSize] at this; exact this
  have := List.all_eq_true.1 dueInts j (List.mem_range.2 hj)
  rw [h] at this
  have e : f.type = 3 := by simpa using this
  rw [e]
  exact Try.underlying3
def WfD (d : Du) : Prop := ∀ n ∈ [d.fr, d.to, d.am], (Lit.int .i64 n).wf = true
theorem du_of {H : Type} {enc : TypeId × Value → H} {w : World} {base : Nat} {spare : Nat → Bool} {held : Bool} {fuel : Nat} {cs : List Value} {x : DataW H × List MemPlace} (h : DataW.trod enc Try.prog w base spare held fuel 38 cs = some x) :
    ∃ f : Du, cs = encD f ∧ WfD f := by
  obtain ⟨ns, e, hl, wf⟩ := ints_struct dueStruct dueOne (dueCells.trans dueSize.symm) dueInt h
  rw [dueSize] at hl
  match ns, hl with
  | [a, b, c], _ => exact ⟨⟨a, b, c⟩, by simpa [encD] using e, wf⟩
theorem open_dus {H : Type} {enc : TypeId × Value → H} {W : World} {base : Nat} {spare : Nat → Bool} {held : Bool} {r : Reach} {b0 : Nat} {v : Value} {d : DataW H} {p : List MemPlace} (hv : Value.okWide Try.prog W r b0 23 v) (h : DataW.Trod enc Try.prog W base spare held 23 v d p) :
    ∃ l : List Du, ArrIs W v 3 l.length (ga encD l) ∧ ∀ f ∈ l, WfD f :=
  open_list Try.underlying23 dueCells (by omega) (fun fuel cs x hx => by
    obtain ⟨f, e, wf⟩ := du_of hx
    exact ⟨f, e, wf⟩) hv h
end Go.Proofs.Ytmbcdkgnlididaa
