/- How a struct api.Event, and a list of such, are read off an argument. -/
import Derived.Test.YteblbhbfdfifpaaClaimPl
import Derived.Test.YteblbhbfdfifpaaVT
import Derived.Test.YteblbhbfdfifpaaVOpen
namespace Go.Proofs.Yteblbhbfdfifpaa
open Go Go.RowKit Go.ChangeShapes Go.WideShapes Go.Deep V
set_option linter.unusedVariables false
set_option maxRecDepth 100000
noncomputable def evFields : Array Field := (match Try.prog.underlying 23 with | some (.struct fs) => fs | _ => #[])
theorem evStruct : Try.prog.underlying 23 = some (.struct evFields) := by kernel_rfl
theorem evOne : oneCellFields Try.prog evFields = true := by kernel_rfl
theorem evSize : evFields.size = 4 := by kernel_rfl
theorem evCells : Try.prog.cellsOf 23 = 4 := by kernel_rfl
theorem evInts : (List.range 4).all (fun j => (evFields[j]?).all (fun f => decide (f.type = 3))) = true := by kernel_rfl
theorem evInt (j : Nat) (f : Field) (h : evFields[j]? = some f) : Try.prog.underlying f.type = some (.int .i64) := by
  have hj : j < 4 := by have := (Array.getElem?_eq_some_iff.1 h).1; rw [evSize] at this; exact this
  have := List.all_eq_true.1 evInts j (List.mem_range.2 hj)
  rw [h] at this
  have e : f.type = 3 := by simpa using this
  rw [e]
  exact Try.underlying3
def WfEv (d : Ev) : Prop := ∀ n ∈ [d.pa, d.ca, d.gi, d.fo], (Lit.int .i64 n).wf = true
theorem ev_of {H : Type} {enc : TypeId × Value → H} {w : World} {base : Nat} {spare : Nat → Bool} {held : Bool} {fuel : Nat} {cs : List Value} {x : DataW H × List MemPlace} (h : DataW.trod enc Try.prog w base spare held fuel 23 cs = some x) :
    ∃ f : Ev, cs = encE f ∧ WfEv f := by
  obtain ⟨ns, e, hl, wf⟩ := ints_struct evStruct evOne (evCells.trans evSize.symm) evInt h
  rw [evSize] at hl
  match ns, hl with
  | [a0, a1, a2, a3], _ => exact ⟨⟨a0, a1, a2, a3⟩, by simpa [encE] using e, wf⟩
theorem open_ev {H : Type} {enc : TypeId × Value → H} {W : World} {base : Nat} {spare : Nat → Bool} {held : Bool} {r : Reach} {b0 : Nat} {v : Value} {d : DataW H} {p : List MemPlace} (hv : Value.okWide Try.prog W r b0 23 v) (h : DataW.Trod enc Try.prog W base spare held 23 v d p) :
    ∃ f : Ev, v = .agg #[.int .i64 f.pa, .int .i64 f.ca, .int .i64 f.gi, .int .i64 f.fo] ∧ WfEv f := by
  obtain ⟨cs, rfl, _⟩ := okWide_struct evStruct hv
  obtain ⟨fuel, hf⟩ := h
  obtain ⟨f, e, wf⟩ := ev_of hf
  refine ⟨f, ?_, wf⟩
  obtain ⟨l⟩ := cs
  simp only [Value.cells] at e
  subst e
  rfl
theorem open_evs {H : Type} {enc : TypeId × Value → H} {W : World} {base : Nat} {spare : Nat → Bool} {held : Bool} {r : Reach} {b0 : Nat} {v : Value} {d : DataW H} {p : List MemPlace} {t : Nat} (ht : Try.prog.underlying t = some (.slice 23)) (hv : Value.okWide Try.prog W r b0 t v) (h : DataW.Trod enc Try.prog W base spare held t v d p) :
    ∃ l : List Ev, ArrIs W v 4 l.length (ga encE l) ∧ ∀ f ∈ l, WfEv f :=
  open_list ht evCells (by omega) (fun fuel cs x hx => by
    obtain ⟨f, e, wf⟩ := ev_of hx
    exact ⟨f, e, wf⟩) hv h
end Go.Proofs.Yteblbhbfdfifpaa
