/- Shared texts, one behind the other: VOpenC, Laid -/
import Derived.Test.YtngjkjadncgdgaaDoorRows
import Derived.ProofKit
import Derived.LaidMore
import Derived.OpenShut
import Derived.Stop.Joined
import Derived.Lib.LaidTab
import Derived.Test.YtngjkjadncgdgaaDoorZ1
import Derived.Test.YtngjkjadncgdgaaDoorZ2
import Derived.Test.YtngjkjadncgdgaaDoorZ3

/- How a calendar is read off an argument. -/
namespace Go.Proofs.YtngjkjadncgdgaaDoor
open Go Go.RowKit Go.ChangeShapes Go.WideShapes Go.Deep V
set_option linter.unusedVariables false
set_option maxRecDepth 100000
namespace V
section
variable {H : Type} {enc : TypeId × Value → H} {P : Program} {w : World} {base : Nat} {spare : Nat → Bool} {held : Bool}
/-- a list of data, by its one cell -/
theorem list_trod {α : Type} [Inhabited α] {en : α → List Value} {Wf : α → Prop} {t e s fuel : Nat} {cs : List Value} {x : DataW H × List MemPlace} (hu : P.underlying t = some (.slice e)) (hs : P.cellsOf e = s) (hs0 : 0 < s)
    (hel : ∀ fuel cs x, DataW.trod enc P w base spare held fuel e cs = some x → ∃ f : α, cs = en f ∧ Wf f) (hf : DataW.trod enc P w base spare held fuel t cs = some x) :
    ∃ v, cs = [v] ∧ ∃ l : List α, ArrIs w v s l.length (ga en l) ∧ ∀ f ∈ l, Wf f := by
  rcases Go.Deep.open_slice hu hf with ⟨hcs, _⟩ | ⟨a, len', cap', m, n, D, Pl, hcs, _, hl, hm, hmm, _, hi⟩
  · exact ⟨_, hcs, [], ⟨none, 0, rfl, by simp, by simp, fun k hk => absurd hk (by simp)⟩, by simp⟩
  · refine ⟨_, hcs, ?_⟩
    have hml : len' ≤ m := by rw [hmm]; split <;> omega
    have all : ∀ i, i < len' → ∃ f : α, (en f).length = s ∧ (∀ j u, (en f)[j]? = some u → w.cell? (a.add (i * s + j)) = some u) ∧ Wf f := by
      intro i hi'
      obtain ⟨cs', hc, ht'⟩ := hi i (by omega)
      rw [hs] at hc
      obtain ⟨f, e, wf⟩ := hel _ _ _ ht'
      obtain ⟨_, hcl, hat⟩ := World.cells?_some hc
      refine ⟨f, by rw [← e]; exact hcl, fun j u hu => ?_, wf⟩
      rw [← e] at hu
      have hj : j < s := by have := (List.getElem?_eq_some_iff.1 hu).1; omega
      have h1 := hat j hj
      rw [add_of_add] at h1
      rw [h1]; exact hu
    obtain ⟨l, hl2, hp⟩ := list_of len' all
    refine ⟨l, ⟨some a, cap', by rw [hl2], by unfold maxLen at hm; omega, by omega, fun k hk => ?_⟩, fun f hf' => ?_⟩
    · obtain ⟨e1, e2, _⟩ := hp k hk
      rw [ga_at hk]
      have h0 : (en l[k])[0]? = some ((en l[k])[0]'(by omega)) := List.getElem?_eq_getElem _
      have := cell_lt (e2 0 _ h0)
      rw [block_of_add] at this
      exact ⟨a, rfl, this, e1, e2⟩
    · obtain ⟨i, hi', rfl⟩ := List.getElem_of_mem hf'
      exact (hp i hi').2.2
end
end V
noncomputable def clFields : Array Field := (match Tryd.prog.underlying 24 with | some (.struct fs) => fs | _ => #[])
theorem clStruct : Tryd.prog.underlying 24 = some (.struct clFields) := by kernel_rfl
theorem clCells : Tryd.prog.cellsOf 24 = 2 := by kernel_rfl
theorem ilCells : Tryd.prog.cellsOf 22 = 1 := by kernel_rfl
theorem cl0 : (clFields[0]?).map (fun f => (f.type, f.offset)) = some (3, 0) := by kernel_rfl
theorem cl1 : (clFields[1]?).map (fun f => (f.type, f.offset)) = some (22, 1) := by kernel_rfl
theorem clSize : clFields.size = 2 := by kernel_rfl
def WfCl (c : Cl) : Prop := (Lit.int .i64 c.we).wf = true ∧ ∀ n ∈ c.hs, (Lit.int .i64 n).wf = true
theorem cl_of {H : Type} {enc : TypeId × Value → H} {w : World} {base : Nat} {spare : Nat → Bool} {held : Bool} {fuel : Nat} {cs : List Value} {x : DataW H × List MemPlace} (h : DataW.trod enc Tryd.prog w base spare held fuel 24 cs = some x) :
    ∃ (c : Cl) (v : Value), cs = [.int .i64 c.we, v] ∧ ArrIs w v 1 c.hs.length (ga e1 c.hs) ∧ WfCl c := by
  obtain ⟨xs, n, _, _, hl, hlen, hg⟩ := DataW.trod_struct clStruct h
  rw [clCells] at hl
  rw [clSize] at hlen
  match cs, hl with
  | [a, b], _ =>
    obtain ⟨f0, h0, e0⟩ := Option.map_eq_some_iff.1 cl0
    obtain ⟨f1, h1, e1'⟩ := Option.map_eq_some_iff.1 cl1
    injection e0 with t0 o0
    injection e1' with t1 o1
    have g0 := hg 0 f0 h0
    have g1 := hg 1 f1 h1
    rw [o0, t0, intCells, List.getElem?_eq_getElem (by omega)] at g0
    rw [o1, t1, ilCells, List.getElem?_eq_getElem (by omega)] at g1
    obtain ⟨m, e2, _, wf⟩ := DataW.trod_int Tryd.underlying3 g0
    obtain ⟨v, e3, l, hl, wl⟩ := V.list_trod (en := e1) (Wf := fun n => (Lit.int .i64 n).wf = true) Tryd.underlying22 intCells (by omega) (fun fuel cs x hx => by
      obtain ⟨m, e2, _, wf⟩ := DataW.trod_int Tryd.underlying3 hx
      exact ⟨m, e2, wf⟩) g1
    have e2 : a = .int .i64 m := by simpa using e2
    obtain rfl : b = v := by
      have e3 : [b] = [v] := e3
      injection e3
    subst e2
    exact ⟨⟨m, l⟩, _, rfl, hl, wf, wl⟩
theorem open_cl {H : Type} {enc : TypeId × Value → H} {W : World} {base : Nat} {spare : Nat → Bool} {held : Bool} {r : Reach} {b0 : Nat} {v : Value} {d : DataW H} {p : List MemPlace} (hv : Value.okWide Tryd.prog W r b0 24 v) (h : DataW.Trod enc Tryd.prog W base spare held 24 v d p) :
    ∃ (c : Cl) (u : Value), v = .agg #[.int .i64 c.we, u] ∧ ArrIs W u 1 c.hs.length (ga e1 c.hs) ∧ WfCl c := by
  obtain ⟨cs, rfl, _⟩ := okWide_struct clStruct hv
  obtain ⟨fuel, hf⟩ := h
  obtain ⟨c, u, e, h1, wf⟩ := cl_of hf
  refine ⟨c, u, ?_, h1, wf⟩
  obtain ⟨l⟩ := cs
  simp only [Value.cells] at e
  subst e
  rfl
end Go.Proofs.YtngjkjadncgdgaaDoor

/- What the listed variable 'date.long' gives the walks: its cells; and that the door's own heap meets the condition. -/
namespace Go.Proofs.YtngjkjadncgdgaaDoor
open Go.ChangeShapes Go.WideShapes Go.ChangeAt Go.RowKit

def laidList : List (String × DataW Unit) := [("demurrage/date.long", Rows.laid_demurrage_date_long)]
theorem gLong : Tryd.prog.globalNamed "demurrage/date.long" = some 0 := by kernel_rfl
theorem tLong : (Tryd.prog.globals[0]?).map (·.type) = some 62 := by kernel_rfl
theorem cLong : Tryd.prog.cellsOf 62 = 12 := by kernel_rfl
theorem cInt : Tryd.prog.cellsOf 3 = 1 := by kernel_rfl

theorem door_met (os : Os) (args : Array Value) : laidMetH Tryd.prog laidList ((World.doorLaid Tryd.prog 400 os).forCall (fun _ _ => 0) ⟨#[], args, []⟩).memory :=
  laidMetH_of_parts3 (fuel := 8) (laidMet_of_run' 8 (by kernel_rfl) (by kernel_rfl)) (by kernel_rfl) (by kernel_rfl)

theorem long_of_laid {W : World} (h : laidMetH Tryd.prog laidList W) : LongIs W := by
  rw [MakeChecks.laidMetH_plain _ _ _ (by kernel_rfl)] at h
  obtain ⟨ps, ⟨g0, t0, cs0, f0, p0, q0, hg0, ht0, hv0, hd0, _, _⟩, _, _⟩ := h
  obtain rfl := Option.some.inj (gLong.symm.trans hg0)
  obtain rfl := Option.some.inj (tLong.symm.trans ht0)
  have hcs := Lib.cells_of_tab (k := .i64) (zs := [31, 28, 31, 30, 31, 30, 31, 31, 30, 31, 30, 31]) Tryd.underlying62 Tryd.underlying3 cInt cLong hd0
  intro m h1 h2
  have hc := World.var?_cell hg0 hv0 (m.toNat - 1)
  have e : cs0 = (([31, 28, 31, 30, 31, 30, 31, 31, 30, 31, 30, 31] : List Int).map fun z => Value.int .i64 z).toArray := by
    rw [← hcs]
  rw [e] at hc
  have hm : m = 1 ∨ m = 2 ∨ m = 3 ∨ m = 4 ∨ m = 5 ∨ m = 6 ∨ m = 7 ∨ m = 8 ∨ m = 9 ∨ m = 10 ∨ m = 11 ∨ m = 12 := by omega
  rcases hm with rfl | rfl | rfl | rfl | rfl | rfl | rfl | rfl | rfl | rfl | rfl | rfl <;> exact hc
end Go.Proofs.YtngjkjadncgdgaaDoor
