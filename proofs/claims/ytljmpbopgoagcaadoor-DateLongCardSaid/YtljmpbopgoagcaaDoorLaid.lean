/- What the listed variable 'date.long' gives the walks: its cells; and that the door's own heap meets the condition. -/
import Derived.Test.YtljmpbopgoagcaaDoorRows
import Derived.Test.YtljmpbopgoagcaaDoorDateW
import Derived.ProofKit
import Derived.LaidMore
import Derived.OpenShut
import Derived.Stop.Joined
import Derived.Lib.LaidTab
namespace Go.Proofs.YtljmpbopgoagcaaDoor
open Go.ChangeShapes Go.WideShapes Go.ChangeAt Go.RowKit

def laidList : List (String × DataW Unit) := [("demurrage/date.long", Rows.laid_demurrage_date_long)]
theorem gLong : Tryd.prog.globalNamed "demurrage/date.long" = some 0 := by kernel_rfl
theorem tLong : (Tryd.prog.globals[0]?).map (·.type) = some 42 := by kernel_rfl
theorem cLong : Tryd.prog.cellsOf 42 = 12 := by kernel_rfl
theorem cInt : Tryd.prog.cellsOf 3 = 1 := by kernel_rfl

theorem door_met (os : Os) (args : Array Value) : laidMetH Tryd.prog laidList ((World.doorLaid Tryd.prog 400 os).forCall (fun _ _ => 0) ⟨#[], args, []⟩).memory :=
  laidMetH_of_parts3 (fuel := 8) (laidMet_of_run' 8 (by kernel_rfl) (by kernel_rfl)) (by kernel_rfl) (by kernel_rfl)

theorem long_of_laid {W : World} (h : laidMetH Tryd.prog laidList W) : LongIs W := by
  rw [MakeChecks.laidMetH_plain _ _ _ (by kernel_rfl)] at h
  obtain ⟨ps, ⟨g0, t0, cs0, f0, p0, q0, hg0, ht0, hv0, hd0, _, _⟩, _, _⟩ := h
  obtain rfl := Option.some.inj (gLong.symm.trans hg0)
  obtain rfl := Option.some.inj (tLong.symm.trans ht0)
  have hcs := Lib.cells_of_tab (k := .i64) (zs := [31, 28, 31, 30, 31, 30, 31, 31, 30, 31, 30, 31]) Tryd.underlying42 Tryd.underlying3 cInt cLong hd0
  intro m h1 h2
  have hc := World.var?_cell hg0 hv0 (m.toNat - 1)
  have e : cs0 = (([31, 28, 31, 30, 31, 30, 31, 31, 30, 31, 30, 31] : List Int).map fun z => Value.int .i64 z).toArray := by
    rw [← hcs]
  rw [e] at hc
  have hm : m = 1 ∨ m = 2 ∨ m = 3 ∨ m = 4 ∨ m = 5 ∨ m = 6 ∨ m = 7 ∨ m = 8 ∨ m = 9 ∨ m = 10 ∨ m = 11 ∨ m = 12 := by omega
  rcases hm with rfl | rfl | rfl | rfl | rfl | rfl | rfl | rfl | rfl | rfl | rfl | rfl <;> exact hc
end Go.Proofs.YtljmpbopgoagcaaDoor
