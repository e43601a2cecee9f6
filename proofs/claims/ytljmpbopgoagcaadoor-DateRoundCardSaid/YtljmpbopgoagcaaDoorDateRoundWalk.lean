/- The walk of DateRound. -/
import Derived.Test.YtljmpbopgoagcaaDoorDateRM
namespace Go.Proofs.YtljmpbopgoagcaaDoor
open Go.RowKit
set_option maxRecDepth 100000
set_option linter.unusedVariables false
theorem dateRound_walk (y : Int) (wy : (Lit.int .i64 y).wf = true) (m : Int) (_ : (Lit.int .i64 m).wf = true) (d : Int) (_ : (Lit.int .i64 d).wf = true) (w : World) (hl : LongIs w) :
    Calls Tryd.prog 5 #[.int .i64 y, .int .i64 m, .int .i64 d] w fun e w' => e = .returned (.bool true) ∧ Grown w w' := by
  have hm0 := (wf64 wy).1
  have hm1 := (wf64 wy).2
  by_cases hv : D.Valid y m d
  · have f2 := D.fromE_yes hv
    by_cases hy : y ≤ 9599
    · obtain ⟨r1, r2, r3, r4, r5⟩ := D.round hv hy
      have r6 : (D.fromV (y + 400) m d == D.fromV y m d + 146097) = true := by rw [beq_iff_eq]; exact r1
      rw [← r1] at r4 r5
      have r7 := D.fromV_bd hv
      clear r1
      have hy1 : 1 ≤ y := hv.1
      clear hv
      go_enter Tryd.func5, Tryd.ntmps5
      go_wp2_with (first | (go_at_call 10; refine (from_any _ _ _ _ hl).mono ?_; rintro e w' ⟨rfl, rfl⟩) | (go_at_call 11; refine (of_any _ _ hl).mono ?_; rintro e w' ⟨rfl, rfl⟩) | (go_at_call 12; refine (week_any _ _).mono ?_; rintro e w' ⟨rfl, rfl⟩) | (go_at_call 18; refine (dbegun_any _ hl).mono ?_; rintro e w' ⟨rfl, rfl⟩))
      go_ret
      exact ⟨rfl, Grown.refl _⟩
    · clear hv
      go_enter Tryd.func5, Tryd.ntmps5
      go_wp2_with (first | (go_at_call 10; refine (from_any _ _ _ _ hl).mono ?_; rintro e w' ⟨rfl, rfl⟩) | (go_at_call 11; refine (of_any _ _ hl).mono ?_; rintro e w' ⟨rfl, rfl⟩) | (go_at_call 12; refine (week_any _ _).mono ?_; rintro e w' ⟨rfl, rfl⟩) | (go_at_call 18; refine (dbegun_any _ hl).mono ?_; rintro e w' ⟨rfl, rfl⟩))
      go_ret
      exact ⟨rfl, Grown.refl _⟩
  · have f1 := D.fromV_no hv
    have f2 := D.fromE_no hv
    clear hv
    go_enter Tryd.func5, Tryd.ntmps5
    go_wp2_with (first | (go_at_call 10; refine (from_any _ _ _ _ hl).mono ?_; rintro e w' ⟨rfl, rfl⟩) | (go_at_call 11; refine (of_any _ _ hl).mono ?_; rintro e w' ⟨rfl, rfl⟩) | (go_at_call 12; refine (week_any _ _).mono ?_; rintro e w' ⟨rfl, rfl⟩) | (go_at_call 18; refine (dbegun_any _ hl).mono ?_; rintro e w' ⟨rfl, rfl⟩))
    go_ret
    exact ⟨rfl, Grown.refl _⟩
end Go.Proofs.YtljmpbopgoagcaaDoor
