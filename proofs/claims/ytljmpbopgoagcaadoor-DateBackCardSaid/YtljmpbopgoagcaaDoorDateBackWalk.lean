/- The walk of DateBack. -/
import Derived.Test.YtljmpbopgoagcaaDoorDateRM
namespace Go.Proofs.YtljmpbopgoagcaaDoor
open Go.RowKit
set_option maxRecDepth 100000
theorem dateBack_walk (y : Int) (_ : (Lit.int .i64 y).wf = true) (m : Int) (_ : (Lit.int .i64 m).wf = true) (d : Int) (_ : (Lit.int .i64 d).wf = true) (n : Int) (_ : (Lit.int .i64 n).wf = true) (w : World) (hl : LongIs w) :
    Calls Tryd.prog 4 #[.int .i64 y, .int .i64 m, .int .i64 d, .int .i64 n] w fun e w' => e = .returned (.bool true) ∧ Grown w w' := by
  by_cases hv : D.Valid y m d
  · have f1 := D.of_from hv
    have f2 := D.fromE_yes hv
    clear hv
    by_cases hn : 0 ≤ n ∧ n ≤ 3652058
    · have f3 := D.from_of hn
      have f4 := D.chk_yes hn.1 hn.2
      go_enter Tryd.func4, Tryd.ntmps4
      go_wp2_with (first | (go_at_call 10; refine (from_any _ _ _ _ hl).mono ?_; rintro e w' ⟨rfl, rfl⟩) | (go_at_call 11; refine (of_any _ _ hl).mono ?_; rintro e w' ⟨rfl, rfl⟩) | (go_at_call 18; refine (dbegun_any _ hl).mono ?_; rintro e w' ⟨rfl, rfl⟩))
      go_ret
      exact ⟨rfl, Grown.refl _⟩
    · have f3 := D.o_no hn
      have f4 := D.chk_no hn
      go_enter Tryd.func4, Tryd.ntmps4
      go_wp2_with (first | (go_at_call 10; refine (from_any _ _ _ _ hl).mono ?_; rintro e w' ⟨rfl, rfl⟩) | (go_at_call 11; refine (of_any _ _ hl).mono ?_; rintro e w' ⟨rfl, rfl⟩) | (go_at_call 18; refine (dbegun_any _ hl).mono ?_; rintro e w' ⟨rfl, rfl⟩))
      go_ret
      exact ⟨rfl, Grown.refl _⟩
  · have f2 := D.fromE_no hv
    clear hv
    by_cases hn : 0 ≤ n ∧ n ≤ 3652058
    · have f3 := D.from_of hn
      have f4 := D.chk_yes hn.1 hn.2
      go_enter Tryd.func4, Tryd.ntmps4
      go_wp2_with (first | (go_at_call 10; refine (from_any _ _ _ _ hl).mono ?_; rintro e w' ⟨rfl, rfl⟩) | (go_at_call 11; refine (of_any _ _ hl).mono ?_; rintro e w' ⟨rfl, rfl⟩) | (go_at_call 18; refine (dbegun_any _ hl).mono ?_; rintro e w' ⟨rfl, rfl⟩))
      go_ret
      exact ⟨rfl, Grown.refl _⟩
    · have f3 := D.o_no hn
      have f4 := D.chk_no hn
      go_enter Tryd.func4, Tryd.ntmps4
      go_wp2_with (first | (go_at_call 10; refine (from_any _ _ _ _ hl).mono ?_; rintro e w' ⟨rfl, rfl⟩) | (go_at_call 11; refine (of_any _ _ hl).mono ?_; rintro e w' ⟨rfl, rfl⟩) | (go_at_call 18; refine (dbegun_any _ hl).mono ?_; rintro e w' ⟨rfl, rfl⟩))
      go_ret
      exact ⟨rfl, Grown.refl _⟩
end Go.Proofs.YtljmpbopgoagcaaDoor
