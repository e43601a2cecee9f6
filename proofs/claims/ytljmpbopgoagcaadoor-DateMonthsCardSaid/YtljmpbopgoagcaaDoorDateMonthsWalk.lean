/- The walk of DateMonths. -/
import Derived.Test.YtljmpbopgoagcaaDoorDateRM
namespace Go.Proofs.YtljmpbopgoagcaaDoor
open Go.RowKit
set_option maxRecDepth 100000
set_option linter.unusedVariables false
theorem dateMonths_walk (n : Int) (wn : (Lit.int .i64 n).wf = true) (many : Int) (wm : (Lit.int .i64 many).wf = true) (w : World) (hl : LongIs w) :
    Calls Tryd.prog 7 #[.int .i64 n, .int .i64 many] w fun e w' => e = .returned (.bool true) ∧ Grown w w' := by
  have hm0 := (wf64 wm).1
  have hm1 := (wf64 wm).2
  by_cases hn : 0 ≤ n ∧ n ≤ 3652058
  · have f4 := D.chk_yes hn.1 hn.2
    by_cases h4 : -120000 ≤ many ∧ many ≤ 120000 ∧ 12 ≤ 12 * D.yO n + D.mO n - 1 + many ∧ 12 * D.yO n + D.mO n - 1 + many < 120000
    · obtain ⟨a1, a2, a3, a4⟩ := h4
      obtain ⟨g1, g2, ⟨q, g3, q0, q1⟩, g4, g5, g6, g7, g8, g9, g10, g11, g12, g13, g14, g15, g16⟩ := D.back hn a1 a2 ⟨a3, a4⟩
      clear a3 a4
      have g17 : (D.mO' (D.moV n many) - D.mO' n - many).tmod 12 = 0 := by rw [g3]; exact Int.mul_tmod_right _ _
      clear g3
      by_cases hd : D.dO' (D.moV n many) < D.dO' n
      · have e := g8 hd
        rw [e] at g16 hd g4 g5
        clear g8
        go_enter Tryd.func7, Tryd.ntmps7
        go_wp2_with (first | (go_at_call 10; refine (from_any _ _ _ _ hl).mono ?_; rintro e w' ⟨rfl, rfl⟩) | (go_at_call 11; refine (of_any _ _ hl).mono ?_; rintro e w' ⟨rfl, rfl⟩) | (go_at_call 13; refine (months_any _ _ (by omega) (by omega) _ hl).mono ?_; rintro e w' ⟨rfl, rfl⟩) | (go_at_call 18; refine (dbegun_any _ hl).mono ?_; rintro e w' ⟨rfl, rfl⟩) | (go_at_call 19; refine (rml_any _ _ (by omega) (by omega) _).mono ?_; rintro e w' ⟨rfl, rfl⟩))
        go_ret
        exact ⟨rfl, Grown.refl _⟩
      · have e : D.moV (D.moV n many) (-many) = n := by rw [g16]; omega
        clear g8 g16
        go_enter Tryd.func7, Tryd.ntmps7
        go_wp2_with (first | (go_at_call 10; refine (from_any _ _ _ _ hl).mono ?_; rintro e w' ⟨rfl, rfl⟩) | (go_at_call 11; refine (of_any _ _ hl).mono ?_; rintro e w' ⟨rfl, rfl⟩) | (go_at_call 13; refine (months_any _ _ (by omega) (by omega) _ hl).mono ?_; rintro e w' ⟨rfl, rfl⟩) | (go_at_call 18; refine (dbegun_any _ hl).mono ?_; rintro e w' ⟨rfl, rfl⟩) | (go_at_call 19; refine (rml_any _ _ (by omega) (by omega) _).mono ?_; rintro e w' ⟨rfl, rfl⟩))
        all_goals (go_ret; exact ⟨rfl, Grown.refl _⟩)
    · have g1 := D.mo_err hn h4
      clear h4
      go_enter Tryd.func7, Tryd.ntmps7
      go_wp2_with (first | (go_at_call 10; refine (from_any _ _ _ _ hl).mono ?_; rintro e w' ⟨rfl, rfl⟩) | (go_at_call 11; refine (of_any _ _ hl).mono ?_; rintro e w' ⟨rfl, rfl⟩) | (go_at_call 13; refine (months_any _ _ (by omega) (by omega) _ hl).mono ?_; rintro e w' ⟨rfl, rfl⟩) | (go_at_call 18; refine (dbegun_any _ hl).mono ?_; rintro e w' ⟨rfl, rfl⟩))
      go_ret
      exact ⟨rfl, Grown.refl _⟩
  · have f4 := D.chk_no hn
    have g1 := D.mo_no (many := many) hn
    go_enter Tryd.func7, Tryd.ntmps7
    go_wp2_with (first | (go_at_call 10; refine (from_any _ _ _ _ hl).mono ?_; rintro e w' ⟨rfl, rfl⟩) | (go_at_call 11; refine (of_any _ _ hl).mono ?_; rintro e w' ⟨rfl, rfl⟩) | (go_at_call 13; refine (months_any _ _ (by omega) (by omega) _ hl).mono ?_; rintro e w' ⟨rfl, rfl⟩) | (go_at_call 18; refine (dbegun_any _ hl).mono ?_; rintro e w' ⟨rfl, rfl⟩))
    go_ret
    exact ⟨rfl, Grown.refl _⟩
end Go.Proofs.YtljmpbopgoagcaaDoor
