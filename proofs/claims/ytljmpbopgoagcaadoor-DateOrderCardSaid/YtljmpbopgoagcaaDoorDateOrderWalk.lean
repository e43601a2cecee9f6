/- The walk of DateOrder. -/
import Derived.Test.YtljmpbopgoagcaaDoorDateRM
namespace Go.Proofs.YtljmpbopgoagcaaDoor
open Go.RowKit
set_option maxRecDepth 100000
set_option maxHeartbeats 1000000
set_option linter.unusedVariables false
theorem dateOrder_walk (n : Int) (wn : (Lit.int .i64 n).wf = true) (k : Int) (wk : (Lit.int .i64 k).wf = true) (w : World) (hl : LongIs w) :
    Calls Tryd.prog 6 #[.int .i64 n, .int .i64 k] w fun e w' => e = .returned (.bool true) ∧ Grown w w' := by
  by_cases hn : 0 ≤ n ∧ n ≤ 3652058
  · have f4 := D.chk_yes hn.1 hn.2
    by_cases hk : 0 ≤ k ∧ k ≤ 3652058
    · have f5 := D.chk_yes hk.1 hk.2
      have hor := D.order hn hk
      obtain ⟨hn0, hn1⟩ := hn
      clear hk
      rcases hor with ⟨c1, c2⟩ | ⟨c1, c2⟩ | ⟨c0, c1, c2⟩ | ⟨c0, c1, c2⟩ | ⟨c0, c3, c1, c2⟩ | ⟨c0, c3, c1, c2⟩
      all_goals
        first | (have d0 : (D.yO' k == D.yO' n) = true := beq_iff_eq.2 c0) | (have d0 : (D.yO' k == D.yO' n) = false := beq_eq_false_iff_ne.2 (by omega))
        first | (have d3 : (D.mO' k == D.mO' n) = true := beq_iff_eq.2 c3) | (have d3 : (D.mO' k == D.mO' n) = false := beq_eq_false_iff_ne.2 (by omega)) | skip
        first | (have q1 : decide (D.yO' n < D.yO' k) = true := decide_eq_true (by omega)) | (have q1 : decide (D.yO' n < D.yO' k) = false := decide_eq_false (by omega))
        first | (have q2 : decide (D.mO' n < D.mO' k) = true := decide_eq_true (by omega)) | (have q2 : decide (D.mO' n < D.mO' k) = false := decide_eq_false (by omega)) | skip
        first | (have q3 : decide (D.dO' n < D.dO' k) = true := decide_eq_true (by omega)) | (have q3 : decide (D.dO' n < D.dO' k) = false := decide_eq_false (by omega)) | skip
        first | (have q4 : decide (n < k) = true := decide_eq_true (by omega)) | (have q4 : decide (n < k) = false := decide_eq_false (by omega))
        try clear c0
        try clear c3
        clear c1 c2
        by_cases hmax : n = 3652058
        · have g1 : D.chk (n + 1) = 3 := D.chk_no (by omega)
          have g2 : (n == 3652058) = true := by rw [beq_iff_eq]; exact hmax
          have g3 : n ≤ 3652058 := hn1
          clear hmax hn1
          go_enter Tryd.func6, Tryd.ntmps6
          go_wp2_with (first | (go_at_call 10; refine (from_any _ _ _ _ hl).mono ?_; rintro e w' ⟨rfl, rfl⟩) | (go_at_call 11; refine (of_any _ _ hl).mono ?_; rintro e w' ⟨rfl, rfl⟩) | (go_at_call 12; refine (week_any _ _).mono ?_; rintro e w' ⟨rfl, rfl⟩) | (go_at_call 18; refine (dbegun_any _ hl).mono ?_; rintro e w' ⟨rfl, rfl⟩))
          go_ret
          exact ⟨rfl, Grown.refl _⟩
        · have g1 := D.wk_next (n := n) hn0 (by omega)
          go_enter Tryd.func6, Tryd.ntmps6
          go_wp2_with (first | (go_at_call 10; refine (from_any _ _ _ _ hl).mono ?_; rintro e w' ⟨rfl, rfl⟩) | (go_at_call 11; refine (of_any _ _ hl).mono ?_; rintro e w' ⟨rfl, rfl⟩) | (go_at_call 12; refine (week_any _ _).mono ?_; rintro e w' ⟨rfl, rfl⟩) | (go_at_call 18; refine (dbegun_any _ hl).mono ?_; rintro e w' ⟨rfl, rfl⟩))
          go_ret
          exact ⟨rfl, Grown.refl _⟩
    · have f5 := D.chk_no hk
      go_enter Tryd.func6, Tryd.ntmps6
      go_wp2_with (first | (go_at_call 10; refine (from_any _ _ _ _ hl).mono ?_; rintro e w' ⟨rfl, rfl⟩) | (go_at_call 11; refine (of_any _ _ hl).mono ?_; rintro e w' ⟨rfl, rfl⟩) | (go_at_call 12; refine (week_any _ _).mono ?_; rintro e w' ⟨rfl, rfl⟩) | (go_at_call 18; refine (dbegun_any _ hl).mono ?_; rintro e w' ⟨rfl, rfl⟩))
      go_ret
      exact ⟨rfl, Grown.refl _⟩
  · have f4 := D.chk_no hn
    go_enter Tryd.func6, Tryd.ntmps6
    go_wp2_with (first | (go_at_call 10; refine (from_any _ _ _ _ hl).mono ?_; rintro e w' ⟨rfl, rfl⟩) | (go_at_call 11; refine (of_any _ _ hl).mono ?_; rintro e w' ⟨rfl, rfl⟩) | (go_at_call 12; refine (week_any _ _).mono ?_; rintro e w' ⟨rfl, rfl⟩) | (go_at_call 18; refine (dbegun_any _ hl).mono ?_; rintro e w' ⟨rfl, rfl⟩))
    go_ret
    exact ⟨rfl, Grown.refl _⟩
end Go.Proofs.YtljmpbopgoagcaaDoor
