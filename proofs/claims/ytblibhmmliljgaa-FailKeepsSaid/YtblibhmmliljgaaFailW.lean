/- The walks of the functions of the package 'fail' on one fail: what each computes. -/
import Derived.Test.YtblibhmmliljgaaWords
import Derived.Test.YtblibhmmliljgaaFailPl
import Derived.Test.YtblibhmmliljgaaDateCk
namespace Go.Proofs.Ytblibhmmliljgaa
open Go.RowKit
set_option maxRecDepth 100000

theorem fwithin_any (n a b : Int) (w : World) : Calls Try.prog 28 #[.int .i64 n, .int .i64 a, .int .i64 b] w fun e w' => e = .returned (.bool (decide (a ≤ n ∧ n ≤ b))) ∧ w = w' := by
  go_enter Try.func28, Try.ntmps28
  go_wp2
  all_goals (go_ret; exact ⟨by simp [*] <;> omega, rfl⟩)

theorem known_yes (f : Fl) (h : F.Kn f) (w : World) : Calls Try.prog 27 #[.agg #[.int .i64 f.id, .int .i64 f.fr, .int .i64 f.to, .int .i64 f.cl, .int .i64 f.pa, .int .i64 f.day, .int .i64 f.un, .int .i64 f.de, .int .i64 f.bo, .int .i64 f.pd]] w fun e w' => e = .returned (.bool true) ∧ Below w.heap.size w w' := by
  obtain ⟨c1, c2, c3, c4, c5, c6, c7⟩ := h
  have d1 : decide (1 ≤ f.id ∧ f.id ≤ 1099511627776) = true := decide_eq_true c1
  have d2 : decide (0 ≤ f.fr ∧ f.fr ≤ 30) = true := decide_eq_true c2
  have d3 : decide (0 ≤ f.to ∧ f.to ≤ 30) = true := decide_eq_true c3
  have d4 : decide (0 ≤ f.cl ∧ f.cl ≤ 5) = true := decide_eq_true c4
  have d5 : decide (1 ≤ f.pa ∧ f.pa ≤ 20) = true := decide_eq_true c5
  have d6 := D.chk_yes c6.1 c6.2
  have d7 : decide (1 ≤ f.un ∧ f.un ≤ 1073741824) = true := decide_eq_true c7
  clear c1 c2 c3 c4 c5 c6 c7
  go_enter Try.func27, Try.ntmps27
  go_wp2_with (first | (go_at_call 28; refine (fwithin_any _ _ _ _).mono ?_; rintro e w' ⟨rfl, rfl⟩) | (go_at_call 29; refine (check_any _ _).mono ?_; rintro e w' ⟨rfl, rfl⟩))
  go_ret
  exact ⟨rfl, by repeat (first | exact Below.refl _ _ | (refine Below.alloc ?_ (by simp) _) | (refine Below.drew ?_))⟩

theorem known_no (f : Fl) (h : ¬ F.Kn f) (w : World) : Calls Try.prog 27 #[.agg #[.int .i64 f.id, .int .i64 f.fr, .int .i64 f.to, .int .i64 f.cl, .int .i64 f.pa, .int .i64 f.day, .int .i64 f.un, .int .i64 f.de, .int .i64 f.bo, .int .i64 f.pd]] w fun e w' => e = .returned (.bool false) ∧ Below w.heap.size w w' := by
  by_cases c1 : 1 ≤ f.id ∧ f.id ≤ 1099511627776
  · have d1 : decide (1 ≤ f.id ∧ f.id ≤ 1099511627776) = true := decide_eq_true c1
    by_cases c2 : 0 ≤ f.fr ∧ f.fr ≤ 30
    · have d2 : decide (0 ≤ f.fr ∧ f.fr ≤ 30) = true := decide_eq_true c2
      by_cases c3 : 0 ≤ f.to ∧ f.to ≤ 30
      · have d3 : decide (0 ≤ f.to ∧ f.to ≤ 30) = true := decide_eq_true c3
        by_cases c4 : 0 ≤ f.cl ∧ f.cl ≤ 5
        · have d4 : decide (0 ≤ f.cl ∧ f.cl ≤ 5) = true := decide_eq_true c4
          by_cases c5 : 1 ≤ f.pa ∧ f.pa ≤ 20
          · have d5 : decide (1 ≤ f.pa ∧ f.pa ≤ 20) = true := decide_eq_true c5
            by_cases c6 : 0 ≤ f.day ∧ f.day ≤ 3652058
            · have d6 := D.chk_yes c6.1 c6.2
              by_cases c7 : 1 ≤ f.un ∧ f.un ≤ 1073741824
              · have d7 : decide (1 ≤ f.un ∧ f.un ≤ 1073741824) = true := decide_eq_true c7
                exact absurd ⟨c1, c2, c3, c4, c5, c6, c7⟩ h
              · have d7 : decide (1 ≤ f.un ∧ f.un ≤ 1073741824) = false := decide_eq_false c7
                clear h c1 c2 c3 c4 c5 c6 c7
                go_enter Try.func27, Try.ntmps27
                go_wp2_with (first | (go_at_call 28; refine (fwithin_any _ _ _ _).mono ?_; rintro e w' ⟨rfl, rfl⟩) | (go_at_call 29; refine (check_any _ _).mono ?_; rintro e w' ⟨rfl, rfl⟩))
                go_ret
                exact ⟨rfl, by repeat (first | exact Below.refl _ _ | (refine Below.alloc ?_ (by simp) _) | (refine Below.drew ?_))⟩
            · have d6 := D.chk_no c6
              clear h c1 c2 c3 c4 c5 c6
              go_enter Try.func27, Try.ntmps27
              go_wp2_with (first | (go_at_call 28; refine (fwithin_any _ _ _ _).mono ?_; rintro e w' ⟨rfl, rfl⟩) | (go_at_call 29; refine (check_any _ _).mono ?_; rintro e w' ⟨rfl, rfl⟩))
              go_ret
              exact ⟨rfl, by repeat (first | exact Below.refl _ _ | (refine Below.alloc ?_ (by simp) _) | (refine Below.drew ?_))⟩
          · have d5 : decide (1 ≤ f.pa ∧ f.pa ≤ 20) = false := decide_eq_false c5
            clear h c1 c2 c3 c4 c5
            go_enter Try.func27, Try.ntmps27
            go_wp2_with (first | (go_at_call 28; refine (fwithin_any _ _ _ _).mono ?_; rintro e w' ⟨rfl, rfl⟩) | (go_at_call 29; refine (check_any _ _).mono ?_; rintro e w' ⟨rfl, rfl⟩))
            go_ret
            exact ⟨rfl, by repeat (first | exact Below.refl _ _ | (refine Below.alloc ?_ (by simp) _) | (refine Below.drew ?_))⟩
        · have d4 : decide (0 ≤ f.cl ∧ f.cl ≤ 5) = false := decide_eq_false c4
          clear h c1 c2 c3 c4
          go_enter Try.func27, Try.ntmps27
          go_wp2_with (first | (go_at_call 28; refine (fwithin_any _ _ _ _).mono ?_; rintro e w' ⟨rfl, rfl⟩) | (go_at_call 29; refine (check_any _ _).mono ?_; rintro e w' ⟨rfl, rfl⟩))
          go_ret
          exact ⟨rfl, by repeat (first | exact Below.refl _ _ | (refine Below.alloc ?_ (by simp) _) | (refine Below.drew ?_))⟩
      · have d3 : decide (0 ≤ f.to ∧ f.to ≤ 30) = false := decide_eq_false c3
        clear h c1 c2 c3
        go_enter Try.func27, Try.ntmps27
        go_wp2_with (first | (go_at_call 28; refine (fwithin_any _ _ _ _).mono ?_; rintro e w' ⟨rfl, rfl⟩) | (go_at_call 29; refine (check_any _ _).mono ?_; rintro e w' ⟨rfl, rfl⟩))
        go_ret
        exact ⟨rfl, by repeat (first | exact Below.refl _ _ | (refine Below.alloc ?_ (by simp) _) | (refine Below.drew ?_))⟩
    · have d2 : decide (0 ≤ f.fr ∧ f.fr ≤ 30) = false := decide_eq_false c2
      clear h c1 c2
      go_enter Try.func27, Try.ntmps27
      go_wp2_with (first | (go_at_call 28; refine (fwithin_any _ _ _ _).mono ?_; rintro e w' ⟨rfl, rfl⟩) | (go_at_call 29; refine (check_any _ _).mono ?_; rintro e w' ⟨rfl, rfl⟩))
      go_ret
      exact ⟨rfl, by repeat (first | exact Below.refl _ _ | (refine Below.alloc ?_ (by simp) _) | (refine Below.drew ?_))⟩
  · have d1 : decide (1 ≤ f.id ∧ f.id ≤ 1099511627776) = false := decide_eq_false c1
    clear h c1
    go_enter Try.func27, Try.ntmps27
    go_wp2_with (first | (go_at_call 28; refine (fwithin_any _ _ _ _).mono ?_; rintro e w' ⟨rfl, rfl⟩) | (go_at_call 29; refine (check_any _ _).mono ?_; rintro e w' ⟨rfl, rfl⟩))
    go_ret
    exact ⟨rfl, by repeat (first | exact Below.refl _ _ | (refine Below.alloc ?_ (by simp) _) | (refine Below.drew ?_))⟩

theorem known_any (f : Fl) (w : World) : Calls Try.prog 27 #[.agg #[.int .i64 f.id, .int .i64 f.fr, .int .i64 f.to, .int .i64 f.cl, .int .i64 f.pa, .int .i64 f.day, .int .i64 f.un, .int .i64 f.de, .int .i64 f.bo, .int .i64 f.pd]] w fun e w' => e = .returned (.bool (F.kn f)) ∧ Below w.heap.size w w' := by
  by_cases h : F.Kn f
  · have e : F.kn f = true := decide_eq_true h
    rw [e]; exact known_yes f h w
  · have e : F.kn f = false := decide_eq_false h
    rw [e]; exact known_no f h w
end Go.Proofs.Ytblibhmmliljgaa
