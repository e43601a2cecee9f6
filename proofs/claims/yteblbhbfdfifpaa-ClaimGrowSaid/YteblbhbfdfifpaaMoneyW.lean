/- The walks of the package 'money': amounts and parts. -/
import Derived.Test.YteblbhbfdfifpaaDivW3
import Derived.Test.YteblbhbfdfifpaaMoneyPl
namespace Go.Proofs.Yteblbhbfdfifpaa
open Go.RowKit
set_option maxRecDepth 100000

theorem mwithin_any (n a b : Int) (w : World) : Calls Try.prog 84 #[.int .i64 n, .int .i64 a, .int .i64 b] w fun e w' => e = .returned (.bool (decide (a ≤ n ∧ n ≤ b))) ∧ w = w' := by
  go_enter Try.func84, Try.ntmps84
  go_wp2
  all_goals (go_ret; exact ⟨by simp [*] <;> omega, rfl⟩)
theorem mcheck_any (a : Int) (w : World) : Calls Try.prog 76 #[.int .i64 a] w fun e w' => e = .returned (.int .i64 (M.chk a)) ∧ w = w' := by
  by_cases h : -1152921504606846976 ≤ a ∧ a ≤ 1152921504606846976
  · have E := hid (M.chk_yes h)
    have d : decide (-1152921504606846976 ≤ a ∧ a ≤ 1152921504606846976) = true := decide_eq_true h
    clear h
    go_enter Try.func76, Try.ntmps76
    go_wp2_with (go_at_call 84; refine (mwithin_any _ _ _ _).mono ?_; rintro e w' ⟨rfl, rfl⟩)
    go_ret
    exact ⟨ret_int (by rw [E.out]), rfl⟩
  · have E := hid (M.chk_no h)
    have d : decide (-1152921504606846976 ≤ a ∧ a ≤ 1152921504606846976) = false := decide_eq_false h
    clear h
    go_enter Try.func76, Try.ntmps76
    go_wp2_with (go_at_call 84; refine (mwithin_any _ _ _ _).mono ?_; rintro e w' ⟨rfl, rfl⟩)
    go_ret
    exact ⟨ret_int (by rw [E.out]), rfl⟩
end Go.Proofs.Yteblbhbfdfifpaa
