/- The walk of DateTells. -/
import Derived.Test.YtljmpbopgoagcaaDoorDateRM
namespace Go.Proofs.YtljmpbopgoagcaaDoor
open Go.RowKit
set_option maxRecDepth 100000
theorem dateTells_walk (y : Int) (_ : (Lit.int .i64 y).wf = true) (m : Int) (_ : (Lit.int .i64 m).wf = true) (d : Int) (_ : (Lit.int .i64 d).wf = true) (n : Int) (_ : (Lit.int .i64 n).wf = true) (many : Int) (wm : (Lit.int .i64 many).wf = true) (w : World) (hl : LongIs w) :
    Calls Tryd.prog 3 #[.int .i64 y, .int .i64 m, .int .i64 d, .int .i64 n, .int .i64 many] w fun e w' => e = .returned (.bool true) ∧ Grown w w' := by
  have hm0 := (wf64 wm).1
  have hm1 := (wf64 wm).2
  by_cases hy : 1 ≤ y ∧ y ≤ 9999
  · obtain ⟨hy1, hy2⟩ := hy
    have e1 := D.leB_yes ⟨hy1, hy2⟩
    have e2 := D.leE_yes ⟨hy1, hy2⟩
    by_cases hn : 0 ≤ n ∧ n ≤ 3652058
    · obtain ⟨hn1, hn2⟩ := hn
      have e3 := D.chk_yes hn1 hn2
      have e4 : D.wk n = n - n / 7 * 7 := by rw [D.wk_yes ⟨hn1, hn2⟩]; omega
      go_enter Tryd.func3, Tryd.ntmps3
      go_wp2_with (first | (go_at_call 10; refine (from_any _ _ _ _ hl).mono ?_; rintro e w' ⟨rfl, rfl⟩) | (go_at_call 11; refine (of_any _ _ hl).mono ?_; rintro e w' ⟨rfl, rfl⟩) | (go_at_call 12; refine (week_any _ _).mono ?_; rintro e w' ⟨rfl, rfl⟩) | (go_at_call 9; refine (Leap_any _ _).mono ?_; rintro e w' ⟨rfl, rfl⟩) | (go_at_call 13; refine (months_any _ _ (by omega) (by omega) _ hl).mono ?_; rintro e w' ⟨rfl, rfl⟩) | (go_at_call 15; refine (rfrom_any _ _ _ _).mono ?_; rintro e w' ⟨rfl, rfl⟩) | (go_at_call 16; refine (rof_any _ _).mono ?_; rintro e w' ⟨rfl, rfl⟩) | (go_at_call 17; refine (rmonths_any _ _ (by omega) (by omega) _).mono ?_; rintro e w' ⟨rfl, rfl⟩) | (go_at_call 18; refine (dbegun_any _ hl).mono ?_; rintro e w' ⟨rfl, rfl⟩) | (go_at_call 14; refine (rleap_any _ (by omega) (by omega) _).mono ?_; rintro e w' ⟨rfl, rfl⟩))
      go_ret
      exact ⟨rfl, Grown.refl _⟩
    · have e3 := D.chk_no hn
      have e4 := D.wk_no hn
      go_enter Tryd.func3, Tryd.ntmps3
      go_wp2_with (first | (go_at_call 10; refine (from_any _ _ _ _ hl).mono ?_; rintro e w' ⟨rfl, rfl⟩) | (go_at_call 11; refine (of_any _ _ hl).mono ?_; rintro e w' ⟨rfl, rfl⟩) | (go_at_call 12; refine (week_any _ _).mono ?_; rintro e w' ⟨rfl, rfl⟩) | (go_at_call 9; refine (Leap_any _ _).mono ?_; rintro e w' ⟨rfl, rfl⟩) | (go_at_call 13; refine (months_any _ _ (by omega) (by omega) _ hl).mono ?_; rintro e w' ⟨rfl, rfl⟩) | (go_at_call 15; refine (rfrom_any _ _ _ _).mono ?_; rintro e w' ⟨rfl, rfl⟩) | (go_at_call 16; refine (rof_any _ _).mono ?_; rintro e w' ⟨rfl, rfl⟩) | (go_at_call 17; refine (rmonths_any _ _ (by omega) (by omega) _).mono ?_; rintro e w' ⟨rfl, rfl⟩) | (go_at_call 18; refine (dbegun_any _ hl).mono ?_; rintro e w' ⟨rfl, rfl⟩) | (go_at_call 14; refine (rleap_any _ (by omega) (by omega) _).mono ?_; rintro e w' ⟨rfl, rfl⟩))
      go_ret
      exact ⟨rfl, Grown.refl _⟩
  · have e1 := D.leB_no hy
    have e2 := D.leE_no hy
    have hy' : y < 1 ∨ 9999 < y := by omega
    by_cases hn : 0 ≤ n ∧ n ≤ 3652058
    · obtain ⟨hn1, hn2⟩ := hn
      have e3 := D.chk_yes hn1 hn2
      have e4 : D.wk n = n - n / 7 * 7 := by rw [D.wk_yes ⟨hn1, hn2⟩]; omega
      rcases hy' with hy' | hy'
      all_goals
        go_enter Tryd.func3, Tryd.ntmps3
        go_wp2_with (first | (go_at_call 10; refine (from_any _ _ _ _ hl).mono ?_; rintro e w' ⟨rfl, rfl⟩) | (go_at_call 11; refine (of_any _ _ hl).mono ?_; rintro e w' ⟨rfl, rfl⟩) | (go_at_call 12; refine (week_any _ _).mono ?_; rintro e w' ⟨rfl, rfl⟩) | (go_at_call 9; refine (Leap_any _ _).mono ?_; rintro e w' ⟨rfl, rfl⟩) | (go_at_call 13; refine (months_any _ _ (by omega) (by omega) _ hl).mono ?_; rintro e w' ⟨rfl, rfl⟩) | (go_at_call 15; refine (rfrom_any _ _ _ _).mono ?_; rintro e w' ⟨rfl, rfl⟩) | (go_at_call 16; refine (rof_any _ _).mono ?_; rintro e w' ⟨rfl, rfl⟩) | (go_at_call 17; refine (rmonths_any _ _ (by omega) (by omega) _).mono ?_; rintro e w' ⟨rfl, rfl⟩) | (go_at_call 18; refine (dbegun_any _ hl).mono ?_; rintro e w' ⟨rfl, rfl⟩) | (go_at_call 14; refine (rleap_any _ (by omega) (by omega) _).mono ?_; rintro e w' ⟨rfl, rfl⟩))
        go_ret
        exact ⟨rfl, Grown.refl _⟩
    · have e3 := D.chk_no hn
      have e4 := D.wk_no hn
      rcases hy' with hy' | hy'
      all_goals
        go_enter Tryd.func3, Tryd.ntmps3
        go_wp2_with (first | (go_at_call 10; refine (from_any _ _ _ _ hl).mono ?_; rintro e w' ⟨rfl, rfl⟩) | (go_at_call 11; refine (of_any _ _ hl).mono ?_; rintro e w' ⟨rfl, rfl⟩) | (go_at_call 12; refine (week_any _ _).mono ?_; rintro e w' ⟨rfl, rfl⟩) | (go_at_call 9; refine (Leap_any _ _).mono ?_; rintro e w' ⟨rfl, rfl⟩) | (go_at_call 13; refine (months_any _ _ (by omega) (by omega) _ hl).mono ?_; rintro e w' ⟨rfl, rfl⟩) | (go_at_call 15; refine (rfrom_any _ _ _ _).mono ?_; rintro e w' ⟨rfl, rfl⟩) | (go_at_call 16; refine (rof_any _ _).mono ?_; rintro e w' ⟨rfl, rfl⟩) | (go_at_call 17; refine (rmonths_any _ _ (by omega) (by omega) _).mono ?_; rintro e w' ⟨rfl, rfl⟩) | (go_at_call 18; refine (dbegun_any _ hl).mono ?_; rintro e w' ⟨rfl, rfl⟩) | (go_at_call 14; refine (rleap_any _ (by omega) (by omega) _).mono ?_; rintro e w' ⟨rfl, rfl⟩))
        go_ret
        exact ⟨rfl, Grown.refl _⟩
end Go.Proofs.YtljmpbopgoagcaaDoor
