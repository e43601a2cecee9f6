/- The walk of DateLong. -/
import Derived.Test.YtljmpbopgoagcaaDoorDateRM
namespace Go.Proofs.YtljmpbopgoagcaaDoor
open Go.RowKit
set_option maxRecDepth 100000
theorem dateLong_walk (y : Int) (wy : (Lit.int .i64 y).wf = true) (w : World) (hl : LongIs w) :
    Calls Tryd.prog 8 #[.int .i64 y] w fun e w' => e = .returned (.bool true) ∧ Grown w w' := by
  by_cases hy : 1 ≤ y ∧ y ≤ 9991
  · obtain ⟨hy0, hy1⟩ := hy
    have he := hid (D.long_end y)
    have h0 := D.dby_bd y hy0 (by omega)
    go_enter Tryd.func8, Tryd.ntmps8
    go_wp2_with (first | (go_at_call 18; refine (dbegun_any _ hl).mono ?_; rintro e w' ⟨rfl, rfl⟩))
    go_loop [3, 4] (fun t i => ∃ k : Int, y ≤ k ∧ k ≤ y + 8 ∧ i = .int .i64 k ∧ t = .int .i64 (D.dby k - D.dby y - 365 * (k - y))) (fun _ i => (y + 8 - intOf i).toNat)
    case atStart => exact ⟨y, by omega, by omega, rfl, by congr 1; omega⟩
    case round =>
      obtain ⟨k, hk0, hk1, rfl, rfl⟩ := hrel
      have hb := D.dby_bd k (by omega) (by omega)
      by_cases hlt : k < y + 8
      · have e1 := D.long_step k (by omega) (by omega)
        have e2 := D.long_step (k + 1) (by omega) (by omega)
        have e3 := D.leB_yes (y := k) (by omega)
        have e4 := D.leE_yes (y := k) (by omega)
        have hs := hid (D.dby_succ k)
        have hb2 := D.dby_bd (k + 1) (by omega) (by omega)
        by_cases hlp : D.lp k = true
        · have e := D.L_of hlp
          have E := hid e
          have hd : (D.dby (k + 1) - D.dby k != 366) = false := by have := hs.out; rw [bne_eq_false_iff_eq]; omega
          clear e
          go_wp2_with (first | (go_at_call 10; refine (from_any _ _ _ _ hl).mono ?_; rintro e w' ⟨rfl, rfl⟩) | (go_at_call 9; refine (Leap_any _ _).mono ?_; rintro e w' ⟨rfl, rfl⟩))
          go_round
          case rel => exact ⟨k + 1, by omega, by omega, rfl, by rw [hs.out, E.out]; congr 1; omega⟩
          case measure => simp [intOf]; omega
        · have hlp' : D.lp k = false := by simpa using hlp
          have e := D.L_not hlp'
          have E := hid e
          have hd : (D.dby (k + 1) - D.dby k != 365) = false := by have := hs.out; rw [bne_eq_false_iff_eq]; omega
          clear e hlp
          go_wp2_with (first | (go_at_call 10; refine (from_any _ _ _ _ hl).mono ?_; rintro e w' ⟨rfl, rfl⟩) | (go_at_call 9; refine (Leap_any _ _).mono ?_; rintro e w' ⟨rfl, rfl⟩))
          go_round
          case rel => exact ⟨k + 1, by omega, by omega, rfl, by rw [hs.out, E.out]; congr 1; omega⟩
          case measure => simp [intOf]; omega
      · obtain rfl : k = y + 8 := by omega
        have e : D.dby (y + 8) - D.dby y - 365 * (y + 8 - y) = D.dby (y + 8) - D.dby y - 2920 := by omega
        rw [e]; clear e
        have h2 := he.out
        generalize D.dby (y + 8) - D.dby y - 2920 = z at *
        rcases h2 with rfl | rfl
        all_goals
          go_wp2
          go_ret
          exact ⟨rfl, Grown.refl _⟩
  · have hy' : y < 1 ∨ 9991 < y := by omega
    rcases hy' with h | h
    all_goals
      go_enter Tryd.func8, Tryd.ntmps8
      go_wp2_with (first | (go_at_call 18; refine (dbegun_any _ hl).mono ?_; rintro e w' ⟨rfl, rfl⟩))
      go_ret
      exact ⟨rfl, Grown.refl _⟩
end Go.Proofs.YtljmpbopgoagcaaDoor
