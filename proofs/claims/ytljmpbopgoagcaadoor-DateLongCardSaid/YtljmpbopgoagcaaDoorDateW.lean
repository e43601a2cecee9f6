/- The walks of the functions of the package 'date': what each computes. -/
import Derived.Test.YtljmpbopgoagcaaDoorBase
import Derived.Test.YtljmpbopgoagcaaDoorDatePl
namespace Go.Proofs.YtljmpbopgoagcaaDoor
open Go.RowKit
set_option maxRecDepth 100000

def longAt (m : Int) : Int := if m = 2 then 28 else if m = 4 ∨ m = 6 ∨ m = 9 ∨ m = 11 then 30 else 31
def LongIs (w : World) : Prop := ∀ m : Int, 1 ≤ m → m ≤ 12 → w.cell? ⟨0, m.toNat - 1, none⟩ = some (.int .i64 (longAt m))

theorem isYear_any (y : Int) (w : World) : Calls Tryd.prog 20 #[.int .i64 y] w fun e w' => e = .returned (.bool (decide (1 ≤ y ∧ y ≤ 9999))) ∧ w = w' := by
  go_enter Tryd.func20, Tryd.ntmps20
  go_wp2
  all_goals (go_ret; exact ⟨by simp [*] <;> omega, rfl⟩)

theorem leap_any (y : Int) (h0 : 1 ≤ y) (h1 : y ≤ 20000) (w : World) : Calls Tryd.prog 21 #[.int .i64 y] w fun e w' => e = .returned (.bool (D.lp y)) ∧ w = w' := by
  go_enter Tryd.func21, Tryd.ntmps21
  go_wp2
  all_goals (go_ret; exact ⟨by simp [D.lp, bne, *], rfl⟩)

theorem days_any (y m : Int) (h0 : 1 ≤ y) (h1 : y ≤ 20000) (hm0 : 1 ≤ m) (hm1 : m ≤ 12) (w : World) (hl : LongIs w) : Calls Tryd.prog 22 #[.int .i64 y, .int .i64 m] w fun e w' => e = .returned (.int .i64 (D.ml y m)) ∧ w = w' := by
  have hc := hl m hm0 hm1
  by_cases hm : m = 2
  · subst hm
    by_cases hy : D.lp y = true
    · have e := D.L_of hy
      go_enter Tryd.func22, Tryd.ntmps22
      go_wp2_with (go_at_call 21; refine (leap_any _ (by omega) (by omega) _).mono ?_; rintro e w' ⟨rfl, rfl⟩)
      go_ret
      exact ⟨by simp [D.ml, e], rfl⟩
    · have hy' : D.lp y = false := by simpa using hy
      have e := D.L_not hy'
      have hc : w.cell? ⟨0, 1, none⟩ = some (.int .i64 28) := hl 2 (by omega) (by omega)
      go_enter Tryd.func22, Tryd.ntmps22
      go_wp2_with (go_at_call 21; refine (leap_any _ (by omega) (by omega) _).mono ?_; rintro e w' ⟨rfl, rfl⟩)
      go_ret
      exact ⟨by simp [D.ml, e], rfl⟩
  · have hb : (m == 2) = false := by simpa using hm
    go_enter Tryd.func22, Tryd.ntmps22
    go_wp2
    go_ret
    exact ⟨by simp [D.ml, hm, longAt], rfl⟩

theorem raw_any (y m d : Int) (h0 : 1 ≤ y) (h1 : y ≤ 20000) (hm0 : 1 ≤ m) (hm1 : m ≤ 12) (hd0 : 0 ≤ d) (hd1 : d ≤ 400) (w : World) (hl : LongIs w) : Calls Tryd.prog 23 #[.int .i64 y, .int .i64 m, .int .i64 d] w fun e w' => e = .returned (.int .i64 (D.raw y m d)) ∧ w = w' := by
  have hb := D.dby_bd y h0 h1
  go_enter Tryd.func23, Tryd.ntmps23
  go_wp2
  go_loop [7, 8] (fun n i => ∃ k : Int, 1 ≤ k ∧ k ≤ m ∧ i = .int .i64 k ∧ n = .int .i64 (D.dby y + D.cum y k)) (fun _ i => (m - intOf i).toNat)
  case atStart => exact ⟨1, by omega, by omega, rfl, by rw [D.cum_one]; simp [D.dby]⟩
  case round =>
    obtain ⟨k, hk0, hk1, rfl, rfl⟩ := hrel
    have hcb := D.cum_bd y k hk0 (by omega)
    have hml := D.ml_bd y k
    have hL := D.L_01 y
    by_cases hlt : k < m
    · have hs := D.cum_succ y k hk0 (by omega)
      go_wp2_with (go_at_call 22; refine (days_any y k h0 h1 (by omega) (by omega) _ hl).mono ?_; rintro e w' ⟨rfl, rfl⟩)
      go_round
      case rel => exact ⟨k + 1, by omega, by omega, rfl, by rw [hs]; go_num⟩
      case measure => simp [intOf]; omega
    · obtain rfl : k = m := by omega
      go_wp2
      go_ret
      exact ⟨by simp [D.raw], rfl⟩

theorem from_any (y m d : Int) (w : World) (hl : LongIs w) : Calls Tryd.prog 10 #[.int .i64 y, .int .i64 m, .int .i64 d] w fun e w' => e = .returned (.tuple #[.int .i64 (D.fromV y m d), .int .i64 (D.fromE y m d)]) ∧ w = w' := by
  have hml := D.ml_bd y m
  go_enter Tryd.func10, Tryd.ntmps10
  go_wp2_with (first | (go_at_call 20; refine (isYear_any _ _).mono ?_; rintro e w' ⟨rfl, rfl⟩) | (go_at_call 22; refine (days_any _ _ (by omega) (by omega) (by omega) (by omega) _ hl).mono ?_; rintro e w' ⟨rfl, rfl⟩) | (go_at_call 23; refine (raw_any _ _ _ (by omega) (by omega) (by omega) (by omega) (by omega) (by omega) _ hl).mono ?_; rintro e w' ⟨rfl, rfl⟩))
  all_goals go_ret2
  all_goals first | (rw [D.fromV_no (by unfold D.Valid; omega), D.fromE_no (by unfold D.Valid; omega)]; exact ⟨rfl, rfl⟩) | (rw [D.fromV_yes (by unfold D.Valid; omega), D.fromE_yes (by unfold D.Valid; omega)]; exact ⟨rfl, rfl⟩)

theorem check_any (n : Int) (w : World) : Calls Tryd.prog 24 #[.int .i64 n] w fun e w' => e = .returned (.int .i64 (D.chk n)) ∧ w = w' := by
  go_enter Tryd.func24, Tryd.ntmps24
  go_wp2
  all_goals go_ret
  all_goals first | (rw [D.chk_no (by omega)]; exact ⟨rfl, rfl⟩) | (rw [D.chk_yes (by omega) (by omega)]; exact ⟨rfl, rfl⟩)

theorem split_any (n : Int) (h0 : 0 ≤ n) (h1 : n ≤ 3652058) (w : World) (hl : LongIs w) : Calls Tryd.prog 25 #[.int .i64 n] w fun e w' => e = .returned (.tuple #[.int .i64 (D.yO n), .int .i64 (D.mO n), .int .i64 (D.dO n)]) ∧ w = w' := by
  have g := D.guess h0 h1
  obtain ⟨b1, b2, b3, b4, b5, b6, b7, b8, b9⟩ := D.of_bds h0 h1
  generalize D.yO n = Y, D.mO n = M, D.dO n = E' at *
  have B := hid b7
  have b71 : n ≤ D.dby Y + D.cum Y M + E' - 1 := by omega
  clear b7
  go_enter Tryd.func25, Tryd.ntmps25
  go_wp2
  go_loop [2] (fun t => ∃ y : Int, 1 ≤ y ∧ y ≤ Y ∧ t = .int .i64 y) (fun t => (Y - intOf t).toNat)
  case atStart => exact ⟨_, by omega, by omega, rfl⟩
  case round =>
    obtain ⟨y, hy0, hy1, rfl⟩ := hrel
    have hr : D.raw (y + 1) 1 1 = D.dby (y + 1) := by unfold D.raw; rw [D.cum_one]; omega
    have hb := D.dby_bd (y + 1) (by omega) (by omega)
    by_cases hlt : y < Y
    · have hle : D.raw (y + 1) 1 1 ≤ n := by
        rw [hr]
        by_cases e : y + 1 = Y
        · rw [e]; omega
        · have := D.dby_mono (y := y + 1) (z := Y) (by omega); have := D.L_01 (y + 1); omega
      clear hr
      go_wp2_with (go_at_call 23; refine (raw_any _ _ _ (by omega) (by omega) (by omega) (by omega) (by omega) (by omega) _ hl).mono ?_; rintro e w' ⟨rfl, rfl⟩)
      go_round
      case rel => exact ⟨y + 1, by omega, by omega, rfl⟩
      case measure => simp [intOf]; omega
    · obtain rfl : y = Y := by omega
      have hle : ¬ D.raw (y + 1) 1 1 ≤ n := by rw [hr]; omega
      have hr1 : D.raw y 1 1 = D.dby y := by unfold D.raw; rw [D.cum_one]; omega
      have hb1 := D.dby_bd y (by omega) (by omega)
      have hr2 : D.raw y 1 1 ≤ D.dby y := by omega
      have hr3 : D.dby y ≤ D.raw y 1 1 := by omega
      clear hr hr1 hb
      go_wp2_with (go_at_call 23; refine (raw_any _ _ _ (by omega) (by omega) (by omega) (by omega) (by omega) (by omega) _ hl).mono ?_; rintro e w' ⟨rfl, rfl⟩)
      go_loop [3, 4] (fun m d => ∃ k : Int, 1 ≤ k ∧ k ≤ M ∧ m = .int .i64 k ∧ d = .int .i64 (n - D.dby y - D.cum y k + 1)) (fun m _ => (M - intOf m).toNat)
      case atStart => exact ⟨1, by omega, by omega, rfl, by rw [D.cum_one]; have e1 : D.raw y 1 1 = D.dby y := by omega
                                                            rw [e1]; go_num⟩
      case round =>
        obtain ⟨k, hk0, hk1, rfl, rfl⟩ := hrel
        have hc := D.cum_bd y k hk0 (by omega)
        have hm := D.ml_bd y k
        have hL := D.L_01 y
        by_cases hlt : k < M
        · have hlt' : ¬ n - D.dby y - D.cum y k + 1 ≤ D.ml y k := by have := D.cum_mono y hk0 hlt b4; have := B.out; omega
          have hs := D.cum_succ y k hk0 (by omega)
          have HS := hid hs
          clear hs
          go_wp2_with (go_at_call 22; refine (days_any _ _ (by omega) (by omega) (by omega) (by omega) _ hl).mono ?_; rintro e w' ⟨rfl, rfl⟩)
          go_round
          case rel => exact ⟨k + 1, by omega, by omega, rfl, by rw [HS.out]; go_num⟩
          case measure => simp [intOf]; omega
        · obtain rfl : k = M := by omega
          have hge : n - D.dby y - D.cum y k + 1 ≤ D.ml y k := by have := B.out; omega
          go_wp2_with (go_at_call 22; refine (days_any _ _ (by omega) (by omega) (by omega) (by omega) _ hl).mono ?_; rintro e w' ⟨rfl, rfl⟩)
          go_ret3
          have e1 : n - D.dby y - D.cum y k + 1 = E' := by have := B.out; omega
          exact ⟨by rw [e1]; rfl, rfl⟩

theorem of_any (n : Int) (w : World) (hl : LongIs w) : Calls Tryd.prog 11 #[.int .i64 n] w fun e w' => e = .returned (.tuple #[.int .i64 (D.yO' n), .int .i64 (D.mO' n), .int .i64 (D.dO' n), .int .i64 (D.chk n)]) ∧ w = w' := by
  by_cases h : 0 ≤ n ∧ n ≤ 3652058
  · have hc := D.chk_yes h.1 h.2
    obtain ⟨e1, e2, e3⟩ := D.o_yes h
    have E1 := hid e1; have E2 := hid e2; have E3 := hid e3; clear e1 e2 e3
    go_enter Tryd.func11, Tryd.ntmps11
    go_wp2_with (first | (go_at_call 24; refine (check_any _ _).mono ?_; rintro e w' ⟨rfl, rfl⟩) | (go_at_call 25; refine (split_any _ (by omega) (by omega) _ hl).mono ?_; rintro e w' ⟨rfl, rfl⟩))
    refine bodyPost_ret (results_tmp4 rfl _ _ _) rfl ⟨?_, rfl⟩
    rw [E1.out, E2.out, E3.out, hc]; rfl
  · have hc := D.chk_no h
    obtain ⟨e1, e2, e3⟩ := D.o_no h
    go_enter Tryd.func11, Tryd.ntmps11
    go_wp2_with (first | (go_at_call 24; refine (check_any _ _).mono ?_; rintro e w' ⟨rfl, rfl⟩))
    refine bodyPost_ret (results_tmp4 rfl _ _ _) rfl ⟨?_, rfl⟩
    rw [e1, e2, e3, hc]; rfl

theorem week_any (n : Int) (w : World) : Calls Tryd.prog 12 #[.int .i64 n] w fun e w' => e = .returned (.tuple #[.int .i64 (D.wk n), .int .i64 (D.chk n)]) ∧ w = w' := by
  by_cases h : 0 ≤ n ∧ n ≤ 3652058
  · have hc := D.chk_yes h.1 h.2
    have E := hid (D.wk_yes h)
    go_enter Tryd.func12, Tryd.ntmps12
    go_wp2_with (go_at_call 24; refine (check_any _ _).mono ?_; rintro e w' ⟨rfl, rfl⟩)
    go_ret2
    exact ⟨by rw [E.out, hc]; rfl, rfl⟩
  · have hc := D.chk_no h
    have E := D.wk_no h
    go_enter Tryd.func12, Tryd.ntmps12
    go_wp2_with (go_at_call 24; refine (check_any _ _).mono ?_; rintro e w' ⟨rfl, rfl⟩)
    go_ret2
    exact ⟨by rw [E, hc]; rfl, rfl⟩

theorem Leap_any (y : Int) (w : World) : Calls Tryd.prog 9 #[.int .i64 y] w fun e w' => e = .returned (.tuple #[.bool (D.leB y), .int .i64 (D.leE y)]) ∧ w = w' := by
  by_cases h : 1 ≤ y ∧ y ≤ 9999
  · have E1 := hid (D.leB_yes h)
    have E2 := hid (D.leE_yes h)
    have h1 := h.1
    have h2 := h.2
    go_enter Tryd.func9, Tryd.ntmps9
    go_wp2_with (first | (go_at_call 20; refine (isYear_any _ _).mono ?_; rintro e w' ⟨rfl, rfl⟩) | (go_at_call 21; refine (leap_any _ (by omega) (by omega) _).mono ?_; rintro e w' ⟨rfl, rfl⟩))
    go_ret2
    exact ⟨by rw [E1.out, E2.out]; rfl, rfl⟩
  · have E1 := hid (D.leB_no h)
    have E2 := hid (D.leE_no h)
    have h3 : decide (1 ≤ y ∧ y ≤ 9999) = false := by simpa using h
    go_enter Tryd.func9, Tryd.ntmps9
    go_wp2_with (first | (go_at_call 20; refine (isYear_any _ _).mono ?_; rintro e w' ⟨rfl, rfl⟩))
    go_ret2
    exact ⟨by rw [E1.out, E2.out]; rfl, rfl⟩

theorem months_any (n many : Int) (hm0 : -9223372036854775808 ≤ many) (hm1 : many ≤ 9223372036854775807) (w : World) (hl : LongIs w) : Calls Tryd.prog 13 #[.int .i64 n, .int .i64 many] w fun e w' => e = .returned (.tuple #[.int .i64 (D.moV n many), .int .i64 (D.moE n many)]) ∧ w = w' := by
  by_cases h : 0 ≤ n ∧ n ≤ 3652058
  · have hc := D.chk_yes h.1 h.2
    by_cases h2 : many < -120000
    · have E1 := hid (D.mo_wide1 h (.inl h2)); 
      go_enter Tryd.func13, Tryd.ntmps13
      go_wp2_with (first | (go_at_call 24; refine (check_any _ _).mono ?_; rintro e w' ⟨rfl, rfl⟩))
      go_ret2
      exact ⟨by rw [E1.out.1, E1.out.2]; rfl, rfl⟩
    by_cases h3 : 120000 < many
    · have E1 := hid (D.mo_wide1 h (.inr h3)); 
      go_enter Tryd.func13, Tryd.ntmps13
      go_wp2_with (first | (go_at_call 24; refine (check_any _ _).mono ?_; rintro e w' ⟨rfl, rfl⟩))
      go_ret2
      exact ⟨by rw [E1.out.1, E1.out.2]; rfl, rfl⟩
    obtain ⟨b1, b2, b3, b4, b5, b6, b7, b8, b9⟩ := D.of_bds h.1 h.2
    have E0 := hid (D.mo_yes (many := many) h (by omega) (by omega))
    have HM := D.ml_bd (D.yO n) (D.mO n)
    clear b7 b8 b9
    have hml := D.ml_bd ((12 * D.yO n + D.mO n - 1 + many) / 12) ((12 * D.yO n + D.mO n - 1 + many) % 12 + 1)
    by_cases h4 : 12 * D.yO n + D.mO n - 1 + many < 12
    · have E1 := hid (E0.out.1 (.inl h4)); clear E0
      go_enter Tryd.func13, Tryd.ntmps13
      go_wp2_with (first | (go_at_call 24; refine (check_any _ _).mono ?_; rintro e w' ⟨rfl, rfl⟩) | (go_at_call 25; refine (split_any _ (by omega) (by omega) _ hl).mono ?_; rintro e w' ⟨rfl, rfl⟩) | (go_at_call 20; refine (isYear_any _ _).mono ?_; rintro e w' ⟨rfl, rfl⟩) | (go_at_call 22; refine (days_any _ _ (by omega) (by omega) (by omega) (by omega) _ hl).mono ?_; rintro e w' ⟨rfl, rfl⟩) | (go_at_call 23; refine (raw_any _ _ _ (by omega) (by omega) (by omega) (by omega) (by omega) (by omega) _ hl).mono ?_; rintro e w' ⟨rfl, rfl⟩))
      go_ret2
      exact ⟨by rw [E1.out.1, E1.out.2]; rfl, rfl⟩
    by_cases h5 : 120000 ≤ 12 * D.yO n + D.mO n - 1 + many
    · have h6 : decide (1 ≤ (12 * D.yO n + D.mO n - 1 + many) / 12 ∧ (12 * D.yO n + D.mO n - 1 + many) / 12 ≤ 9999) = false := by rw [decide_eq_false_iff_not]; omega
      have E1 := hid (E0.out.1 (.inr h5)); clear E0
      go_enter Tryd.func13, Tryd.ntmps13
      go_wp2_with (first | (go_at_call 24; refine (check_any _ _).mono ?_; rintro e w' ⟨rfl, rfl⟩) | (go_at_call 25; refine (split_any _ (by omega) (by omega) _ hl).mono ?_; rintro e w' ⟨rfl, rfl⟩) | (go_at_call 20; refine (isYear_any _ _).mono ?_; rintro e w' ⟨rfl, rfl⟩) | (go_at_call 22; refine (days_any _ _ (by omega) (by omega) (by omega) (by omega) _ hl).mono ?_; rintro e w' ⟨rfl, rfl⟩) | (go_at_call 23; refine (raw_any _ _ _ (by omega) (by omega) (by omega) (by omega) (by omega) (by omega) _ hl).mono ?_; rintro e w' ⟨rfl, rfl⟩))
      go_ret2
      exact ⟨by rw [E1.out.1, E1.out.2]; rfl, rfl⟩
    · have h6 : decide (1 ≤ (12 * D.yO n + D.mO n - 1 + many) / 12 ∧ (12 * D.yO n + D.mO n - 1 + many) / 12 ≤ 9999) = true := by rw [decide_eq_true_iff]; omega
      have E1 := hid (E0.out.2 ⟨by omega, by omega⟩); clear E0
      go_enter Tryd.func13, Tryd.ntmps13
      go_wp2_with (first | (go_at_call 24; refine (check_any _ _).mono ?_; rintro e w' ⟨rfl, rfl⟩) | (go_at_call 25; refine (split_any _ (by omega) (by omega) _ hl).mono ?_; rintro e w' ⟨rfl, rfl⟩) | (go_at_call 20; refine (isYear_any _ _).mono ?_; rintro e w' ⟨rfl, rfl⟩) | (go_at_call 22; refine (days_any _ _ (by omega) (by omega) (by omega) (by omega) _ hl).mono ?_; rintro e w' ⟨rfl, rfl⟩) | (go_at_call 23; refine (raw_any _ _ _ (by omega) (by omega) (by omega) (by omega) (by omega) (by omega) _ hl).mono ?_; rintro e w' ⟨rfl, rfl⟩))
      all_goals go_ret2
      all_goals refine ⟨?_, rfl⟩
      all_goals rw [E1.out.1, E1.out.2]
      all_goals first | (rw [Int.min_eq_left (by omega)]; rfl) | (rw [Int.min_eq_right (by omega)]; rfl)
  · have hc := D.chk_no h
    have E1 := hid (D.mo_no (many := many) h)
    go_enter Tryd.func13, Tryd.ntmps13
    go_wp2_with (first | (go_at_call 24; refine (check_any _ _).mono ?_; rintro e w' ⟨rfl, rfl⟩))
    go_ret2
    exact ⟨by rw [E1.out.1, E1.out.2]; rfl, rfl⟩
end Go.Proofs.YtljmpbopgoagcaaDoor
