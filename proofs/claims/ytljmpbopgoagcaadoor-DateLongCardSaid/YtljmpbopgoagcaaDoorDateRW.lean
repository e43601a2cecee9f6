/- The walks of the document's own functions on dates, and of the law's own helper. -/
import Derived.Test.YtljmpbopgoagcaaDoorDateW
namespace Go.Proofs.YtljmpbopgoagcaaDoor
open Go.RowKit
set_option maxRecDepth 100000

theorem between_any (n a b : Int) (w : World) : Calls Tryd.prog 26 #[.int .i64 n, .int .i64 a, .int .i64 b] w fun e w' => e = .returned (.bool (decide (a ≤ n ∧ n ≤ b))) ∧ w = w' := by
  go_enter Tryd.func26, Tryd.ntmps26
  go_wp2
  all_goals (go_ret; exact ⟨by simp [*] <;> omega, rfl⟩)

theorem rleap_any (y : Int) (h0 : 1 ≤ y) (h1 : y ≤ 20000) (w : World) : Calls Tryd.prog 14 #[.int .i64 y] w fun e w' => e = .returned (.bool (D.lp y)) ∧ w = w' := by
  by_cases c : y % 400 = 0
  · have E := hid (show D.lp y = true by simp [D.lp, c]; omega)
    go_enter Tryd.func14, Tryd.ntmps14
    go_wp2
    go_ret
    exact ⟨by rw [E.out]; rfl, rfl⟩
  · have c' : (y % 400 == 0) = false := by simpa using c
    have E := hid (show D.lp y = (y % 4 == 0 && y % 100 != 0) by simp [D.lp, c', bne])
    go_enter Tryd.func14, Tryd.ntmps14
    go_wp2
    all_goals (go_ret; exact ⟨ret_bool (by rw [E.out]; simp [*]), rfl⟩)

theorem rml_any (y m : Int) (h0 : 1 ≤ y) (h1 : y ≤ 20000) (w : World) : Calls Tryd.prog 19 #[.int .i64 y, .int .i64 m] w fun e w' => e = .returned (.int .i64 (D.ml y m)) ∧ w = w' := by
  by_cases hm : m = 2
  · subst hm
    by_cases hy : D.lp y = true
    · have e := hid (D.L_of hy)
      go_enter Tryd.func19, Tryd.ntmps19
      go_wp2_with (go_at_call 14; refine (rleap_any _ (by omega) (by omega) _).mono ?_; rintro e w' ⟨rfl, rfl⟩)
      go_ret
      exact ⟨ret_int (by simp [D.ml, e.out]), rfl⟩
    · have hy' : D.lp y = false := by simpa using hy
      have e := hid (D.L_not hy')
      go_enter Tryd.func19, Tryd.ntmps19
      go_wp2_with (go_at_call 14; refine (rleap_any _ (by omega) (by omega) _).mono ?_; rintro e w' ⟨rfl, rfl⟩)
      go_ret
      exact ⟨ret_int (by simp [D.ml, e.out]), rfl⟩
  · have hb : (m == 2) = false := by simpa using hm
    by_cases h : m = 4 ∨ m = 6 ∨ m = 9 ∨ m = 11
    · have E := hid (show D.ml y m = 30 by unfold D.ml; rw [if_neg hm, if_pos h])
      rcases h with h | h | h | h <;> subst h <;> (go_enter Tryd.func19, Tryd.ntmps19; go_wp2; go_ret; exact ⟨ret_int (by rw [E.out]), rfl⟩)
    · have E := hid (show D.ml y m = 31 by unfold D.ml; rw [if_neg hm, if_neg h])
      have h4 : (m == 4) = false := by rw [beq_eq_false_iff_ne]; omega
      have h6 : (m == 6) = false := by rw [beq_eq_false_iff_ne]; omega
      have h9 : (m == 9) = false := by rw [beq_eq_false_iff_ne]; omega
      have h11 : (m == 11) = false := by rw [beq_eq_false_iff_ne]; omega
      go_enter Tryd.func19, Tryd.ntmps19
      go_wp2
      go_ret
      exact ⟨ret_int (by rw [E.out]), rfl⟩

theorem rfrom_any (y m d : Int) (w : World) : Calls Tryd.prog 15 #[.int .i64 y, .int .i64 m, .int .i64 d] w fun e w' => e = .returned (.tuple #[.int .i64 (D.fromV y m d), .int .i64 (D.fromE y m d)]) ∧ w = w' := by
  have hml := D.ml_bd y m
  by_cases h1 : 1 ≤ y ∧ y ≤ 9999
  · have a1 : decide (1 ≤ y ∧ y ≤ 9999) = true := by simpa using h1
    by_cases h2 : 1 ≤ m ∧ m ≤ 12
    · have a2 : decide (1 ≤ m ∧ m ≤ 12) = true := by simpa using h2
      by_cases h3 : 1 ≤ d ∧ d ≤ D.ml y m
      · have hv : D.Valid y m d := ⟨h1.1, h1.2, h2.1, h2.2, h3.1, h3.2⟩
        have E1 := hid (D.fromV_yes hv)
        have E2 := hid (D.fromE_yes hv)
        clear hv
        have a3 : decide (1 ≤ d ∧ d ≤ D.ml y m) = true := by simpa using h3
        go_enter Tryd.func15, Tryd.ntmps15
        go_wp2_with (first | (go_at_call 26; refine (between_any _ _ _ _).mono ?_; rintro e w' ⟨rfl, rfl⟩) | (go_at_call 19; refine (rml_any _ _ (by omega) (by omega) _).mono ?_; rintro e w' ⟨rfl, rfl⟩))
        go_loop [8, 9] (fun n i => ∃ k : Int, 1 ≤ k ∧ k ≤ y ∧ i = .int .i64 k ∧ n = .int .i64 (D.dby k)) (fun _ i => (y - intOf i).toNat)
        case atStart => exact ⟨(y - 1) / 400 * 400 + 1, by omega, by omega, rfl, by rw [D.dby_start]⟩
        case round =>
          obtain ⟨k, hk0, hk1, rfl, rfl⟩ := hrel
          have hb := D.dby_bd k hk0 (by omega)
          have hs := hid (D.dby_succ k)
          by_cases hlt : k < y
          · by_cases hy : D.lp k = true
            · have e := hid (D.L_of hy)
              go_wp2_with (first | (go_at_call 14; refine (rleap_any _ (by omega) (by omega) _).mono ?_; rintro e w' ⟨rfl, rfl⟩))
              go_round
              case rel => exact ⟨k + 1, by omega, by omega, rfl, by rw [hs.out, e.out]; first | done | go_num⟩
              case measure => simp [intOf]; omega
            · have hy' : D.lp k = false := by simpa using hy
              have e := hid (D.L_not hy')
              clear hy
              go_wp2_with (first | (go_at_call 14; refine (rleap_any _ (by omega) (by omega) _).mono ?_; rintro e w' ⟨rfl, rfl⟩))
              go_round
              case rel => exact ⟨k + 1, by omega, by omega, rfl, by rw [hs.out, e.out]; first | done | go_num⟩
              case measure => simp [intOf]; omega
          · obtain rfl : k = y := by omega
            go_wp2
            go_loop [8, 10] (fun n i => ∃ j : Int, 1 ≤ j ∧ j ≤ m ∧ i = .int .i64 j ∧ n = .int .i64 (D.dby k + D.cum k j)) (fun _ i => (m - intOf i).toNat)
            case atStart => exact ⟨1, by omega, by omega, rfl, by rw [D.cum_one]; simp⟩
            case round =>
              obtain ⟨j, hj0, hj1, rfl, rfl⟩ := hrel
              have hcb := D.cum_bd k j hj0 (by omega)
              have hmj := D.ml_bd k j
              have hL := D.L_01 k
              by_cases hlt : j < m
              · have hs := hid (D.cum_succ k j hj0 (by omega))
                go_wp2_with (first | (go_at_call 19; refine (rml_any _ _ (by omega) (by omega) _).mono ?_; rintro e w' ⟨rfl, rfl⟩))
                go_round
                case rel => exact ⟨j + 1, by omega, by omega, rfl, by rw [hs.out]; go_num⟩
                case measure => simp [intOf]; omega
              · obtain rfl : j = m := by omega
                go_wp2
                go_ret2
                exact ⟨by rw [E1.out, E2.out]; rfl, rfl⟩
      · have hv : ¬ D.Valid y m d := fun h => h3 ⟨h.2.2.2.2.1, h.2.2.2.2.2⟩
        have a3 : decide (1 ≤ d ∧ d ≤ D.ml y m) = false := by simpa using h3
        have E1 := hid (D.fromV_no hv)
        have E2 := hid (D.fromE_no hv)
        clear hv
        go_enter Tryd.func15, Tryd.ntmps15
        go_wp2_with (first | (go_at_call 26; refine (between_any _ _ _ _).mono ?_; rintro e w' ⟨rfl, rfl⟩) | (go_at_call 19; refine (rml_any _ _ (by omega) (by omega) _).mono ?_; rintro e w' ⟨rfl, rfl⟩))
        all_goals (go_ret2; exact ⟨by rw [E1.out, E2.out]; rfl, rfl⟩)
    · have hv : ¬ D.Valid y m d := fun h => h2 ⟨h.2.2.1, h.2.2.2.1⟩
      have a2 : decide (1 ≤ m ∧ m ≤ 12) = false := by simpa using h2
      have E1 := hid (D.fromV_no hv)
      have E2 := hid (D.fromE_no hv)
      clear hv
      go_enter Tryd.func15, Tryd.ntmps15
      go_wp2_with (first | (go_at_call 26; refine (between_any _ _ _ _).mono ?_; rintro e w' ⟨rfl, rfl⟩) | (go_at_call 19; refine (rml_any _ _ (by omega) (by omega) _).mono ?_; rintro e w' ⟨rfl, rfl⟩))
      all_goals (go_ret2; exact ⟨by rw [E1.out, E2.out]; rfl, rfl⟩)
  · have hv : ¬ D.Valid y m d := fun h => h1 ⟨h.1, h.2.1⟩
    have a1 : decide (1 ≤ y ∧ y ≤ 9999) = false := by simpa using h1
    have E1 := hid (D.fromV_no hv)
    have E2 := hid (D.fromE_no hv)
    clear hv
    go_enter Tryd.func15, Tryd.ntmps15
    go_wp2_with (first | (go_at_call 26; refine (between_any _ _ _ _).mono ?_; rintro e w' ⟨rfl, rfl⟩) | (go_at_call 19; refine (rml_any _ _ (by omega) (by omega) _).mono ?_; rintro e w' ⟨rfl, rfl⟩))
    all_goals (go_ret2; exact ⟨by rw [E1.out, E2.out]; rfl, rfl⟩)

theorem rof_any (n : Int) (w : World) : Calls Tryd.prog 16 #[.int .i64 n] w fun e w' => e = .returned (.tuple #[.int .i64 (D.yO' n), .int .i64 (D.mO' n), .int .i64 (D.dO' n), .int .i64 (D.chk n)]) ∧ w = w' := by
  by_cases h : 0 ≤ n ∧ n ≤ 3652058
  · have a1 : decide (0 ≤ n ∧ n ≤ 3652058) = true := by simpa using h
    have hc := hid (D.chk_yes h.1 h.2)
    obtain ⟨e1, e2, e3⟩ := D.o_yes h
    have E1 := hid e1; have E2 := hid e2; have E3 := hid e3; clear e1 e2 e3
    have g := D.guess4 h.1 h.2
    obtain ⟨b1, b2, b3, b4, b5, b6, b7, b8, b9⟩ := D.of_bds h.1 h.2
    have B := hid b7
    clear b7
    generalize hY : D.yO n = Y, D.mO n = M, D.dO n = E' at *
    clear hY
    go_enter Tryd.func16, Tryd.ntmps16
    go_wp2_with (first | (go_at_call 26; refine (between_any _ _ _ _).mono ?_; rintro e w' ⟨rfl, rfl⟩))
    go_loop [0, 6, 7] (fun t a _ => ∃ y : Int, 1 ≤ y ∧ y ≤ Y ∧ a = .int .i64 y ∧ t = .int .i64 (n - D.dby y)) (fun _ a _ => (Y - intOf a).toNat)
    case atStart => exact ⟨1 + n / 146097 * 400, by omega, by omega, rfl, by rw [D.dby_4]; congr 1; omega⟩
    case round =>
      obtain ⟨y, hy0, hy1, rfl, rfl⟩ := hrel
      have hs := hid (D.dby_succ y)
      have hb := D.dby_bd y hy0 (by omega)
      by_cases hlt : y < Y
      · have hle := D.dby_mono hlt
        by_cases hy : D.lp y = true
        · have e := D.L_of hy
          rw [e] at hle; have e := hid e
          go_wp2_with (first | (go_at_call 14; refine (rleap_any _ (by omega) (by omega) _).mono ?_; rintro e w' ⟨rfl, rfl⟩))
          go_round
          case rel => exact ⟨y + 1, by omega, by omega, rfl, by rw [hs.out, e.out]; first | done | go_num⟩
          case measure => simp [intOf]; omega
        · have hy' : D.lp y = false := by simpa using hy
          have e := D.L_not hy'
          rw [e] at hle; have e := hid e
          clear hy
          go_wp2_with (first | (go_at_call 14; refine (rleap_any _ (by omega) (by omega) _).mono ?_; rintro e w' ⟨rfl, rfl⟩))
          go_round
          case rel => exact ⟨y + 1, by omega, by omega, rfl, by rw [hs.out, e.out]; first | done | go_num⟩
          case measure => simp [intOf]; omega
      · obtain rfl : y = Y := by omega
        have hlt' : n - D.dby y < 365 + D.L y := by have := hs.out; omega
        have hlp := D.lp_eq y
        by_cases hy : D.lp y = true
        all_goals
          first | (have e := D.L_of hy; rw [e] at hlt'; have hlt2 : n - D.dby y < 366 := (by omega); clear e hlp hs hlt') | ((have hy' : D.lp y = false := by (simpa using hy)); have e := D.L_not hy'; rw [e] at hlt'; have hlt2 : n - D.dby y < 365 := (by omega); clear e hlp hs hy hlt')
          go_wp2_with (first | (go_at_call 14; refine (rleap_any _ (by omega) (by omega) _).mono ?_; rintro e w' ⟨rfl, rfl⟩))
          go_loop [0, 8] (fun t a => ∃ m : Int, 1 ≤ m ∧ m ≤ M ∧ a = .int .i64 m ∧ t = .int .i64 (n - D.dby y - D.cum y m)) (fun _ a => (M - intOf a).toNat)
          case atStart => exact ⟨1, by omega, by omega, rfl, by rw [D.cum_one]; go_num⟩
          case round =>
            obtain ⟨k, hk0, hk1, rfl, rfl⟩ := hrel
            have hcb := D.cum_bd y k hk0 (by omega)
            have hm := D.ml_bd y k
            have hL := D.L_01 y
            by_cases hlt : k < M
            · have hlt' : D.ml y k ≤ n - D.dby y - D.cum y k := by have := D.cum_mono y hk0 hlt b4; have := B.out; omega
              have HS := hid (D.cum_succ y k hk0 (by omega))
              go_wp2_with (first | (go_at_call 19; refine (rml_any _ _ (by omega) (by omega) _).mono ?_; rintro e w' ⟨rfl, rfl⟩))
              go_round
              case rel => exact ⟨k + 1, by omega, by omega, rfl, by rw [HS.out]; go_num⟩
              case measure => simp [intOf]; omega
            · obtain rfl : k = M := by omega
              have hge : ¬ D.ml y k ≤ n - D.dby y - D.cum y k := by have := B.out; omega
              go_wp2_with (first | (go_at_call 19; refine (rml_any _ _ (by omega) (by omega) _).mono ?_; rintro e w' ⟨rfl, rfl⟩))
              refine bodyPost_ret (results_tmp4 rfl _ _ _) rfl ⟨?_, rfl⟩
              have e1 : n - D.dby y - D.cum y k + 1 = E' := by have := B.out; omega
              rw [E1.out, E2.out, E3.out, hc.out, ← e1]
              rfl
  · have a1 : decide (0 ≤ n ∧ n ≤ 3652058) = false := by simpa using h
    have hc := hid (D.chk_no h)
    obtain ⟨e1, e2, e3⟩ := D.o_no h
    have E1 := hid e1; have E2 := hid e2; have E3 := hid e3; clear e1 e2 e3
    go_enter Tryd.func16, Tryd.ntmps16
    go_wp2_with (first | (go_at_call 26; refine (between_any _ _ _ _).mono ?_; rintro e w' ⟨rfl, rfl⟩))
    refine bodyPost_ret (results_tmp4 rfl _ _ _) rfl ⟨?_, rfl⟩
    rw [E1.out, E2.out, E3.out, hc.out]
    rfl

end Go.Proofs.YtljmpbopgoagcaaDoor
