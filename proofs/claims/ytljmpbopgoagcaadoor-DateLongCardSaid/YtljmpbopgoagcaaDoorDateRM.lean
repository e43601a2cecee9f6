/- The walk of the document's function on months, and of the law's own helper. -/
import Derived.Test.YtljmpbopgoagcaaDoorDateRW
namespace Go.Proofs.YtljmpbopgoagcaaDoor
open Go.RowKit
set_option maxRecDepth 100000

theorem rmonths_any (n many : Int) (hm0 : -9223372036854775808 ≤ many) (hm1 : many ≤ 9223372036854775807) (w : World) : Calls Tryd.prog 17 #[.int .i64 n, .int .i64 many] w fun e w' => e = .returned (.tuple #[.int .i64 (D.moV n many), .int .i64 (D.moE n many)]) ∧ w = w' := by
  by_cases h : 0 ≤ n ∧ n ≤ 3652058
  · have hc := D.chk_yes h.1 h.2
    by_cases h2 : many < -120000 ∨ 120000 < many
    · have E1 := hid (D.mo_wide1 h h2)
      have a1 : decide (-120000 ≤ many ∧ many ≤ 120000) = false := by rw [decide_eq_false_iff_not]; omega
      go_enter Tryd.func17, Tryd.ntmps17
      go_wp2_with (first | (go_at_call 16; refine (rof_any _ _).mono ?_; rintro e w' ⟨rfl, rfl⟩) | (go_at_call 26; refine (between_any _ _ _ _).mono ?_; rintro e w' ⟨rfl, rfl⟩))
      go_ret2
      exact ⟨by rw [E1.out.1, E1.out.2]; rfl, rfl⟩
    obtain ⟨b1, b2, b3, b4, b5, b6, b7, b8, b9⟩ := D.of_bds h.1 h.2
    have a1 : decide (-120000 ≤ many ∧ many ≤ 120000) = true := by rw [decide_eq_true_iff]; omega
    have E0 := hid (D.mo_yes (many := many) h (by omega) (by omega))
    have HM := D.ml_bd (D.yO n) (D.mO n)
    obtain ⟨e1, e2, e3⟩ := D.o_yes h
    clear b7 b8 b9
    have hb2 : -120000 ≤ many := by omega
    have hb3 : many ≤ 120000 := by omega
    clear h2 hm0 hm1
    go_enter Tryd.func17, Tryd.ntmps17
    go_wp2_with (first | (go_at_call 16; refine (rof_any _ _).mono ?_; rintro e w' ⟨rfl, rfl⟩) | (go_at_call 26; refine (between_any _ _ _ _).mono ?_; rintro e w' ⟨rfl, rfl⟩))
    clear e1 e2 e3
    go_loop [6, 7, 10] (fun y m i => ∃ k : Int, 0 ≤ k ∧ (k = 0 ∨ k ≤ many) ∧ i = .int .i64 k ∧ y = .int .i64 ((12 * D.yO n + D.mO n - 1 + k) / 12) ∧ m = .int .i64 ((12 * D.yO n + D.mO n - 1 + k) % 12 + 1)) (fun _ _ i => (many - intOf i).toNat)
    case atStart => exact ⟨0, by omega, .inl rfl, rfl, by congr 1; omega, by congr 1; omega⟩
    case round =>
      obtain ⟨k, hk0, hk1, rfl, rfl, rfl⟩ := hrel
      by_cases hlt : k < many
      · by_cases hm : (12 * D.yO n + D.mO n - 1 + k) % 12 = 11
        · have hb : ((12 * D.yO n + D.mO n - 1 + k) % 12 + 1 + 1 == 13) = true := by rw [beq_iff_eq]; omega
          have H := hid hm
          clear hm
          go_wp2
          go_round
          case rel => exact ⟨k + 1, by omega, .inr (by omega), rfl, by have := H.out; congr 1; omega, by have := H.out; congr 1; omega⟩
          case measure => simp [intOf]; omega
        · have hb : ((12 * D.yO n + D.mO n - 1 + k) % 12 + 1 + 1 == 13) = false := by rw [beq_eq_false_iff_ne]; omega
          go_wp2
          go_round
          case rel => exact ⟨k + 1, by omega, .inr (by omega), rfl, by congr 1; omega, by congr 1; omega⟩
          case measure => simp [intOf]; omega
      · go_wp2
        go_loop [6, 7, 11] (fun y m i => ∃ j : Int, 0 ≤ j ∧ (j = 0 ∨ j ≤ -many) ∧ i = .int .i64 j ∧ y = .int .i64 ((12 * D.yO n + D.mO n - 1 + (k - j)) / 12) ∧ m = .int .i64 ((12 * D.yO n + D.mO n - 1 + (k - j)) % 12 + 1)) (fun _ _ i => (-many - intOf i).toNat)
        case atStart => exact ⟨0, by omega, .inl rfl, rfl, by congr 1; omega, by congr 1; omega⟩
        case round =>
          obtain ⟨j, hj0, hj1, rfl, rfl, rfl⟩ := hrel
          by_cases hlt : j < -many
          · have hk : k = 0 := by omega
            by_cases hm : (12 * D.yO n + D.mO n - 1 + (k - j)) % 12 = 0
            · have hb : ((12 * D.yO n + D.mO n - 1 + (k - j)) % 12 + 1 - 1 == 0) = true := by rw [beq_iff_eq]; omega
              have H := hid hm
              have H2 := hid hk
              clear hm hk
              go_wp2
              go_round
              case rel => exact ⟨j + 1, by omega, .inr (by omega), rfl, by have := H.out; congr 1; omega, by have := H.out; congr 1; omega⟩
              case measure => simp [intOf]; omega
            · have hb : ((12 * D.yO n + D.mO n - 1 + (k - j)) % 12 + 1 - 1 == 0) = false := by rw [beq_eq_false_iff_ne]; omega
              have H2 := hid hk
              clear hk
              go_wp2
              go_round
              case rel => exact ⟨j + 1, by omega, .inr (by omega), rfl, by congr 1; omega, by congr 1; omega⟩
              case measure => simp [intOf]; omega
          · have hkj : k - j = many := by omega
            have K := hid hkj
            rw [hkj]
            clear hkj
            have hml := D.ml_bd ((12 * D.yO n + D.mO n - 1 + many) / 12) ((12 * D.yO n + D.mO n - 1 + many) % 12 + 1)
            by_cases h4 : 12 * D.yO n + D.mO n - 1 + many < 12 ∨ 120000 ≤ 12 * D.yO n + D.mO n - 1 + many
            · have E1 := hid (E0.out.1 h4)
              have h6 : decide (1 ≤ (12 * D.yO n + D.mO n - 1 + many) / 12 ∧ (12 * D.yO n + D.mO n - 1 + many) / 12 ≤ 9999) = false := by rw [decide_eq_false_iff_not]; omega
              go_wp2_with (first | (go_at_call 26; refine (between_any _ _ _ _).mono ?_; rintro e w' ⟨rfl, rfl⟩))
              go_ret2
              exact ⟨by rw [E1.out.1, E1.out.2]; rfl, rfl⟩
            · have E1 := hid (E0.out.2 (by omega))
              have h6 : decide (1 ≤ (12 * D.yO n + D.mO n - 1 + many) / 12 ∧ (12 * D.yO n + D.mO n - 1 + many) / 12 ≤ 9999) = true := by rw [decide_eq_true_iff]; omega
              have hv : D.Valid ((12 * D.yO n + D.mO n - 1 + many) / 12) ((12 * D.yO n + D.mO n - 1 + many) % 12 + 1) (min (D.dO n) (D.ml ((12 * D.yO n + D.mO n - 1 + many) / 12) ((12 * D.yO n + D.mO n - 1 + many) % 12 + 1))) := ⟨by omega, by omega, by omega, by omega, by omega, by omega⟩
              have V1 := hid (D.fromV_yes hv)
              have V2 := hid (D.fromE_yes hv)
              clear hv
              by_cases hd : D.ml ((12 * D.yO n + D.mO n - 1 + many) / 12) ((12 * D.yO n + D.mO n - 1 + many) % 12 + 1) < D.dO n
              · have M1 := hid (Int.min_eq_right (Int.le_of_lt hd))
                go_wp2_with (first | (go_at_call 26; refine (between_any _ _ _ _).mono ?_; rintro e w' ⟨rfl, rfl⟩) | (go_at_call 19; refine (rml_any _ _ (by omega) (by omega) _).mono ?_; rintro e w' ⟨rfl, rfl⟩) | (go_at_call 15; refine (rfrom_any _ _ _ _).mono ?_; rintro e w' ⟨rfl, rfl⟩))
                go_ret2
                exact ⟨by rw [E1.out.1, E1.out.2, ← V1.out, ← V2.out, M1.out]; rfl, rfl⟩
              · have M1 := hid (Int.min_eq_left (show D.dO n ≤ D.ml ((12 * D.yO n + D.mO n - 1 + many) / 12) ((12 * D.yO n + D.mO n - 1 + many) % 12 + 1) by omega))
                go_wp2_with (first | (go_at_call 26; refine (between_any _ _ _ _).mono ?_; rintro e w' ⟨rfl, rfl⟩) | (go_at_call 19; refine (rml_any _ _ (by omega) (by omega) _).mono ?_; rintro e w' ⟨rfl, rfl⟩) | (go_at_call 15; refine (rfrom_any _ _ _ _).mono ?_; rintro e w' ⟨rfl, rfl⟩))
                go_ret2
                exact ⟨by rw [E1.out.1, E1.out.2, ← V1.out, ← V2.out, M1.out]; rfl, rfl⟩
  · have hc := D.chk_no h
    have E1 := hid (D.mo_no (many := many) h)
    obtain ⟨e1, e2, e3⟩ := D.o_no h
    go_enter Tryd.func17, Tryd.ntmps17
    go_wp2_with (first | (go_at_call 16; refine (rof_any _ _).mono ?_; rintro e w' ⟨rfl, rfl⟩))
    go_ret2
    exact ⟨by rw [E1.out.1, E1.out.2]; rfl, rfl⟩

theorem dbegun_any (w : World) (hl : LongIs w) : Calls Tryd.prog 18 #[] w fun e w' => e = .returned (.bool true) ∧ w = w' := by
  have f1 := D.b1
  have f2 := D.b2
  have f3 := D.b3
  have f4 := D.b4
  have f5 := D.b5
  have f6 := D.b6
  have f7 := D.b7
  go_enter Tryd.func18, Tryd.ntmps18
  go_wp2_with (first | (go_at_call 10; refine (from_any _ _ _ _ hl).mono ?_; rintro e w' ⟨rfl, rfl⟩) | (go_at_call 11; refine (of_any _ _ hl).mono ?_; rintro e w' ⟨rfl, rfl⟩) | (go_at_call 12; refine (week_any _ _).mono ?_; rintro e w' ⟨rfl, rfl⟩) | (go_at_call 9; refine (Leap_any _ _).mono ?_; rintro e w' ⟨rfl, rfl⟩) | (go_at_call 13; refine (months_any _ _ (by omega) (by omega) _ hl).mono ?_; rintro e w' ⟨rfl, rfl⟩))
  go_ret
  exact ⟨rfl, rfl⟩
end Go.Proofs.YtljmpbopgoagcaaDoor
