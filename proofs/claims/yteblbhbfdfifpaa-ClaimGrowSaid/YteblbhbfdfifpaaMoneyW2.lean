/- The walk of split: a product is divided. -/
import Derived.Test.YteblbhbfdfifpaaMoneyW
namespace Go.Proofs.Yteblbhbfdfifpaa
open Go.RowKit
set_option maxRecDepth 100000
theorem msplit_no (a b c : Nat) (ha : a < 18446744073709551616) (hb : b < 18446744073709551616) (h : c ≤ a * b / 18446744073709551616) (w : World) :
    Calls Try.prog 90 #[.int .u64 a, .int .u64 b, .int .u64 c] w fun e w' => e = .returned (.tuple #[.int .u64 0, .int .u64 0, .bool false]) ∧ w = w' := by
  have m := Try.bits_Mul64 a b ha hb
  obtain ⟨hi, hh⟩ : ∃ x, x = a * b / 18446744073709551616 := ⟨_, rfl⟩
  obtain ⟨lo, hl⟩ : ∃ x, x = a * b % 18446744073709551616 := ⟨_, rfl⟩
  rw [← hh, ← hl] at m
  rw [← hh] at h
  have M0 := hid m
  clear m hh hl ha hb
  go_enter Try.func90, Try.ntmps90
  go_wp2_with fail
  refine (M0.out _).mono ?_
  rintro e w' ⟨rfl, rfl⟩
  go_wp2_with fail
  go_ret3
  exact ⟨rfl, rfl⟩
theorem msplit_yes (a b c R1 R2 : Nat) (ha : a < 18446744073709551616) (hb : b < 18446744073709551616) (hc : c < 18446744073709551616) (h : a * b / 18446744073709551616 < c) (g1 : R1 = a * b / c) (g2 : R2 = a * b % c) (w : World) :
    Calls Try.prog 90 #[.int .u64 a, .int .u64 b, .int .u64 c] w fun e w' => e = .returned (.tuple #[.int .u64 R1, .int .u64 R2, .bool (decide ((R1 : Int) ≤ 1152921504606846976))]) ∧ Below w.heap.size w w' := by
  have m := Try.bits_Mul64 a b ha hb
  have e := Nat.div_add_mod (a * b) 18446744073709551616
  have hl2 : a * b % 18446744073709551616 < 18446744073709551616 := Nat.mod_lt _ (by omega)
  obtain ⟨hi, hh⟩ : ∃ x, x = a * b / 18446744073709551616 := ⟨_, rfl⟩
  obtain ⟨lo, hl⟩ : ∃ x, x = a * b % 18446744073709551616 := ⟨_, rfl⟩
  rw [← hh, ← hl] at m e
  rw [← hh] at h
  rw [← hl] at hl2
  rw [Nat.mul_comm] at e
  rw [← e] at g1 g2
  have D0 := hid (div64_any hi lo c R1 R2 g1 g2 h hl2 hc)
  have M0 := hid m
  clear m hh hl ha hb g1 g2 e hl2 hc
  go_enter Try.func90, Try.ntmps90
  go_wp2_with fail
  refine (M0.out _).mono ?_
  rintro e w' ⟨rfl, rfl⟩
  go_wp2_with fail
  refine (D0.out _).mono ?_
  rintro e w2 ⟨rfl, hb2⟩
  go_wp2_with fail
  go_ret3
  exact ⟨rfl, hb2⟩
end Go.Proofs.Yteblbhbfdfifpaa
