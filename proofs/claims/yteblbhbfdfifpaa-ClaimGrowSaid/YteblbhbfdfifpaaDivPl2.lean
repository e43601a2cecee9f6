/- How many bits a number has, and the shift that brings its highest bit to the front. -/
import Derived.Lib.BitFns
namespace Go.Proofs.Yteblbhbfdfifpaa.V
open Go.Lib
theorem bl : ∀ (f x : Nat), x ≠ 0 → x < 2 ^ f → f ≤ 64 → 1 ≤ bitLen x ∧ bitLen x ≤ f ∧ 2 ^ (bitLen x - 1) ≤ x ∧ x < 2 ^ bitLen x
  | 0, x, h0, h, _ => by simp at h; exact absurd h h0
  | f + 1, x, h0, h, hf => by
    have h64 : x < 2 ^ 64 := Nat.lt_of_lt_of_le h (Nat.pow_le_pow_right (by omega) hf)
    rw [bitLen_half x h0 h64]
    by_cases hx : x / 2 = 0
    · have : x = 1 := by omega
      subst this
      rw [hx]
      have e : bitLen 0 = 0 := rfl
      rw [e]
      exact ⟨by omega, by omega, by decide, by decide⟩
    · have hlt : x / 2 < 2 ^ f := by rw [Nat.pow_succ] at h; omega
      obtain ⟨a, b, c, d⟩ := bl f (x / 2) hx hlt (by omega)
      generalize bitLen (x / 2) = k at *
      obtain ⟨j, rfl⟩ : ∃ j, k = j + 1 := ⟨k - 1, by omega⟩
      have e1 : 1 + (j + 1) - 1 = j + 1 := by omega
      have e2 : j + 1 - 1 = j := by omega
      rw [e1]
      rw [e2] at c
      have e3 : (2 : Nat) ^ (1 + (j + 1)) = 2 ^ (j + 1) * 2 := by rw [Nat.add_comm, Nat.pow_succ]
      rw [e3]
      have e4 : (2 : Nat) ^ (j + 1) = 2 ^ j * 2 := Nat.pow_succ ..
      refine ⟨by omega, by omega, by omega, by omega⟩
/-- the shift that brings the highest bit to the front -/
theorem lead {y : Nat} (h0 : y ≠ 0) (h : y < 18446744073709551616) : bitLen y ≤ 64 ∧ 1 ≤ bitLen y ∧ 9223372036854775808 ≤ y * 2 ^ (64 - bitLen y) ∧ y * 2 ^ (64 - bitLen y) < 18446744073709551616 := by
  obtain ⟨a, b, c, d⟩ := bl 64 y h0 h (Nat.le_refl _)
  have e1 : 2 ^ (bitLen y - 1) * 2 ^ (64 - bitLen y) = 9223372036854775808 := by
    rw [← Nat.pow_add, show bitLen y - 1 + (64 - bitLen y) = 63 from by omega]
  have e2 : 2 ^ bitLen y * 2 ^ (64 - bitLen y) = 18446744073709551616 := by
    rw [← Nat.pow_add, show bitLen y + (64 - bitLen y) = 64 from by omega]
  have hp : 0 < 2 ^ (64 - bitLen y) := Nat.pow_pos (by omega)
  refine ⟨b, a, ?_, ?_⟩
  · rw [← e1]; exact Nat.mul_le_mul_right _ c
  · rw [← e2]; exact Nat.mul_lt_mul_of_pos_right d hp
end Go.Proofs.Yteblbhbfdfifpaa.V
