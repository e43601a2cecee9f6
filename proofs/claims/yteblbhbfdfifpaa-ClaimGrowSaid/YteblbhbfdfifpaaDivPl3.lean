/- Plain facts: a number of two words, shifted so that the divisor's highest bit stands in front. -/
import Derived.Test.YteblbhbfdfifpaaDivPl
namespace Go.Proofs.Yteblbhbfdfifpaa.V
theorem step_eq {a u q r q' r' : Nat} (h : q * a + r = u) (hq : 1 ≤ q) (e1 : q' = q - 1) (e2 : r' = r + a) : q' * a + r' = u := by
  obtain ⟨k, rfl⟩ : ∃ k, q = k + 1 := ⟨q - 1, by omega⟩
  have : q' = k := by omega
  subst this
  rw [e2, ← h, Nat.add_mul]
  omega
theorem rem_wrap {u d Q Y : Nat} (hq : Q = (u * 4294967296 + d) / Y) (hY : 0 < Y) (hY2 : Y < 18446744073709551616) :
    ((((u : Int) * 4294967296 % 18446744073709551616 + (d : Int)) % 18446744073709551616 - (Q : Int) * (Y : Int) % 18446744073709551616) % 18446744073709551616) = (((u * 4294967296 + d) % Y : Nat) : Int) := by
  have h := Nat.div_add_mod (u * 4294967296 + d) Y
  have h2 := Nat.mod_lt (u * 4294967296 + d) hY
  rw [← hq] at h
  generalize (u * 4294967296 + d) % Y = m at *
  have e : (Q : Int) * (Y : Int) = ((Y * Q : Nat) : Int) := by simp [Int.mul_comm]
  rw [e]
  generalize Y * Q = z at *
  omega
theorem final_ {K W hi lo y s u d1 d0 V' Y : Nat} (hW : W = K * K) (hY : Y = y * 2 ^ s) (hy : 0 < Y) (hU : u * W + V' = (hi * W + lo) * 2 ^ s) (hV : V' = d1 * K + d0) :
    ((u * K + d1) / Y) * K + (((u * K + d1) % Y) * K + d0) / Y = (hi * W + lo) / y ∧ ((((u * K + d1) % Y) * K + d0) % Y) / 2 ^ s = (hi * W + lo) % y := by
  obtain ⟨t1, t2⟩ := two_digits_ (K := K) (V := Y) (N := u * K + d1) (d0 := d0) hy
  have e : (u * K + d1) * K + d0 = (hi * W + lo) * 2 ^ s := by rw [← hU, hV, hW, Nat.add_mul, Nat.mul_assoc]; omega
  rw [e, hY] at t1 t2
  obtain ⟨g1, g2⟩ := shift_div (N := hi * W + lo) (y := y) (s := 2 ^ s) (Nat.pow_pos (by omega))
  rw [hY]
  exact ⟨t1.trans g1, by rw [t2]; exact g2⟩
theorem final {hi lo y s u d1 d0 V' Y : Nat} (hY : Y = y * 2 ^ s) (hy : 0 < Y) (hU : u * 18446744073709551616 + V' = (hi * 18446744073709551616 + lo) * 2 ^ s) (hV : V' = d1 * 4294967296 + d0) :
    ((u * 4294967296 + d1) / Y) * 4294967296 + (((u * 4294967296 + d1) % Y) * 4294967296 + d0) / Y = (hi * 18446744073709551616 + lo) / y ∧
    ((((u * 4294967296 + d1) % Y) * 4294967296 + d0) % Y) / 2 ^ s = (hi * 18446744073709551616 + lo) % y := final_ (by omega) hY hy hU hV
theorem lt_words_ {K hi lo y : Nat} (h1 : hi < y) (h2 : lo < K) : hi * K + lo < y * K := by
  have h : (hi + 1) * K ≤ y * K := Nat.mul_le_mul_right _ h1
  rw [Nat.add_mul] at h; omega
theorem lt_words {hi lo y : Nat} (h1 : hi < y) (h2 : lo < 18446744073709551616) : hi * 18446744073709551616 + lo < y * 18446744073709551616 := lt_words_ h1 h2
theorem or_add {h l s : Nat} (hl : l < 2 ^ s) : (h * 2 ^ s) ||| l = h * 2 ^ s + l := by
  have := Nat.shiftLeft_add_eq_or_of_lt hl h
  rw [Nat.shiftLeft_eq] at this
  exact this.symm
theorem words_ {hi lo A B K : Nat} (hp : 0 < B) (e : A * B = K) : (hi * B + lo / A) * K + lo * B % K = (hi * K + lo) * B := by
  have hd : lo * B / K = lo / A := by rw [← e]; exact Nat.mul_div_mul_right _ _ hp
  have hdm := Nat.div_add_mod (lo * B) K
  rw [hd] at hdm
  rw [Nat.add_mul, Nat.add_mul, Nat.mul_assoc hi K B, Nat.mul_comm K B, ← Nat.mul_assoc hi B K, Nat.mul_comm (lo / A) K]
  omega
/-- the upper word, and the lower one, of the shifted number -/
theorem words {hi lo y s : Nat} (hs : s ≤ 63) (h1 : hi < y) (h2 : lo < 18446744073709551616) (h4 : y * 2 ^ s < 18446744073709551616) :
    hi * 2 ^ s < 18446744073709551616 ∧ lo / 2 ^ (64 - s) < 2 ^ s ∧ hi * 2 ^ s + lo / 2 ^ (64 - s) < y * 2 ^ s ∧
    (hi * 2 ^ s + lo / 2 ^ (64 - s)) * 18446744073709551616 + lo * 2 ^ s % 18446744073709551616 = (hi * 18446744073709551616 + lo) * 2 ^ s := by
  have hp : 0 < 2 ^ s := Nat.pow_pos (by omega)
  have e : 2 ^ (64 - s) * 2 ^ s = 18446744073709551616 := by rw [← Nat.pow_add, show 64 - s + s = 64 from by omega]
  have hl : lo / 2 ^ (64 - s) < 2 ^ s := Nat.div_lt_of_lt_mul (by rw [e]; exact h2)
  have hm : (hi + 1) * 2 ^ s ≤ y * 2 ^ s := Nat.mul_le_mul_right _ h1
  rw [Nat.add_mul] at hm
  exact ⟨by omega, hl, by omega, words_ hp e⟩
end Go.Proofs.Yteblbhbfdfifpaa.V
