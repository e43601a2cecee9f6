/- Plain facts on division by halves: one step of the school's long division of a number of two words. -/
namespace Go.Proofs.Yteblbhbfdfifpaa.V

/-- the guess of one digit: 'q' and 'r' with q * a + r = u, q no less than the true digit -/
def Guess (a u q r : Nat) : Prop := q * a + r = u
/-- is the guess too great? just if q * (a * 2^32 + b) is above u * 2^32 + d -/
theorem too_great {a b u d q r : Nat} (h : q * a + r = u) : (r * 4294967296 + d < q * b) ↔ (u * 4294967296 + d < q * (a * 4294967296 + b)) := by
  have e : q * (a * 4294967296 + b) = q * a * 4294967296 + q * b := by rw [Nat.mul_add, Nat.mul_assoc]
  rw [e, ← h, Nat.add_mul]
  omega
theorem digit_le {V N q : Nat} (hb : N < q * V) : N / V ≤ q - 1 := by
  have h1 : N / V < q := Nat.div_lt_of_lt_mul (by rw [Nat.mul_comm]; exact hb)
  omega
theorem digit_eq {V N q : Nat} (h : N / V ≤ q) (hb : ¬ N < q * V) (hV : 0 < V) : q = N / V := by
  have h1 : q ≤ N / V := (Nat.le_div_iff_mul_le hV).2 (by omega)
  omega
theorem guess_ge {a b u d : Nat} (ha : 0 < a) (hd : d < 4294967296) : (u * 4294967296 + d) / (a * 4294967296 + b) ≤ u / a := by
  apply Nat.le_of_lt_succ
  apply Nat.div_lt_of_lt_mul
  have h1 : u < a * (u / a + 1) := by have := Nat.lt_mul_div_succ u ha; exact this
  have h2 : (u + 1) * 4294967296 ≤ a * (u / a + 1) * 4294967296 := Nat.mul_le_mul_right _ h1
  have h3 : (a * 4294967296 + b) * (u / a + 1) = a * (u / a + 1) * 4294967296 + b * (u / a + 1) := by
    rw [Nat.add_mul]; congr 1; rw [Nat.mul_assoc, Nat.mul_comm 4294967296, ← Nat.mul_assoc]
  show u * 4294967296 + d < (a * 4294967296 + b) * (u / a + 1)
  rw [h3]; omega
/-- a digit is below 2^32 -/
theorem digit_lt {V u d : Nat} (hu : u < V) (hd : d < 4294967296) : (u * 4294967296 + d) / V < 4294967296 := by
  apply Nat.div_lt_of_lt_mul
  have : (u + 1) * 4294967296 ≤ V * 4294967296 := Nat.mul_le_mul_right _ hu
  omega
/-- a guess of 2^32 or more is too great -/
theorem wide_great {V u d q : Nat} (hu : u < V) (hd : d < 4294967296) (hq : 4294967296 ≤ q) : u * 4294967296 + d < q * V := by
  have h1 : (u + 1) * 4294967296 ≤ V * 4294967296 := Nat.mul_le_mul_right _ hu
  have h2 : 4294967296 * V ≤ q * V := Nat.mul_le_mul_right _ hq
  have h3 : 4294967296 * V = V * 4294967296 := Nat.mul_comm _ _
  omega
/-- where what is left is 2^32 or more the guess is right -/
theorem wide_rest {a b u d q r : Nat} (h : q * a + r = u) (hu : u < a * 4294967296 + b) (hb : b < 4294967296) (hr : 4294967296 ≤ r) : q < 4294967296 ∧ ¬ u * 4294967296 + d < q * (a * 4294967296 + b) := by
  have hq : q < 4294967296 := by
    apply Classical.byContradiction; intro hc
    have h1 : 4294967296 * a ≤ q * a := Nat.mul_le_mul_right _ (by omega)
    have h2 : 4294967296 * a = a * 4294967296 := Nat.mul_comm _ _
    omega
  refine ⟨hq, ?_⟩
  rw [← too_great h]
  have h3 : q * b ≤ 4294967295 * b := Nat.mul_le_mul_right _ (by omega)
  omega
theorem two_digits_ {K V N d0 : Nat} (hV : 0 < V) : (N / V) * K + ((N % V) * K + d0) / V = (N * K + d0) / V ∧ ((N % V) * K + d0) % V = (N * K + d0) % V := by
  have h := Nat.div_add_mod N V
  generalize N / V = q1 at *
  generalize N % V = r1 at *
  have e : N * K + d0 = (r1 * K + d0) + V * (q1 * K) := by
    rw [← h, Nat.add_mul, Nat.mul_assoc]; omega
  rw [e, Nat.add_mul_div_left _ _ hV, Nat.add_mul_mod_self_left]
  exact ⟨by omega, rfl⟩
theorem two_digits {V u d1 d0 : Nat} (hV : 0 < V) :
    ((u * 4294967296 + d1) / V) * 4294967296 + (((u * 4294967296 + d1) % V) * 4294967296 + d0) / V = ((u * 4294967296 + d1) * 4294967296 + d0) / V ∧
    (((u * 4294967296 + d1) % V) * 4294967296 + d0) % V = ((u * 4294967296 + d1) * 4294967296 + d0) % V := two_digits_ hV
/-- shifted both, the part is the same and what is left is shifted -/
theorem shift_div {N y s : Nat} (hs : 0 < s) : (N * s) / (y * s) = N / y ∧ (N * s) % (y * s) / s = N % y := by
  refine ⟨Nat.mul_div_mul_right _ _ hs, ?_⟩
  rw [Nat.mul_mod_mul_right]
  exact Nat.mul_div_cancel _ hs
end Go.Proofs.Yteblbhbfdfifpaa.V
