/- Plain facts on amounts: sums, parts, near parts, totals. -/
namespace Go.Proofs.Yteblbhbfdfifpaa.M

def Amt (a : Int) : Prop := -1152921504606846976 ≤ a ∧ a ≤ 1152921504606846976
instance (a : Int) : Decidable (Amt a) := by unfold Amt; exact inferInstance
def chk (a : Int) : Int := if Amt a then 0 else 3
theorem chk_yes {a : Int} (h : Amt a) : chk a = 0 := if_pos h
theorem chk_no {a : Int} (h : ¬ Amt a) : chk a = 3 := if_neg h
def addE (a b : Int) : Int := if ¬ (Amt a ∧ Amt b) then 3 else if ¬ Amt (a + b) then 8 else 0
def addV (a b : Int) : Int := if Amt a ∧ Amt b ∧ Amt (a + b) then a + b else 0
theorem add_1 {a b : Int} (h : ¬ (Amt a ∧ Amt b)) : addE a b = 3 ∧ addV a b = 0 := ⟨if_pos h, if_neg fun q => h ⟨q.1, q.2.1⟩⟩
theorem add_2 {a b : Int} (h : Amt a ∧ Amt b) (k : ¬ Amt (a + b)) : addE a b = 8 ∧ addV a b = 0 := ⟨by unfold addE; rw [if_neg (by simpa using h), if_pos k], if_neg fun q => k q.2.2⟩
theorem add_3 {a b : Int} (h : Amt a ∧ Amt b) (k : Amt (a + b)) : addE a b = 0 ∧ addV a b = a + b := ⟨by unfold addE; rw [if_neg (by simpa using h), if_neg (by simpa using k)], if_pos ⟨h.1, h.2, k⟩⟩

def POk (a b c : Int) : Prop := Amt a ∧ (0 ≤ b ∧ b ≤ 1099511627776) ∧ (1 ≤ c ∧ c ≤ 1099511627776)
instance (a b c : Int) : Decidable (POk a b c) := by unfold POk; exact inferInstance
def ckE (a b c : Int) : Int := if POk a b c then 0 else 3
theorem ck_yes {a b c : Int} (h : POk a b c) : ckE a b c = 0 := if_pos h
theorem ck_no {a b c : Int} (h : ¬ POk a b c) : ckE a b c = 3 := if_neg h
def prE (a b c : Int) : Int := if ¬ POk a b c then 3 else if ¬ Amt (a * b / c) then 8 else 0
def prQ (a b c : Int) : Int := if POk a b c ∧ Amt (a * b / c) then a * b / c else 0
def prR (a b c : Int) : Int := if POk a b c ∧ Amt (a * b / c) then a * b % c else 0
theorem pr_1 {a b c : Int} (h : ¬ POk a b c) : prE a b c = 3 ∧ prQ a b c = 0 ∧ prR a b c = 0 := ⟨if_pos h, if_neg fun q => h q.1, if_neg fun q => h q.1⟩
theorem pr_2 {a b c : Int} (h : POk a b c) (k : ¬ Amt (a * b / c)) : prE a b c = 8 ∧ prQ a b c = 0 ∧ prR a b c = 0 := ⟨by unfold prE; rw [if_neg (by simpa using h), if_pos k], if_neg fun q => k q.2, if_neg fun q => k q.2⟩
theorem pr_3 {a b c : Int} (h : POk a b c) (k : Amt (a * b / c)) : prE a b c = 0 ∧ prQ a b c = a * b / c ∧ prR a b c = a * b % c := ⟨by unfold prE; rw [if_neg (by simpa using h), if_neg (by simpa using k)], if_pos ⟨h, k⟩, if_pos ⟨h, k⟩⟩
theorem pr_ok {a b c : Int} (h : prE a b c = 0) : POk a b c ∧ Amt (a * b / c) := by
  by_cases p : POk a b c
  · by_cases k : Amt (a * b / c)
    · exact ⟨p, k⟩
    · rw [(pr_2 p k).1] at h; omega
  · rw [(pr_1 p).1] at h; omega
theorem pr_cases (a b c : Int) : (prE a b c = 3 ∧ ¬ POk a b c) ∨ (prE a b c = 8 ∧ POk a b c ∧ ¬ Amt (a * b / c)) ∨ (prE a b c = 0 ∧ POk a b c ∧ Amt (a * b / c)) := by
  by_cases p : POk a b c
  · by_cases k : Amt (a * b / c)
    · exact .inr (.inr ⟨(pr_3 p k).1, p, k⟩)
    · exact .inr (.inl ⟨(pr_2 p k).1, p, k⟩)
  · exact .inl ⟨(pr_1 p).1, p⟩
theorem pr_z {a b c : Int} (h : prE a b c ≠ 0) : prQ a b c = 0 ∧ prR a b c = 0 := by
  rcases pr_cases a b c with ⟨_, p⟩ | ⟨_, p, k⟩ | ⟨e, _⟩
  · exact (pr_1 p).2
  · exact (pr_2 p k).2
  · exact absurd e h
theorem r_bd {x c : Int} (h : 1 ≤ c) : 0 ≤ x % c ∧ x % c < c := ⟨Int.emod_nonneg _ (by omega), Int.emod_lt_of_pos _ (by omega)⟩
theorem qr (x c : Int) : c * (x / c) + x % c = x := Int.mul_ediv_add_emod x c

/-- near: the part, or one more -/
def up (q r c : Int) : Int := if c < 2 * r ∨ (2 * r = c ∧ q % 2 ≠ 0) then q + 1 else q
def neE (a b c : Int) : Int := if prE a b c ≠ 0 then prE a b c else if ¬ Amt (up (a * b / c) (a * b % c) c) then 8 else 0
def neV (a b c : Int) : Int := if prE a b c = 0 ∧ Amt (up (a * b / c) (a * b % c) c) then up (a * b / c) (a * b % c) c else 0
theorem ne_1 {a b c : Int} (h : prE a b c ≠ 0) : neE a b c = prE a b c ∧ neV a b c = 0 := ⟨if_pos h, if_neg fun q => h q.1⟩
theorem ne_2 {a b c : Int} (h : prE a b c = 0) (k : ¬ Amt (up (a * b / c) (a * b % c) c)) : neE a b c = 8 ∧ neV a b c = 0 := ⟨by unfold neE; rw [if_neg (by simpa using h), if_pos k], if_neg fun q => k q.2⟩
theorem ne_3 {a b c : Int} (h : prE a b c = 0) (k : Amt (up (a * b / c) (a * b % c) c)) : neE a b c = 0 ∧ neV a b c = up (a * b / c) (a * b % c) c := ⟨by unfold neE; rw [if_neg (by simpa using h), if_neg (by simpa using k)], if_pos ⟨h, k⟩⟩

def sum : List Int → Int
  | [] => 0
  | a :: r => a + sum r
theorem sum_append (l r : List Int) : sum (l ++ r) = sum l + sum r := by
  induction l with
  | nil => simp [sum]
  | cons a l ih => simp only [List.cons_append, sum, ih]; omega
theorem sum_reverse (l : List Int) : sum l.reverse = sum l := by
  induction l with
  | nil => rfl
  | cons a l ih => simp only [List.reverse_cons, sum_append, sum, ih]; omega
/-- the checks of some amounts -/
def chks (l : List Int) : Int := if ∀ a ∈ l, Amt a then 0 else 3
theorem chks_yes {l : List Int} (h : ∀ a ∈ l, Amt a) : chks l = 0 := if_pos h
theorem chks_no {l : List Int} (h : ¬ ∀ a ∈ l, Amt a) : chks l = 3 := if_neg h
def toE (l : List Int) : Int := if 40 < l.length then 2 else if chks l ≠ 0 then chks l else if ¬ Amt (sum l) then 8 else 0
def toV (l : List Int) : Int := if toE l = 0 then sum l else 0
theorem to_ok {l : List Int} (h : toE l = 0) : l.length ≤ 40 ∧ (∀ a ∈ l, Amt a) ∧ Amt (sum l) := by
  unfold toE at h
  by_cases a : 40 < l.length
  · rw [if_pos a] at h; omega
  rw [if_neg a] at h
  by_cases b : ∀ a ∈ l, Amt a
  · rw [if_neg (by rw [chks_yes b]; simp)] at h
    by_cases c : Amt (sum l)
    · exact ⟨by omega, b, c⟩
    · rw [if_pos c] at h; omega
  · rw [if_pos (by rw [chks_no b]; omega), chks_no b] at h; omega
theorem to_of {l : List Int} (h1 : l.length ≤ 40) (h2 : ∀ a ∈ l, Amt a) (h3 : Amt (sum l)) : toE l = 0 ∧ toV l = sum l := by
  have e : toE l = 0 := by unfold toE; rw [if_neg (by omega), if_neg (by rw [chks_yes h2]; simp), if_neg (by simpa using h3)]
  exact ⟨e, if_pos e⟩
theorem sum_bd : ∀ {l : List Int}, (∀ a ∈ l, Amt a) → -(1152921504606846976 * (l.length : Int)) ≤ sum l ∧ sum l ≤ 1152921504606846976 * (l.length : Int)
  | [], _ => by simp [sum]
  | a :: r, h => by
    obtain ⟨h1, h2⟩ := sum_bd (l := r) fun x hx => h x (by simp [hx])
    have h3 : Amt a := h a (by simp)
    unfold Amt at h3
    simp only [sum, List.length_cons, Int.natCast_add, Int.mul_add]
    omega

/-! ### what the laws say -/
theorem rises {x y c : Int} (hc : 1 ≤ c) (h : x ≤ y) : x / c ≤ y / c := Int.ediv_le_ediv (by omega) h
theorem two {x y c : Int} (hc : 1 ≤ c) : x / c + y / c ≤ (x + y) / c ∧ (x + y) / c ≤ x / c + y / c + 1 := by
  have h1 := qr x c
  have h2 := qr y c
  have h3 := r_bd (x := x) hc
  have h4 := r_bd (x := y) hc
  refine ⟨(Int.le_ediv_iff_mul_le (by omega)).2 ?_, ?_⟩
  · have : (x / c + y / c) * c = c * (x / c) + c * (y / c) := by rw [Int.add_mul, Int.mul_comm, Int.mul_comm (y / c)]
    omega
  · apply Int.le_of_lt_add_one
    apply Int.ediv_lt_of_lt_mul (by omega)
    have : (x / c + y / c + 1 + 1) * c = c * (x / c) + c * (y / c) + c + c := by
      rw [Int.add_mul, Int.add_mul, Int.add_mul, Int.mul_comm, Int.mul_comm (y / c)]; omega
    omega
theorem neg_part {x c : Int} (hc : 1 ≤ c) : (x % c = 0 ∧ (-x) / c = -(x / c) ∧ (-x) % c = 0) ∨ (0 < x % c ∧ (-x) / c = -(x / c) - 1 ∧ (-x) % c = c - x % c) := by
  have h1 := qr x c
  have h3 := r_bd (x := x) hc
  by_cases h : x % c = 0
  · left
    have e : -x = c * (-(x / c)) := by rw [Int.mul_neg]; omega
    exact ⟨h, by rw [e]; exact Int.mul_ediv_cancel_left _ (by omega), by rw [e]; exact Int.mul_emod_right _ _⟩
  · right
    have e : -x = (c - x % c) + c * (-(x / c) - 1) := by
      rw [Int.mul_sub, Int.mul_neg]; omega
    refine ⟨by omega, ?_, ?_⟩
    · rw [e, Int.add_mul_ediv_left _ _ (by omega), Int.ediv_eq_zero_of_lt (by omega) (by omega)]; omega
    · rw [e, Int.add_mul_emod_self_left]; exact Int.emod_eq_of_lt (by omega) (by omega)
theorem near_neg {x c : Int} (hc : 1 ≤ c) : up ((-x) / c) ((-x) % c) c = -(up (x / c) (x % c) c) := by
  have h3 := r_bd (x := x) hc
  unfold up
  rcases neg_part (x := x) hc with ⟨h, e1, e2⟩ | ⟨h, e1, e2⟩
  · rw [e1, e2, h, if_neg (by omega), if_neg (by omega)]
  · rw [e1, e2]
    split <;> split <;> omega
end Go.Proofs.Yteblbhbfdfifpaa.M
