/- Plain facts on dates: leap years, lengths of months, the number of a day, that each number has just one date. -/
namespace Go.Proofs.Yteblbhbfdfifpaa.D

def lp (y : Int) : Bool := y % 4 == 0 && (!(y % 100 == 0) || y % 400 == 0)
def L (y : Int) : Int := if y % 4 = 0 ∧ (¬ y % 100 = 0 ∨ y % 400 = 0) then 1 else 0
def ml (y m : Int) : Int := if m = 2 then 28 + L y else if m = 4 ∨ m = 6 ∨ m = 9 ∨ m = 11 then 30 else 31
def cum (y m : Int) : Int :=
  if m ≤ 1 then 0 else if m = 2 then 31 else (if m = 3 then 59 else if m = 4 then 90 else if m = 5 then 120 else if m = 6 then 151 else if m = 7 then 181 else if m = 8 then 212 else if m = 9 then 243 else if m = 10 then 273 else if m = 11 then 304 else 334) + L y
def dby (y : Int) : Int := 365 * (y - 1) + (y - 1) / 4 - (y - 1) / 100 + (y - 1) / 400
def raw (y m d : Int) : Int := dby y + cum y m + d - 1
def Valid (y m d : Int) : Prop := 1 ≤ y ∧ y ≤ 9999 ∧ 1 ≤ m ∧ m ≤ 12 ∧ 1 ≤ d ∧ d ≤ ml y m
instance (y m d : Int) : Decidable (Valid y m d) := by unfold Valid; exact inferInstance

theorem lp_eq (y : Int) : lp y = decide (L y = 1) := by
  unfold lp L
  by_cases a : y % 4 = 0 <;> by_cases b : y % 100 = 0 <;> by_cases c : y % 400 = 0 <;> simp [a, b, c]
theorem L_01 (y : Int) : 0 ≤ L y ∧ L y ≤ 1 := by unfold L; split <;> omega
theorem L_of {y : Int} (h : lp y = true) : L y = 1 := by rw [lp_eq] at h; simpa using h
theorem L_not {y : Int} (h : lp y = false) : L y = 0 := by rw [lp_eq] at h; have := L_01 y; have h : ¬ L y = 1 := by simpa using h
                                                           omega
theorem dby_succ (y : Int) : dby (y + 1) = dby y + 365 + L y := by unfold dby L; split <;> omega
theorem dby_mono {y z : Int} (h : y < z) : dby y + 365 + L y ≤ dby z := by
  rw [← dby_succ]; unfold dby; omega
theorem dby_one : dby 1 = 0 := by decide
theorem dby_bd (y : Int) (h0 : 1 ≤ y) (h : y ≤ 20000) : 0 ≤ dby y ∧ dby y ≤ 10000000 := by unfold dby; omega
theorem dby_400 (y : Int) : dby (y + 400) = dby y + 146097 := by unfold dby; omega
theorem L_400 (y : Int) : L (y + 400) = L y := by
  unfold L
  have a : (y + 400) % 4 = y % 4 := by omega
  have b : (y + 400) % 100 = y % 100 := by omega
  have c : (y + 400) % 400 = y % 400 := by omega
  rw [a, b, c]
theorem dby_max : dby 10000 = 3652059 := by decide
theorem ml_bd (y m : Int) : 28 ≤ ml y m ∧ ml y m ≤ 31 := by have := L_01 y; unfold ml; split <;> (try split) <;> omega
theorem cum_succ (y m : Int) (h1 : 1 ≤ m) (h2 : m ≤ 11) : cum y (m + 1) = cum y m + ml y m := by
  have h : m = 1 ∨ m = 2 ∨ m = 3 ∨ m = 4 ∨ m = 5 ∨ m = 6 ∨ m = 7 ∨ m = 8 ∨ m = 9 ∨ m = 10 ∨ m = 11 := by omega
  rcases h with rfl | rfl | rfl | rfl | rfl | rfl | rfl | rfl | rfl | rfl | rfl <;> simp [cum, ml] <;> omega
theorem cum_one (y : Int) : cum y 1 = 0 := by simp [cum]
theorem cum_12 (y : Int) : cum y 12 + ml y 12 = 365 + L y := by simp [cum, ml]; omega
theorem cum_bd (y m : Int) (h1 : 1 ≤ m) (h2 : m ≤ 12) : 0 ≤ cum y m ∧ cum y m + ml y m ≤ 365 + L y := by
  have h : m = 1 ∨ m = 2 ∨ m = 3 ∨ m = 4 ∨ m = 5 ∨ m = 6 ∨ m = 7 ∨ m = 8 ∨ m = 9 ∨ m = 10 ∨ m = 11 ∨ m = 12 := by omega
  have := L_01 y
  rcases h with rfl | rfl | rfl | rfl | rfl | rfl | rfl | rfl | rfl | rfl | rfl | rfl <;> simp [cum, ml] <;> omega
theorem cum_mono (y : Int) {m k : Int} (h1 : 1 ≤ m) (h : m < k) (h2 : k ≤ 12) : cum y m + ml y m ≤ cum y k := by
  have a : m = 1 ∨ m = 2 ∨ m = 3 ∨ m = 4 ∨ m = 5 ∨ m = 6 ∨ m = 7 ∨ m = 8 ∨ m = 9 ∨ m = 10 ∨ m = 11 := by omega
  have b : k = 2 ∨ k = 3 ∨ k = 4 ∨ k = 5 ∨ k = 6 ∨ k = 7 ∨ k = 8 ∨ k = 9 ∨ k = 10 ∨ k = 11 ∨ k = 12 := by omega
  have := L_01 y
  rcases a with rfl | rfl | rfl | rfl | rfl | rfl | rfl | rfl | rfl | rfl | rfl <;>
    rcases b with rfl | rfl | rfl | rfl | rfl | rfl | rfl | rfl | rfl | rfl | rfl <;>
    first | (exfalso; omega) | (simp [cum, ml]; try omega)
theorem ml_400 (y m : Int) : ml (y + 400) m = ml y m := by unfold ml; rw [L_400]
theorem cum_400 (y m : Int) : cum (y + 400) m = cum y m := by unfold cum; rw [L_400]

theorem raw_bd {y m d : Int} (h : Valid y m d) : 0 ≤ raw y m d ∧ raw y m d ≤ 3652058 := by
  obtain ⟨a, b, c, e, f, g⟩ := h
  have h1 := dby_bd y a (by omega)
  have h2 := cum_bd y m c e
  have h3 : dby y + 365 + L y ≤ 3652059 := by have := dby_mono (y := y) (z := 10000) (by omega); have := dby_max; omega
  unfold raw; omega

/-- later by year, month and day: a greater number -/
theorem raw_lt {y m d z k e : Int} (h : Valid y m d) (h' : Valid z k e) (hl : y < z ∨ (y = z ∧ (m < k ∨ (m = k ∧ d < e)))) : raw y m d < raw z k e := by
  obtain ⟨a1, b1, c1, e1, f1, g1⟩ := h
  obtain ⟨a2, b2, c2, e2, f2, g2⟩ := h'
  have q1 := cum_bd y m c1 e1
  have q2 := cum_bd z k c2 e2
  unfold raw
  rcases hl with hl | ⟨rfl, hl | ⟨rfl, hl⟩⟩
  · have := dby_mono hl; omega
  · have := cum_mono y c1 hl e2; omega
  · omega
theorem raw_inj {y m d z k e : Int} (h : Valid y m d) (h' : Valid z k e) (he : raw y m d = raw z k e) : y = z ∧ m = k ∧ d = e := by
  by_cases a : y < z
  · have := raw_lt h h' (.inl a); omega
  by_cases b : z < y
  · have := raw_lt h' h (.inl b); omega
  obtain rfl : y = z := by omega
  by_cases c : m < k
  · have := raw_lt h h' (.inr ⟨rfl, .inl c⟩); omega
  by_cases d' : k < m
  · have := raw_lt h' h (.inr ⟨rfl, .inl d'⟩); omega
  obtain rfl : m = k := by omega
  refine ⟨rfl, rfl, ?_⟩
  unfold raw at he; omega

/-- the next date -/
def next (t : Int × Int × Int) : Int × Int × Int :=
  if t.2.2 < ml t.1 t.2.1 then (t.1, t.2.1, t.2.2 + 1) else if t.2.1 < 12 then (t.1, t.2.1 + 1, 1) else (t.1 + 1, 1, 1)
def at' : Nat → Int × Int × Int
  | 0 => (1, 1, 1)
  | k + 1 => next (at' k)
theorem at'_ok (k : Nat) : (k : Int) ≤ 3652058 → Valid (at' k).1 (at' k).2.1 (at' k).2.2 ∧ raw (at' k).1 (at' k).2.1 (at' k).2.2 = k := by
  induction k with
  | zero => intro _; refine ⟨⟨by decide, by decide, by decide, by decide, by decide, by decide⟩, by decide⟩
  | succ k ih =>
    intro h
    obtain ⟨v, hr⟩ := ih (by omega)
    show Valid (next (at' k)).1 (next (at' k)).2.1 (next (at' k)).2.2 ∧ raw (next (at' k)).1 (next (at' k)).2.1 (next (at' k)).2.2 = _
    generalize at' k = t at v hr
    obtain ⟨y, m, d⟩ := t
    obtain ⟨a, b, c, e, f, g⟩ := v
    simp only at a b c e f g hr
    unfold next
    simp only
    unfold raw at hr
    split
    · rename_i hd
      refine ⟨⟨a, b, c, e, by simp only; omega, by simp only; omega⟩, ?_⟩
      unfold raw; simp only; omega
    · rename_i hd
      split
      · rename_i hm
        have := cum_succ y m c (by omega)
        have := ml_bd y (m + 1)
        refine ⟨⟨a, b, by simp only; omega, by simp only; omega, by simp only; omega, by simp only; omega⟩, ?_⟩
        unfold raw; simp only; omega
      · rename_i hm
        obtain rfl : m = 12 := by omega
        have h12 := cum_12 y
        have hs := dby_succ y
        have hy : y + 1 ≤ 9999 := by
          apply Classical.byContradiction; intro hc
          obtain rfl : y = 9999 := by omega
          have h1 := dby_max
          have h2 : dby (9999 + 1) = dby 10000 := rfl
          omega
        refine ⟨⟨by simp only; omega, by simp only; omega, by simp only; omega, by simp only; omega, by simp only; omega, by simp only; have := ml_bd (y + 1) 1; omega⟩, ?_⟩
        have h1 := cum_one (y + 1)
        unfold raw; simp only; omega
def yO (n : Int) : Int := (at' n.toNat).1
def mO (n : Int) : Int := (at' n.toNat).2.1
def dO (n : Int) : Int := (at' n.toNat).2.2
theorem of_ok (n : Int) (h0 : 0 ≤ n) (h : n ≤ 3652058) : Valid (yO n) (mO n) (dO n) ∧ raw (yO n) (mO n) (dO n) = n := by
  have := at'_ok n.toNat (by omega)
  rw [show ((n.toNat : Nat) : Int) = n from by omega] at this
  exact this
theorem of_uniq {n y m d : Int} (h : Valid y m d) (e : raw y m d = n) : yO n = y ∧ mO n = m ∧ dO n = d := by
  have hb := raw_bd h
  obtain ⟨v, r⟩ := of_ok n (by omega) (by omega)
  exact raw_inj v h (by omega)
def fromV (y m d : Int) : Int := if Valid y m d then raw y m d else 0
def fromE (y m d : Int) : Int := if Valid y m d then 0 else 3
theorem fromV_yes {y m d : Int} (h : Valid y m d) : fromV y m d = raw y m d := if_pos h
theorem fromV_no {y m d : Int} (h : ¬ Valid y m d) : fromV y m d = 0 := if_neg h
theorem fromE_yes {y m d : Int} (h : Valid y m d) : fromE y m d = 0 := if_pos h
theorem fromE_no {y m d : Int} (h : ¬ Valid y m d) : fromE y m d = 3 := if_neg h
def chk (n : Int) : Int := if 0 ≤ n ∧ n ≤ 3652058 then 0 else 3
theorem chk_yes {n : Int} (h : 0 ≤ n) (h' : n ≤ 3652058) : chk n = 0 := if_pos ⟨h, h'⟩
theorem chk_no {n : Int} (h : ¬ (0 ≤ n ∧ n ≤ 3652058)) : chk n = 3 := if_neg h
theorem of_bds {n : Int} (h0 : 0 ≤ n) (h : n ≤ 3652058) : 1 ≤ yO n ∧ yO n ≤ 9999 ∧ 1 ≤ mO n ∧ mO n ≤ 12 ∧ 1 ≤ dO n ∧ dO n ≤ ml (yO n) (mO n) ∧ n = dby (yO n) + cum (yO n) (mO n) + dO n - 1 ∧ dby (yO n) ≤ n ∧ n < dby (yO n + 1) := by
  obtain ⟨⟨a, b, c, e, f, g⟩, r⟩ := of_ok n h0 h
  have h1 := cum_bd (yO n) (mO n) c e
  have h2 := dby_succ (yO n)
  unfold raw at r
  refine ⟨a, b, c, e, f, g, by omega, by omega, by omega⟩
def yO' (n : Int) : Int := if 0 ≤ n ∧ n ≤ 3652058 then yO n else 0
def mO' (n : Int) : Int := if 0 ≤ n ∧ n ≤ 3652058 then mO n else 0
def dO' (n : Int) : Int := if 0 ≤ n ∧ n ≤ 3652058 then dO n else 0
theorem o_yes {n : Int} (h : 0 ≤ n ∧ n ≤ 3652058) : yO' n = yO n ∧ mO' n = mO n ∧ dO' n = dO n := ⟨if_pos h, if_pos h, if_pos h⟩
theorem o_no {n : Int} (h : ¬ (0 ≤ n ∧ n ≤ 3652058)) : yO' n = 0 ∧ mO' n = 0 ∧ dO' n = 0 := ⟨if_neg h, if_neg h, if_neg h⟩
theorem guess {n : Int} (h0 : 0 ≤ n) (h : n ≤ 3652058) : n / 366 + 1 ≤ yO n := by
  obtain ⟨a, b, _, _, _, _, _, _, h2⟩ := of_bds h0 h
  have : dby (yO n + 1) ≤ 366 * yO n := by unfold dby; omega
  omega
def wk (n : Int) : Int := if 0 ≤ n ∧ n ≤ 3652058 then n % 7 else 0
theorem wk_yes {n : Int} (h : 0 ≤ n ∧ n ≤ 3652058) : wk n = n % 7 := if_pos h
theorem wk_no {n : Int} (h : ¬ (0 ≤ n ∧ n ≤ 3652058)) : wk n = 0 := if_neg h
def leB (y : Int) : Bool := if 1 ≤ y ∧ y ≤ 9999 then lp y else false
def leE (y : Int) : Int := if 1 ≤ y ∧ y ≤ 9999 then 0 else 3
theorem leB_yes {y : Int} (h : 1 ≤ y ∧ y ≤ 9999) : leB y = lp y := if_pos h
theorem leB_no {y : Int} (h : ¬ (1 ≤ y ∧ y ≤ 9999)) : leB y = false := if_neg h
theorem leE_yes {y : Int} (h : 1 ≤ y ∧ y ≤ 9999) : leE y = 0 := if_pos h
theorem leE_no {y : Int} (h : ¬ (1 ≤ y ∧ y ≤ 9999)) : leE y = 3 := if_neg h
/-- months later: 'at': the months since the year 0 -/
def moV (n many : Int) : Int :=
  if ¬ (0 ≤ n ∧ n ≤ 3652058) then 0 else if many < -120000 ∨ 120000 < many then 0 else
  if 12 * yO n + mO n - 1 + many < 12 ∨ 120000 ≤ 12 * yO n + mO n - 1 + many then 0 else
  raw ((12 * yO n + mO n - 1 + many) / 12) ((12 * yO n + mO n - 1 + many) % 12 + 1) (min (dO n) (ml ((12 * yO n + mO n - 1 + many) / 12) ((12 * yO n + mO n - 1 + many) % 12 + 1)))
def moE (n many : Int) : Int :=
  if ¬ (0 ≤ n ∧ n ≤ 3652058) then 3 else if many < -120000 ∨ 120000 < many then 8 else
  if 12 * yO n + mO n - 1 + many < 12 ∨ 120000 ≤ 12 * yO n + mO n - 1 + many then 8 else 0
theorem mo_no {n many : Int} (h : ¬ (0 ≤ n ∧ n ≤ 3652058)) : moV n many = 0 ∧ moE n many = 3 := ⟨if_pos h, if_pos h⟩
theorem mo_wide1 {n many : Int} (h : 0 ≤ n ∧ n ≤ 3652058) (h2 : many < -120000 ∨ 120000 < many) : moV n many = 0 ∧ moE n many = 8 := by
  unfold moV moE; rw [if_neg (by simpa using h), if_pos h2, if_neg (by simpa using h), if_pos h2]; exact ⟨rfl, rfl⟩
theorem mo_yes {n many : Int} (h : 0 ≤ n ∧ n ≤ 3652058) (h2 : -120000 ≤ many) (h3 : many ≤ 120000) :
    (12 * yO n + mO n - 1 + many < 12 ∨ 120000 ≤ 12 * yO n + mO n - 1 + many → moV n many = 0 ∧ moE n many = 8) ∧
    (12 ≤ 12 * yO n + mO n - 1 + many ∧ 12 * yO n + mO n - 1 + many < 120000 → moV n many = raw ((12 * yO n + mO n - 1 + many) / 12) ((12 * yO n + mO n - 1 + many) % 12 + 1) (min (dO n) (ml ((12 * yO n + mO n - 1 + many) / 12) ((12 * yO n + mO n - 1 + many) % 12 + 1))) ∧ moE n many = 0) := by
  unfold moV moE
  have a1 : ¬ ¬ (0 ≤ n ∧ n ≤ 3652058) := by simpa using h
  have a2 : ¬ (many < -120000 ∨ 120000 < many) := by omega
  rw [if_neg a1, if_neg a2, if_neg a1, if_neg a2]
  exact ⟨fun q => by rw [if_pos q, if_pos q]; exact ⟨rfl, rfl⟩, fun q => by rw [if_neg (by omega), if_neg (by omega)]; exact ⟨rfl, rfl⟩⟩
theorem dby_start (y : Int) : dby ((y - 1) / 400 * 400 + 1) = (y - 1) / 400 * 146097 := by unfold dby; omega
theorem dby_4 (n : Int) : dby (1 + n / 146097 * 400) = n / 146097 * 146097 := by unfold dby; omega
theorem guess4 {n : Int} (h0 : 0 ≤ n) (h : n ≤ 3652058) : 1 + n / 146097 * 400 ≤ yO n := by
  obtain ⟨a, b, _, _, _, _, _, _, h2⟩ := of_bds h0 h
  have h3 := dby_4 n
  by_cases hc : 1 + n / 146097 * 400 ≤ yO n
  · exact hc
  · exfalso
    by_cases e : yO n + 1 = 1 + n / 146097 * 400
    · rw [e, h3] at h2; omega
    · have := dby_mono (y := yO n + 1) (z := 1 + n / 146097 * 400) (by omega); have := L_01 (yO n + 1); omega
theorem b1 : fromV 2026 11 16 = 739935 ∧ fromE 2026 11 16 = 0 := by decide
theorem b2 : yO' 739935 = 2026 ∧ mO' 739935 = 11 ∧ dO' 739935 = 16 ∧ chk 739935 = 0 := by
  obtain ⟨e1, e2, e3⟩ := o_yes (n := 739935) (by decide)
  obtain ⟨g1, g2, g3⟩ := of_uniq (n := 739935) (y := 2026) (m := 11) (d := 16) (by decide) (by decide)
  rw [e1, e2, e3]
  exact ⟨g1, g2, g3, by decide⟩
theorem b3 : wk 739935 = 0 := by decide
theorem b4 : leB 1900 = false ∧ leE 1900 = 0 := by decide
theorem b5 : moV 739935 3 = 740027 ∧ moE 739935 3 = 0 := by
  obtain ⟨g1, g2, g3⟩ := of_uniq (n := 739935) (y := 2026) (m := 11) (d := 16) (by decide) (by decide)
  have := (mo_yes (n := 739935) (many := 3) (by decide) (by decide) (by decide)).2 (by rw [g1, g2]; decide)
  rw [g1, g2, g3] at this
  rw [this.1, this.2]
  decide
theorem b6 : fromV 9999 12 31 = 3652058 ∧ fromE 9999 12 31 = 0 := by decide
theorem b7 : fromV 2023 2 29 = 0 ∧ fromE 2023 2 29 = 3 := by decide
theorem of_from {y m d : Int} (h : Valid y m d) : yO' (fromV y m d) = y ∧ mO' (fromV y m d) = m ∧ dO' (fromV y m d) = d ∧ chk (fromV y m d) = 0 := by
  rw [fromV_yes h]
  have hb := raw_bd h
  obtain ⟨e1, e2, e3⟩ := o_yes hb
  obtain ⟨g1, g2, g3⟩ := of_uniq h rfl
  exact ⟨e1.trans g1, e2.trans g2, e3.trans g3, chk_yes hb.1 hb.2⟩
theorem fromV_bd {y m d : Int} (h : Valid y m d) : 0 ≤ fromV y m d ∧ fromV y m d ≤ 3652058 := by rw [fromV_yes h]; exact raw_bd h
theorem from_of {n : Int} (h : 0 ≤ n ∧ n ≤ 3652058) : fromV (yO' n) (mO' n) (dO' n) = n ∧ fromE (yO' n) (mO' n) (dO' n) = 0 := by
  obtain ⟨e1, e2, e3⟩ := o_yes h
  obtain ⟨v, r⟩ := of_ok n h.1 h.2
  rw [e1, e2, e3, fromV_yes v, fromE_yes v]
  exact ⟨r, rfl⟩
theorem round {y m d : Int} (h : Valid y m d) (hy : y ≤ 9599) : fromV (y + 400) m d = fromV y m d + 146097 ∧ fromE (y + 400) m d = 0 ∧ chk (fromV y m d) = 0 ∧ chk (fromV y m d + 146097) = 0 ∧ wk (fromV y m d + 146097) = wk (fromV y m d) := by
  have h' : Valid (y + 400) m d := by
    obtain ⟨a, b, c, e, f, g⟩ := h
    exact ⟨by omega, by omega, c, e, f, by rw [ml_400]; exact g⟩
  have r : raw (y + 400) m d = raw y m d + 146097 := by unfold raw; rw [dby_400, cum_400]; omega
  have b1 := raw_bd h
  have b2 := raw_bd h'
  rw [fromV_yes h', fromE_yes h', fromV_yes h]
  refine ⟨r, rfl, chk_yes b1.1 b1.2, chk_yes (by omega) (by omega), ?_⟩
  rw [wk_yes (by omega), wk_yes b1]
  omega
theorem wk_next {n : Int} (h0 : 0 ≤ n) (h1 : n < 3652058) : wk (n + 1) = (wk n + 1) % 7 ∧ chk (n + 1) = 0 ∧ 0 ≤ wk n ∧ wk n ≤ 6 := by
  rw [wk_yes ⟨by omega, by omega⟩, wk_yes ⟨h0, by omega⟩]
  exact ⟨by omega, chk_yes (by omega) (by omega), by omega, by omega⟩
/-- two days, by year, month and day -/
theorem order {n k : Int} (hn : 0 ≤ n ∧ n ≤ 3652058) (hk : 0 ≤ k ∧ k ≤ 3652058) :
    (yO' n < yO' k ∧ n < k) ∨ (yO' k < yO' n ∧ k < n) ∨ (yO' k = yO' n ∧ mO' n < mO' k ∧ n < k) ∨ (yO' k = yO' n ∧ mO' k < mO' n ∧ k < n) ∨
    (yO' k = yO' n ∧ mO' k = mO' n ∧ dO' n < dO' k ∧ n < k) ∨ (yO' k = yO' n ∧ mO' k = mO' n ∧ dO' k ≤ dO' n ∧ k ≤ n) := by
  obtain ⟨a1, a2, a3⟩ := o_yes hn
  obtain ⟨b1, b2, b3⟩ := o_yes hk
  rw [a1, a2, a3, b1, b2, b3]
  obtain ⟨v, r⟩ := of_ok n hn.1 hn.2
  obtain ⟨v', r'⟩ := of_ok k hk.1 hk.2
  by_cases c1 : yO n < yO k
  · exact .inl ⟨c1, by rw [← r, ← r']; exact raw_lt v v' (.inl c1)⟩
  by_cases c2 : yO k < yO n
  · exact .inr (.inl ⟨c2, by rw [← r, ← r']; exact raw_lt v' v (.inl c2)⟩)
  have c3 : yO k = yO n := by omega
  by_cases c4 : mO n < mO k
  · exact .inr (.inr (.inl ⟨c3, c4, by rw [← r, ← r']; exact raw_lt v v' (.inr ⟨c3.symm, .inl c4⟩)⟩))
  by_cases c5 : mO k < mO n
  · exact .inr (.inr (.inr (.inl ⟨c3, c5, by rw [← r, ← r']; exact raw_lt v' v (.inr ⟨c3, .inl c5⟩)⟩)))
  have c6 : mO k = mO n := by omega
  by_cases c7 : dO n < dO k
  · exact .inr (.inr (.inr (.inr (.inl ⟨c3, c6, c7, by rw [← r, ← r']; exact raw_lt v v' (.inr ⟨c3.symm, .inr ⟨c6.symm, c7⟩⟩)⟩))))
  · refine .inr (.inr (.inr (.inr (.inr ⟨c3, c6, by omega, ?_⟩))))
    by_cases c8 : dO k < dO n
    · have := raw_lt v' v (.inr ⟨c3, .inr ⟨c6, c8⟩⟩); omega
    · have c9 : dO k = dO n := by omega
      rw [← r, ← r', c3, c6, c9]; omega
/-- months there and back -/
theorem back {n many : Int} (h : 0 ≤ n ∧ n ≤ 3652058) (h2 : -120000 ≤ many) (h3 : many ≤ 120000) (h4 : 12 ≤ 12 * yO n + mO n - 1 + many ∧ 12 * yO n + mO n - 1 + many < 120000) :
    moE n many = 0 ∧ chk (moV n many) = 0 ∧ (∃ q, mO' (moV n many) - mO' n - many = 12 * q ∧ -20000 ≤ q ∧ q ≤ 20000) ∧ dO' (moV n many) ≤ dO' n ∧ 1 ≤ dO' (moV n many) ∧ dO' n ≤ 31 ∧ 28 ≤ ml (yO' (moV n many)) (mO' (moV n many)) ∧
    (dO' (moV n many) < dO' n → dO' (moV n many) = ml (yO' (moV n many)) (mO' (moV n many))) ∧ 1 ≤ yO' (moV n many) ∧ yO' (moV n many) ≤ 9999 ∧ 1 ≤ mO' (moV n many) ∧ mO' (moV n many) ≤ 12 ∧ 1 ≤ mO' n ∧ mO' n ≤ 12 ∧
    moE (moV n many) (-many) = 0 ∧ moV (moV n many) (-many) = n - (dO' n - dO' (moV n many)) := by
  obtain ⟨e1, e2⟩ := (mo_yes (many := many) h h2 h3).2 h4
  obtain ⟨c1, c2, c3⟩ := o_yes h
  obtain ⟨b1, b2, b3, b4, b5, b6, b7, b8, b9⟩ := of_bds h.1 h.2
  have hml := ml_bd ((12 * yO n + mO n - 1 + many) / 12) ((12 * yO n + mO n - 1 + many) % 12 + 1)
  have hml2 := ml_bd (yO n) (mO n)
  have hv : Valid ((12 * yO n + mO n - 1 + many) / 12) ((12 * yO n + mO n - 1 + many) % 12 + 1) (min (dO n) (ml ((12 * yO n + mO n - 1 + many) / 12) ((12 * yO n + mO n - 1 + many) % 12 + 1))) := ⟨by omega, by omega, by omega, by omega, by omega, by omega⟩
  have hb := raw_bd hv
  rw [← e1] at hb
  obtain ⟨g1, g2, g3⟩ := of_uniq hv e1.symm
  obtain ⟨d1, d2, d3⟩ := o_yes hb
  have hat : 12 * yO (moV n many) + mO (moV n many) - 1 + -many = 12 * yO n + mO n - 1 := by rw [g1, g2]; omega
  obtain ⟨f1, f2⟩ := (mo_yes (many := -many) hb (by omega) (by omega)).2 (by rw [hat]; omega)
  rw [hat] at f1
  have y1 : (12 * yO n + mO n - 1) / 12 = yO n := by omega
  have m1 : (12 * yO n + mO n - 1) % 12 + 1 = mO n := by omega
  rw [y1, m1, g3] at f1
  rw [f1, f2, e2, d1, d2, d3, c2, c3, g1, g2, g3]
  refine ⟨rfl, chk_yes hb.1 hb.2, ⟨yO n - (12 * yO n + mO n - 1 + many) / 12, by omega, by omega, by omega⟩, by omega, by omega, by omega, hml.1, by omega, by omega, by omega, by omega, by omega, by omega, by omega, rfl, ?_⟩
  unfold raw
  omega
theorem mo_err {n many : Int} (h : 0 ≤ n ∧ n ≤ 3652058) (h4 : ¬ (-120000 ≤ many ∧ many ≤ 120000 ∧ 12 ≤ 12 * yO n + mO n - 1 + many ∧ 12 * yO n + mO n - 1 + many < 120000)) : moV n many = 0 ∧ moE n many = 8 := by
  by_cases h2 : many < -120000 ∨ 120000 < many
  · exact mo_wide1 h h2
  · exact (mo_yes h (by omega) (by omega)).1 (by omega)
theorem long_step (y : Int) (h0 : 1 ≤ y) (h1 : y ≤ 9999) : fromV y 1 1 = dby y ∧ fromE y 1 1 = 0 := by
  have hv : Valid y 1 1 := ⟨h0, h1, by decide, by decide, by decide, by have := ml_bd y 1; omega⟩
  rw [fromV_yes hv, fromE_yes hv]
  exact ⟨by unfold raw; rw [cum_one]; omega, rfl⟩
theorem long_end (y : Int) : dby (y + 8) - dby y - 2920 = 1 ∨ dby (y + 8) - dby y - 2920 = 2 := by unfold dby; omega
end Go.Proofs.Yteblbhbfdfifpaa.D
