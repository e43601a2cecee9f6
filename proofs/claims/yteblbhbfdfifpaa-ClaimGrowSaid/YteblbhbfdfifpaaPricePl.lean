/- Plain facts on prices: what units cost. -/
import Derived.Test.YteblbhbfdfifpaaMoneyPl
import Derived.Test.YteblbhbfdfifpaaLists
namespace Go.Proofs.Yteblbhbfdfifpaa
set_option linter.unusedVariables false
namespace P
def Ok (p : Int) : Prop := 0 ≤ p ∧ p ≤ 1099511627776
instance (p : Int) : Decidable (Ok p) := by unfold Ok; exact inferInstance
def chk (p : Int) : Int := if Ok p then 0 else 3
theorem chk_yes {p : Int} (h : Ok p) : chk p = 0 := if_pos h
theorem chk_no {p : Int} (h : ¬ Ok p) : chk p = 3 := if_neg h
theorem pok {u p : Int} : M.POk u p 10000 ↔ M.Amt u ∧ Ok p := by
  unfold M.POk Ok
  constructor
  · intro h; exact ⟨h.1, h.2.1⟩
  · intro h; exact ⟨h.1, h.2, by omega⟩
/-- prices of all papers -/
def chks (l : List Int) : Int := if l.length ≠ 20 then 1 else if ∀ p ∈ l, Ok p then 0 else 3
theorem chks_ok {l : List Int} (h : chks l = 0) : l.length = 20 ∧ ∀ p ∈ l, Ok p := by
  unfold chks at h
  split at h
  · omega
  · split at h
    · exact ⟨by omega, by assumption⟩
    · omega
theorem chks_of {l : List Int} (h1 : l.length = 20) (h2 : ∀ p ∈ l, Ok p) : chks l = 0 := by
  unfold chks; rw [if_neg (by omega), if_pos h2]
theorem chks_bad {l : List Int} (h1 : l.length = 20) {p : Int} (hp : p ∈ l) (h2 : ¬ Ok p) : chks l = 3 := by
  unfold chks; rw [if_neg (by omega), if_neg fun q => h2 (q p hp)]
/-- the price of a paper -/
def pr (l : List Int) (pa : Int) : Int := l.getD (pa - 1).toNat default
theorem pr_ok {l : List Int} (h : chks l = 0) {pa : Int} (h1 : 1 ≤ pa ∧ pa ≤ 20) : Ok (pr l pa) := by
  obtain ⟨h2, h3⟩ := chks_ok h
  exact h3 _ (getD_mem (by omega))
/-- what units cost -/
def cost (u p : Int) : Int := u * p / 10000
theorem mul_bd {u p : Int} (hu : 0 ≤ u ∧ u ≤ 1073741824) (hp : Ok p) : 0 ≤ u * p ∧ u * p ≤ 1180591620717411303424 := by
  unfold Ok at hp
  have h1 := Int.mul_nonneg hu.1 hp.1
  have h2 := Int.mul_le_mul hu.2 hp.2 hp.1 (show (0 : Int) ≤ 1073741824 by omega)
  omega
theorem cost_bd {u p : Int} (hu : 0 ≤ u ∧ u ≤ 1073741824) (hp : Ok p) : 0 ≤ cost u p ∧ cost u p ≤ 118059162071741130 := by
  have := mul_bd hu hp
  unfold cost
  generalize u * p = x at *
  omega
theorem cost_mono {u v p : Int} (h : u ≤ v) (hp : Ok p) : cost u p ≤ cost v p := by
  have := Int.mul_le_mul_of_nonneg_right h hp.1
  unfold cost
  generalize u * p = x at *
  generalize v * p = y at *
  omega
theorem part_cost {u p : Int} (hu : 0 ≤ u ∧ u ≤ 1073741824) (hp : Ok p) : M.prE u p 10000 = 0 ∧ M.prQ u p 10000 = cost u p := by
  have h := cost_bd hu hp
  have k : M.POk u p 10000 := pok.2 ⟨by unfold M.Amt; omega, hp⟩
  have a : M.Amt (u * p / 10000) := by unfold M.Amt; unfold cost at h; omega
  exact ⟨(M.pr_3 k a).1, (M.pr_3 k a).2.1⟩
/-- part of an amount, by parts of 10000 -/
theorem rate_bd {n r : Int} (hn : 0 ≤ n) (hr : 0 ≤ r ∧ r ≤ 10000) : 0 ≤ n * r / 10000 ∧ n * r / 10000 ≤ n := by
  have h1 := Int.mul_nonneg hn hr.1
  have h2 := Int.mul_le_mul_of_nonneg_left hr.2 hn
  generalize n * r = x at *
  omega
theorem rate_mono {n m r : Int} (h : n ≤ m) (hr : 0 ≤ r) : n * r / 10000 ≤ m * r / 10000 := by
  have := Int.mul_le_mul_of_nonneg_right h hr
  generalize n * r = x at *
  generalize m * r = y at *
  omega
theorem part_rate {n r : Int} (hn : 0 ≤ n ∧ n ≤ 1152921504606846976) (hr : 0 ≤ r ∧ r ≤ 10000) : M.prE n r 10000 = 0 ∧ M.prQ n r 10000 = n * r / 10000 := by
  have h := rate_bd hn.1 hr
  have k : M.POk n r 10000 := ⟨by unfold M.Amt; omega, by omega, by omega⟩
  have a : M.Amt (n * r / 10000) := by unfold M.Amt; omega
  exact ⟨(M.pr_3 k a).1, (M.pr_3 k a).2.1⟩
end P
end Go.Proofs.Yteblbhbfdfifpaa
