/- math/bits.Div64, whole. -/
import Derived.Test.YteblbhbfdfifpaaDivW2
import Derived.Test.YteblbhbfdfifpaaWords
import Derived.Deep.QuietTactic
import Derived.BigQuiet
namespace Go.Proofs.Yteblbhbfdfifpaa
open Go.RowKit
set_option maxRecDepth 100000
set_option maxHeartbeats 2000000
theorem div64_any (hi lo y R1 R2 : Nat) (g1 : R1 = (hi * 18446744073709551616 + lo) / y) (g2 : R2 = (hi * 18446744073709551616 + lo) % y) (h1 : hi < y) (h2 : lo < 18446744073709551616) (h3 : y < 18446744073709551616) (w : World) : Calls Try.prog 94 #[.int .u64 hi, .int .u64 lo, .int .u64 y] w fun e w' => e = .returned (.tuple #[.int .u64 R1, .int .u64 R2]) ∧ Below w.heap.size w w' := by
  by_cases h0 : hi = 0
  · subst h0
    rw [Nat.zero_mul, Nat.zero_add] at g1 g2
    have r1 : IntKind.u64.wrap ((lo : Int) / (y : Int)) = (R1 : Int) := by
      have : (lo : Int) / (y : Int) = ((lo / y : Nat) : Int) := by simp
      rw [this, ← g1, wrapn (by rw [g1]; exact Nat.lt_of_le_of_lt (Nat.div_le_self _ _) h2)]
    have r2 : (lo : Int) % (y : Int) = (R2 : Int) := by rw [g2]; simp
    have r3 : IntKind.u64.wrap ((lo : Int).tdiv (y : Int)) = (R1 : Int) := by rw [Int.tdiv_eq_ediv_of_nonneg (by omega)]; exact r1
    have r4 : (lo : Int).tmod (y : Int) = (R2 : Int) := by rw [Int.tmod_eq_emod_of_nonneg (by omega)]; exact r2
    have hby : ((y : Int) == 0) = false := beq_eq_false_iff_ne.2 (by omega)
    have hle : ¬ ((y : Int) ≤ 0) := by omega
    clear g1 g2 h3
    go_enter Try.func94, Try.ntmps94
    go_wp2_with fail
    go_quiet (fail)
    go_wp2_with fail
    go_ret2
    exact ⟨rfl, below_drewN (Below.refl _ _) _⟩
  · refine (div64_yes hi lo y R1 R2 g1 g2 h0 h1 h2 h3 w).mono ?_
    rintro e w' ⟨rfl, rfl⟩
    exact ⟨rfl, Below.refl _ _⟩
end Go.Proofs.Yteblbhbfdfifpaa
