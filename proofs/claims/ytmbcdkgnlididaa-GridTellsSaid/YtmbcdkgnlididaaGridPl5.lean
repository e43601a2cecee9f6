/- What is done of a ring, worked out. -/
import Derived.Test.YtmbcdkgnlididaaGridPl4
import Derived.Test.YtmbcdkgnlididaaGridPl3
namespace Go.Proofs.Ytmbcdkgnlididaa
open Go
set_option linter.unusedVariables false
namespace G
def ring : List Du := [⟨0, 1, 10⟩, ⟨1, 2, 7⟩, ⟨2, 0, 5⟩, ⟨1, 0, 4⟩]
def hx (n : Int) : List Int := (List.replicate 31 (0 : Int)).set 0 n
def rounds (has : List Int) (l : List Du) : Nat → List Bool
  | 0 => fst l.length l.length
  | n + 1 => nxt has l (rounds has l n)
theorem rounds_inv {has : List Int} {l : List Du} (ok : Ok has l) : ∀ n, Inv has l (rounds has l n)
  | 0 => inv_start
  | n + 1 => inv_nxt ok (rounds_inv ok n)
theorem best_rounds {has : List Int} {l : List Du} (ok : Ok has l) (n : Nat) (h : ((List.range l.length).all fun i => !(rounds has l n).getD i default || keep has l (rounds has l n) i) = true) : best has l = rounds has l n := by
  refine best_is (great_nxt ok (rounds_inv ok n) fun i hi hb => ?_)
  have := List.all_eq_true.1 h i (List.mem_range.2 hi)
  rw [hb] at this
  exact this
theorem b_chk3 : chk (hx 3) ring = 0 := by decide +kernel
theorem b_chk5 : chk (hx 5) ring = 0 := by decide +kernel
theorem b_sol3 : sol (hx 3) ring = [] := by
  unfold sol
  rw [if_pos b_chk3, best_rounds (chk_ok b_chk3) 4 (by decide +kernel)]
  decide +kernel
theorem b_sol5 : sol (hx 5) ring = [0, 1, 2] := by
  unfold sol
  rw [if_pos b_chk5, best_rounds (chk_ok b_chk5) 4 (by decide +kernel)]
  decide +kernel
theorem b_aE3 : aE (hx 3) ring [0, 1, 2] = 8 := by decide +kernel
theorem b_aV3 : aV (hx 3) ring [0, 1, 2] = [] := by decide +kernel
theorem b_aE5 : aE (hx 5) ring [0, 1, 2] = 0 := by decide +kernel
def after5 : List Int := 0 :: 3 :: 2 :: List.replicate 28 0
theorem b_aV5 : aV (hx 5) ring [0, 1, 2] = after5 := by decide +kernel
theorem b_chk_ : chk ((hx 5).take 3) [] = 1 := by decide +kernel
theorem b_sol_ : sol ((hx 5).take 3) [] = [] := if_neg (by rw [b_chk_]; decide)
end G
end Go.Proofs.Ytmbcdkgnlididaa
