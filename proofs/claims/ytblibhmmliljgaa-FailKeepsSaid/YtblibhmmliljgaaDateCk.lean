/- The walk of the check of a day. -/
import Derived.Test.YtblibhmmliljgaaBase
import Derived.Test.YtblibhmmliljgaaDatePl
namespace Go.Proofs.Ytblibhmmliljgaa
open Go.RowKit
theorem check_any (n : Int) (w : World) : Calls Try.prog 29 #[.int .i64 n] w fun e w' => e = .returned (.int .i64 (D.chk n)) ∧ w = w' := by
  go_enter Try.func29, Try.ntmps29
  go_wp2
  all_goals go_ret
  all_goals first | (rw [D.chk_no (by omega)]; exact ⟨rfl, rfl⟩) | (rw [D.chk_yes (by omega) (by omega)]; exact ⟨rfl, rfl⟩)
end Go.Proofs.Ytblibhmmliljgaa
