/- What MoneyNear answers: true. -/
import Derived.Test.YtbllokemalclbaaVMoneyB
import Derived.Test.YtbllokemalclbaaVOpen
namespace Go.Proofs.Ytbllokemalclbaa
open Go Go.RowKit V
set_option maxRecDepth 100000
set_option linter.unusedVariables false
set_option linter.unusedSimpArgs false
set_option maxHeartbeats 4000000 in
theorem v_moneyNear (a : Int) (w_a : (Lit.int .i64 a).wf = true) (b : Int) (w_b : (Lit.int .i64 b).wf = true) (c : Int) (w_c : (Lit.int .i64 c).wf = true) : V.Fn Try.prog 7 [] [.one (.val (.int .i64 a)), .one (.val (.int .i64 b)), .one (.val (.int .i64 c))] (.bool true) := by
  clear w_a w_b w_c
  have k0 := M.pr_b a b c
  have k1 := M.ne_c a b c
  have k2 := M.ne_d a b c
  have ka : M.prE a b c = 0 → -1152921504606846976 ≤ a ∧ a ≤ 1152921504606846976 := fun h => (M.pr_ok h).1.1
  have t2 := M.tmod2 (M.neV a b c)
  have k3 := @M.ne_neg a b c
  unfold M.up at k1
  have k4 : M.prE a b c ≠ 0 → M.neV a b c = 0 := fun h => (M.ne_1 h).2
  refine V.Fn.mk_ V.Tok V.mixed Try.func7 rfl Try.ntmps7 (by kernel_rfl) rfl rfl ?_
  repeat' ((conv => whnf); first | (refine V.NIf.yes ?_ ?_; · (simp only [true_and, and_true, and_self]; done)) | refine V.NIf.not_ ?_ | refine V.NIf.dec_ ?_ | refine V.NIf.no (by omega) ?_ | refine V.NIf.yes (by omega) ?_ | refine V.NIf.mk (fun _ => ?_) (fun _ => ?_) | refine V.NWrap.ok (by omega) (by omega) ?_ | refine V.NWrap.u64 (by omega) (by omega) ?_ | refine V.NLt.mk (by omega) ?_ | refine V.NApp.one (by first | omega | (simp; omega)) (by first | omega | (simp; omega)) ?_ | (first | refine V.Fn.k0 (v_mbegun) rfl ?_ | refine V.Fn.q0 (v_mbegun) rfl ?_) | (first | refine V.Fn.k0 (v_part a b c) rfl ?_ | refine V.Fn.q0 (v_part a b c) rfl ?_) | (first | refine V.Fn.k0 (v_near a b c) rfl ?_ | refine V.Fn.q0 (v_near a b c) rfl ?_) | (first | refine V.Fn.k0 (v_near (0 - a) b c) rfl ?_ | refine V.Fn.q0 (v_near (0 - a) b c) rfl ?_) | (refine NRem.mk (by decide) ?_) | fail)
  all_goals (conv => whnf)
  all_goals first | (first | exact ⟨_, rfl, iff_of_true (by omega) rfl⟩ | (exfalso; omega) | exact ⟨_, rfl, by simp; omega⟩ | exact ⟨_, rfl, by simp⟩) | (trace_state; sorry)
end Go.Proofs.Ytbllokemalclbaa
