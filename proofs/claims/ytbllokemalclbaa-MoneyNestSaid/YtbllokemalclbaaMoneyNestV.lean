/- What MoneyNest answers: true. -/
import Derived.Test.YtbllokemalclbaaVMoneyB
import Derived.Test.YtbllokemalclbaaVOpen
namespace Go.Proofs.Ytbllokemalclbaa
open Go Go.RowKit V
set_option maxRecDepth 100000
set_option linter.unusedVariables false
set_option linter.unusedSimpArgs false
set_option maxHeartbeats 4000000 in
theorem v_moneyNest (a : Int) (w_a : (Lit.int .i64 a).wf = true) (b : Int) (w_b : (Lit.int .i64 b).wf = true) (c : Int) (w_c : (Lit.int .i64 c).wf = true) (d : Int) (w_d : (Lit.int .i64 d).wf = true) : V.Fn Try.prog 10 [] [.one (.val (.int .i64 a)), .one (.val (.int .i64 b)), .one (.val (.int .i64 c)), .one (.val (.int .i64 d))] (.bool true) := by
  clear w_a w_b w_c w_d
  have k0 := M.pr_b a b c
  have k1 := M.pr_b (M.prQ a b c) 1 d
  have k2 := M.pr_b a b (c * d)
  have m1 : 1 ≤ c → c ≤ 1048576 → 1 ≤ d → d ≤ 1048576 → c * d ≤ 1099511627776 ∧ 1 ≤ c * d := fun h1 h2 h3 h4 => ⟨by have := (M.mul_bd (x := c) (y := d) (m := 1048576) (n := 1048576) (by omega) (by omega)).2; omega, by have := Int.mul_pos (a := c) (b := d) (by omega) (by omega); omega⟩
  have k3 : M.prE a b c = 0 → 1 ≤ c := fun h => (M.pr_ok h).1.2.2.1
  have m2 := @M.pr_nest a b c d
  clear k1 k2
  refine V.Fn.mk_ V.Tok V.mixed Try.func10 rfl Try.ntmps10 (by kernel_rfl) rfl rfl ?_
  repeat' ((conv => whnf); first | (refine V.NIf.yes ?_ ?_; · (simp only [true_and, and_true, and_self]; done)) | (refine V.NIf.yes ?_ ?_; · (have n := m2 (by assumption) (by omega) (by omega) (by omega) (m1 (by omega) (by omega) (by omega) (by omega)); omega)) | refine V.NIf.not_ ?_ | refine V.NIf.dec_ ?_ | refine V.NIf.no (by omega) ?_ | refine V.NIf.yes (by omega) ?_ | refine V.NIf.mk (fun _ => ?_) (fun _ => ?_) | refine V.NWrap.ok (by omega) (by omega) ?_ | refine V.NWrap.u64 (by omega) (by omega) ?_ | refine V.NLt.mk (by omega) ?_ | refine V.NApp.one (by first | omega | (simp; omega)) (by first | omega | (simp; omega)) ?_ | (first | refine V.Fn.k0 (v_mbegun) rfl ?_ | refine V.Fn.q0 (v_mbegun) rfl ?_) | (first | refine V.Fn.k0 (v_part a b c) rfl ?_ | refine V.Fn.q0 (v_part a b c) rfl ?_) | (first | refine V.Fn.k0 (v_part (M.prQ a b c) 1 d) rfl ?_ | refine V.Fn.q0 (v_part (M.prQ a b c) 1 d) rfl ?_) | (first | refine V.Fn.k0 (v_part a b (c * d)) rfl ?_ | refine V.Fn.q0 (v_part a b (c * d)) rfl ?_) | (refine V.NWrap.ok (by have := m1 (by omega) (by omega) (by omega) (by omega); omega) (by have := m1 (by omega) (by omega) (by omega) (by omega); omega) ?_) | fail)
  all_goals (conv => whnf)
  all_goals first | (first | exact ⟨_, rfl, iff_of_true (by omega) rfl⟩ | (exfalso; omega) | exact ⟨_, rfl, by simp; omega⟩ | exact ⟨_, rfl, by simp⟩) | (have n := m2 (by assumption) (by omega) (by omega) (by omega) (m1 (by omega) (by omega) (by omega) (by omega)); exact ⟨_, rfl, by simp; omega⟩) | (trace_state; sorry)
end Go.Proofs.Ytbllokemalclbaa
