/- What MoneyScale answers: true. -/
import Derived.Test.YtbllokemalclbaaVMoneyB
import Derived.Test.YtbllokemalclbaaVOpen
namespace Go.Proofs.Ytbllokemalclbaa
open Go Go.RowKit V
set_option maxRecDepth 100000
set_option linter.unusedVariables false
set_option linter.unusedSimpArgs false
set_option maxHeartbeats 4000000 in
theorem v_moneyScale (a : Int) (w_a : (Lit.int .i64 a).wf = true) (b : Int) (w_b : (Lit.int .i64 b).wf = true) (c : Int) (w_c : (Lit.int .i64 c).wf = true) (by_ : Int) (w_by_ : (Lit.int .i64 by_).wf = true) : V.Fn Try.prog 9 [] [.one (.val (.int .i64 a)), .one (.val (.int .i64 b)), .one (.val (.int .i64 c)), .one (.val (.int .i64 by_))] (.bool true) := by
  clear w_a w_b w_c w_by_
  have k0 := M.pr_b a b c
  have m1 : M.prE a b c = 0 → 1 ≤ by_ → by_ ≤ 1000 → (-(1099511627776 * 1000) ≤ b * by_ ∧ b * by_ ≤ 1099511627776 * 1000) ∧ (-(1099511627776 * 1000) ≤ c * by_ ∧ c * by_ ≤ 1099511627776 * 1000) := fun h h1 h2 => by
    have p := (M.pr_ok h).1
    exact ⟨M.mul_bd (by have := p.2.1; omega) (by omega), M.mul_bd (by have := p.2.2; omega) (by omega)⟩
  have k1 := M.pr_b a (b * by_) (c * by_)
  have k2 := @M.pr_scale a b c by_
  refine V.Fn.mk_ V.Tok V.mixed Try.func9 rfl Try.ntmps9 (by kernel_rfl) rfl rfl ?_
  repeat' ((conv => whnf); first | (refine V.NIf.yes ?_ ?_; · (simp only [true_and, and_true, and_self]; done)) | refine V.NIf.not_ ?_ | refine V.NIf.dec_ ?_ | refine V.NIf.no (by omega) ?_ | refine V.NIf.yes (by omega) ?_ | refine V.NIf.mk (fun _ => ?_) (fun _ => ?_) | refine V.NWrap.ok (by omega) (by omega) ?_ | refine V.NWrap.u64 (by omega) (by omega) ?_ | refine V.NLt.mk (by omega) ?_ | refine V.NApp.one (by first | omega | (simp; omega)) (by first | omega | (simp; omega)) ?_ | (first | refine V.Fn.k0 (v_mbegun) rfl ?_ | refine V.Fn.q0 (v_mbegun) rfl ?_) | (first | refine V.Fn.k0 (v_part a b c) rfl ?_ | refine V.Fn.q0 (v_part a b c) rfl ?_) | (first | refine V.Fn.k0 (v_part a (b * by_) (c * by_)) rfl ?_ | refine V.Fn.q0 (v_part a (b * by_) (c * by_)) rfl ?_) | (refine V.NWrap.ok (by have := m1 (by assumption) (by omega) (by omega); omega) (by have := m1 (by assumption) (by omega) (by omega); omega) ?_) | fail)
  all_goals (conv => whnf)
  all_goals first | (first | exact ⟨_, rfl, iff_of_true (by omega) rfl⟩ | (exfalso; omega) | exact ⟨_, rfl, by simp; omega⟩ | exact ⟨_, rfl, by simp⟩) | (trace_state; sorry)
end Go.Proofs.Ytbllokemalclbaa
