/- What MoneyAdds answers: true. -/
import Derived.Test.YtbllokemalclbaaVMoneyB
import Derived.Test.YtbllokemalclbaaVOpen
namespace Go.Proofs.Ytbllokemalclbaa
open Go Go.RowKit V
set_option maxRecDepth 100000
set_option linter.unusedVariables false
set_option linter.unusedSimpArgs false
set_option maxHeartbeats 4000000 in
theorem v_moneyAdds (a : Int) (w_a : (Lit.int .i64 a).wf = true) (b : Int) (w_b : (Lit.int .i64 b).wf = true) (c : Int) (w_c : (Lit.int .i64 c).wf = true) : V.Fn Try.prog 4 [] [.one (.val (.int .i64 a)), .one (.val (.int .i64 b)), .one (.val (.int .i64 c))] (.bool true) := by
  clear w_a w_b w_c
  have k1 := M.add_c b a
  have k0 := M.add_c a b
  refine V.Fn.mk_ V.Tok V.mixed Try.func4 rfl Try.ntmps4 (by kernel_rfl) rfl rfl ?_
  rcases k0 with k0 | k0 | k0
  · have e0 := k0.2.1
    have k2 := M.add_c (M.addV a b) (0 - b)
    have k3 := M.add_c (M.addV a b) c
    have k4 := M.add_c b c
    have k5 := M.add_c a (M.addV b c)
    have k6 : M.addE b a = 0 ∧ M.addV b a = a + b := by omega
    clear k1
    repeat' ((conv => whnf); first | (refine V.NIf.yes ?_ ?_; · (simp only [true_and, and_true, and_self]; done)) | refine V.NIf.not_ ?_ | refine V.NIf.dec_ ?_ | refine V.NIf.no (by omega) ?_ | refine V.NIf.yes (by omega) ?_ | refine V.NIf.mk (fun _ => ?_) (fun _ => ?_) | refine V.NWrap.ok (by omega) (by omega) ?_ | refine V.NWrap.u64 (by omega) (by omega) ?_ | refine V.NLt.mk (by omega) ?_ | refine V.NApp.one (by first | omega | (simp; omega)) (by first | omega | (simp; omega)) ?_ | (first | refine V.Fn.k0 (v_mbegun) rfl ?_ | refine V.Fn.q0 (v_mbegun) rfl ?_) | (first | refine V.Fn.k0 (v_add a b) rfl ?_ | refine V.Fn.q0 (v_add a b) rfl ?_) | (first | refine V.Fn.k0 (v_add b a) rfl ?_ | refine V.Fn.q0 (v_add b a) rfl ?_) | (first | refine V.Fn.k0 (v_add (M.addV a b) (0 - b)) rfl ?_ | refine V.Fn.q0 (v_add (M.addV a b) (0 - b)) rfl ?_) | (first | refine V.Fn.k0 (v_add (M.addV a b) c) rfl ?_ | refine V.Fn.q0 (v_add (M.addV a b) c) rfl ?_) | (first | refine V.Fn.k0 (v_add b c) rfl ?_ | refine V.Fn.q0 (v_add b c) rfl ?_) | (first | refine V.Fn.k0 (v_add a (M.addV b c)) rfl ?_ | refine V.Fn.q0 (v_add a (M.addV b c)) rfl ?_) | fail)
    all_goals (conv => whnf)
    all_goals exact ⟨_, rfl, by simp; omega⟩
  all_goals
    have k6 : M.addE b a = M.addE a b ∧ M.addV b a = 0 := by omega
    clear k1
    repeat' ((conv => whnf); first | (refine V.NIf.yes ?_ ?_; · (simp only [true_and, and_true, and_self]; done)) | refine V.NIf.not_ ?_ | refine V.NIf.dec_ ?_ | refine V.NIf.no (by omega) ?_ | refine V.NIf.yes (by omega) ?_ | refine V.NIf.mk (fun _ => ?_) (fun _ => ?_) | refine V.NWrap.ok (by omega) (by omega) ?_ | refine V.NWrap.u64 (by omega) (by omega) ?_ | refine V.NLt.mk (by omega) ?_ | refine V.NApp.one (by first | omega | (simp; omega)) (by first | omega | (simp; omega)) ?_ | (first | refine V.Fn.k0 (v_mbegun) rfl ?_ | refine V.Fn.q0 (v_mbegun) rfl ?_) | (first | refine V.Fn.k0 (v_add a b) rfl ?_ | refine V.Fn.q0 (v_add a b) rfl ?_) | (first | refine V.Fn.k0 (v_add b a) rfl ?_ | refine V.Fn.q0 (v_add b a) rfl ?_) | fail)
    all_goals (conv => whnf)
    all_goals exact ⟨_, rfl, by simp; omega⟩
end Go.Proofs.Ytbllokemalclbaa
