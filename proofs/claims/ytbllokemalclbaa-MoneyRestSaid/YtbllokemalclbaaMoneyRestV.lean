/- What MoneyRest answers: true. -/
import Derived.Test.YtbllokemalclbaaVMoneyB
import Derived.Test.YtbllokemalclbaaVOpen
namespace Go.Proofs.Ytbllokemalclbaa
open Go Go.RowKit V
set_option maxRecDepth 100000
set_option linter.unusedVariables false
set_option linter.unusedSimpArgs false
set_option maxHeartbeats 4000000 in
theorem v_moneyRest (a : Int) (w_a : (Lit.int .i64 a).wf = true) (b : Int) (w_b : (Lit.int .i64 b).wf = true) (c : Int) (w_c : (Lit.int .i64 c).wf = true) : V.Fn Try.prog 5 [] [.one (.val (.int .i64 a)), .one (.val (.int .i64 b)), .one (.val (.int .i64 c))] (.bool true) := by
  clear w_a w_b w_c
  have ta := V.tq a (y := 1073741824) (by omega)
  have tb := V.tq b (y := 1073741824) (by omega)
  have k := M.pr_c (a.tmod 1073741824) (b.tmod 1073741824) c
  have hm := M.mul_bd (x := a.tmod 1073741824) (y := b.tmod 1073741824) (m := 1073741824) (n := 1073741824) (by omega) (by omega)
  have hd : 1 ≤ c → _ := fun h => M.div_bd (c := c) hm h
  refine V.Fn.mk_ V.Tok V.mixed Try.func5 rfl Try.ntmps5 (by kernel_rfl) rfl rfl ?_
  repeat' ((conv => whnf); first | (refine V.NIf.yes ?_ ?_; · (simp only [true_and, and_true, and_self]; done)) | refine V.NIf.not_ ?_ | refine V.NIf.dec_ ?_ | refine V.NIf.no (by omega) ?_ | refine V.NIf.yes (by omega) ?_ | refine V.NIf.mk (fun _ => ?_) (fun _ => ?_) | refine V.NWrap.ok (by omega) (by omega) ?_ | refine V.NWrap.u64 (by omega) (by omega) ?_ | refine V.NLt.mk (by omega) ?_ | refine V.NApp.one (by first | omega | (simp; omega)) (by first | omega | (simp; omega)) ?_ | (first | refine V.Fn.k0 (v_mbegun) rfl ?_ | refine V.Fn.q0 (v_mbegun) rfl ?_) | (refine NRem.mk (by decide) ?_) | (first | refine V.Fn.k0 (v_part _ _ _) rfl ?_ | refine V.Fn.q0 (v_part _ _ _) rfl ?_) | fail)
  all_goals (conv => whnf)
  all_goals (first | exact ⟨_, rfl, iff_of_true (by omega) rfl⟩ | (exfalso; omega) | exact ⟨_, rfl, by simp; omega⟩ | exact ⟨_, rfl, by simp⟩)
end Go.Proofs.Ytbllokemalclbaa
