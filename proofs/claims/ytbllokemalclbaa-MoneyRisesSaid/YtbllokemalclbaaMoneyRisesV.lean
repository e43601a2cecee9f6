/- What MoneyRises answers: true. -/
import Derived.Test.YtbllokemalclbaaVMoneyB
import Derived.Test.YtbllokemalclbaaVOpen
namespace Go.Proofs.Ytbllokemalclbaa
open Go Go.RowKit V
set_option maxRecDepth 100000
set_option linter.unusedVariables false
set_option linter.unusedSimpArgs false
set_option maxHeartbeats 4000000 in
theorem v_moneyRises (a : Int) (w_a : (Lit.int .i64 a).wf = true) (b : Int) (w_b : (Lit.int .i64 b).wf = true) (rate : Int) (w_rate : (Lit.int .i64 rate).wf = true) (c : Int) (w_c : (Lit.int .i64 c).wf = true) : V.Fn Try.prog 6 [] [.one (.val (.int .i64 a)), .one (.val (.int .i64 b)), .one (.val (.int .i64 rate)), .one (.val (.int .i64 c))] (.bool true) := by
  clear w_a w_b w_rate w_c
  have k0 := M.pr_b a rate c
  have k1 := M.pr_b b rate c
  have k2 : M.addE a b = 0 → M.addV a b = a + b := fun h => by have := M.add_c a b; omega
  have k3 := M.pr_b (M.addV a b) rate c
  have m1 := @M.pr_mono a b rate c
  have m2 := @M.pr_mono b a rate c
  have m3 : M.prE a rate c = 0 → M.prE b rate c = 0 → M.prE (M.addV a b) rate c = 0 → M.addE a b = 0 → _ := fun h1 h2 h3 h4 => M.pr_two h1 h2 h3 (k2 h4)
  clear k2 k3
  refine V.Fn.mk_ V.Tok V.mixed Try.func6 rfl Try.ntmps6 (by kernel_rfl) rfl rfl ?_
  repeat' ((conv => whnf); first | (refine V.NIf.yes ?_ ?_; · (simp only [true_and, and_true, and_self]; done)) | refine V.NIf.not_ ?_ | refine V.NIf.dec_ ?_ | refine V.NIf.no (by omega) ?_ | refine V.NIf.yes (by omega) ?_ | refine V.NIf.mk (fun _ => ?_) (fun _ => ?_) | refine V.NWrap.ok (by omega) (by omega) ?_ | refine V.NWrap.u64 (by omega) (by omega) ?_ | refine V.NLt.mk (by omega) ?_ | refine V.NApp.one (by first | omega | (simp; omega)) (by first | omega | (simp; omega)) ?_ | (first | refine V.Fn.k0 (v_mbegun) rfl ?_ | refine V.Fn.q0 (v_mbegun) rfl ?_) | (first | refine V.Fn.k0 (v_part a rate c) rfl ?_ | refine V.Fn.q0 (v_part a rate c) rfl ?_) | (first | refine V.Fn.k0 (v_part b rate c) rfl ?_ | refine V.Fn.q0 (v_part b rate c) rfl ?_) | (first | refine V.Fn.k0 (v_add a b) rfl ?_ | refine V.Fn.q0 (v_add a b) rfl ?_) | (first | refine V.Fn.k0 (v_part (M.addV a b) rate c) rfl ?_ | refine V.Fn.q0 (v_part (M.addV a b) rate c) rfl ?_) | fail)
  all_goals (conv => whnf)
  all_goals (first | exact ⟨_, rfl, iff_of_true (by omega) rfl⟩ | (exfalso; omega) | exact ⟨_, rfl, by simp; omega⟩ | exact ⟨_, rfl, by simp⟩)
end Go.Proofs.Ytbllokemalclbaa
