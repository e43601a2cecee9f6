/- What MoneyTells answers: true. -/
import Derived.Test.YtbllokemalclbaaVMoneyB
import Derived.Test.YtbllokemalclbaaVMoneyR
import Derived.Test.YtbllokemalclbaaVOpen
namespace Go.Proofs.Ytbllokemalclbaa
open Go Go.RowKit V
set_option maxRecDepth 100000
set_option linter.unusedVariables false
set_option maxHeartbeats 4000000 in
theorem v_moneyTells (a : Int) (w_a : (Lit.int .i64 a).wf = true) (b : Int) (w_b : (Lit.int .i64 b).wf = true) (c : Int) (w_c : (Lit.int .i64 c).wf = true) (l : List Int) (wl : ∀ f ∈ l, (Lit.int .i64 f).wf = true) : V.Fn Try.prog 3 [.arr 1 l.length (ga e1 l)] [.one (.val (.int .i64 a)), .one (.val (.int .i64 b)), .one (.val (.int .i64 c)), .one (.ref 0)] (.bool true) := by
  clear w_a w_b w_c wl
  refine V.Fn.mk_ V.Tok V.mixed Try.func3 rfl Try.ntmps3 (by kernel_rfl) rfl rfl ?_
  repeat' ((conv => whnf); first | (refine V.NIf.yes ?_ ?_; · (simp only [true_and, and_true, and_self]; done)) | refine V.NIf.not_ ?_ | refine V.NIf.dec_ ?_ | refine V.NIf.no (by omega) ?_ | refine V.NIf.yes (by omega) ?_ | refine V.NIf.mk (fun _ => ?_) (fun _ => ?_) | refine V.NWrap.ok (by omega) (by omega) ?_ | refine V.NWrap.u64 (by omega) (by omega) ?_ | refine V.NLt.mk (by omega) ?_ | refine V.NApp.one (by first | omega | (simp; omega)) (by first | omega | (simp; omega)) ?_ | (first | refine V.Fn.k0 (v_mbegun) rfl ?_ | refine V.Fn.q0 (v_mbegun) rfl ?_) | (first | refine V.Fn.k0 (v_add a b) rfl ?_ | refine V.Fn.q0 (v_add a b) rfl ?_) | (first | refine V.Fn.k0 (v_part a b c) rfl ?_ | refine V.Fn.q0 (v_part a b c) rfl ?_) | (first | refine V.Fn.k0 (v_near a b c) rfl ?_ | refine V.Fn.q0 (v_near a b c) rfl ?_) | ((first | refine V.Fn.k (v_total l) [0] rfl ?_ ?_ | refine V.Fn.q (v_total l) [0] rfl ?_ ?_); · ((repeat' (first | exact rfl | exact trivial | exact (fun _ _ => rfl) | exact (fun _ h => absurd h (Nat.not_lt_zero _)) | refine ⟨?_, ?_⟩ | exact Iff.rfl | exact congrArg (fun z => V.SV.one (V.At.val (Value.int .i64 z))) (by omega))); done)) | (first | refine V.Fn.k0 (v_radd a b) rfl ?_ | refine V.Fn.q0 (v_radd a b) rfl ?_) | (first | refine V.Fn.k0 (v_rpart a b c) rfl ?_ | refine V.Fn.q0 (v_rpart a b c) rfl ?_) | (first | refine V.Fn.k0 (v_rnear a b c) rfl ?_ | refine V.Fn.q0 (v_rnear a b c) rfl ?_) | ((first | refine V.Fn.k (v_rtotal l) [0] rfl ?_ ?_ | refine V.Fn.q (v_rtotal l) [0] rfl ?_ ?_); · ((repeat' (first | exact rfl | exact trivial | exact (fun _ _ => rfl) | exact (fun _ h => absurd h (Nat.not_lt_zero _)) | refine ⟨?_, ?_⟩ | exact Iff.rfl | exact congrArg (fun z => V.SV.one (V.At.val (Value.int .i64 z))) (by omega))); done)) | (first | refine V.Fn.k0 (v_check a) rfl ?_ | refine V.Fn.q0 (v_check a) rfl ?_) | (first | refine V.Fn.k0 (v_acheck a) rfl ?_ | refine V.Fn.q0 (v_acheck a) rfl ?_) | fail)
  all_goals exact ⟨_, rfl, by simp⟩
end Go.Proofs.Ytbllokemalclbaa
