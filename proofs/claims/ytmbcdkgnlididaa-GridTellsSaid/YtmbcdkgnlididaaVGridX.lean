/- What settles all at once, whatever it is handed. -/
import Derived.Test.YtmbcdkgnlididaaVGridB
import Derived.Test.YtmbcdkgnlididaaGridPl6
namespace Go.Proofs.Ytmbcdkgnlididaa
open Go Go.RowKit V
set_option maxRecDepth 100000
set_option linter.unusedVariables false
theorem G.chk_small {has : List Int} {l : List Du} (h : G.chk has l = 0) : has.length = 31 ∧ l.length ≤ 60 :=
  ⟨(G.chk_ok h).n, (N.chk_ok (G.chk_ok h).c).1⟩
theorem v_gsolve_ (has : List Int) (l : List Du) (h1 : has.length ≤ 9223372036854775807) (h2 : l.length ≤ 9223372036854775807) : V.FnR Try.prog 9 [.arr 1 has.length (ga e1 has), .arr 3 l.length (ga encD l)] [.one (.ref 0), .one (.ref 1)] (.tup [.one (.ref 2), .one (.val (.int .i64 (G.chk has l)))]) [.row 3 1 (G.sol has l).length (ga e1 (G.sol has l))] := by
  by_cases h : G.chk has l = 0
  · have := G.chk_small h
    exact v_gsolve has l (by omega) (by omega)
  refine V.FnR.mk_ V.Tok V.mixed Try.func9 rfl Try.ntmps9 (by kernel_rfl) rfl rfl rfl rfl ?_
  repeat' ((conv => whnf); first | refine V.NCond.mk ?_ | refine V.NIf.not_ ?_ | refine V.NIf.dec_ ?_ | refine V.NIf.no (by omega) ?_ | refine V.NIf.yes (by omega) ?_ | refine V.NIf.mk (fun _ => ?_) (fun _ => ?_) | refine V.NWrap.ok (by omega) (by omega) ?_ | refine V.NWrap.u64 (by omega) (by omega) ?_ | refine V.NLt.mk (by omega) ?_ | refine V.NBoth.mk ?_ ?_ | refine V.NTF.yes (by omega) ?_ | refine V.NTF.no (by omega) ?_ | refine V.NTF.dec ?_ | refine V.NDraw.q (by exact rfl) (by kernel_rfl) ?_ | refine V.NApp.one (by first | omega | (simp; omega)) (by first | omega | (simp; omega)) ?_ | ((first | refine V.Fn.k (v_gcheck has l (by omega) (by omega)) [0, 1] rfl ?_ ?_ | refine V.Fn.q (v_gcheck has l (by omega) (by omega)) [0, 1] rfl ?_ ?_ | refine V.Fn.a (v_gcheck has l (by omega) (by omega)) [0, 1] rfl ?_ ?_); · ((repeat' (first | exact rfl | exact Iff.rfl | exact trivial | exact (fun _ _ => rfl) | exact (fun _ h => absurd h (Nat.not_lt_zero _)) | refine ⟨?_, ?_⟩ | exact Iff.rfl | exact congrArg (fun z => V.SV.one (V.At.val (Value.int .i64 z))) (by omega))); done)) | (refine V.NDraw.any (by kernel_rfl) ?_) | fail)
  all_goals (conv => whnf)
  refine retE 3 rfl ?_
  exact G.sol_no h
theorem v_gafter_ (has : List Int) (l : List Du) (done : List Int) (h1 : has.length ≤ 9223372036854775807) (h2 : l.length ≤ 9223372036854775807) (h3 : done.length ≤ 9223372036854775807) : V.FnR Try.prog 10 [.arr 1 has.length (ga e1 has), .arr 3 l.length (ga encD l), .arr 1 done.length (ga e1 done)] [.one (.ref 0), .one (.ref 1), .one (.ref 2)] (.tup [.one (.ref 3), .one (.val (.int .i64 (G.aE has l done)))]) [.row 3 1 (G.aV has l done).length (ga e1 (G.aV has l done))] := by
  by_cases h : G.chk has l = 0
  · have s := G.chk_small h
    by_cases h4 : done.length ≤ l.length
    · exact v_gafter has l done (by omega) (by omega) (by omega)
    obtain ⟨a1, a2⟩ := G.a_2 (done := done) h (by omega)
    refine V.FnR.mk_ V.Tok V.mixed Try.func10 rfl Try.ntmps10 (by kernel_rfl) rfl rfl rfl rfl ?_
    repeat' ((conv => whnf); first | refine V.NCond.mk ?_ | refine V.NIf.not_ ?_ | refine V.NIf.dec_ ?_ | refine V.NIf.no (by omega) ?_ | refine V.NIf.yes (by omega) ?_ | refine V.NIf.mk (fun _ => ?_) (fun _ => ?_) | refine V.NWrap.ok (by omega) (by omega) ?_ | refine V.NWrap.u64 (by omega) (by omega) ?_ | refine V.NLt.mk (by omega) ?_ | refine V.NBoth.mk ?_ ?_ | refine V.NTF.yes (by omega) ?_ | refine V.NTF.no (by omega) ?_ | refine V.NTF.dec ?_ | refine V.NDraw.q (by exact rfl) (by kernel_rfl) ?_ | refine V.NApp.one (by first | omega | (simp; omega)) (by first | omega | (simp; omega)) ?_ | ((first | refine V.Fn.k (v_gcheck has l (by omega) (by omega)) [0, 1] rfl ?_ ?_ | refine V.Fn.q (v_gcheck has l (by omega) (by omega)) [0, 1] rfl ?_ ?_ | refine V.Fn.a (v_gcheck has l (by omega) (by omega)) [0, 1] rfl ?_ ?_); · ((repeat' (first | exact rfl | exact Iff.rfl | exact trivial | exact (fun _ _ => rfl) | exact (fun _ h => absurd h (Nat.not_lt_zero _)) | refine ⟨?_, ?_⟩ | exact Iff.rfl | exact congrArg (fun z => V.SV.one (V.At.val (Value.int .i64 z))) (by omega))); done)) | (refine V.NDraw.any (by kernel_rfl) ?_) | fail)
    all_goals (conv => whnf)
    refine retE 4 a1 a2
  obtain ⟨a1, a2⟩ := G.a_1 (done := done) h
  refine V.FnR.mk_ V.Tok V.mixed Try.func10 rfl Try.ntmps10 (by kernel_rfl) rfl rfl rfl rfl ?_
  repeat' ((conv => whnf); first | refine V.NCond.mk ?_ | refine V.NIf.not_ ?_ | refine V.NIf.dec_ ?_ | refine V.NIf.no (by omega) ?_ | refine V.NIf.yes (by omega) ?_ | refine V.NIf.mk (fun _ => ?_) (fun _ => ?_) | refine V.NWrap.ok (by omega) (by omega) ?_ | refine V.NWrap.u64 (by omega) (by omega) ?_ | refine V.NLt.mk (by omega) ?_ | refine V.NBoth.mk ?_ ?_ | refine V.NTF.yes (by omega) ?_ | refine V.NTF.no (by omega) ?_ | refine V.NTF.dec ?_ | refine V.NDraw.q (by exact rfl) (by kernel_rfl) ?_ | refine V.NApp.one (by first | omega | (simp; omega)) (by first | omega | (simp; omega)) ?_ | ((first | refine V.Fn.k (v_gcheck has l (by omega) (by omega)) [0, 1] rfl ?_ ?_ | refine V.Fn.q (v_gcheck has l (by omega) (by omega)) [0, 1] rfl ?_ ?_ | refine V.Fn.a (v_gcheck has l (by omega) (by omega)) [0, 1] rfl ?_ ?_); · ((repeat' (first | exact rfl | exact Iff.rfl | exact trivial | exact (fun _ _ => rfl) | exact (fun _ h => absurd h (Nat.not_lt_zero _)) | refine ⟨?_, ?_⟩ | exact Iff.rfl | exact congrArg (fun z => V.SV.one (V.At.val (Value.int .i64 z))) (by omega))); done)) | (refine V.NDraw.any (by kernel_rfl) ?_) | fail)
  all_goals (conv => whnf)
  refine retE 4 a1 a2
end Go.Proofs.Ytmbcdkgnlididaa
