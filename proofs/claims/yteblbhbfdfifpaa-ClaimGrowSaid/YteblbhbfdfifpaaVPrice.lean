/- What the functions on prices answer. -/
import Derived.Test.YteblbhbfdfifpaaVT
import Derived.Test.YteblbhbfdfifpaaVRef
import Derived.Test.YteblbhbfdfifpaaVMoney
import Derived.Test.YteblbhbfdfifpaaVMoneyR
import Derived.Test.YteblbhbfdfifpaaPricePl
namespace Go.Proofs.Yteblbhbfdfifpaa
open Go Go.RowKit V
set_option maxRecDepth 100000
set_option linter.unusedVariables false
theorem v_pcheck (p : Int) : V.Fn Try.prog 42 [] [.one (.val (.int .i64 p))] (.int .i64 (P.chk p)) := by
  refine V.Fn.mk_ V.Tok V.mixed Try.func42 rfl Try.ntmps42 (by kernel_rfl) rfl rfl ?_
  repeat' ((conv => whnf); first | refine V.NCond.mk ?_ | refine V.NIf.not_ ?_ | refine V.NIf.dec_ ?_ | refine V.NIf.no (by omega) ?_ | refine V.NIf.yes (by omega) ?_ | refine V.NIf.mk (fun _ => ?_) (fun _ => ?_) | refine V.NWrap.ok (by omega) (by omega) ?_ | refine V.NWrap.u64 (by omega) (by omega) ?_ | refine V.NLt.mk (by omega) ?_ | refine V.NBoth.mk ?_ ?_ | refine V.NTF.yes (by omega) ?_ | refine V.NTF.no (by omega) ?_ | refine V.NTF.dec ?_ | refine V.NDraw.q (by exact rfl) (by kernel_rfl) ?_ | refine V.NApp.one (by first | omega | (simp; omega)) (by first | omega | (simp; omega)) ?_ | (refine V.NDraw.any (by kernel_rfl) ?_) | fail)
  all_goals ((conv => whnf); refine congrArg _ ?_; unfold P.chk P.Ok; (repeat' split) <;> first | rfl | omega | (exfalso; omega) | (simp_all; done) | (simp_all; omega))
theorem v_rpcheck (p : Int) : V.Fn Try.prog 43 [] [.one (.val (.int .i64 p))] (.int .i64 (P.chk p)) := by
  refine V.Fn.mk_ V.Tok V.mixed Try.func43 rfl Try.ntmps43 (by kernel_rfl) rfl rfl ?_
  repeat' ((conv => whnf); first | refine V.NCond.mk ?_ | refine V.NIf.not_ ?_ | refine V.NIf.dec_ ?_ | refine V.NIf.no (by omega) ?_ | refine V.NIf.yes (by omega) ?_ | refine V.NIf.mk (fun _ => ?_) (fun _ => ?_) | refine V.NWrap.ok (by omega) (by omega) ?_ | refine V.NWrap.u64 (by omega) (by omega) ?_ | refine V.NLt.mk (by omega) ?_ | refine V.NBoth.mk ?_ ?_ | refine V.NTF.yes (by omega) ?_ | refine V.NTF.no (by omega) ?_ | refine V.NTF.dec ?_ | refine V.NDraw.q (by exact rfl) (by kernel_rfl) ?_ | refine V.NApp.one (by first | omega | (simp; omega)) (by first | omega | (simp; omega)) ?_ | (first | refine V.Fn.k0 (v_rbetween _ _ _) rfl ?_ | refine V.Fn.q0 (v_rbetween _ _ _) rfl ?_ | refine V.Fn.a0 (v_rbetween _ _ _) rfl ?_) | (refine V.NDraw.any (by kernel_rfl) ?_) | fail)
  all_goals ((conv => whnf); refine congrArg _ ?_; unfold P.chk P.Ok; (repeat' split) <;> first | rfl | omega | (exfalso; omega) | (simp_all; done) | (simp_all; omega))
theorem v_cost (u p : Int) : V.Fn Try.prog 59 [] [.one (.val (.int .i64 u)), .one (.val (.int .i64 p))] (.tuple #[.int .i64 (M.prQ u p 10000), .int .i64 (M.prR u p 10000), .int .i64 (M.prE u p 10000)]) := by
  have h1 : ¬ M.chk u = 0 → M.prE u p 10000 = 3 ∧ M.prQ u p 10000 = 0 ∧ M.prR u p 10000 = 0 ∧ M.chk u = 3 := fun h => by
    by_cases q : M.Amt u
    · exact absurd (M.chk_yes q) h
    · obtain ⟨a, b, c⟩ := M.pr_1 (a := u) (b := p) (c := 10000) (fun k => q k.1)
      exact ⟨a, b, c, M.chk_no q⟩
  have h2 : ¬ P.chk p = 0 → M.prE u p 10000 = 3 ∧ M.prQ u p 10000 = 0 ∧ M.prR u p 10000 = 0 ∧ P.chk p = 3 := fun h => by
    by_cases q : P.Ok p
    · exact absurd (P.chk_yes q) h
    · obtain ⟨a, b, c⟩ := M.pr_1 (a := u) (b := p) (c := 10000) (fun k => q k.2.1)
      exact ⟨a, b, c, P.chk_no q⟩
  refine V.Fn.mk_ V.Tok V.mixed Try.func59 rfl Try.ntmps59 (by kernel_rfl) rfl rfl ?_
  repeat' ((conv => whnf); first | refine V.NCond.mk ?_ | refine V.NIf.not_ ?_ | refine V.NIf.dec_ ?_ | refine V.NIf.no (by omega) ?_ | refine V.NIf.yes (by omega) ?_ | refine V.NIf.mk (fun _ => ?_) (fun _ => ?_) | refine V.NWrap.ok (by omega) (by omega) ?_ | refine V.NWrap.u64 (by omega) (by omega) ?_ | refine V.NLt.mk (by omega) ?_ | refine V.NBoth.mk ?_ ?_ | refine V.NTF.yes (by omega) ?_ | refine V.NTF.no (by omega) ?_ | refine V.NTF.dec ?_ | refine V.NDraw.q (by exact rfl) (by kernel_rfl) ?_ | refine V.NApp.one (by first | omega | (simp; omega)) (by first | omega | (simp; omega)) ?_ | (first | refine V.Fn.k0 (v_check _) rfl ?_ | refine V.Fn.q0 (v_check _) rfl ?_ | refine V.Fn.a0 (v_check _) rfl ?_) | (first | refine V.Fn.k0 (v_pcheck _) rfl ?_ | refine V.Fn.q0 (v_pcheck _) rfl ?_ | refine V.Fn.a0 (v_pcheck _) rfl ?_) | (first | refine V.Fn.k0 (v_part _ _ _) rfl ?_ | refine V.Fn.q0 (v_part _ _ _) rfl ?_ | refine V.Fn.a0 (v_part _ _ _) rfl ?_) | (refine V.NDraw.any (by kernel_rfl) ?_) | fail)
  all_goals (conv => whnf)
  · exact (by repeat' (first | exact rfl | exact Iff.rfl | exact trivial | exact (fun _ _ => rfl) | exact (fun _ h => absurd h (Nat.not_lt_zero _)) | refine ⟨?_, ?_⟩ | exact Iff.rfl | exact congrArg (fun z => V.SV.one (V.At.val (Value.int .i64 z))) (by omega)))
  · obtain ⟨a, b, c, d⟩ := h2 (by assumption)
    rw [a, b, c, d]; exact (by repeat' (first | exact rfl | exact Iff.rfl | exact trivial | exact (fun _ _ => rfl) | exact (fun _ h => absurd h (Nat.not_lt_zero _)) | refine ⟨?_, ?_⟩ | exact Iff.rfl | exact congrArg (fun z => V.SV.one (V.At.val (Value.int .i64 z))) (by omega)))
  · obtain ⟨a, b, c, d⟩ := h1 (by assumption)
    rw [a, b, c, d]; exact (by repeat' (first | exact rfl | exact Iff.rfl | exact trivial | exact (fun _ _ => rfl) | exact (fun _ h => absurd h (Nat.not_lt_zero _)) | refine ⟨?_, ?_⟩ | exact Iff.rfl | exact congrArg (fun z => V.SV.one (V.At.val (Value.int .i64 z))) (by omega)))
end Go.Proofs.Yteblbhbfdfifpaa
