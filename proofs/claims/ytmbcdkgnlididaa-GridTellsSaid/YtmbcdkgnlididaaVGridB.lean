/- What must be in any case, of what is settled all at once. -/
import Derived.Test.YtmbcdkgnlididaaVGridH
namespace Go.Proofs.Ytmbcdkgnlididaa
open Go Go.RowKit V
set_option maxRecDepth 100000
set_option linter.unusedVariables false
set_option maxHeartbeats 4000000 in
theorem v_gbegun : V.Fn Try.prog 15 [] [] (.bool true) := by
  have s3 := v_gsolve (G.hx 3) G.ring (by decide) (by decide)
  have s5 := v_gsolve (G.hx 5) G.ring (by decide) (by decide)
  have a3 := v_gafter (G.hx 3) G.ring [0, 1, 2] (by decide) (by decide) (by decide)
  have a5 := v_gafter (G.hx 5) G.ring [0, 1, 2] (by decide) (by decide) (by decide)
  have s_ := v_gsolve ((G.hx 5).take 3) [] (by decide) (by decide)
  rw [G.b_sol3, G.b_chk3] at s3
  rw [G.b_sol5, G.b_chk5] at s5
  rw [G.b_aE3, G.b_aV3] at a3
  rw [G.b_aE5, G.b_aV5] at a5
  rw [G.b_sol_, G.b_chk_] at s_
  have ht : ∀ k, k < 3 → ga e1 (G.hx 5) (0 + k) = ga e1 ((G.hx 5).take 3) k := fun k hk => by
    unfold ga
    rw [Nat.zero_add, List.getD_eq_getElem?_getD, List.getD_eq_getElem?_getD, List.getElem?_take, if_pos hk]
  refine V.Fn.mk_ V.Tok V.mixed Try.func15 rfl Try.ntmps15 (by kernel_rfl) rfl rfl ?_
  repeat' ((conv => whnf); first | (refine V.NIf.yes ?_ ?_; · (decide; done)) | refine V.NCond.mk ?_ | refine V.NIf.not_ ?_ | refine V.NIf.dec_ ?_ | refine V.NIf.no (by omega) ?_ | refine V.NIf.yes (by omega) ?_ | refine V.NIf.mk (fun _ => ?_) (fun _ => ?_) | refine V.NWrap.ok (by omega) (by omega) ?_ | refine V.NWrap.u64 (by omega) (by omega) ?_ | refine V.NLt.mk (by omega) ?_ | refine V.NBoth.mk ?_ ?_ | refine V.NTF.yes (by omega) ?_ | refine V.NTF.no (by omega) ?_ | refine V.NTF.dec ?_ | refine V.NDraw.q (by exact rfl) (by kernel_rfl) ?_ | refine V.NApp.one (by first | omega | (simp; omega)) (by first | omega | (simp; omega)) ?_ | (refine V.NLt.mk (by decide) ?_) | (refine NMake.mk ⟨31, 31, rfl, rfl, by omega, by omega, by first | omega | decide | (simp; done) | (simp; omega), ?_⟩) | (refine NIdx.mk ⟨0, rfl, by first | omega | decide, ?_⟩) | (refine NIdx.mk ⟨1, rfl, by decide, ?_⟩) | (refine NIdx.mk ⟨2, rfl, by decide, ?_⟩) | (refine NPut.rep (en := e1) 0 3 (G.hx 3) (fun _ => rfl) rfl rfl ?_) | (refine NPut.is_ (en := e1) 5 (G.hx 5) (by decide) (by decide) rfl ?_) | (first | refine V.FnR.k0 (v_ring) rfl ?_ | refine V.FnR.a0 (v_ring) rfl ?_) | (refine NCall.nil_ 1 3 rfl ?_) | ((refine V.FnR.k_ (s_) [11, 12] rfl ?_ ?_); · exact ⟨⟨rfl, rfl, ht⟩, ⟨rfl, rfl, fun _ h => absurd h (Nat.not_lt_zero _)⟩, trivial⟩) | ((first | refine V.FnR.k_ (s3) [0, 1] rfl ?_ ?_ | refine V.FnR.a_ (s3) [0, 1] rfl ?_ ?_); · ((repeat' (first | exact rfl | exact Iff.rfl | exact trivial | exact (fun _ _ => rfl) | exact (fun _ h => absurd h (Nat.not_lt_zero _)) | refine ⟨?_, ?_⟩ | exact Iff.rfl | exact congrArg (fun z => V.SV.one (V.At.val (Value.int .i64 z))) (by omega))); done)) | ((first | refine V.FnR.k_ (a3) [0, 3, 4] rfl ?_ ?_ | refine V.FnR.a_ (a3) [0, 3, 4] rfl ?_ ?_); · ((repeat' (first | exact rfl | exact Iff.rfl | exact trivial | exact (fun _ _ => rfl) | exact (fun _ h => absurd h (Nat.not_lt_zero _)) | refine ⟨?_, ?_⟩ | exact Iff.rfl | exact congrArg (fun z => V.SV.one (V.At.val (Value.int .i64 z))) (by omega))); done)) | ((first | refine V.FnR.k_ (a5) [0, 6, 7] rfl ?_ ?_ | refine V.FnR.a_ (a5) [0, 6, 7] rfl ?_ ?_); · ((repeat' (first | exact rfl | exact Iff.rfl | exact trivial | exact (fun _ _ => rfl) | exact (fun _ h => absurd h (Nat.not_lt_zero _)) | refine ⟨?_, ?_⟩ | exact Iff.rfl | exact congrArg (fun z => V.SV.one (V.At.val (Value.int .i64 z))) (by omega))); done)) | ((first | refine V.FnR.k_ (s5) [0, 9] rfl ?_ ?_ | refine V.FnR.a_ (s5) [0, 9] rfl ?_ ?_); · ((repeat' (first | exact rfl | exact Iff.rfl | exact trivial | exact (fun _ _ => rfl) | exact (fun _ h => absurd h (Nat.not_lt_zero _)) | refine ⟨?_, ?_⟩ | exact Iff.rfl | exact congrArg (fun z => V.SV.one (V.At.val (Value.int .i64 z))) (by omega))); done)) | ((first | refine V.Fn.k (v_sameints [0, 1, 2] [0, 1, 2] (by decide)) [10, 14] rfl ?_ ?_ | refine V.Fn.q (v_sameints [0, 1, 2] [0, 1, 2] (by decide)) [10, 14] rfl ?_ ?_ | refine V.Fn.a (v_sameints [0, 1, 2] [0, 1, 2] (by decide)) [10, 14] rfl ?_ ?_); · ((repeat' (first | exact rfl | exact Iff.rfl | exact trivial | exact (fun _ _ => rfl) | exact (fun _ h => absurd h (Nat.not_lt_zero _)) | refine ⟨?_, ?_⟩ | exact Iff.rfl | exact congrArg (fun z => V.SV.one (V.At.val (Value.int .i64 z))) (by omega))); done)) | (refine NCut.mk ⟨0, 3, rfl, rfl, by omega, by omega, ?_⟩) | (refine V.NDraw.any (by kernel_rfl) ?_) | fail)
  (conv => whnf)
  exact ⟨true, rfl, iff_of_true rfl rfl⟩
end Go.Proofs.Ytmbcdkgnlididaa
