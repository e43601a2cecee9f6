/- The laws' own helper. -/
import Derived.Test.YtblibhmmliljgaaVFailL
namespace Go.Proofs.Ytblibhmmliljgaa
open Go Go.RowKit V
set_option maxRecDepth 100000
namespace F
def s0 : Fl := ⟨7, 1, 2, 0, 3, 739935, 100, 0, 0, 0⟩
def l1 : List Fl := [s0]
end F
theorem v_some : V.Fn Try.prog 26 [] [] (.agg #[.int .i64 (F.s0).id, .int .i64 (F.s0).fr, .int .i64 (F.s0).to, .int .i64 (F.s0).cl, .int .i64 (F.s0).pa, .int .i64 (F.s0).day, .int .i64 (F.s0).un, .int .i64 (F.s0).de, .int .i64 (F.s0).bo, .int .i64 (F.s0).pd]) := by
  refine V.Fn.mk_ V.Tok V.mixed Try.func26 rfl Try.ntmps26 (by kernel_rfl) rfl rfl ?_
  repeat' ((conv => whnf); first | refine V.NIf.not_ ?_ | refine V.NIf.dec_ ?_ | refine V.NIf.no (by omega) ?_ | refine V.NIf.yes (by omega) ?_ | refine V.NIf.mk (fun _ => ?_) (fun _ => ?_) | refine V.NWrap.ok (by omega) (by omega) ?_ | refine V.NLt.mk (by omega) ?_ | fail)
  exact (by repeat' (first | exact rfl | exact trivial | exact (fun _ _ => rfl) | exact (fun _ h => absurd h (Nat.not_lt_zero _)) | refine ⟨?_, ?_⟩ | exact Iff.rfl | exact congrArg (fun z => V.SV.one (V.At.val (Value.int .i64 z))) (by omega)))
theorem v_fbegun : V.Fn Try.prog 18 [] [] (.bool true) := by
  refine V.Fn.mk_ V.Tok V.mixed Try.func18 rfl Try.ntmps18 (by kernel_rfl) rfl rfl ?_
  repeat' ((conv => whnf); first | (refine V.NIf.yes (by rfl) ?_) | refine V.NIf.not_ ?_ | refine V.NIf.dec_ ?_ | refine V.NIf.no (by omega) ?_ | refine V.NIf.yes (by omega) ?_ | refine V.NIf.mk (fun _ => ?_) (fun _ => ?_) | refine V.NWrap.ok (by omega) (by omega) ?_ | refine V.NLt.mk (by omega) ?_ | (first | refine V.Fn.k0 (v_some) rfl ?_ | refine V.Fn.q0 (v_some) rfl ?_) | (first | refine V.Fn.k0 (v_deliver F.s0 30) rfl ?_ | refine V.Fn.q0 (v_deliver F.s0 30) rfl ?_) | (first | refine V.Fn.k0 (v_deliver _ _) rfl ?_ | refine V.Fn.q0 (v_deliver _ _) rfl ?_) | (first | refine V.Fn.k0 (v_buy _ _) rfl ?_ | refine V.Fn.q0 (v_buy _ _) rfl ?_) | (first | refine V.Fn.k0 (v_pay _) rfl ?_ | refine V.Fn.q0 (v_pay _) rfl ?_) | (first | refine V.Fn.k0 (v_open _) rfl ?_ | refine V.Fn.q0 (v_open _) rfl ?_) | ((first | refine V.Fn.k (v_ffind [F.s0] 7) [_] rfl ?_ ?_ | refine V.Fn.q (v_ffind [F.s0] 7) [_] rfl ?_ ?_); · ((repeat' (first | exact rfl | exact trivial | exact (fun _ _ => rfl) | exact (fun _ h => absurd h (Nat.not_lt_zero _)) | refine ⟨?_, ?_⟩ | exact Iff.rfl | exact congrArg (fun z => V.SV.one (V.At.val (Value.int .i64 z))) (by omega))); done)) | (first | refine V.Fn.k0 (v_fcheck F.zero) rfl ?_ | refine V.Fn.q0 (v_fcheck F.zero) rfl ?_) | ((first | refine V.Fn.k (v_fchecks [F.deliver F.s0 30, F.buy (F.deliver F.s0 30) 50]) [_] rfl ?_ ?_ | refine V.Fn.q (v_fchecks [F.deliver F.s0 30, F.buy (F.deliver F.s0 30) 50]) [_] rfl ?_ ?_); · ((repeat' (first | exact rfl | exact trivial | exact (fun _ _ => rfl) | exact (fun _ h => absurd h (Nat.not_lt_zero _)) | refine ⟨?_, ?_⟩ | exact Iff.rfl | exact congrArg (fun z => V.SV.one (V.At.val (Value.int .i64 z))) (by omega))); done)) | fail)
  exact ⟨_, rfl, by simp; rfl⟩
end Go.Proofs.Ytblibhmmliljgaa
