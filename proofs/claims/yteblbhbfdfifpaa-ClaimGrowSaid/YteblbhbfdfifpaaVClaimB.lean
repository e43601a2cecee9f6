/- What must be in any case, of what papers bring. -/
import Derived.Test.YteblbhbfdfifpaaVClaimR
import Derived.Test.YteblbhbfdfifpaaVSame
import Derived.Test.YteblbhbfdfifpaaVFailB
namespace Go.Proofs.Yteblbhbfdfifpaa
open Go Go.RowKit V
set_option maxRecDepth 100000
set_option linter.unusedVariables false
namespace C
def sp : Ev := ⟨3, 2500, 2, 3⟩
theorem b_c : cV sp 100 = 25 ∧ uE sp 100 = 0 := by decide +kernel
theorem b_f : fV sp 100 = 66 ∧ lV sp 100 = 2 := by decide +kernel
theorem b_x : xE sp [F.s0] = 0 := by decide +kernel
theorem b_d : dV sp [F.s0] = [⟨1, 2, 25⟩] ∧ pV sp [F.s0] = [⟨1, 3, -66⟩, ⟨2, 3, 66⟩] := by decide +kernel
theorem b_n : uE sp (-1) = 3 := by decide +kernel
theorem b_e : ev ⟨1, 0, 0, 0⟩ = 1 := by decide +kernel
theorem b_g : gE sp [F.s0] = 0 ∧ gV sp [F.s0] = [gr sp F.s0] := g_3 b_x (fun ⟨f, h1, h2⟩ => by
  rw [List.mem_singleton] at h1
  subst h1
  exact absurd h2 (by decide +kernel))
theorem b_u : (gr sp F.s0).un = 166 := by decide +kernel
end C
theorem v_clsplit : V.Fn Try.prog 39 [] [] (.agg #[.int .i64 3, .int .i64 2500, .int .i64 2, .int .i64 3]) := by
  refine V.Fn.mk_ V.Tok V.mixed Try.func39 rfl Try.ntmps39 (by kernel_rfl) rfl rfl ?_
  repeat' ((conv => whnf); first | refine V.NCond.mk ?_ | refine V.NIf.not_ ?_ | refine V.NIf.dec_ ?_ | refine V.NIf.no (by omega) ?_ | refine V.NIf.yes (by omega) ?_ | refine V.NIf.mk (fun _ => ?_) (fun _ => ?_) | refine V.NWrap.ok (by omega) (by omega) ?_ | refine V.NWrap.u64 (by omega) (by omega) ?_ | refine V.NLt.mk (by omega) ?_ | refine V.NBoth.mk ?_ ?_ | refine V.NTF.yes (by omega) ?_ | refine V.NTF.no (by omega) ?_ | refine V.NTF.dec ?_ | refine V.NDraw.q (by exact rfl) (by kernel_rfl) ?_ | refine V.NApp.one (by first | omega | (simp; omega)) (by first | omega | (simp; omega)) ?_ | (refine V.NDraw.any (by kernel_rfl) ?_) | fail)
  exact (by repeat' (first | exact rfl | exact Iff.rfl | exact trivial | exact (fun _ _ => rfl) | exact (fun _ h => absurd h (Nat.not_lt_zero _)) | refine ⟨?_, ?_⟩ | exact Iff.rfl | exact congrArg (fun z => V.SV.one (V.At.val (Value.int .i64 z))) (by omega)))
set_option maxHeartbeats 4000000 in
theorem v_clbegun : V.Fn Try.prog 17 [] [] (.bool true) := by
  have a1 := v_clCash C.sp 100
  have a2 := v_clFresh C.sp 100
  have a3 := v_Claims C.sp [F.s0]
  have a4 := v_Grow C.sp [F.s0]
  have a5 := v_clCash C.sp (-1)
  have a6 := v_clCheck ⟨1, 0, 0, 0⟩
  have a7 := v_samedues [⟨1, 2, 25⟩] [⟨1, 2, 25⟩] (by decide)
  have a8 := v_sameposts [⟨1, 3, -66⟩, ⟨2, 3, 66⟩] [⟨1, 3, -66⟩, ⟨2, 3, 66⟩] (by decide)
  rw [C.b_c.1, C.b_c.2] at a1
  rw [C.b_f.1, C.b_f.2, C.b_c.2] at a2
  rw [C.b_d.1, C.b_d.2, C.b_x] at a3
  rw [C.b_g.1, C.b_g.2] at a4
  rw [C.b_n] at a5
  rw [C.b_e] at a6
  have u := C.b_u
  refine V.Fn.mk_ V.Tok V.mixed Try.func17 rfl Try.ntmps17 (by kernel_rfl) rfl rfl ?_
  repeat' ((conv => whnf); first | refine V.NCond.mk ?_ | refine V.NIf.not_ ?_ | refine V.NIf.dec_ ?_ | refine V.NIf.no (by omega) ?_ | refine V.NIf.yes (by omega) ?_ | refine V.NIf.mk (fun _ => ?_) (fun _ => ?_) | refine V.NWrap.ok (by omega) (by omega) ?_ | refine V.NWrap.u64 (by omega) (by omega) ?_ | refine V.NLt.mk (by omega) ?_ | refine V.NBoth.mk ?_ ?_ | refine V.NTF.yes (by omega) ?_ | refine V.NTF.no (by omega) ?_ | refine V.NTF.dec ?_ | refine V.NDraw.q (by exact rfl) (by kernel_rfl) ?_ | refine V.NApp.one (by first | omega | (simp; omega)) (by first | omega | (simp; omega)) ?_ | (first | refine V.Fn.k0 (v_clsplit) rfl ?_ | refine V.Fn.q0 (v_clsplit) rfl ?_ | refine V.Fn.a0 (v_clsplit) rfl ?_) | (first | refine V.Fn.k0 (v_some) rfl ?_ | refine V.Fn.q0 (v_some) rfl ?_ | refine V.Fn.a0 (v_some) rfl ?_) | (first | refine V.Fn.k0 (a1) rfl ?_ | refine V.Fn.q0 (a1) rfl ?_ | refine V.Fn.a0 (a1) rfl ?_) | (first | refine V.Fn.k0 (a2) rfl ?_ | refine V.Fn.q0 (a2) rfl ?_ | refine V.Fn.a0 (a2) rfl ?_) | ((first | refine V.FnR.k_ (a3) [0] rfl ?_ ?_ | refine V.FnR.a_ (a3) [0] rfl ?_ ?_); · ((repeat' (first | exact rfl | exact Iff.rfl | exact trivial | exact (fun _ _ => rfl) | exact (fun _ h => absurd h (Nat.not_lt_zero _)) | refine ⟨?_, ?_⟩ | exact Iff.rfl | exact congrArg (fun z => V.SV.one (V.At.val (Value.int .i64 z))) (by omega))); done)) | ((first | refine V.FnR.k_ (a4) [3] rfl ?_ ?_ | refine V.FnR.a_ (a4) [3] rfl ?_ ?_); · ((repeat' (first | exact rfl | exact Iff.rfl | exact trivial | exact (fun _ _ => rfl) | exact (fun _ h => absurd h (Nat.not_lt_zero _)) | refine ⟨?_, ?_⟩ | exact Iff.rfl | exact congrArg (fun z => V.SV.one (V.At.val (Value.int .i64 z))) (by omega))); done)) | (first | refine V.Fn.k0 (a5) rfl ?_ | refine V.Fn.q0 (a5) rfl ?_ | refine V.Fn.a0 (a5) rfl ?_) | (first | refine V.Fn.k0 (a6) rfl ?_ | refine V.Fn.q0 (a6) rfl ?_ | refine V.Fn.a0 (a6) rfl ?_) | ((first | refine V.Fn.k (a7) [1, 5] rfl ?_ ?_ | refine V.Fn.q (a7) [1, 5] rfl ?_ ?_ | refine V.Fn.a (a7) [1, 5] rfl ?_ ?_); · ((repeat' (first | exact rfl | exact Iff.rfl | exact trivial | exact (fun _ _ => rfl) | exact (fun _ h => absurd h (Nat.not_lt_zero _)) | refine ⟨?_, ?_⟩ | exact Iff.rfl | exact congrArg (fun z => V.SV.one (V.At.val (Value.int .i64 z))) (by omega))); done)) | ((first | refine V.Fn.k (a8) [2, 6] rfl ?_ ?_ | refine V.Fn.q (a8) [2, 6] rfl ?_ ?_ | refine V.Fn.a (a8) [2, 6] rfl ?_ ?_); · ((repeat' (first | exact rfl | exact Iff.rfl | exact trivial | exact (fun _ _ => rfl) | exact (fun _ h => absurd h (Nat.not_lt_zero _)) | refine ⟨?_, ?_⟩ | exact Iff.rfl | exact congrArg (fun z => V.SV.one (V.At.val (Value.int .i64 z))) (by omega))); done)) | (refine NIdx.mk ⟨0, rfl, by decide, ?_⟩) | (refine V.NDraw.any (by kernel_rfl) ?_) | fail)
  all_goals (conv => whnf)
  · exact ⟨true, rfl, iff_of_true rfl rfl⟩
  · exact absurd C.b_u (by assumption)
  all_goals exact absurd rfl (by assumption)
theorem C.dV_len (v : Ev) (fs : List Fl) : (C.dV v fs).length ≤ 60 ∧ (C.pV v fs).length ≤ 120 ∧ (C.gV v fs).length ≤ 60 := by
  by_cases h : C.xE v fs = 0
  · have n := (K.checks_all (C.xE_ok h).2).1
    have a := C.dus_len v fs
    have b := C.pos_len v fs
    refine ⟨?_, ?_, ?_⟩
    · unfold C.dV; rw [if_pos h]; omega
    · unfold C.pV; rw [if_pos h]; omega
    · by_cases g : C.gE v fs = 0
      · rw [(C.g_ok g).2.2]; simp; omega
      · unfold C.gV; rw [if_neg g]; simp
  · refine ⟨?_, ?_, ?_⟩
    · unfold C.dV; rw [if_neg h]; simp
    · unfold C.pV; rw [if_neg h]; simp
    · rw [(C.g_1 h).2]; simp
end Go.Proofs.Yteblbhbfdfifpaa
