/- What ClaimNone answers: true. -/
import Derived.Test.YteblbhbfdfifpaaVClaimB
import Derived.Test.YteblbhbfdfifpaaVOpenEv
import Derived.Test.YteblbhbfdfifpaaVOpenF
namespace Go.Proofs.Yteblbhbfdfifpaa
open Go Go.RowKit V
set_option maxRecDepth 100000
set_option linter.unusedVariables false
set_option maxHeartbeats 4000000 in
theorem v_claimNone (v : Ev) (wv : WfEv v) (l : List Fl) (wl : ∀ f ∈ l, WfF f) : V.Fn Try.prog 5 [.arr 10 l.length (ga encF l)] [.agg [.val (.int .i64 v.pa), .val (.int .i64 v.ca), .val (.int .i64 v.gi), .val (.int .i64 v.fo)], .one (.ref 0)] (.bool true) := by
  clear wv wl
  refine V.Fn.lim (by kernel_rfl) fun hl => ?_
  have nl := hl 0 _ _ _ rfl
  clear hl
  obtain ⟨n1, n2, n3⟩ := C.dV_len v l
  have eD : C.xE v l = 0 → C.dV v l = C.dus v l ∧ C.pV v l = C.pos v l := fun h => ⟨if_pos h, if_pos h⟩
  have e1 : ¬ C.xE v l = 0 → C.gE v l = C.xE v l := fun h => (C.g_1 h).1
  have e2 : C.xE v l = 0 → v.ca = 0 → (C.dV v l).length = 0 := fun h q => by rw [(eD h).1, C.dus_no fun f _ => C.no_cash q f]; rfl
  have e3 : C.xE v l = 0 → v.gi = 0 → (C.pV v l).length = 0 ∧ C.gE v l = 0 ∧ C.gV v l = l := fun h q => by
    have z := (C.ev_ok (C.xE_ok h).1).2.1.1 q
    rw [(eD h).2, C.pos_no fun f _ => C.no_pos z f]
    exact ⟨rfl, C.g_same h fun f _ => C.no_gr z f⟩
  have e4 : C.xE v l = 0 → (∀ f ∈ l, ¬ f.pa = v.pa) → (C.dV v l).length = 0 ∧ (C.pV v l).length = 0 ∧ C.gE v l = 0 ∧ C.gV v l = l := fun h q => by
    rw [(eD h).1, (eD h).2, C.pos_no fun f hf => C.oth_po (q f hf), C.dus_no fun f hf => C.oth_du (q f hf)]
    exact ⟨rfl, rfl, C.g_same h fun f hf => C.oth_gr (q f hf)⟩
  refine V.Fn.mk_ V.Tok V.mixed Try.func5 rfl Try.ntmps5 (by kernel_rfl) rfl rfl ?_
  repeat' ((conv => whnf); first | (refine V.NIf.yes ?_ ?_; · (simp only [true_and, and_true, and_self]; done)) | refine V.NCond.mk ?_ | refine V.NIf.not_ ?_ | refine V.NIf.dec_ ?_ | refine V.NIf.no (by omega) ?_ | refine V.NIf.yes (by omega) ?_ | refine V.NIf.mk (fun _ => ?_) (fun _ => ?_) | refine V.NWrap.ok (by omega) (by omega) ?_ | refine V.NWrap.u64 (by omega) (by omega) ?_ | refine V.NLt.mk (by omega) ?_ | refine V.NBoth.mk ?_ ?_ | refine V.NTF.yes (by omega) ?_ | refine V.NTF.no (by omega) ?_ | refine V.NTF.dec ?_ | refine V.NDraw.q (by exact rfl) (by kernel_rfl) ?_ | refine V.NApp.one (by first | omega | (simp; omega)) (by first | omega | (simp; omega)) ?_ | ((first | refine V.FnR.k_ (v_Claims v l) [0] rfl ?_ ?_ | refine V.FnR.a_ (v_Claims v l) [0] rfl ?_ ?_); · ((repeat' (first | exact rfl | exact Iff.rfl | exact trivial | exact (fun _ _ => rfl) | exact (fun _ h => absurd h (Nat.not_lt_zero _)) | refine ⟨?_, ?_⟩ | exact Iff.rfl | exact congrArg (fun z => V.SV.one (V.At.val (Value.int .i64 z))) (by omega))); done)) | ((first | refine V.FnR.k_ (v_Grow v l) [0] rfl ?_ ?_ | refine V.FnR.a_ (v_Grow v l) [0] rfl ?_ ?_); · ((repeat' (first | exact rfl | exact Iff.rfl | exact trivial | exact (fun _ _ => rfl) | exact (fun _ h => absurd h (Nat.not_lt_zero _)) | refine ⟨?_, ?_⟩ | exact Iff.rfl | exact congrArg (fun z => V.SV.one (V.At.val (Value.int .i64 z))) (by omega))); done)) | (first | refine V.Fn.k0 (v_clbegun) rfl ?_ | refine V.Fn.q0 (v_clbegun) rfl ?_ | refine V.Fn.a0 (v_clbegun) rfl ?_) | ((first | refine V.Fn.k (v_samefails (C.gV v l) l (by omega)) [4, 0] rfl ?_ ?_ | refine V.Fn.q (v_samefails (C.gV v l) l (by omega)) [4, 0] rfl ?_ ?_ | refine V.Fn.a (v_samefails (C.gV v l) l (by omega)) [4, 0] rfl ?_ ?_); · ((repeat' (first | exact rfl | exact Iff.rfl | exact trivial | exact (fun _ _ => rfl) | exact (fun _ h => absurd h (Nat.not_lt_zero _)) | refine ⟨?_, ?_⟩ | exact Iff.rfl | exact congrArg (fun z => V.SV.one (V.At.val (Value.int .i64 z))) (by omega))); done)) | (refine V.NDraw.any (by kernel_rfl) ?_) | fail)
  all_goals (conv => whnf)
  all_goals first
    | exact absurd (e3 (by assumption) (by assumption)).2.2 (by assumption)
    | exact ⟨true, rfl, iff_of_true (e1 (by assumption)) rfl⟩
    | skip
  all_goals
    refine V.NLoop.auto (fun (k : Nat) => [(10, .one (.val (.int .i64 k)))]) (fun (k : Nat) => []) [] [] (fun (k : Nat) => l.length - k) (fun (k : Nat) => k ≤ l.length ∧ ∀ f ∈ l.take k, ¬ f.pa = v.pa) 0 ⟨Nat.zero_le _, by simp⟩ (by repeat' (first | exact rfl | exact Iff.rfl | exact trivial | exact (fun _ _ => rfl) | exact (fun _ h => absurd h (Nat.not_lt_zero _)) | refine ⟨?_, ?_⟩ | exact Iff.rfl | exact congrArg (fun z => V.SV.one (V.At.val (Value.int .i64 z))) (by omega))) (by repeat' (first | exact rfl | exact Iff.rfl | exact trivial | exact (fun _ _ => rfl) | exact (fun _ h => absurd h (Nat.not_lt_zero _)) | refine ⟨?_, ?_⟩ | exact Iff.rfl | exact congrArg (fun z => V.SV.one (V.At.val (Value.int .i64 z))) (by omega))) (fun _ => ⟨rfl, rfl⟩) ?_; (conv => whnf); refine ⟨⟨rfl, rfl⟩, ?_⟩
    rintro k ⟨hk, hJ⟩
    by_cases hlt : k < l.length
    · repeat' ((conv => whnf); first | refine V.NCond.mk ?_ | refine V.NIf.not_ ?_ | refine V.NIf.dec_ ?_ | refine V.NIf.no (by omega) ?_ | refine V.NIf.yes (by omega) ?_ | refine V.NIf.mk (fun _ => ?_) (fun _ => ?_) | refine V.NWrap.ok (by omega) (by omega) ?_ | refine V.NWrap.u64 (by omega) (by omega) ?_ | refine V.NLt.mk (by omega) ?_ | refine V.NBoth.mk ?_ ?_ | refine V.NTF.yes (by omega) ?_ | refine V.NTF.no (by omega) ?_ | refine V.NTF.dec ?_ | refine V.NDraw.q (by exact rfl) (by kernel_rfl) ?_ | refine V.NApp.one (by first | omega | (simp; omega)) (by first | omega | (simp; omega)) ?_ | (refine NIdx.mk ⟨k, rfl, by omega, ?_⟩) | (refine V.NDraw.any (by kernel_rfl) ?_) | fail)
      all_goals (conv => whnf)
      all_goals first
        | exact V.NBack.at_ (k + 1) [] ⟨by omega, all_snoc hlt hJ (by assumption)⟩ (by omega) (by repeat' (first | exact rfl | exact Iff.rfl | exact trivial | exact (fun _ _ => rfl) | exact (fun _ h => absurd h (Nat.not_lt_zero _)) | refine ⟨?_, ?_⟩ | exact Iff.rfl | exact congrArg (fun z => V.SV.one (V.At.val (Value.int .i64 z))) (by omega))) rfl (by repeat' (first | exact rfl | exact Iff.rfl | exact trivial | exact (fun _ _ => rfl) | exact (fun _ h => absurd h (Nat.not_lt_zero _)) | refine ⟨?_, ?_⟩ | exact Iff.rfl | exact congrArg (fun z => V.SV.one (V.At.val (Value.int .i64 z))) (by omega))) (by repeat' (first | exact rfl | exact Iff.rfl | exact trivial | exact (fun _ _ => rfl) | exact (fun _ h => absurd h (Nat.not_lt_zero _)) | refine ⟨?_, ?_⟩ | exact Iff.rfl | exact congrArg (fun z => V.SV.one (V.At.val (Value.int .i64 z))) (by omega))) (by repeat' (first | exact rfl | exact Iff.rfl | exact trivial | exact (fun _ _ => rfl) | exact (fun _ h => absurd h (Nat.not_lt_zero _)) | refine ⟨?_, ?_⟩ | exact Iff.rfl | exact congrArg (fun z => V.SV.one (V.At.val (Value.int .i64 z))) (by omega)))
        | exact rfl
    · have e := e4 (by assumption) (all_whole (by omega) hJ)
      repeat' ((conv => whnf); first | (refine V.NIf.yes ?_ ?_; · (simp only [true_and, and_true, and_self]; done)) | refine V.NCond.mk ?_ | refine V.NIf.not_ ?_ | refine V.NIf.dec_ ?_ | refine V.NIf.no (by omega) ?_ | refine V.NIf.yes (by omega) ?_ | refine V.NIf.mk (fun _ => ?_) (fun _ => ?_) | refine V.NWrap.ok (by omega) (by omega) ?_ | refine V.NWrap.u64 (by omega) (by omega) ?_ | refine V.NLt.mk (by omega) ?_ | refine V.NBoth.mk ?_ ?_ | refine V.NTF.yes (by omega) ?_ | refine V.NTF.no (by omega) ?_ | refine V.NTF.dec ?_ | refine V.NDraw.q (by exact rfl) (by kernel_rfl) ?_ | refine V.NApp.one (by first | omega | (simp; omega)) (by first | omega | (simp; omega)) ?_ | ((first | refine V.Fn.k (v_samefails (C.gV v l) l (by omega)) [4, 0] rfl ?_ ?_ | refine V.Fn.q (v_samefails (C.gV v l) l (by omega)) [4, 0] rfl ?_ ?_ | refine V.Fn.a (v_samefails (C.gV v l) l (by omega)) [4, 0] rfl ?_ ?_); · ((repeat' (first | exact rfl | exact Iff.rfl | exact trivial | exact (fun _ _ => rfl) | exact (fun _ h => absurd h (Nat.not_lt_zero _)) | refine ⟨?_, ?_⟩ | exact Iff.rfl | exact congrArg (fun z => V.SV.one (V.At.val (Value.int .i64 z))) (by omega))); done)) | (refine V.NDraw.any (by kernel_rfl) ?_) | fail)
      all_goals (conv => whnf)
      all_goals first
        | exact ⟨true, rfl, iff_of_true e.2.2.2 rfl⟩
        | exact congrArg Value.bool (decide_eq_true e.2.2.2)
end Go.Proofs.Yteblbhbfdfifpaa
