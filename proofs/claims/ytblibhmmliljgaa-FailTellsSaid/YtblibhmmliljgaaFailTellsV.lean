/- What FailTells answers: true. -/
import Derived.Test.YtblibhmmliljgaaVFailB
import Derived.Test.YtblibhmmliljgaaVOpenF
namespace Go.Proofs.Ytblibhmmliljgaa
open Go Go.RowKit V
set_option maxRecDepth 100000
set_option linter.unusedSimpArgs false
set_option linter.unusedVariables false
set_option maxHeartbeats 4000000 in
theorem v_failTells (f : Fl) (wf : WfF f) (units : Int) (w_units : (Lit.int .i64 units).wf = true) (l : List Fl) (wl : ∀ f ∈ l, WfF f) (id : Int) (w_id : (Lit.int .i64 id).wf = true) : V.Fn Try.prog 3 [.arr 10 l.length (ga encF l)] [.agg [.val (.int .i64 f.id), .val (.int .i64 f.fr), .val (.int .i64 f.to), .val (.int .i64 f.cl), .val (.int .i64 f.pa), .val (.int .i64 f.day), .val (.int .i64 f.un), .val (.int .i64 f.de), .val (.int .i64 f.bo), .val (.int .i64 f.pd)], .one (.val (.int .i64 units)), .one (.ref 0), .one (.val (.int .i64 id))] (.bool true) := by
  clear wf w_units wl w_id
  have kn : F.chk f = 0 → F.Kn f ∧ F.Pt f := fun h => ⟨(F.chk_ok h).1, (F.chk_ok h).2.2.1⟩
  have kb : F.chk f = 0 → f.pd + F.left f ≤ 1073741824 * 2 ∧ 0 ≤ f.pd + F.left f ∧ 0 ≤ F.left f := fun h => by have := F.ok_bounds (F.chk_ok h); omega
  have p1 : F.chk f = 0 → F.left f = 0 → F.pay f = F.zero ∧ F.paid f = 0 ∧ F.less f 1 = 5 := fun h k => by
    have e := F.less_3 h (by omega : (1 : Int) ≤ 1 ∧ (1 : Int) ≤ 1073741824) k
    exact ⟨(F.pay_no (by omega)).1, (F.pay_no (by omega)).2, e⟩
  have p2 : F.chk f = 0 → ¬ F.left f = 0 → F.pay f = F.addPd f (F.left f) ∧ F.paid f = F.left f ∧ F.less f 1 = 0 := fun h k => by
    have e := F.less_5 h (by omega : (1 : Int) ≤ 1 ∧ (1 : Int) ≤ 1073741824) k (by have := kb h; omega)
    exact ⟨(F.pay_yes e).1, (F.pay_yes e).2, e⟩
  have p3 : ¬ F.chk f = 0 → F.pay f = F.zero ∧ F.paid f = 0 ∧ F.less f 1 = F.chk f ∧ F.opn f = 0 := fun h => by
    have e := F.less_1 (u := 1) h
    exact ⟨(F.pay_no (by omega)).1, (F.pay_no (by omega)).2, e, F.opn_no h⟩
  have p4 : F.chk f = 0 → F.opn f = F.left f := F.opn_yes
  have q1 : ¬ F.checks l = 0 → F.fndV id l = 0 ∧ F.fndE id l = F.checks l := F.fnd_1
  have q2 : F.checks l = 0 → F.idx id l 0 < 0 → F.fndV id l = 0 ∧ F.fndE id l = 5 := F.fnd_2
  have q3 : F.checks l = 0 → ¬ F.idx id l 0 < 0 → F.fndV id l = F.idx id l 0 ∧ F.fndE id l = 0 := F.fnd_3
  refine V.Fn.mk_ V.Tok V.mixed Try.func3 rfl Try.ntmps3 (by kernel_rfl) rfl rfl ?_
  repeat' ((conv => whnf); first | (refine V.NIf.yes ?_ ?_; · (simp only [true_and, and_true, and_self]; done)) | (refine V.NIf.yes ?_ ?_; · (simp [*, F.addPd, F.zero]; done)) | refine V.NIf.not_ ?_ | refine V.NIf.dec_ ?_ | refine V.NIf.no (by omega) ?_ | refine V.NIf.yes (by omega) ?_ | refine V.NIf.mk (fun _ => ?_) (fun _ => ?_) | refine V.NWrap.ok (by omega) (by omega) ?_ | refine V.NLt.mk (by omega) ?_ | (first | refine V.Fn.k0 (v_rfopen f (kn (by omega))) rfl ?_ | refine V.Fn.q0 (v_rfopen f (kn (by omega))) rfl ?_) | (first | refine V.Fn.k0 (v_fbegun) rfl ?_ | refine V.Fn.q0 (v_fbegun) rfl ?_) | (first | refine V.Fn.k0 (v_fcheck _) rfl ?_ | refine V.Fn.q0 (v_fcheck _) rfl ?_) | ((first | refine V.Fn.k (v_fchecks l) [0] rfl ?_ ?_ | refine V.Fn.q (v_fchecks l) [0] rfl ?_ ?_); · ((repeat' (first | exact rfl | exact trivial | exact (fun _ _ => rfl) | exact (fun _ h => absurd h (Nat.not_lt_zero _)) | refine ⟨?_, ?_⟩ | exact Iff.rfl | exact congrArg (fun z => V.SV.one (V.At.val (Value.int .i64 z))) (by omega))); done)) | ((first | refine V.Fn.k (v_rffind l id (F.checks_len (by omega))) [0] rfl ?_ ?_ | refine V.Fn.q (v_rffind l id (F.checks_len (by omega))) [0] rfl ?_ ?_); · ((repeat' (first | exact rfl | exact trivial | exact (fun _ _ => rfl) | exact (fun _ h => absurd h (Nat.not_lt_zero _)) | refine ⟨?_, ?_⟩ | exact Iff.rfl | exact congrArg (fun z => V.SV.one (V.At.val (Value.int .i64 z))) (by omega))); done)) | (first | refine V.Fn.k0 (v_deliver _ _) rfl ?_ | refine V.Fn.q0 (v_deliver _ _) rfl ?_) | (first | refine V.Fn.k0 (v_buy _ _) rfl ?_ | refine V.Fn.q0 (v_buy _ _) rfl ?_) | (first | refine V.Fn.k0 (v_pay _) rfl ?_ | refine V.Fn.q0 (v_pay _) rfl ?_) | (first | refine V.Fn.k0 (v_open _) rfl ?_ | refine V.Fn.q0 (v_open _) rfl ?_) | ((first | refine V.Fn.k (v_ffind l id) [0] rfl ?_ ?_ | refine V.Fn.q (v_ffind l id) [0] rfl ?_ ?_); · ((repeat' (first | exact rfl | exact trivial | exact (fun _ _ => rfl) | exact (fun _ h => absurd h (Nat.not_lt_zero _)) | refine ⟨?_, ?_⟩ | exact Iff.rfl | exact congrArg (fun z => V.SV.one (V.At.val (Value.int .i64 z))) (by omega))); done)) | (first | refine V.Fn.k0 ((v_rfless _ _).1) rfl ?_ | refine V.Fn.q0 ((v_rfless _ _).1) rfl ?_) | (first | refine V.Fn.k0 ((v_rfless _ _).2) rfl ?_ | refine V.Fn.q0 ((v_rfless _ _).2) rfl ?_) | (refine NDraw.mk (by kernel_rfl) ?_) | (first | refine V.Fn.k0 (v_rfcheck _) rfl ?_ | refine V.Fn.q0 (v_rfcheck _) rfl ?_) | ((first | refine V.Fn.k (v_rfchecks l) [0] rfl ?_ ?_ | refine V.Fn.q (v_rfchecks l) [0] rfl ?_ ?_); · ((repeat' (first | exact rfl | exact trivial | exact (fun _ _ => rfl) | exact (fun _ h => absurd h (Nat.not_lt_zero _)) | refine ⟨?_, ?_⟩ | exact Iff.rfl | exact congrArg (fun z => V.SV.one (V.At.val (Value.int .i64 z))) (by omega))); done)) | fail)
  all_goals exact ⟨_, rfl, by simp⟩
end Go.Proofs.Ytblibhmmliljgaa
