/- What the functions of the package 'fail' answer, one fail at a time. -/
import Derived.Test.YtblibhmmliljgaaVT
import Derived.Test.YtblibhmmliljgaaVAns
import Derived.Test.YtblibhmmliljgaaFailPl2
import Derived.Test.YtblibhmmliljgaaDatePl
namespace Go.Proofs.Ytblibhmmliljgaa
open Go Go.RowKit V
set_option maxRecDepth 100000
theorem v_fwithin (n a b : Int) : V.Fn Try.prog 28 [] [.one (.val (.int .i64 n)), .one (.val (.int .i64 a)), .one (.val (.int .i64 b))] (.bool (decide (a ≤ n ∧ n ≤ b))) := by
  refine V.Fn.mk_ V.Tok V.mixed Try.func28 rfl Try.ntmps28 (by kernel_rfl) rfl rfl ?_
  repeat' ((conv => whnf); first | refine V.NIf.not_ ?_ | refine V.NIf.dec_ ?_ | refine V.NIf.no (by omega) ?_ | refine V.NIf.yes (by omega) ?_ | refine V.NIf.mk (fun _ => ?_) (fun _ => ?_) | refine V.NWrap.ok (by omega) (by omega) ?_ | refine V.NLt.mk (by omega) ?_ | fail)
  · exact ⟨_, rfl, by simp_all⟩
  · exact congrArg Value.bool (by simp_all; omega)
theorem v_dcheck (n : Int) : V.Fn Try.prog 29 [] [.one (.val (.int .i64 n))] (.int .i64 (D.chk n)) := by
  refine V.Fn.mk_ V.Tok V.mixed Try.func29 rfl Try.ntmps29 (by kernel_rfl) rfl rfl ?_
  repeat' ((conv => whnf); first | refine V.NIf.not_ ?_ | refine V.NIf.dec_ ?_ | refine V.NIf.no (by omega) ?_ | refine V.NIf.yes (by omega) ?_ | refine V.NIf.mk (fun _ => ?_) (fun _ => ?_) | refine V.NWrap.ok (by omega) (by omega) ?_ | refine V.NLt.mk (by omega) ?_ | fail)
  all_goals ((conv => whnf); refine congrArg _ ?_; unfold D.chk; (repeat' split) <;> first | rfl | omega | (exfalso; omega) | (simp_all; done) | (simp_all; omega))
theorem v_known (f : Fl) : V.Fn Try.prog 27 [] [.agg [.val (.int .i64 f.id), .val (.int .i64 f.fr), .val (.int .i64 f.to), .val (.int .i64 f.cl), .val (.int .i64 f.pa), .val (.int .i64 f.day), .val (.int .i64 f.un), .val (.int .i64 f.de), .val (.int .i64 f.bo), .val (.int .i64 f.pd)]] (.bool (decide (F.Kn f))) := by
  have k : D.chk f.day = 0 ↔ (0 ≤ f.day ∧ f.day ≤ 3652058) := by unfold D.chk; split <;> omega
  refine V.Fn.mk_ V.Tok V.mixed Try.func27 rfl Try.ntmps27 (by kernel_rfl) rfl rfl ?_
  repeat' ((conv => whnf); first | refine V.NIf.not_ ?_ | refine V.NIf.dec_ ?_ | refine V.NIf.no (by omega) ?_ | refine V.NIf.yes (by omega) ?_ | refine V.NIf.mk (fun _ => ?_) (fun _ => ?_) | refine V.NWrap.ok (by omega) (by omega) ?_ | refine V.NLt.mk (by omega) ?_ | (first | refine V.Fn.k0 (v_fwithin _ _ _) rfl ?_ | refine V.Fn.q0 (v_fwithin _ _ _) rfl ?_) | (first | refine V.Fn.k0 (v_dcheck _) rfl ?_ | refine V.Fn.q0 (v_dcheck _) rfl ?_) | fail)
  · exact congrArg Value.bool (decide_eq_decide.2 (by unfold F.Kn; omega))
  all_goals exact congrArg Value.bool (decide_eq_false (by unfold F.Kn; omega)).symm
theorem v_fcheck (f : Fl) : V.Fn Try.prog 19 [] [.agg [.val (.int .i64 f.id), .val (.int .i64 f.fr), .val (.int .i64 f.to), .val (.int .i64 f.cl), .val (.int .i64 f.pa), .val (.int .i64 f.day), .val (.int .i64 f.un), .val (.int .i64 f.de), .val (.int .i64 f.bo), .val (.int .i64 f.pd)]] (.int .i64 (F.chk f)) := by
  have kun : F.Kn f → f.un ≤ 1073741824 := fun h => h.2.2.2.2.2.2.2
  refine V.Fn.mk_ V.Tok V.mixed Try.func19 rfl Try.ntmps19 (by kernel_rfl) rfl rfl ?_
  repeat' ((conv => whnf); first | refine V.NIf.not_ ?_ | refine V.NIf.dec_ ?_ | refine V.NIf.no (by omega) ?_ | refine V.NIf.yes (by omega) ?_ | refine V.NIf.mk (fun _ => ?_) (fun _ => ?_) | refine V.NWrap.ok (by omega) (by omega) ?_ | refine V.NLt.mk (by omega) ?_ | (first | refine V.Fn.k0 (v_fwithin _ _ _) rfl ?_ | refine V.Fn.q0 (v_fwithin _ _ _) rfl ?_) | (first | refine V.Fn.k0 (v_known _) rfl ?_ | refine V.Fn.q0 (v_known _) rfl ?_) | (refine V.NWrap.ok (by have := kun (by assumption); omega) (by have := kun (by assumption); omega) ?_) | fail)
  all_goals ((conv => whnf); refine congrArg _ ?_; unfold F.chk F.Pt; (repeat' split) <;> first | rfl | omega | (exfalso; omega) | (simp_all; done) | (simp_all; omega))
theorem v_fleft (f : Fl) (h : F.Ok f) : V.Fn Try.prog 22 [] [.agg [.val (.int .i64 f.id), .val (.int .i64 f.fr), .val (.int .i64 f.to), .val (.int .i64 f.cl), .val (.int .i64 f.pa), .val (.int .i64 f.day), .val (.int .i64 f.un), .val (.int .i64 f.de), .val (.int .i64 f.bo), .val (.int .i64 f.pd)]] (.int .i64 (F.left f)) := by
  have hb := F.ok_bounds h
  refine V.Fn.mk_ V.Tok V.mixed Try.func22 rfl Try.ntmps22 (by kernel_rfl) rfl rfl ?_
  repeat' ((conv => whnf); first | refine V.NIf.not_ ?_ | refine V.NIf.dec_ ?_ | refine V.NIf.no (by omega) ?_ | refine V.NIf.yes (by omega) ?_ | refine V.NIf.mk (fun _ => ?_) (fun _ => ?_) | refine V.NWrap.ok (by omega) (by omega) ?_ | refine V.NLt.mk (by omega) ?_ | fail)
  exact rfl
theorem v_less (f : Fl) (u : Int) : V.Fn Try.prog 21 [] [.agg [.val (.int .i64 f.id), .val (.int .i64 f.fr), .val (.int .i64 f.to), .val (.int .i64 f.cl), .val (.int .i64 f.pa), .val (.int .i64 f.day), .val (.int .i64 f.un), .val (.int .i64 f.de), .val (.int .i64 f.bo), .val (.int .i64 f.pd)], .one (.val (.int .i64 u))] (.int .i64 (F.less f u)) := by
  refine V.Fn.mk_ V.Tok V.mixed Try.func21 rfl Try.ntmps21 (by kernel_rfl) rfl rfl ?_
  repeat' ((conv => whnf); first | refine V.NIf.not_ ?_ | refine V.NIf.dec_ ?_ | refine V.NIf.no (by omega) ?_ | refine V.NIf.yes (by omega) ?_ | refine V.NIf.mk (fun _ => ?_) (fun _ => ?_) | refine V.NWrap.ok (by omega) (by omega) ?_ | refine V.NLt.mk (by omega) ?_ | (first | refine V.Fn.k0 (v_fwithin _ _ _) rfl ?_ | refine V.Fn.q0 (v_fwithin _ _ _) rfl ?_) | (first | refine V.Fn.k0 (v_fcheck _) rfl ?_ | refine V.Fn.q0 (v_fcheck _) rfl ?_) | (first | refine V.Fn.k0 (v_fleft f (F.chk_ok (by omega))) rfl ?_ | refine V.Fn.q0 (v_fleft f (F.chk_ok (by omega))) rfl ?_) | fail)
  all_goals ((conv => whnf); refine congrArg _ ?_; unfold F.less; (repeat' split) <;> first | rfl | omega | (exfalso; omega) | (simp_all; done) | (simp_all; omega))
theorem v_deliver (f : Fl) (u : Int) : V.Fn Try.prog 8 [] [.agg [.val (.int .i64 f.id), .val (.int .i64 f.fr), .val (.int .i64 f.to), .val (.int .i64 f.cl), .val (.int .i64 f.pa), .val (.int .i64 f.day), .val (.int .i64 f.un), .val (.int .i64 f.de), .val (.int .i64 f.bo), .val (.int .i64 f.pd)], .one (.val (.int .i64 u))] (.tuple #[.agg #[.int .i64 (F.deliver f u).id, .int .i64 (F.deliver f u).fr, .int .i64 (F.deliver f u).to, .int .i64 (F.deliver f u).cl, .int .i64 (F.deliver f u).pa, .int .i64 (F.deliver f u).day, .int .i64 (F.deliver f u).un, .int .i64 (F.deliver f u).de, .int .i64 (F.deliver f u).bo, .int .i64 (F.deliver f u).pd], .int .i64 (F.less f u)]) := by
  have key : F.less f u = 0 → f.de + u ≤ 1073741824 * 2 ∧ 0 ≤ f.de + u := fun h => by have h1 := F.less_ok h; have := F.ok_bounds h1.1; omega
  refine V.Fn.mk_ V.Tok V.mixed Try.func8 rfl Try.ntmps8 (by kernel_rfl) rfl rfl ?_
  repeat' ((conv => whnf); first | refine V.NIf.not_ ?_ | refine V.NIf.dec_ ?_ | refine V.NIf.no (by omega) ?_ | refine V.NIf.yes (by omega) ?_ | refine V.NIf.mk (fun _ => ?_) (fun _ => ?_) | refine V.NWrap.ok (by omega) (by omega) ?_ | refine V.NLt.mk (by omega) ?_ | (first | refine V.Fn.k0 (v_less _ _) rfl ?_ | refine V.Fn.q0 (v_less _ _) rfl ?_) | fail)
  all_goals rename_i h
  · rw [F.deliver_yes h, h]; exact (by repeat' (first | exact rfl | exact trivial | exact (fun _ _ => rfl) | exact (fun _ h => absurd h (Nat.not_lt_zero _)) | refine ⟨?_, ?_⟩ | exact Iff.rfl | exact congrArg (fun z => V.SV.one (V.At.val (Value.int .i64 z))) (by omega)))
  · rw [F.deliver_no h]; exact (by repeat' (first | exact rfl | exact trivial | exact (fun _ _ => rfl) | exact (fun _ h => absurd h (Nat.not_lt_zero _)) | refine ⟨?_, ?_⟩ | exact Iff.rfl | exact congrArg (fun z => V.SV.one (V.At.val (Value.int .i64 z))) (by omega)))
theorem v_buy (f : Fl) (u : Int) : V.Fn Try.prog 9 [] [.agg [.val (.int .i64 f.id), .val (.int .i64 f.fr), .val (.int .i64 f.to), .val (.int .i64 f.cl), .val (.int .i64 f.pa), .val (.int .i64 f.day), .val (.int .i64 f.un), .val (.int .i64 f.de), .val (.int .i64 f.bo), .val (.int .i64 f.pd)], .one (.val (.int .i64 u))] (.tuple #[.agg #[.int .i64 (F.buy f u).id, .int .i64 (F.buy f u).fr, .int .i64 (F.buy f u).to, .int .i64 (F.buy f u).cl, .int .i64 (F.buy f u).pa, .int .i64 (F.buy f u).day, .int .i64 (F.buy f u).un, .int .i64 (F.buy f u).de, .int .i64 (F.buy f u).bo, .int .i64 (F.buy f u).pd], .int .i64 (F.less f u)]) := by
  have key : F.less f u = 0 → f.bo + u ≤ 1073741824 * 2 ∧ 0 ≤ f.bo + u := fun h => by have h1 := F.less_ok h; have := F.ok_bounds h1.1; omega
  refine V.Fn.mk_ V.Tok V.mixed Try.func9 rfl Try.ntmps9 (by kernel_rfl) rfl rfl ?_
  repeat' ((conv => whnf); first | refine V.NIf.not_ ?_ | refine V.NIf.dec_ ?_ | refine V.NIf.no (by omega) ?_ | refine V.NIf.yes (by omega) ?_ | refine V.NIf.mk (fun _ => ?_) (fun _ => ?_) | refine V.NWrap.ok (by omega) (by omega) ?_ | refine V.NLt.mk (by omega) ?_ | (first | refine V.Fn.k0 (v_less _ _) rfl ?_ | refine V.Fn.q0 (v_less _ _) rfl ?_) | fail)
  all_goals rename_i h
  · rw [F.buy_yes h, h]; exact (by repeat' (first | exact rfl | exact trivial | exact (fun _ _ => rfl) | exact (fun _ h => absurd h (Nat.not_lt_zero _)) | refine ⟨?_, ?_⟩ | exact Iff.rfl | exact congrArg (fun z => V.SV.one (V.At.val (Value.int .i64 z))) (by omega)))
  · rw [F.buy_no h]; exact (by repeat' (first | exact rfl | exact trivial | exact (fun _ _ => rfl) | exact (fun _ h => absurd h (Nat.not_lt_zero _)) | refine ⟨?_, ?_⟩ | exact Iff.rfl | exact congrArg (fun z => V.SV.one (V.At.val (Value.int .i64 z))) (by omega)))
theorem v_pay (f : Fl) : V.Fn Try.prog 10 [] [.agg [.val (.int .i64 f.id), .val (.int .i64 f.fr), .val (.int .i64 f.to), .val (.int .i64 f.cl), .val (.int .i64 f.pa), .val (.int .i64 f.day), .val (.int .i64 f.un), .val (.int .i64 f.de), .val (.int .i64 f.bo), .val (.int .i64 f.pd)]] (.tuple #[.agg #[.int .i64 (F.pay f).id, .int .i64 (F.pay f).fr, .int .i64 (F.pay f).to, .int .i64 (F.pay f).cl, .int .i64 (F.pay f).pa, .int .i64 (F.pay f).day, .int .i64 (F.pay f).un, .int .i64 (F.pay f).de, .int .i64 (F.pay f).bo, .int .i64 (F.pay f).pd], .int .i64 (F.paid f), .int .i64 (F.less f 1)]) := by
  have key : F.less f 1 = 0 → f.pd + F.left f ≤ 1073741824 * 2 ∧ 0 ≤ f.pd + F.left f := fun h => by have h1 := F.less_ok h; have := F.ok_bounds h1.1; omega
  refine V.Fn.mk_ V.Tok V.mixed Try.func10 rfl Try.ntmps10 (by kernel_rfl) rfl rfl ?_
  repeat' ((conv => whnf); first | refine V.NIf.not_ ?_ | refine V.NIf.dec_ ?_ | refine V.NIf.no (by omega) ?_ | refine V.NIf.yes (by omega) ?_ | refine V.NIf.mk (fun _ => ?_) (fun _ => ?_) | refine V.NWrap.ok (by omega) (by omega) ?_ | refine V.NLt.mk (by omega) ?_ | (first | refine V.Fn.k0 (v_less _ _) rfl ?_ | refine V.Fn.q0 (v_less _ _) rfl ?_) | (first | refine V.Fn.k0 (v_fleft f (F.less_ok (by assumption)).1) rfl ?_ | refine V.Fn.q0 (v_fleft f (F.less_ok (by assumption)).1) rfl ?_) | fail)
  all_goals rename_i h
  · rw [(F.pay_yes h).1, (F.pay_yes h).2, h]; exact (by repeat' (first | exact rfl | exact trivial | exact (fun _ _ => rfl) | exact (fun _ h => absurd h (Nat.not_lt_zero _)) | refine ⟨?_, ?_⟩ | exact Iff.rfl | exact congrArg (fun z => V.SV.one (V.At.val (Value.int .i64 z))) (by omega)))
  · rw [(F.pay_no h).1, (F.pay_no h).2]; exact (by repeat' (first | exact rfl | exact trivial | exact (fun _ _ => rfl) | exact (fun _ h => absurd h (Nat.not_lt_zero _)) | refine ⟨?_, ?_⟩ | exact Iff.rfl | exact congrArg (fun z => V.SV.one (V.At.val (Value.int .i64 z))) (by omega)))
theorem v_open (f : Fl) : V.Fn Try.prog 11 [] [.agg [.val (.int .i64 f.id), .val (.int .i64 f.fr), .val (.int .i64 f.to), .val (.int .i64 f.cl), .val (.int .i64 f.pa), .val (.int .i64 f.day), .val (.int .i64 f.un), .val (.int .i64 f.de), .val (.int .i64 f.bo), .val (.int .i64 f.pd)]] (.tuple #[.int .i64 (F.opn f), .int .i64 (F.chk f)]) := by
  refine V.Fn.mk_ V.Tok V.mixed Try.func11 rfl Try.ntmps11 (by kernel_rfl) rfl rfl ?_
  repeat' ((conv => whnf); first | refine V.NIf.not_ ?_ | refine V.NIf.dec_ ?_ | refine V.NIf.no (by omega) ?_ | refine V.NIf.yes (by omega) ?_ | refine V.NIf.mk (fun _ => ?_) (fun _ => ?_) | refine V.NWrap.ok (by omega) (by omega) ?_ | refine V.NLt.mk (by omega) ?_ | (first | refine V.Fn.k0 (v_fcheck _) rfl ?_ | refine V.Fn.q0 (v_fcheck _) rfl ?_) | (first | refine V.Fn.k0 (v_fleft f (F.chk_ok (by assumption))) rfl ?_ | refine V.Fn.q0 (v_fleft f (F.chk_ok (by assumption))) rfl ?_) | fail)
  all_goals rename_i h
  · rw [F.opn_yes h, h]; exact (by repeat' (first | exact rfl | exact trivial | exact (fun _ _ => rfl) | exact (fun _ h => absurd h (Nat.not_lt_zero _)) | refine ⟨?_, ?_⟩ | exact Iff.rfl | exact congrArg (fun z => V.SV.one (V.At.val (Value.int .i64 z))) (by omega)))
  · rw [F.opn_no h]; exact (by repeat' (first | exact rfl | exact trivial | exact (fun _ _ => rfl) | exact (fun _ h => absurd h (Nat.not_lt_zero _)) | refine ⟨?_, ?_⟩ | exact Iff.rfl | exact congrArg (fun z => V.SV.one (V.At.val (Value.int .i64 z))) (by omega)))
end Go.Proofs.Ytblibhmmliljgaa
