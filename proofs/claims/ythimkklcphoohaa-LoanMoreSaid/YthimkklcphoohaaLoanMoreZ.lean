/- The statement of LoanMore: the call returns true for every input, and its input reads as it did. No condition. -/
import Derived.Test.YthimkklcphoohaaRows
import Derived.WalkKit
import Derived.ProofKit
import Derived.OpenShut
import Derived.Test.YthimkklcphoohaaZ1
import Derived.Test.YthimkklcphoohaaZ2
import Derived.Test.YthimkklcphoohaaZ3
import Derived.Test.YthimkklcphoohaaZ4
import Derived.Test.YthimkklcphoohaaZ5
import Derived.Test.YthimkklcphoohaaZ6

/- What LoanMore answers: true. -/
namespace Go.Proofs.Ythimkklcphoohaa
open Go Go.RowKit V
set_option maxRecDepth 100000
set_option linter.unusedVariables false
set_option linter.unusedSimpArgs false
theorem O.err_long {l : List Of} {m : Int} (h : 40 < l.length) : O.err l m = 2 := by
  unfold O.err
  rw [O.chk_1 h]
  rfl
set_option maxHeartbeats 4000000 in
theorem v_loanMore (l : List Of) (wl : ∀ f ∈ l, WfOf f) (o : Of) (wo : WfOf o) (units : Int) (w_units : (Lit.int .i64 units).wf = true) : V.Fn Try.prog 7 [.arr 3 l.length (ga encO l)] [.one (.ref 0), .agg [.val (.int .i64 o.pt), .val (.int .i64 o.un), .val (.int .i64 o.pr)], .one (.val (.int .i64 units))] (.bool true) := by
  clear wl wo w_units
  refine V.Fn.lim (by kernel_rfl) fun hl => ?_
  have hn : l.length ≤ 9223372036854775807 := by have := hl 0 _ _ _ rfl; omega
  clear hl
  have c1 := v_lnBest l units hn
  by_cases h : O.err l units = 0
  · obtain ⟨ok, b, c, z⟩ := O.err_0 h
    have le := ok.le
    have e3_ : O.bC l units = O.cost l units := if_pos h
    have lx : (l ++ [o]).length = l.length + 1 := by simp
    have c3 := v_lnBest (l ++ [o]) units (by omega)
    have c4 := v_lnBest l (units + 1) hn
    have f3 : O.err (l ++ [o]) units = 0 → O.bC (l ++ [o]) units ≤ O.cost l units + l.length := fun q => by
      rw [show O.bC (l ++ [o]) units = O.cost (l ++ [o]) units from if_pos q]
      exact O.cost_app ok (O.err_0 q).1 b.1 c
    have f4 : O.err l (units + 1) = 0 → O.cost l units ≤ O.bC l (units + 1) := fun q => by
      rw [show O.bC l (units + 1) = O.cost l (units + 1) from if_pos q]
      exact O.cost_more (by omega) ok
    have cb := O.cost_bd ok units
    rw [e3_, h] at c1
    clear e3_ h
    generalize O.bL l units = B1 at *
    generalize O.cost l units = C1 at *
    generalize O.bL (l ++ [o]) units = B2 at *
    generalize O.bC (l ++ [o]) units = C2 at *
    generalize O.err (l ++ [o]) units = E2 at *
    generalize O.bL l (units + 1) = B3 at *
    generalize O.bC l (units + 1) = C3 at *
    generalize O.err l (units + 1) = E3 at *
    refine V.Fn.mk_ V.Tok V.mixed Try.func7 rfl Try.ntmps7 (by kernel_rfl) rfl rfl ?_
    repeat' ((conv => whnf); first | (refine V.NIf.yes ?_ ?_; · (decide; done)) | (refine V.NIf.no ?_ ?_; · (decide; done)) | (refine NOne.mk ?_ ?_; · (intro k hk; rfl)) | (refine NApp.all_ (en := encO) (m := l) (by first | omega | (simp; omega)) (by omega) ?_) | (refine NApp.one (en := encO) (l := l) (x := o) (by first | omega | (simp; omega)) (by first | omega | (simp; omega)) ?_) | refine V.NCond.mk ?_ | refine V.NIf.not_ ?_ | refine V.NIf.dec_ ?_ | refine V.NIf.no (by omega) ?_ | refine V.NIf.yes (by omega) ?_ | refine V.NIf.mk (fun _ => ?_) (fun _ => ?_) | refine V.NWrap.ok (by omega) (by omega) ?_ | refine V.NWrap.u64 (by omega) (by omega) ?_ | refine V.NLt.mk (by omega) ?_ | refine V.NBoth.mk ?_ ?_ | refine V.NTF.yes (by omega) ?_ | refine V.NTF.no (by omega) ?_ | refine V.NTF.dec ?_ | refine V.NDraw.q (by exact rfl) (by kernel_rfl) ?_ | refine V.NApp.one (by first | omega | (simp; omega)) (by first | omega | (simp; omega)) ?_ | (first | refine V.Fn.k0 (v_lnBegun) rfl ?_ | refine V.Fn.q0 (v_lnBegun) rfl ?_ | refine V.Fn.a0 (v_lnBegun) rfl ?_) | ((first | refine V.FnR.k_ (c1) [0] rfl ?_ ?_ | refine V.FnR.a_ (c1) [0] rfl ?_ ?_); · ((repeat' (first | exact rfl | exact Iff.rfl | exact trivial | exact (fun _ _ => rfl) | exact (fun _ h => absurd h (Nat.not_lt_zero _)) | refine ⟨?_, ?_⟩ | exact Iff.rfl | exact congrArg (fun z => V.SV.one (V.At.val (Value.int .i64 z))) (by omega))); done)) | ((first | (first | refine V.FnR.k_ (c3) [6] rfl ?_ ?_ | refine V.FnR.a_ (c3) [6] rfl ?_ ?_); · ((repeat' (first | exact rfl | exact Iff.rfl | exact trivial | exact (fun _ _ => rfl) | exact (fun _ h => absurd h (Nat.not_lt_zero _)) | refine ⟨?_, ?_⟩ | exact Iff.rfl | exact congrArg (fun z => V.SV.one (V.At.val (Value.int .i64 z))) (by omega))); done) | (first | refine V.FnR.k_ (c3) [5] rfl ?_ ?_ | refine V.FnR.a_ (c3) [5] rfl ?_ ?_); · ((repeat' (first | exact rfl | exact Iff.rfl | exact trivial | exact (fun _ _ => rfl) | exact (fun _ h => absurd h (Nat.not_lt_zero _)) | refine ⟨?_, ?_⟩ | exact Iff.rfl | exact congrArg (fun z => V.SV.one (V.At.val (Value.int .i64 z))) (by omega))); done) | (first | refine V.FnR.k_ (c3) [4] rfl ?_ ?_ | refine V.FnR.a_ (c3) [4] rfl ?_ ?_); · ((repeat' (first | exact rfl | exact Iff.rfl | exact trivial | exact (fun _ _ => rfl) | exact (fun _ h => absurd h (Nat.not_lt_zero _)) | refine ⟨?_, ?_⟩ | exact Iff.rfl | exact congrArg (fun z => V.SV.one (V.At.val (Value.int .i64 z))) (by omega))); done) | (first | refine V.FnR.k_ (c3) [7] rfl ?_ ?_ | refine V.FnR.a_ (c3) [7] rfl ?_ ?_); · ((repeat' (first | exact rfl | exact Iff.rfl | exact trivial | exact (fun _ _ => rfl) | exact (fun _ h => absurd h (Nat.not_lt_zero _)) | refine ⟨?_, ?_⟩ | exact Iff.rfl | exact congrArg (fun z => V.SV.one (V.At.val (Value.int .i64 z))) (by omega))); done))) | ((first | refine V.FnR.k_ (c4) [0] rfl ?_ ?_ | refine V.FnR.a_ (c4) [0] rfl ?_ ?_); · ((repeat' (first | exact rfl | exact Iff.rfl | exact trivial | exact (fun _ _ => rfl) | exact (fun _ h => absurd h (Nat.not_lt_zero _)) | refine ⟨?_, ?_⟩ | exact Iff.rfl | exact congrArg (fun z => V.SV.one (V.At.val (Value.int .i64 z))) (by omega))); done)) | (refine V.NDraw.any (by kernel_rfl) ?_) | fail)
    all_goals (conv => whnf)
    all_goals first
      | rfl
      | exact ⟨true, rfl, iff_of_true rfl rfl⟩
      | (first | exact ⟨_, rfl, iff_of_true (by omega) rfl⟩ | (exfalso; omega) | exact ⟨_, rfl, by simp; omega⟩ | exact ⟨_, rfl, by simp⟩)
      | trace_state
  · have e3_ : O.bC l units = 0 := if_neg h
    rw [e3_] at c1
    generalize O.err l units = E at *
    generalize O.bL l units = B at *
    refine V.Fn.mk_ V.Tok V.mixed Try.func7 rfl Try.ntmps7 (by kernel_rfl) rfl rfl ?_
    repeat' ((conv => whnf); first | (refine V.NIf.yes ?_ ?_; · (decide; done)) | (refine V.NIf.no ?_ ?_; · (decide; done)) | refine V.NCond.mk ?_ | refine V.NIf.not_ ?_ | refine V.NIf.dec_ ?_ | refine V.NIf.no (by omega) ?_ | refine V.NIf.yes (by omega) ?_ | refine V.NIf.mk (fun _ => ?_) (fun _ => ?_) | refine V.NWrap.ok (by omega) (by omega) ?_ | refine V.NWrap.u64 (by omega) (by omega) ?_ | refine V.NLt.mk (by omega) ?_ | refine V.NBoth.mk ?_ ?_ | refine V.NTF.yes (by omega) ?_ | refine V.NTF.no (by omega) ?_ | refine V.NTF.dec ?_ | refine V.NDraw.q (by exact rfl) (by kernel_rfl) ?_ | refine V.NApp.one (by first | omega | (simp; omega)) (by first | omega | (simp; omega)) ?_ | (first | refine V.Fn.k0 (v_lnBegun) rfl ?_ | refine V.Fn.q0 (v_lnBegun) rfl ?_ | refine V.Fn.a0 (v_lnBegun) rfl ?_) | ((first | refine V.FnR.k_ (c1) [0] rfl ?_ ?_ | refine V.FnR.a_ (c1) [0] rfl ?_ ?_); · ((repeat' (first | exact rfl | exact Iff.rfl | exact trivial | exact (fun _ _ => rfl) | exact (fun _ h => absurd h (Nat.not_lt_zero _)) | refine ⟨?_, ?_⟩ | exact Iff.rfl | exact congrArg (fun z => V.SV.one (V.At.val (Value.int .i64 z))) (by omega))); done)) | (refine V.NDraw.any (by kernel_rfl) ?_) | fail)
    all_goals (conv => whnf)
    all_goals first
      | exact ⟨true, rfl, iff_of_true rfl rfl⟩
      | rfl
      | (first | exact ⟨_, rfl, iff_of_true (by omega) rfl⟩ | (exfalso; omega) | exact ⟨_, rfl, by simp; omega⟩ | exact ⟨_, rfl, by simp⟩)
      | trace_state
end Go.Proofs.Ythimkklcphoohaa

/- The statement of LoanMore: for every input the call returns true and its input reads as it did. No condition. -/
namespace Go.Proofs.Ythimkklcphoohaa.loanMore
open Go.ChangeShapes Go.WideShapes Go.ChangeAt Go.RowKit

theorem own : ownKnob Try.prog.godebug = none := by kernel_rfl

set_option maxRecDepth 100000 in
theorem lifted (os : Os) (started : os.Started) (H : Type) (enc : TypeId × Value → H) :
    ReturnsInHanded {} Try.checked os 7 .any (Rows.loanMoreSpec.pre6 enc Try.prog Try.f7 Rows.loanMoreRow.domain false) (Rows.loanMoreSpec.post enc Try.prog Try.f7 false true false false) := by
  refine returnsInHanded_of_change (C := Try.checked) own started (by kernel_rfl) Try.func7
    (ChangeSpec.witness6 (enc := enc) (C := Try.checked) false ⟨#[], #[.slice none 0 0, .agg #[.int .i64 0, .int .i64 0, .int .i64 0], .int .i64 0], []⟩ 8 (by kernel_rfl) (by kernel_rfl) (by kernel_rfl) (by kernel_rfl)) ?_
  intro W base args ds gs before hval0 hW _ _
  have hval : ∀ (j : Nat) t v, Try.f7.params[j]? = some t → args[j]? = some v → Value.okWide Try.prog W .any base t v := hval0
  have hW' := hW
  obtain ⟨p, q, hA0, hV, rfl, hfz, hnd⟩ := hW
  have hA : DataW.TrodAll enc Try.prog W 0 (fun _ => true) true Try.f7.params.toList args.toList ds p := hA0
  rw [Try.params7] at hA hval
  obtain ⟨v0, vs0, d0, ds0, p0, q0, hargs, rfl, rfl, h0, r0⟩ := trodAll_cons hA
  obtain ⟨v1, vs1, d1, ds1, p1, q1, rfl, rfl, rfl, h1, r1⟩ := trodAll_cons r0
  obtain ⟨v2, vs2, d2, ds2, p2, q2, rfl, rfl, rfl, h2, r2⟩ := trodAll_cons r1
  obtain ⟨rfl, rfl, rfl⟩ := trodAll_nil r2
  obtain rfl : args = #[v0, v1, v2] := by cases args; simp_all
  obtain ⟨rfl, rfl⟩ := trodVars_none hV
  obtain ⟨l0, hl0, w0⟩ := open_ofs Try.underlying22 (hval 0 22 v0 rfl rfl) h0
  obtain ⟨f1, rfl, w1⟩ := open_of (hval 1 41 v1 rfl rfl) h1
  obtain ⟨a2, rfl, rfl, rfl, w2⟩ := open_int Try.underlying3 (hval 2 3 v2 rfl rfl) h2
  clear hval0
  simp only [List.append_nil] at hW'
  refine ((v_loanMore l0 w0 f1 w1 a2 w2).c W (fun i => [v0][i]?) [_, _, _] (fun i o ho => by
      rcases i with _ | i
      · obtain rfl := Option.some.inj ho
        exact ⟨v0, rfl, hl0⟩
      simp at ho
) ⟨_, _, rfl, ⟨rfl, hl0.one⟩, ⟨_, _, rfl, ⟨_, V.Ats.vals _ [_, _, _], rfl⟩, ⟨_, _, rfl, rfl, rfl⟩⟩⟩).mono fun e W' ⟨he, hg⟩ => ?_
  subst he
  exact ⟨_, rfl, post_of_below (pa := _) (pv := []) hW' (fun _ _ _ => (trodAll_cons_mk (shut_bool Try.underlying4 _) trodAll_mk0)) (fun sp hsp => all_stays laidOut (by kernel_rfl) hA0 (fun x hx => hg.same (hW'.lt x (by revert hx; simp))) (fun x hx => hsp x (by revert hx; simp))) (fun _ _ => rfl) (by simp)
    hg (ok_one (by kernel_rfl) rfl (okWide_bool_mk Try.underlying4 _))⟩

theorem over : Rows.loanMoreRow.holds Try.pinned (OpenSpec.ofChange Rows.loanMoreSpec) :=
  OpenClaim.holds_of_wide 7 Try.f7 rfl rfl rfl rfl rfl rfl rfl ⟨rfl, rfl, rfl, rfl, rfl⟩ rfl rfl rfl rfl rfl (by kernel_rfl) Try.func7 (by kernel_rfl)
    (of_decide_eq_true (by kernel_rfl)) (by unfold Func.isWrapper; first | (rw [if_pos (by decide +kernel)]; kernel_rfl) | (rw [if_neg (by decide +kernel)]; exact ⟨rfl, rfl⟩))
    (fun os started H enc _ => lifted os started H enc)

theorem proved : Rows.LoanMoreSaid :=
  over
end Go.Proofs.Ythimkklcphoohaa.loanMore
