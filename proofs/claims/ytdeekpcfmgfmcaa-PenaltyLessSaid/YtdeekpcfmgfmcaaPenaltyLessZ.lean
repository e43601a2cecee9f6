/- The statement of PenaltyLess: the call returns true for every input, and its input reads as it did. No condition. -/
import Derived.Test.YtdeekpcfmgfmcaaRows
import Derived.WalkKit
import Derived.ProofKit
import Derived.OpenShut
import Derived.Test.YtdeekpcfmgfmcaaZ1
import Derived.Test.YtdeekpcfmgfmcaaZ2
import Derived.Test.YtdeekpcfmgfmcaaZ3
import Derived.Test.YtdeekpcfmgfmcaaZ4
import Derived.Test.YtdeekpcfmgfmcaaZ5
import Derived.Test.YtdeekpcfmgfmcaaZ6

/- What PenaltyLess answers: true. -/
namespace Go.Proofs.Ytdeekpcfmgfmcaa
open Go Go.RowKit V
set_option maxRecDepth 100000
set_option linter.unusedVariables false
set_option linter.unusedSimpArgs false
set_option maxHeartbeats 4000000 in
theorem v_penaltyLess (c : Cl) (wc : WfCl c) (t : List Tm) (wt : ∀ f ∈ t, WfTm f) (f : Fl) (wf : WfF f) (ps : List Int) (wp : ∀ f ∈ ps, (Lit.int .i64 f).wf = true) (today : Int) (w_today : (Lit.int .i64 today).wf = true) (units : Int) (w_units : (Lit.int .i64 units).wf = true) : V.Fn Try.prog 7 [.arr 1 c.hs.length (ga e1 c.hs), .arr 4 t.length (ga encTm t), .arr 1 ps.length (ga e1 ps)] [.agg [.val (.int .i64 c.we), .ref 0], .one (.ref 1), .agg [.val (.int .i64 f.id), .val (.int .i64 f.fr), .val (.int .i64 f.to), .val (.int .i64 f.cl), .val (.int .i64 f.pa), .val (.int .i64 f.day), .val (.int .i64 f.un), .val (.int .i64 f.de), .val (.int .i64 f.bo), .val (.int .i64 f.pd)], .one (.ref 2), .one (.val (.int .i64 today)), .one (.val (.int .i64 units))] (.bool true) := by
  refine V.Fn.lim (by kernel_rfl) fun hl => ?_
  have hc := hl 0 _ _ _ rfl
  have ht := hl 1 _ _ _ rfl
  have hp := hl 2 _ _ _ rfl
  clear hl wc wt wf wp w_today w_units
  have c1 := v_day c t [f] ps today hc ht hp
  have c2 := v_deliver f units
  by_cases h : Pn.yD c t [f] ps today = 0
  · by_cases g : F.less f units = 0
    · obtain ⟨b1, b2, b3, b4⟩ := Pn.less_is h g
      have c3 := v_day c t [F.addDe f units] ps today hc ht hp
      have c4 := v_open (F.addDe f units)
      rw [F.deliver_yes g, g] at c2
      rw [F.opn_yes b2, b2] at c4
      rw [b1] at c3
      rw [h] at c1
      have e1 : (F.addDe f units).fr = f.fr := rfl
      have e2 : (F.addDe f units).to = f.to := rfl
      rcases b4 with b4 | ⟨q, r, b4, b5, b6⟩
      · rw [b4] at c3
        clear b1 b2 b3 b4 h g
        generalize Pn.yL c t [f] ps today = D at *
        generalize F.addDe f units = p at *
        generalize F.left p = L at *
        refine V.Fn.mk_ V.Tok V.mixed Try.func7 rfl Try.ntmps7 (by kernel_rfl) rfl rfl ?_
        repeat' ((conv => whnf); first | (refine V.NIf.yes ?_ ?_; · (decide; done)) | (refine V.NIf.no ?_ ?_; · (decide; done)) | (refine V.NIf.yes ?_ ?_; · (exact rfl; done)) | (refine V.NIf.yes ?_ ?_; · (simp only [true_and, and_true, and_self]; done)) | refine V.NCond.mk ?_ | refine V.NIf.not_ ?_ | refine V.NIf.dec_ ?_ | refine V.NIf.no (by omega) ?_ | refine V.NIf.yes (by omega) ?_ | refine V.NIf.mk (fun _ => ?_) (fun _ => ?_) | refine V.NWrap.ok (by omega) (by omega) ?_ | refine V.NWrap.u64 (by omega) (by omega) ?_ | refine V.NLt.mk (by omega) ?_ | refine V.NBoth.mk ?_ ?_ | refine V.NTF.yes (by omega) ?_ | refine V.NTF.no (by omega) ?_ | refine V.NTF.dec ?_ | refine V.NDraw.q (by exact rfl) (by kernel_rfl) ?_ | refine V.NApp.one (by first | omega | (simp; omega)) (by first | omega | (simp; omega)) ?_ | (first | refine V.Fn.k0 (c2) rfl ?_ | refine V.Fn.q0 (c2) rfl ?_ | refine V.Fn.a0 (c2) rfl ?_) | (first | refine V.Fn.k0 (c4) rfl ?_ | refine V.Fn.q0 (c4) rfl ?_ | refine V.Fn.a0 (c4) rfl ?_) | (first | refine V.Fn.k0 (v_penBegun) rfl ?_ | refine V.Fn.q0 (v_penBegun) rfl ?_ | refine V.Fn.a0 (v_penBegun) rfl ?_) | (first | refine V.Fn.k0 (v_fbegun) rfl ?_ | refine V.Fn.q0 (v_fbegun) rfl ?_ | refine V.Fn.a0 (v_fbegun) rfl ?_) | ((first | refine V.FnR.k_ (c1) [0, 1, 5, 2] rfl ?_ ?_ | refine V.FnR.a_ (c1) [0, 1, 5, 2] rfl ?_ ?_); · ((repeat' (first | exact rfl | exact Iff.rfl | exact trivial | exact (fun _ _ => rfl) | exact (fun _ h => absurd h (Nat.not_lt_zero _)) | refine ⟨?_, ?_⟩ | exact Iff.rfl | exact congrArg (fun z => V.SV.one (V.At.val (Value.int .i64 z))) (by omega))); done)) | ((first | refine V.FnR.k_ (c3) [0, 1, 8, 2] rfl ?_ ?_ | refine V.FnR.a_ (c3) [0, 1, 8, 2] rfl ?_ ?_); · ((repeat' (first | exact rfl | exact Iff.rfl | exact trivial | exact (fun _ _ => rfl) | exact (fun _ h => absurd h (Nat.not_lt_zero _)) | refine ⟨?_, ?_⟩ | exact Iff.rfl | exact congrArg (fun z => V.SV.one (V.At.val (Value.int .i64 z))) (by omega))); done)) | (refine V.NDraw.any (by kernel_rfl) ?_) | fail)
        all_goals (conv => whnf)
        all_goals first
          | (first | exact ⟨_, rfl, iff_of_true (by omega) rfl⟩ | (exfalso; omega) | exact ⟨_, rfl, by simp; omega⟩ | exact ⟨_, rfl, by simp⟩)
          | (exfalso; simp only [List.length_nil, List.length_cons] at *; omega)
          | exact absurd rfl (by assumption)
          | trace_state
      · rw [b4] at c3 b3
        rw [b5] at c1
        have b3 : F.left (F.addDe f units) ≠ 0 := fun z => by have := b3 z; cases this
        clear b1 b2 b4 b5 h g
        generalize F.addDe f units = p at *
        generalize F.left p = L at *
        refine V.Fn.mk_ V.Tok V.mixed Try.func7 rfl Try.ntmps7 (by kernel_rfl) rfl rfl ?_
        repeat' ((conv => whnf); first | (refine V.NIf.yes ?_ ?_; · (decide; done)) | (refine V.NIf.no ?_ ?_; · (decide; done)) | (refine V.NIf.yes ?_ ?_; · (exact rfl; done)) | (refine V.NIf.yes ?_ ?_; · (simp only [true_and, and_true, and_self]; done)) | refine V.NCond.mk ?_ | refine V.NIf.not_ ?_ | refine V.NIf.dec_ ?_ | refine V.NIf.no (by omega) ?_ | refine V.NIf.yes (by omega) ?_ | refine V.NIf.mk (fun _ => ?_) (fun _ => ?_) | refine V.NWrap.ok (by omega) (by omega) ?_ | refine V.NWrap.u64 (by omega) (by omega) ?_ | refine V.NLt.mk (by omega) ?_ | refine V.NBoth.mk ?_ ?_ | refine V.NTF.yes (by omega) ?_ | refine V.NTF.no (by omega) ?_ | refine V.NTF.dec ?_ | refine V.NDraw.q (by exact rfl) (by kernel_rfl) ?_ | refine V.NApp.one (by first | omega | (simp; omega)) (by first | omega | (simp; omega)) ?_ | (first | refine V.Fn.k0 (c2) rfl ?_ | refine V.Fn.q0 (c2) rfl ?_ | refine V.Fn.a0 (c2) rfl ?_) | (first | refine V.Fn.k0 (c4) rfl ?_ | refine V.Fn.q0 (c4) rfl ?_ | refine V.Fn.a0 (c4) rfl ?_) | (first | refine V.Fn.k0 (v_penBegun) rfl ?_ | refine V.Fn.q0 (v_penBegun) rfl ?_ | refine V.Fn.a0 (v_penBegun) rfl ?_) | (first | refine V.Fn.k0 (v_fbegun) rfl ?_ | refine V.Fn.q0 (v_fbegun) rfl ?_ | refine V.Fn.a0 (v_fbegun) rfl ?_) | ((first | refine V.FnR.k_ (c1) [0, 1, 5, 2] rfl ?_ ?_ | refine V.FnR.a_ (c1) [0, 1, 5, 2] rfl ?_ ?_); · ((repeat' (first | exact rfl | exact Iff.rfl | exact trivial | exact (fun _ _ => rfl) | exact (fun _ h => absurd h (Nat.not_lt_zero _)) | refine ⟨?_, ?_⟩ | exact Iff.rfl | exact congrArg (fun z => V.SV.one (V.At.val (Value.int .i64 z))) (by omega))); done)) | ((first | refine V.FnR.k_ (c3) [0, 1, 8, 2] rfl ?_ ?_ | refine V.FnR.a_ (c3) [0, 1, 8, 2] rfl ?_ ?_); · ((repeat' (first | exact rfl | exact Iff.rfl | exact trivial | exact (fun _ _ => rfl) | exact (fun _ h => absurd h (Nat.not_lt_zero _)) | refine ⟨?_, ?_⟩ | exact Iff.rfl | exact congrArg (fun z => V.SV.one (V.At.val (Value.int .i64 z))) (by omega))); done)) | (refine NIdx.mk ⟨0, rfl, Nat.zero_lt_succ _, ?_⟩) | (refine V.NDraw.any (by kernel_rfl) ?_) | fail)
        all_goals (conv => whnf)
        all_goals first
          | (first | exact ⟨_, rfl, iff_of_true (by omega) rfl⟩ | (exfalso; omega) | exact ⟨_, rfl, by simp; omega⟩ | exact ⟨_, rfl, by simp⟩)
          | (exfalso; simp only [List.length_nil, List.length_cons] at *; omega)
          | exact absurd rfl (by assumption)
          | trace_state
    · generalize F.deliver f units = p at *
      generalize F.less f units = E at *
      rw [h] at c1
      generalize Pn.yL c t [f] ps today = D at *
      refine V.Fn.mk_ V.Tok V.mixed Try.func7 rfl Try.ntmps7 (by kernel_rfl) rfl rfl ?_
      repeat' ((conv => whnf); first | (refine V.NIf.yes ?_ ?_; · (decide; done)) | (refine V.NIf.no ?_ ?_; · (decide; done)) | (refine V.NIf.yes ?_ ?_; · (simp only [true_and, and_true, and_self]; done)) | refine V.NCond.mk ?_ | refine V.NIf.not_ ?_ | refine V.NIf.dec_ ?_ | refine V.NIf.no (by omega) ?_ | refine V.NIf.yes (by omega) ?_ | refine V.NIf.mk (fun _ => ?_) (fun _ => ?_) | refine V.NWrap.ok (by omega) (by omega) ?_ | refine V.NWrap.u64 (by omega) (by omega) ?_ | refine V.NLt.mk (by omega) ?_ | refine V.NBoth.mk ?_ ?_ | refine V.NTF.yes (by omega) ?_ | refine V.NTF.no (by omega) ?_ | refine V.NTF.dec ?_ | refine V.NDraw.q (by exact rfl) (by kernel_rfl) ?_ | refine V.NApp.one (by first | omega | (simp; omega)) (by first | omega | (simp; omega)) ?_ | (first | refine V.Fn.k0 (c2) rfl ?_ | refine V.Fn.q0 (c2) rfl ?_ | refine V.Fn.a0 (c2) rfl ?_) | (first | refine V.Fn.k0 (v_penBegun) rfl ?_ | refine V.Fn.q0 (v_penBegun) rfl ?_ | refine V.Fn.a0 (v_penBegun) rfl ?_) | (first | refine V.Fn.k0 (v_fbegun) rfl ?_ | refine V.Fn.q0 (v_fbegun) rfl ?_ | refine V.Fn.a0 (v_fbegun) rfl ?_) | ((first | refine V.FnR.k_ (c1) [0, 1, 5, 2] rfl ?_ ?_ | refine V.FnR.a_ (c1) [0, 1, 5, 2] rfl ?_ ?_); · ((repeat' (first | exact rfl | exact Iff.rfl | exact trivial | exact (fun _ _ => rfl) | exact (fun _ h => absurd h (Nat.not_lt_zero _)) | refine ⟨?_, ?_⟩ | exact Iff.rfl | exact congrArg (fun z => V.SV.one (V.At.val (Value.int .i64 z))) (by omega))); done)) | (refine V.NDraw.any (by kernel_rfl) ?_) | fail)
      all_goals (conv => whnf)
      all_goals first
        | (first | exact ⟨_, rfl, iff_of_true (by omega) rfl⟩ | (exfalso; omega) | exact ⟨_, rfl, by simp; omega⟩ | exact ⟨_, rfl, by simp⟩)
          | (exfalso; simp only [List.length_nil, List.length_cons] at *; omega)
        | trace_state
  · rw [show Pn.yL c t [f] ps today = [] from if_neg h] at c1
    generalize F.deliver f units = p at *
    generalize F.less f units = E at *
    generalize Pn.yD c t [f] ps today = G at *
    refine V.Fn.mk_ V.Tok V.mixed Try.func7 rfl Try.ntmps7 (by kernel_rfl) rfl rfl ?_
    repeat' ((conv => whnf); first | (refine V.NIf.yes ?_ ?_; · (decide; done)) | (refine V.NIf.no ?_ ?_; · (decide; done)) | (refine V.NIf.yes ?_ ?_; · (simp only [true_and, and_true, and_self]; done)) | refine V.NCond.mk ?_ | refine V.NIf.not_ ?_ | refine V.NIf.dec_ ?_ | refine V.NIf.no (by omega) ?_ | refine V.NIf.yes (by omega) ?_ | refine V.NIf.mk (fun _ => ?_) (fun _ => ?_) | refine V.NWrap.ok (by omega) (by omega) ?_ | refine V.NWrap.u64 (by omega) (by omega) ?_ | refine V.NLt.mk (by omega) ?_ | refine V.NBoth.mk ?_ ?_ | refine V.NTF.yes (by omega) ?_ | refine V.NTF.no (by omega) ?_ | refine V.NTF.dec ?_ | refine V.NDraw.q (by exact rfl) (by kernel_rfl) ?_ | refine V.NApp.one (by first | omega | (simp; omega)) (by first | omega | (simp; omega)) ?_ | (first | refine V.Fn.k0 (c2) rfl ?_ | refine V.Fn.q0 (c2) rfl ?_ | refine V.Fn.a0 (c2) rfl ?_) | (first | refine V.Fn.k0 (v_penBegun) rfl ?_ | refine V.Fn.q0 (v_penBegun) rfl ?_ | refine V.Fn.a0 (v_penBegun) rfl ?_) | (first | refine V.Fn.k0 (v_fbegun) rfl ?_ | refine V.Fn.q0 (v_fbegun) rfl ?_ | refine V.Fn.a0 (v_fbegun) rfl ?_) | ((first | refine V.FnR.k_ (c1) [0, 1, 5, 2] rfl ?_ ?_ | refine V.FnR.a_ (c1) [0, 1, 5, 2] rfl ?_ ?_); · ((repeat' (first | exact rfl | exact Iff.rfl | exact trivial | exact (fun _ _ => rfl) | exact (fun _ h => absurd h (Nat.not_lt_zero _)) | refine ⟨?_, ?_⟩ | exact Iff.rfl | exact congrArg (fun z => V.SV.one (V.At.val (Value.int .i64 z))) (by omega))); done)) | (refine V.NDraw.any (by kernel_rfl) ?_) | fail)
    all_goals (conv => whnf)
    all_goals first
      | (first | exact ⟨_, rfl, iff_of_true (by omega) rfl⟩ | (exfalso; omega) | exact ⟨_, rfl, by simp; omega⟩ | exact ⟨_, rfl, by simp⟩)
          | (exfalso; simp only [List.length_nil, List.length_cons] at *; omega)
      | trace_state
end Go.Proofs.Ytdeekpcfmgfmcaa

/- The statement of PenaltyLess: for every input the call returns true and its input reads as it did. No condition. -/
namespace Go.Proofs.Ytdeekpcfmgfmcaa.penaltyLess
open Go.ChangeShapes Go.WideShapes Go.ChangeAt Go.RowKit

theorem own : ownKnob Try.prog.godebug = none := by kernel_rfl

set_option maxRecDepth 100000 in
theorem lifted (os : Os) (started : os.Started) (H : Type) (enc : TypeId × Value → H) :
    ReturnsInHanded {} Try.checked os 7 .any (Rows.penaltyLessSpec.pre6 enc Try.prog Try.f7 Rows.penaltyLessRow.domain false) (Rows.penaltyLessSpec.post enc Try.prog Try.f7 false true false false) := by
  refine returnsInHanded_of_change (C := Try.checked) own started (by kernel_rfl) Try.func7
    (ChangeSpec.witness6 (enc := enc) (C := Try.checked) false ⟨#[], #[.agg #[.int .i64 0, .slice none 0 0], .slice none 0 0, .agg #[.int .i64 0, .int .i64 0, .int .i64 0, .int .i64 0, .int .i64 0, .int .i64 0, .int .i64 0, .int .i64 0, .int .i64 0, .int .i64 0], .slice none 0 0, .int .i64 0, .int .i64 0], []⟩ 8 (by kernel_rfl) (by kernel_rfl) (by kernel_rfl) (by kernel_rfl)) ?_
  intro W base args ds gs before hval0 hW _ _
  have hval : ∀ (j : Nat) t v, Try.f7.params[j]? = some t → args[j]? = some v → Value.okWide Try.prog W .any base t v := hval0
  have hW' := hW
  obtain ⟨p, q, hA0, hV, rfl, hfz, hnd⟩ := hW
  have hA : DataW.TrodAll enc Try.prog W 0 (fun _ => true) true Try.f7.params.toList args.toList ds p := hA0
  rw [Try.params7] at hA hval
  obtain ⟨v0, vs0, d0, ds0, p0, q0, hargs, rfl, rfl, h0, r0⟩ := trodAll_cons hA
  obtain ⟨v1, vs1, d1, ds1, p1, q1, rfl, rfl, rfl, h1, r1⟩ := trodAll_cons r0
  obtain ⟨v2, vs2, d2, ds2, p2, q2, rfl, rfl, rfl, h2, r2⟩ := trodAll_cons r1
  obtain ⟨v3, vs3, d3, ds3, p3, q3, rfl, rfl, rfl, h3, r3⟩ := trodAll_cons r2
  obtain ⟨v4, vs4, d4, ds4, p4, q4, rfl, rfl, rfl, h4, r4⟩ := trodAll_cons r3
  obtain ⟨v5, vs5, d5, ds5, p5, q5, rfl, rfl, rfl, h5, r5⟩ := trodAll_cons r4
  obtain ⟨rfl, rfl, rfl⟩ := trodAll_nil r5
  obtain rfl : args = #[v0, v1, v2, v3, v4, v5] := by cases args; simp_all
  obtain ⟨rfl, rfl⟩ := trodVars_none hV
  obtain ⟨c0, u0, rfl, hl0, w0⟩ := open_cl (hval 0 24 v0 rfl rfl) h0
  obtain ⟨l1, hl1, w1⟩ := open_tms Try.underlying25 (hval 1 25 v1 rfl rfl) h1
  obtain ⟨f2, rfl, w2⟩ := open_fl (hval 2 43 v2 rfl rfl) h2
  obtain ⟨l3, hl3, w3⟩ := open_il (hval 3 22 v3 rfl rfl) h3
  obtain ⟨a4, rfl, rfl, rfl, w4⟩ := open_int Try.underlying3 (hval 4 3 v4 rfl rfl) h4
  obtain ⟨a5, rfl, rfl, rfl, w5⟩ := open_int Try.underlying3 (hval 5 3 v5 rfl rfl) h5
  clear hval0
  simp only [List.append_nil] at hW'
  refine ((v_penaltyLess c0 w0 l1 w1 f2 w2 l3 w3 a4 w4 a5 w5).c W (fun i => [u0, v1, v3][i]?) [_, _, _, _, _, _] (fun i o ho => by
      rcases i with _ | i
      · obtain rfl := Option.some.inj ho
        exact ⟨u0, rfl, hl0⟩
      rcases i with _ | i
      · obtain rfl := Option.some.inj ho
        exact ⟨v1, rfl, hl1⟩
      rcases i with _ | i
      · obtain rfl := Option.some.inj ho
        exact ⟨v3, rfl, hl3⟩
      simp at ho
) ⟨_, _, rfl, ⟨[_, _], ⟨_, _, rfl, rfl, _, _, rfl, ⟨rfl, hl0.one⟩, rfl⟩, rfl⟩, ⟨_, _, rfl, ⟨rfl, hl1.one⟩, ⟨_, _, rfl, ⟨_, V.Ats.vals _ [_, _, _, _, _, _, _, _, _, _], rfl⟩, ⟨_, _, rfl, ⟨rfl, hl3.one⟩, ⟨_, _, rfl, rfl, ⟨_, _, rfl, rfl, rfl⟩⟩⟩⟩⟩⟩).mono fun e W' ⟨he, hg⟩ => ?_
  subst he
  exact ⟨_, rfl, post_of_below (pa := _) (pv := []) hW' (fun _ _ _ => (trodAll_cons_mk (shut_bool Try.underlying4 _) trodAll_mk0)) (fun sp hsp => all_stays laidOut (by kernel_rfl) hA0 (fun x hx => hg.same (hW'.lt x (by revert hx; simp))) (fun x hx => hsp x (by revert hx; simp))) (fun _ _ => rfl) (by simp)
    hg (ok_one (by kernel_rfl) rfl (okWide_bool_mk Try.underlying4 _))⟩

theorem over : Rows.penaltyLessRow.holds Try.pinned (OpenSpec.ofChange Rows.penaltyLessSpec) :=
  OpenClaim.holds_of_wide 7 Try.f7 rfl rfl rfl rfl rfl rfl rfl ⟨rfl, rfl, rfl, rfl, rfl⟩ rfl rfl rfl rfl rfl (by kernel_rfl) Try.func7 (by kernel_rfl)
    (of_decide_eq_true (by kernel_rfl)) (by unfold Func.isWrapper; first | (rw [if_pos (by decide +kernel)]; kernel_rfl) | (rw [if_neg (by decide +kernel)]; exact ⟨rfl, rfl⟩))
    (fun os started H enc _ => lifted os started H enc)

theorem proved : Rows.PenaltyLessSaid :=
  over
end Go.Proofs.Ytdeekpcfmgfmcaa.penaltyLess
