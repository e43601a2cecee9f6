/- The statement of AgeKeeps: the call returns true for every input, and its input reads as it did. No condition. -/
import Derived.Test.YtplomcleijlnmaaRows
import Derived.WalkKit
import Derived.ProofKit
import Derived.OpenShut
import Derived.Test.YtplomcleijlnmaaZ1
import Derived.Test.YtplomcleijlnmaaZ2
import Derived.Test.YtplomcleijlnmaaZ3
import Derived.Test.YtplomcleijlnmaaZ4

/- What AgeKeeps answers: true. -/
namespace Go.Proofs.Ytplomcleijlnmaa
open Go Go.RowKit V
set_option maxRecDepth 100000
set_option linter.unusedVariables false
set_option linter.unusedSimpArgs false
set_option maxHeartbeats 4000000 in
theorem v_ageKeeps (c : Cl) (wc : WfCl c) (t : Tm) (wt : WfTm t) (f : Fl) (wf : WfF f) (today : Int) (w_today : (Lit.int .i64 today).wf = true) (units : Int) (w_units : (Lit.int .i64 units).wf = true) : V.Fn Try.prog 7 [.arr 1 c.hs.length (ga e1 c.hs)] [.agg [.val (.int .i64 c.we), .ref 0], .agg [.val (.int .i64 t.ex), .val (.int .i64 t.bu), .val (.int .i64 t.de), .val (.int .i64 t.ra)], .agg [.val (.int .i64 f.id), .val (.int .i64 f.fr), .val (.int .i64 f.to), .val (.int .i64 f.cl), .val (.int .i64 f.pa), .val (.int .i64 f.day), .val (.int .i64 f.un), .val (.int .i64 f.de), .val (.int .i64 f.bo), .val (.int .i64 f.pd)], .one (.val (.int .i64 today)), .one (.val (.int .i64 units))] (.bool true) := by
  refine V.Fn.lim (by kernel_rfl) fun hl => ?_
  have hc := hl 0 _ _ _ rfl
  clear hl wc wt wf
  have c1 := v_deliver f units
  have c2 := v_agStage c t f today hc
  by_cases h : F.less f units = 0 ∧ Ag.sE c t f today = 0
  · obtain ⟨h1, h2⟩ := h
    obtain ⟨o1, o2⟩ := F.deliver_ok h1
    obtain ⟨_, l1, l2, l3⟩ := F.less_ok h1
    have fc : F.chk (F.addDe f units) = 0 := F.chk_of o1
    have c3 := v_agStage c t (F.addDe f units) today hc
    have c4 := v_open (F.addDe f units)
    obtain ⟨k1, k2, k3, k4, k5⟩ := Ag.sE_ok h2
    have h3 : Ag.sE c t (F.addDe f units) today = 0 := Ag.sE_of k1 k2 fc k4 k5
    have b := (Ag.stg_is h3).1
    have a : ¬ F.left (F.addDe f units) = 0 → Ag.stg c t (F.addDe f units) today = Ag.stg c t f today := fun q => by
      unfold Ag.stg
      rw [if_neg q, if_neg (by omega)]
      rfl
    rw [F.deliver_yes h1, h1] at c1
    rw [h2, Ag.sV_yes h2] at c2
    rw [h3, Ag.sV_yes h3] at c3
    rw [F.opn_yes fc, fc] at c4
    have lb := (F.ok_bounds o1).1
    generalize F.addDe f units = p at *
    generalize Ag.stg c t f today = S at *
    generalize Ag.stg c t p today = U at *
    generalize F.left p = L at *
    refine V.Fn.mk_ V.Tok V.mixed Try.func7 rfl Try.ntmps7 (by kernel_rfl) rfl rfl ?_
    repeat' ((conv => whnf); first | (refine V.NIf.yes ?_ ?_; · (decide; done)) | (refine V.NIf.no ?_ ?_; · (decide; done)) | (refine V.NIf.yes ?_ ?_; · (simp only [true_and, and_true, and_self]; done)) | refine V.NCond.mk ?_ | refine V.NIf.not_ ?_ | refine V.NIf.dec_ ?_ | refine V.NIf.no (by omega) ?_ | refine V.NIf.yes (by omega) ?_ | refine V.NIf.mk (fun _ => ?_) (fun _ => ?_) | refine V.NWrap.ok (by omega) (by omega) ?_ | refine V.NWrap.u64 (by omega) (by omega) ?_ | refine V.NLt.mk (by omega) ?_ | refine V.NBoth.mk ?_ ?_ | refine V.NTF.yes (by omega) ?_ | refine V.NTF.no (by omega) ?_ | refine V.NTF.dec ?_ | refine V.NDraw.q (by exact rfl) (by kernel_rfl) ?_ | refine V.NApp.one (by first | omega | (simp; omega)) (by first | omega | (simp; omega)) ?_ | (first | refine V.Fn.k0 (c1) rfl ?_ | refine V.Fn.q0 (c1) rfl ?_ | refine V.Fn.a0 (c1) rfl ?_) | ((first | refine V.Fn.k (c2) [0] rfl ?_ ?_ | refine V.Fn.q (c2) [0] rfl ?_ ?_ | refine V.Fn.a (c2) [0] rfl ?_ ?_); · ((repeat' (first | exact rfl | exact Iff.rfl | exact trivial | exact (fun _ _ => rfl) | exact (fun _ h => absurd h (Nat.not_lt_zero _)) | refine ⟨?_, ?_⟩ | exact Iff.rfl | exact congrArg (fun z => V.SV.one (V.At.val (Value.int .i64 z))) (by omega))); done)) | ((first | refine V.Fn.k (c3) [0] rfl ?_ ?_ | refine V.Fn.q (c3) [0] rfl ?_ ?_ | refine V.Fn.a (c3) [0] rfl ?_ ?_); · ((repeat' (first | exact rfl | exact Iff.rfl | exact trivial | exact (fun _ _ => rfl) | exact (fun _ h => absurd h (Nat.not_lt_zero _)) | refine ⟨?_, ?_⟩ | exact Iff.rfl | exact congrArg (fun z => V.SV.one (V.At.val (Value.int .i64 z))) (by omega))); done)) | (first | refine V.Fn.k0 (c4) rfl ?_ | refine V.Fn.q0 (c4) rfl ?_ | refine V.Fn.a0 (c4) rfl ?_) | (first | refine V.Fn.k0 (v_ageBegun) rfl ?_ | refine V.Fn.q0 (v_ageBegun) rfl ?_ | refine V.Fn.a0 (v_ageBegun) rfl ?_) | (first | refine V.Fn.k0 (v_fbegun) rfl ?_ | refine V.Fn.q0 (v_fbegun) rfl ?_ | refine V.Fn.a0 (v_fbegun) rfl ?_) | (refine V.NDraw.any (by kernel_rfl) ?_) | fail)
    all_goals (conv => whnf)
    all_goals first
      | (first | exact ⟨_, rfl, iff_of_true (by omega) rfl⟩ | (exfalso; omega) | exact ⟨_, rfl, by simp; omega⟩ | exact ⟨_, rfl, by simp⟩)
      | (exfalso; omega)
      | trace_state
  · have n1 := fun q => (Ag.sV_no (c := c) (t := t) (f := f) (n := today) q).1
    generalize F.deliver f units = p at *
    generalize F.less f units = L at *
    generalize Ag.sV c t f today = S at *
    generalize Ag.sE c t f today = E at *
    refine V.Fn.mk_ V.Tok V.mixed Try.func7 rfl Try.ntmps7 (by kernel_rfl) rfl rfl ?_
    repeat' ((conv => whnf); first | (refine V.NIf.yes ?_ ?_; · (simp only [true_and, and_true, and_self]; done)) | refine V.NCond.mk ?_ | refine V.NIf.not_ ?_ | refine V.NIf.dec_ ?_ | refine V.NIf.no (by omega) ?_ | refine V.NIf.yes (by omega) ?_ | refine V.NIf.mk (fun _ => ?_) (fun _ => ?_) | refine V.NWrap.ok (by omega) (by omega) ?_ | refine V.NWrap.u64 (by omega) (by omega) ?_ | refine V.NLt.mk (by omega) ?_ | refine V.NBoth.mk ?_ ?_ | refine V.NTF.yes (by omega) ?_ | refine V.NTF.no (by omega) ?_ | refine V.NTF.dec ?_ | refine V.NDraw.q (by exact rfl) (by kernel_rfl) ?_ | refine V.NApp.one (by first | omega | (simp; omega)) (by first | omega | (simp; omega)) ?_ | (first | refine V.Fn.k0 (c1) rfl ?_ | refine V.Fn.q0 (c1) rfl ?_ | refine V.Fn.a0 (c1) rfl ?_) | ((first | refine V.Fn.k (c2) [0] rfl ?_ ?_ | refine V.Fn.q (c2) [0] rfl ?_ ?_ | refine V.Fn.a (c2) [0] rfl ?_ ?_); · ((repeat' (first | exact rfl | exact Iff.rfl | exact trivial | exact (fun _ _ => rfl) | exact (fun _ h => absurd h (Nat.not_lt_zero _)) | refine ⟨?_, ?_⟩ | exact Iff.rfl | exact congrArg (fun z => V.SV.one (V.At.val (Value.int .i64 z))) (by omega))); done)) | (first | refine V.Fn.k0 (v_ageBegun) rfl ?_ | refine V.Fn.q0 (v_ageBegun) rfl ?_ | refine V.Fn.a0 (v_ageBegun) rfl ?_) | (first | refine V.Fn.k0 (v_fbegun) rfl ?_ | refine V.Fn.q0 (v_fbegun) rfl ?_ | refine V.Fn.a0 (v_fbegun) rfl ?_) | (refine V.NDraw.any (by kernel_rfl) ?_) | fail)
    all_goals (conv => whnf)
    all_goals first
      | (first | exact ⟨_, rfl, iff_of_true (by omega) rfl⟩ | (exfalso; omega) | exact ⟨_, rfl, by simp; omega⟩ | exact ⟨_, rfl, by simp⟩)
      | (exfalso; omega)
      | trace_state
end Go.Proofs.Ytplomcleijlnmaa

/- The statement of AgeKeeps: for every input the call returns true and its input reads as it did. No condition. -/
namespace Go.Proofs.Ytplomcleijlnmaa.ageKeeps
open Go.ChangeShapes Go.WideShapes Go.ChangeAt Go.RowKit

theorem own : ownKnob Try.prog.godebug = none := by kernel_rfl

set_option maxRecDepth 100000 in
theorem lifted (os : Os) (started : os.Started) (H : Type) (enc : TypeId × Value → H) :
    ReturnsInHanded {} Try.checked os 7 .any (Rows.ageKeepsSpec.pre6 enc Try.prog Try.f7 Rows.ageKeepsRow.domain false) (Rows.ageKeepsSpec.post enc Try.prog Try.f7 false true false false) := by
  refine returnsInHanded_of_change (C := Try.checked) own started (by kernel_rfl) Try.func7
    (ChangeSpec.witness6 (enc := enc) (C := Try.checked) false ⟨#[], #[.agg #[.int .i64 0, .slice none 0 0], .agg #[.int .i64 0, .int .i64 0, .int .i64 0, .int .i64 0], .agg #[.int .i64 0, .int .i64 0, .int .i64 0, .int .i64 0, .int .i64 0, .int .i64 0, .int .i64 0, .int .i64 0, .int .i64 0, .int .i64 0], .int .i64 0, .int .i64 0], []⟩ 8 (by kernel_rfl) (by kernel_rfl) (by kernel_rfl) (by kernel_rfl)) ?_
  intro W base args ds gs before hval0 hW _ _
  have hval : ∀ (j : Nat) t v, Try.f7.params[j]? = some t → args[j]? = some v → Value.okWide Try.prog W .any base t v := hval0
  have hW' := hW
  obtain ⟨p, q, hA0, hV, rfl, hfz, hnd⟩ := hW
  have hA : DataW.TrodAll enc Try.prog W 0 (fun _ => true) true Try.f7.params.toList args.toList ds p := hA0
  rw [Try.params7] at hA hval
  obtain ⟨v0, vs0, d0, ds0, p0, q0, hargs, rfl, rfl, h0, r0⟩ := trodAll_cons hA
  obtain ⟨v1, vs1, d1, ds1, p1, q1, rfl, rfl, rfl, h1, r1⟩ := trodAll_cons r0
  obtain ⟨v2, vs2, d2, ds2, p2, q2, rfl, rfl, rfl, h2, r2⟩ := trodAll_cons r1
  obtain ⟨v3, vs3, d3, ds3, p3, q3, rfl, rfl, rfl, h3, r3⟩ := trodAll_cons r2
  obtain ⟨v4, vs4, d4, ds4, p4, q4, rfl, rfl, rfl, h4, r4⟩ := trodAll_cons r3
  obtain ⟨rfl, rfl, rfl⟩ := trodAll_nil r4
  obtain rfl : args = #[v0, v1, v2, v3, v4] := by cases args; simp_all
  obtain ⟨rfl, rfl⟩ := trodVars_none hV
  obtain ⟨c0, u0, rfl, hl0, w0⟩ := open_cl (hval 0 24 v0 rfl rfl) h0
  obtain ⟨f1, rfl, w1⟩ := open_tm (hval 1 26 v1 rfl rfl) h1
  obtain ⟨f2, rfl, w2⟩ := open_fl (hval 2 28 v2 rfl rfl) h2
  obtain ⟨a3, rfl, rfl, rfl, w3⟩ := open_int Try.underlying3 (hval 3 3 v3 rfl rfl) h3
  obtain ⟨a4, rfl, rfl, rfl, w4⟩ := open_int Try.underlying3 (hval 4 3 v4 rfl rfl) h4
  clear hval0
  simp only [List.append_nil] at hW'
  refine ((v_ageKeeps c0 w0 f1 w1 f2 w2 a3 w3 a4 w4).c W (fun i => [u0][i]?) [_, _, _, _, _] (fun i o ho => by
      rcases i with _ | i
      · obtain rfl := Option.some.inj ho
        exact ⟨u0, rfl, hl0⟩
      simp at ho
) ⟨_, _, rfl, ⟨[_, _], ⟨_, _, rfl, rfl, _, _, rfl, ⟨rfl, hl0.one⟩, rfl⟩, rfl⟩, ⟨_, _, rfl, ⟨_, V.Ats.vals _ [_, _, _, _], rfl⟩, ⟨_, _, rfl, ⟨_, V.Ats.vals _ [_, _, _, _, _, _, _, _, _, _], rfl⟩, ⟨_, _, rfl, rfl, ⟨_, _, rfl, rfl, rfl⟩⟩⟩⟩⟩).mono fun e W' ⟨he, hg⟩ => ?_
  subst he
  exact ⟨_, rfl, post_of_below (pa := _) (pv := []) hW' (fun _ _ _ => (trodAll_cons_mk (shut_bool Try.underlying4 _) trodAll_mk0)) (fun sp hsp => all_stays laidOut (by kernel_rfl) hA0 (fun x hx => hg.same (hW'.lt x (by revert hx; simp))) (fun x hx => hsp x (by revert hx; simp))) (fun _ _ => rfl) (by simp)
    hg (ok_one (by kernel_rfl) rfl (okWide_bool_mk Try.underlying4 _))⟩

theorem over : Rows.ageKeepsRow.holds Try.pinned (OpenSpec.ofChange Rows.ageKeepsSpec) :=
  OpenClaim.holds_of_wide 7 Try.f7 rfl rfl rfl rfl rfl rfl rfl ⟨rfl, rfl, rfl, rfl, rfl⟩ rfl rfl rfl rfl rfl (by kernel_rfl) Try.func7 (by kernel_rfl)
    (of_decide_eq_true (by kernel_rfl)) (by unfold Func.isWrapper; first | (rw [if_pos (by decide +kernel)]; kernel_rfl) | (rw [if_neg (by decide +kernel)]; exact ⟨rfl, rfl⟩))
    (fun os started H enc _ => lifted os started H enc)

theorem proved : Rows.AgeKeepsSaid :=
  over
end Go.Proofs.Ytplomcleijlnmaa.ageKeeps
