/- The statement of CompPays: the call returns true for every input, and its input reads as it did. No condition. -/
import Derived.Test.YtjjepkklaagmmaaRows
import Derived.WalkKit
import Derived.ProofKit
import Derived.OpenShut
import Derived.Test.YtjjepkklaagmmaaZ1
import Derived.Test.YtjjepkklaagmmaaZ2
import Derived.Test.YtjjepkklaagmmaaZ3
import Derived.Test.YtjjepkklaagmmaaZ4
import Derived.Test.YtjjepkklaagmmaaZ5
import Derived.Test.YtjjepkklaagmmaaZ6

/- What CompPays answers: true. -/
namespace Go.Proofs.Ytjjepkklaagmmaa
open Go Go.RowKit V
set_option maxRecDepth 100000
set_option linter.unusedVariables false
set_option linter.unusedSimpArgs false
set_option maxHeartbeats 4000000 in
theorem v_compPays (f : Fl) (wf : WfF f) (price : Int) (w_price : (Lit.int .i64 price).wf = true) (extra : Int) (w_extra : (Lit.int .i64 extra).wf = true) : V.Fn Try.prog 8 [] [.agg [.val (.int .i64 f.id), .val (.int .i64 f.fr), .val (.int .i64 f.to), .val (.int .i64 f.cl), .val (.int .i64 f.pa), .val (.int .i64 f.day), .val (.int .i64 f.un), .val (.int .i64 f.de), .val (.int .i64 f.bo), .val (.int .i64 f.pd)], .one (.val (.int .i64 price)), .one (.val (.int .i64 extra))] (.bool true) := by
  clear wf w_price w_extra
  have c1 := v_cpPay f price extra
  have lc := Cp.less_1 f
  by_cases h : Cp.pE f price extra = 0
  · have h1 : F.less f 1 = 0 := Classical.byContradiction fun z => by have := (Cp.p_1 (p := price) (x := extra) z).1; omega
    have h2 : Cp.wE (F.left f) price extra = 0 := Classical.byContradiction fun z => by have := (Cp.p_2 (p := price) (x := extra) h1 z).1; omega
    obtain ⟨p1, p2, p3⟩ := Cp.p_3 h1 h2
    have c0 : F.chk f = 0 := by omega
    have ok := F.chk_ok c0
    obtain ⟨x1, x2, x3⟩ := Cp.paid ok
    have c2 := v_open f
    have c3 := v_open (F.addPd f (F.left f))
    have c4 := v_worth (F.left f) price extra
    rw [F.opn_yes c0, c0] at c2
    rw [x3, x1] at c3
    have bd := @Cp.w_bd (F.left f) price extra
    rw [h2] at c4
    rw [← p3] at c4 bd
    rw [p1, p2] at c1
    have bo := F.ok_bounds ok
    obtain ⟨⟨_, hf, ht, _⟩, ne, _⟩ := ok
    have ep : (F.addPd f (F.left f)).pd = f.pd + F.left f := rfl
    by_cases z : Cp.pN f price extra = 0
    · rw [Cp.pL_0 z] at c1
      rw [z] at c4
      clear p1 p2 p3 h h2
      refine V.Fn.mk_ V.Tok V.mixed Try.func8 rfl Try.ntmps8 (by kernel_rfl) rfl rfl ?_
      repeat' ((conv => whnf); first | (refine V.NIf.yes ?_ ?_; · (decide; done)) | (refine V.NIf.no ?_ ?_; · (decide; done)) | (refine V.NIf.yes ?_ ?_; · (simp only [true_and, and_true, and_self]; done)) | refine V.NCond.mk ?_ | refine V.NIf.not_ ?_ | refine V.NIf.dec_ ?_ | refine V.NIf.no (by omega) ?_ | refine V.NIf.yes (by omega) ?_ | refine V.NIf.mk (fun _ => ?_) (fun _ => ?_) | refine V.NWrap.ok (by omega) (by omega) ?_ | refine V.NWrap.u64 (by omega) (by omega) ?_ | refine V.NLt.mk (by omega) ?_ | refine V.NBoth.mk ?_ ?_ | refine V.NTF.yes (by omega) ?_ | refine V.NTF.no (by omega) ?_ | refine V.NTF.dec ?_ | refine V.NDraw.q (by exact rfl) (by kernel_rfl) ?_ | refine V.NApp.one (by first | omega | (simp; omega)) (by first | omega | (simp; omega)) ?_ | (first | refine V.FnR.k0 (c1) rfl ?_ | refine V.FnR.a0 (c1) rfl ?_) | (first | refine V.Fn.k0 (v_cpBegun) rfl ?_ | refine V.Fn.q0 (v_cpBegun) rfl ?_ | refine V.Fn.a0 (v_cpBegun) rfl ?_) | (first | refine V.Fn.k0 (v_fbegun) rfl ?_ | refine V.Fn.q0 (v_fbegun) rfl ?_ | refine V.Fn.a0 (v_fbegun) rfl ?_) | (first | refine V.Fn.k0 (v_bkBegun) rfl ?_ | refine V.Fn.q0 (v_bkBegun) rfl ?_ | refine V.Fn.a0 (v_bkBegun) rfl ?_) | (first | refine V.Fn.k0 (c2) rfl ?_ | refine V.Fn.q0 (c2) rfl ?_ | refine V.Fn.a0 (c2) rfl ?_) | (first | refine V.Fn.k0 (c3) rfl ?_ | refine V.Fn.q0 (c3) rfl ?_ | refine V.Fn.a0 (c3) rfl ?_) | (first | refine V.Fn.k0 (c4) rfl ?_ | refine V.Fn.q0 (c4) rfl ?_ | refine V.Fn.a0 (c4) rfl ?_) | (refine V.NDraw.any (by kernel_rfl) ?_) | fail)
      all_goals (conv => whnf)
      all_goals first
        | (first | exact ⟨_, rfl, iff_of_true (by omega) rfl⟩ | (exfalso; omega) | exact ⟨_, rfl, by simp; omega⟩ | exact ⟨_, rfl, by simp⟩)
        | trace_state
    · rw [Cp.pL_1 z] at c1
      obtain ⟨b1, b2, b3, b4, b5⟩ := Cp.mvd_bal (a := f.fr) (b := f.to) (c := 0) (d := Cp.pN f price extra) (by omega) (by omega) (by omega) (by omega) ne
      have c5 := v_bkPost [] (Cp.mvd f.fr f.to 0 (Cp.pN f price extra)) (by decide) (Nat.le_trans (show _ ≤ 2 from Nat.le_refl _) (by decide))
      have pl : (Bk.pL [] (Cp.mvd f.fr f.to 0 (Cp.pN f price extra))).length ≤ 9223372036854775807 := by
        have := (Bk.po_lines (Bk.pE_0.1 b1)).le
        omega
      have c6 := v_bkBalance (Bk.pL [] (Cp.mvd f.fr f.to 0 (Cp.pN f price extra))) f.fr 0 pl
      have c7 := v_bkBalance (Bk.pL [] (Cp.mvd f.fr f.to 0 (Cp.pN f price extra))) f.to 0 pl
      rw [b1] at c5
      rw [b2, b4] at c6
      rw [b3, b5] at c7
      clear p1 p2 p3 h h2 b1 b2 b3 b4 b5 pl
      generalize Bk.pL [] (Cp.mvd f.fr f.to 0 (Cp.pN f price extra)) = PL at *
      generalize Cp.mvd f.fr f.to 0 (Cp.pN f price extra) = ML at *
      generalize Cp.pN f price extra = n at *
      refine V.Fn.mk_ V.Tok V.mixed Try.func8 rfl Try.ntmps8 (by kernel_rfl) rfl rfl ?_
      repeat' ((conv => whnf); first | (refine V.NIf.yes ?_ ?_; · (decide; done)) | (refine V.NIf.no ?_ ?_; · (decide; done)) | (refine V.NIf.yes ?_ ?_; · (simp only [true_and, and_true, and_self]; done)) | refine V.NCond.mk ?_ | refine V.NIf.not_ ?_ | refine V.NIf.dec_ ?_ | refine V.NIf.no (by omega) ?_ | refine V.NIf.yes (by omega) ?_ | refine V.NIf.mk (fun _ => ?_) (fun _ => ?_) | refine V.NWrap.ok (by omega) (by omega) ?_ | refine V.NWrap.u64 (by omega) (by omega) ?_ | refine V.NLt.mk (by omega) ?_ | refine V.NBoth.mk ?_ ?_ | refine V.NTF.yes (by omega) ?_ | refine V.NTF.no (by omega) ?_ | refine V.NTF.dec ?_ | refine V.NDraw.q (by exact rfl) (by kernel_rfl) ?_ | refine V.NApp.one (by first | omega | (simp; omega)) (by first | omega | (simp; omega)) ?_ | (first | refine V.FnR.k0 (c1) rfl ?_ | refine V.FnR.a0 (c1) rfl ?_) | (first | refine V.Fn.k0 (v_cpBegun) rfl ?_ | refine V.Fn.q0 (v_cpBegun) rfl ?_ | refine V.Fn.a0 (v_cpBegun) rfl ?_) | (first | refine V.Fn.k0 (v_fbegun) rfl ?_ | refine V.Fn.q0 (v_fbegun) rfl ?_ | refine V.Fn.a0 (v_fbegun) rfl ?_) | (first | refine V.Fn.k0 (v_bkBegun) rfl ?_ | refine V.Fn.q0 (v_bkBegun) rfl ?_ | refine V.Fn.a0 (v_bkBegun) rfl ?_) | (first | refine V.Fn.k0 (c2) rfl ?_ | refine V.Fn.q0 (c2) rfl ?_ | refine V.Fn.a0 (c2) rfl ?_) | (first | refine V.Fn.k0 (c3) rfl ?_ | refine V.Fn.q0 (c3) rfl ?_ | refine V.Fn.a0 (c3) rfl ?_) | (first | refine V.Fn.k0 (c4) rfl ?_ | refine V.Fn.q0 (c4) rfl ?_ | refine V.Fn.a0 (c4) rfl ?_) | (refine NCall.nil_ 0 3 rfl ?_) | ((first | refine V.FnR.k_ (c5) [3, 1] rfl ?_ ?_ | refine V.FnR.a_ (c5) [3, 1] rfl ?_ ?_); · ((repeat' (first | exact rfl | exact Iff.rfl | exact trivial | exact (fun _ _ => rfl) | exact (fun _ h => absurd h (Nat.not_lt_zero _)) | refine ⟨?_, ?_⟩ | exact Iff.rfl | exact congrArg (fun z => V.SV.one (V.At.val (Value.int .i64 z))) (by omega))); done)) | ((first | refine V.Fn.k (c6) [4] rfl ?_ ?_ | refine V.Fn.q (c6) [4] rfl ?_ ?_ | refine V.Fn.a (c6) [4] rfl ?_ ?_); · ((repeat' (first | exact rfl | exact Iff.rfl | exact trivial | exact (fun _ _ => rfl) | exact (fun _ h => absurd h (Nat.not_lt_zero _)) | refine ⟨?_, ?_⟩ | exact Iff.rfl | exact congrArg (fun z => V.SV.one (V.At.val (Value.int .i64 z))) (by omega))); done)) | ((first | refine V.Fn.k (c7) [4] rfl ?_ ?_ | refine V.Fn.q (c7) [4] rfl ?_ ?_ | refine V.Fn.a (c7) [4] rfl ?_ ?_); · ((repeat' (first | exact rfl | exact Iff.rfl | exact trivial | exact (fun _ _ => rfl) | exact (fun _ h => absurd h (Nat.not_lt_zero _)) | refine ⟨?_, ?_⟩ | exact Iff.rfl | exact congrArg (fun z => V.SV.one (V.At.val (Value.int .i64 z))) (by omega))); done)) | (refine V.NDraw.any (by kernel_rfl) ?_) | fail)
      all_goals (conv => whnf)
      all_goals first
        | (first | exact ⟨_, rfl, iff_of_true (by omega) rfl⟩ | (exfalso; omega) | exact ⟨_, rfl, by simp; omega⟩ | exact ⟨_, rfl, by simp⟩)
        | trace_state
  · have e : Cp.pF f price extra = F.zero ∧ Cp.pL f price extra = [] := by
      by_cases h1 : F.less f 1 = 0
      · by_cases h2 : Cp.wE (F.left f) price extra = 0
        · exact absurd (Cp.p_3 h1 h2).1 h
        · exact (Cp.p_2 h1 h2).2
      · exact (Cp.p_1 h1).2
    rw [e.1, e.2] at c1
    clear e lc
    generalize Cp.pE f price extra = E at *
    refine V.Fn.mk_ V.Tok V.mixed Try.func8 rfl Try.ntmps8 (by kernel_rfl) rfl rfl ?_
    repeat' ((conv => whnf); first | (refine V.NIf.yes ?_ ?_; · (decide; done)) | (refine V.NIf.no ?_ ?_; · (decide; done)) | (refine V.NIf.yes ?_ ?_; · (simp only [true_and, and_true, and_self]; done)) | refine V.NCond.mk ?_ | refine V.NIf.not_ ?_ | refine V.NIf.dec_ ?_ | refine V.NIf.no (by omega) ?_ | refine V.NIf.yes (by omega) ?_ | refine V.NIf.mk (fun _ => ?_) (fun _ => ?_) | refine V.NWrap.ok (by omega) (by omega) ?_ | refine V.NWrap.u64 (by omega) (by omega) ?_ | refine V.NLt.mk (by omega) ?_ | refine V.NBoth.mk ?_ ?_ | refine V.NTF.yes (by omega) ?_ | refine V.NTF.no (by omega) ?_ | refine V.NTF.dec ?_ | refine V.NDraw.q (by exact rfl) (by kernel_rfl) ?_ | refine V.NApp.one (by first | omega | (simp; omega)) (by first | omega | (simp; omega)) ?_ | (first | refine V.FnR.k0 (c1) rfl ?_ | refine V.FnR.a0 (c1) rfl ?_) | (first | refine V.Fn.k0 (v_cpBegun) rfl ?_ | refine V.Fn.q0 (v_cpBegun) rfl ?_ | refine V.Fn.a0 (v_cpBegun) rfl ?_) | (first | refine V.Fn.k0 (v_fbegun) rfl ?_ | refine V.Fn.q0 (v_fbegun) rfl ?_ | refine V.Fn.a0 (v_fbegun) rfl ?_) | (first | refine V.Fn.k0 (v_bkBegun) rfl ?_ | refine V.Fn.q0 (v_bkBegun) rfl ?_ | refine V.Fn.a0 (v_bkBegun) rfl ?_) | (refine V.NDraw.any (by kernel_rfl) ?_) | fail)
    all_goals (conv => whnf)
    all_goals first
      | exact ⟨true, rfl, iff_of_true (by repeat' (first | exact trivial | refine ⟨?_, ?_⟩ | rfl)) rfl⟩
      | (first | exact ⟨_, rfl, iff_of_true (by omega) rfl⟩ | (exfalso; omega) | exact ⟨_, rfl, by simp; omega⟩ | exact ⟨_, rfl, by simp⟩)
      | trace_state
end Go.Proofs.Ytjjepkklaagmmaa

/- The statement of CompPays: for every input the call returns true and its input reads as it did. No condition. -/
namespace Go.Proofs.Ytjjepkklaagmmaa.compPays
open Go.ChangeShapes Go.WideShapes Go.ChangeAt Go.RowKit

theorem own : ownKnob Try.prog.godebug = none := by kernel_rfl

set_option maxRecDepth 100000 in
theorem lifted (os : Os) (started : os.Started) (H : Type) (enc : TypeId × Value → H) :
    ReturnsInHanded {} Try.checked os 8 .any (Rows.compPaysSpec.pre6 enc Try.prog Try.f8 Rows.compPaysRow.domain false) (Rows.compPaysSpec.post enc Try.prog Try.f8 false true false false) := by
  refine returnsInHanded_of_change (C := Try.checked) own started (by kernel_rfl) Try.func8
    (ChangeSpec.witness6 (enc := enc) (C := Try.checked) false ⟨#[], #[.agg #[.int .i64 0, .int .i64 0, .int .i64 0, .int .i64 0, .int .i64 0, .int .i64 0, .int .i64 0, .int .i64 0, .int .i64 0, .int .i64 0], .int .i64 0, .int .i64 0], []⟩ 8 (by kernel_rfl) (by kernel_rfl) (by kernel_rfl) (by kernel_rfl)) ?_
  intro W base args ds gs before hval0 hW _ _
  have hval : ∀ (j : Nat) t v, Try.f8.params[j]? = some t → args[j]? = some v → Value.okWide Try.prog W .any base t v := hval0
  have hW' := hW
  obtain ⟨p, q, hA0, hV, rfl, hfz, hnd⟩ := hW
  have hA : DataW.TrodAll enc Try.prog W 0 (fun _ => true) true Try.f8.params.toList args.toList ds p := hA0
  rw [Try.params8] at hA hval
  obtain ⟨v0, vs0, d0, ds0, p0, q0, hargs, rfl, rfl, h0, r0⟩ := trodAll_cons hA
  obtain ⟨v1, vs1, d1, ds1, p1, q1, rfl, rfl, rfl, h1, r1⟩ := trodAll_cons r0
  obtain ⟨v2, vs2, d2, ds2, p2, q2, rfl, rfl, rfl, h2, r2⟩ := trodAll_cons r1
  obtain ⟨rfl, rfl, rfl⟩ := trodAll_nil r2
  obtain rfl : args = #[v0, v1, v2] := by cases args; simp_all
  obtain ⟨rfl, rfl⟩ := trodVars_none hV
  obtain ⟨f0, rfl, w0⟩ := open_fl (hval 0 23 v0 rfl rfl) h0
  obtain ⟨a1, rfl, rfl, rfl, w1⟩ := open_int Try.underlying3 (hval 1 3 v1 rfl rfl) h1
  obtain ⟨a2, rfl, rfl, rfl, w2⟩ := open_int Try.underlying3 (hval 2 3 v2 rfl rfl) h2
  clear hval0
  simp only [List.append_nil] at hW'
  refine ((v_compPays f0 w0 a1 w1 a2 w2).c W (fun i => [][i]?) [_, _, _] (fun i o ho => by simp at ho) ⟨_, _, rfl, ⟨_, V.Ats.vals _ [_, _, _, _, _, _, _, _, _, _], rfl⟩, ⟨_, _, rfl, rfl, ⟨_, _, rfl, rfl, rfl⟩⟩⟩).mono fun e W' ⟨he, hg⟩ => ?_
  subst he
  exact ⟨_, rfl, post_of_below (pa := _) (pv := []) hW' (fun _ _ _ => (trodAll_cons_mk (shut_bool Try.underlying4 _) trodAll_mk0)) (fun sp hsp => all_stays laidOut (by kernel_rfl) hA0 (fun x hx => hg.same (hW'.lt x (by revert hx; simp))) (fun x hx => hsp x (by revert hx; simp))) (fun _ _ => rfl) (by simp)
    hg (ok_one (by kernel_rfl) rfl (okWide_bool_mk Try.underlying4 _))⟩

theorem over : Rows.compPaysRow.holds Try.pinned (OpenSpec.ofChange Rows.compPaysSpec) :=
  OpenClaim.holds_of_wide 8 Try.f8 rfl rfl rfl rfl rfl rfl rfl ⟨rfl, rfl, rfl, rfl, rfl⟩ rfl rfl rfl rfl rfl (by kernel_rfl) Try.func8 (by kernel_rfl)
    (of_decide_eq_true (by kernel_rfl)) (by unfold Func.isWrapper; first | (rw [if_pos (by decide +kernel)]; kernel_rfl) | (rw [if_neg (by decide +kernel)]; exact ⟨rfl, rfl⟩))
    (fun os started H enc _ => lifted os started H enc)

theorem proved : Rows.CompPaysSaid :=
  over
end Go.Proofs.Ytjjepkklaagmmaa.compPays
