/- The statement of PenaltyRises: the call returns true for every input, and its input reads as it did. No condition. -/
import Derived.Test.YtdeekpcfmgfmcaaRows
import Derived.WalkKit
import Derived.ProofKit
import Derived.OpenShut
import Derived.Test.YtdeekpcfmgfmcaaZ1
import Derived.Test.YtdeekpcfmgfmcaaZ2
import Derived.Test.YtdeekpcfmgfmcaaZ3
import Derived.Test.YtdeekpcfmgfmcaaZ4
import Derived.Test.YtdeekpcfmgfmcaaZ5
import Derived.Test.YtdeekpcfmgfmcaaZ6

/- What PenaltyRises answers: true. -/
namespace Go.Proofs.Ytdeekpcfmgfmcaa
open Go Go.RowKit V
set_option maxRecDepth 100000
set_option linter.unusedVariables false
set_option linter.unusedSimpArgs false
set_option maxHeartbeats 4000000 in
theorem v_penaltyRises (units : Int) (w_units : (Lit.int .i64 units).wf = true) (price : Int) (w_price : (Lit.int .i64 price).wf = true) (rate : Int) (w_rate : (Lit.int .i64 rate).wf = true) (more : Int) (w_more : (Lit.int .i64 more).wf = true) : V.Fn Try.prog 4 [] [.one (.val (.int .i64 units)), .one (.val (.int .i64 price)), .one (.val (.int .i64 rate)), .one (.val (.int .i64 more))] (.bool true) := by
  clear w_units w_price w_rate w_more
  have c1 := v_daily units price rate
  by_cases h : Pn.Ok units price rate
  · have c2 := v_daily (units + more) price rate
    have c3 := v_daily units (price + more) rate
    have c4 := v_daily units price (rate + more)
    have c5 := v_daily more price rate
    obtain ⟨h1, h2, h3⟩ := id h
    have b := Pn.cs_bd h
    have m1 : 0 ≤ more → Pn.dE (units + more) price rate = 0 → Pn.cs units price rate ≤ Pn.dV (units + more) price rate := fun q e => by
      rw [(Pn.d_yes (Pn.d_ok e)).2]; exact Pn.cs_u (by omega) h2 h3.1
    have m2 : 0 ≤ more → Pn.dE units (price + more) rate = 0 → Pn.cs units price rate ≤ Pn.dV units (price + more) rate := fun q e => by
      rw [(Pn.d_yes (Pn.d_ok e)).2]; exact Pn.cs_p h1.1 (by omega) h3.1
    have m3 : 0 ≤ more → Pn.dE units price (rate + more) = 0 → Pn.cs units price rate ≤ Pn.dV units price (rate + more) := fun q e => by
      rw [(Pn.d_yes (Pn.d_ok e)).2]; exact Pn.cs_r h1 h2 (by omega)
    have m4 : Pn.dE (units + more) price rate = 0 → Pn.dE more price rate = 0 → Pn.cs units price rate + Pn.dV more price rate ≤ Pn.dV (units + more) price rate := fun e e' => by
      rw [(Pn.d_yes (Pn.d_ok e)).2, (Pn.d_yes (Pn.d_ok e')).2]; exact Pn.cs_add h3.1
    have bd := fun (e : Pn.dE more price rate = 0) => by
      have k := Pn.d_ok e
      have := Pn.cs_bd k
      rwa [← (Pn.d_yes k).2] at this
    have h2' : 0 ≤ price ∧ price ≤ 1099511627776 := h2
    obtain ⟨a1, a2⟩ := Pn.d_yes h
    rw [a1, a2] at c1
    clear a1 a2 h h2
    generalize Pn.cs units price rate = n at *
    generalize Pn.dV (units + more) price rate = av at *
    generalize Pn.dE (units + more) price rate = ae at *
    generalize Pn.dV units (price + more) rate = bv at *
    generalize Pn.dE units (price + more) rate = be at *
    generalize Pn.dV units price (rate + more) = cv at *
    generalize Pn.dE units price (rate + more) = ce at *
    generalize Pn.dV more price rate = dv at *
    generalize Pn.dE more price rate = de at *
    refine V.Fn.mk_ V.Tok V.mixed Try.func4 rfl Try.ntmps4 (by kernel_rfl) rfl rfl ?_
    repeat' ((conv => whnf); first | (refine V.NIf.yes ?_ ?_; · (decide; done)) | (refine V.NIf.no ?_ ?_; · (decide; done)) | refine V.NCond.mk ?_ | refine V.NIf.not_ ?_ | refine V.NIf.dec_ ?_ | refine V.NIf.no (by omega) ?_ | refine V.NIf.yes (by omega) ?_ | refine V.NIf.mk (fun _ => ?_) (fun _ => ?_) | refine V.NWrap.ok (by omega) (by omega) ?_ | refine V.NWrap.u64 (by omega) (by omega) ?_ | refine V.NLt.mk (by omega) ?_ | refine V.NBoth.mk ?_ ?_ | refine V.NTF.yes (by omega) ?_ | refine V.NTF.no (by omega) ?_ | refine V.NTF.dec ?_ | refine V.NDraw.q (by exact rfl) (by kernel_rfl) ?_ | refine V.NApp.one (by first | omega | (simp; omega)) (by first | omega | (simp; omega)) ?_ | (first | refine V.Fn.k0 (c1) rfl ?_ | refine V.Fn.q0 (c1) rfl ?_ | refine V.Fn.a0 (c1) rfl ?_) | (first | refine V.Fn.k0 (v_penBegun) rfl ?_ | refine V.Fn.q0 (v_penBegun) rfl ?_ | refine V.Fn.a0 (v_penBegun) rfl ?_) | (first | refine V.Fn.k0 (c2) rfl ?_ | refine V.Fn.q0 (c2) rfl ?_ | refine V.Fn.a0 (c2) rfl ?_) | (first | refine V.Fn.k0 (c3) rfl ?_ | refine V.Fn.q0 (c3) rfl ?_ | refine V.Fn.a0 (c3) rfl ?_) | (first | refine V.Fn.k0 (c4) rfl ?_ | refine V.Fn.q0 (c4) rfl ?_ | refine V.Fn.a0 (c4) rfl ?_) | (first | refine V.Fn.k0 (c5) rfl ?_ | refine V.Fn.q0 (c5) rfl ?_ | refine V.Fn.a0 (c5) rfl ?_) | (refine V.NDraw.any (by kernel_rfl) ?_) | fail)
    all_goals (conv => whnf)
    all_goals first
      | exact ⟨true, rfl, iff_of_true rfl rfl⟩
      | exact ⟨true, rfl, iff_of_true (by omega) rfl⟩
      | exact absurd (by assumption) (by omega)
      | skip
  obtain ⟨a1, a2⟩ := Pn.d_no h
  rw [a1, a2] at c1
  refine V.Fn.mk_ V.Tok V.mixed Try.func4 rfl Try.ntmps4 (by kernel_rfl) rfl rfl ?_
  repeat' ((conv => whnf); first | (refine V.NIf.yes ?_ ?_; · (decide; done)) | (refine V.NIf.no ?_ ?_; · (decide; done)) | refine V.NCond.mk ?_ | refine V.NIf.not_ ?_ | refine V.NIf.dec_ ?_ | refine V.NIf.no (by omega) ?_ | refine V.NIf.yes (by omega) ?_ | refine V.NIf.mk (fun _ => ?_) (fun _ => ?_) | refine V.NWrap.ok (by omega) (by omega) ?_ | refine V.NWrap.u64 (by omega) (by omega) ?_ | refine V.NLt.mk (by omega) ?_ | refine V.NBoth.mk ?_ ?_ | refine V.NTF.yes (by omega) ?_ | refine V.NTF.no (by omega) ?_ | refine V.NTF.dec ?_ | refine V.NDraw.q (by exact rfl) (by kernel_rfl) ?_ | refine V.NApp.one (by first | omega | (simp; omega)) (by first | omega | (simp; omega)) ?_ | (first | refine V.Fn.k0 (c1) rfl ?_ | refine V.Fn.q0 (c1) rfl ?_ | refine V.Fn.a0 (c1) rfl ?_) | (first | refine V.Fn.k0 (v_penBegun) rfl ?_ | refine V.Fn.q0 (v_penBegun) rfl ?_ | refine V.Fn.a0 (v_penBegun) rfl ?_) | (refine V.NDraw.any (by kernel_rfl) ?_) | fail)
  all_goals (conv => whnf)
  all_goals first
    | exact ⟨true, rfl, iff_of_true rfl rfl⟩
    | skip
end Go.Proofs.Ytdeekpcfmgfmcaa

/- The statement of PenaltyRises: for every input the call returns true and its input reads as it did. No condition. -/
namespace Go.Proofs.Ytdeekpcfmgfmcaa.penaltyRises
open Go.ChangeShapes Go.WideShapes Go.ChangeAt Go.RowKit

theorem own : ownKnob Try.prog.godebug = none := by kernel_rfl

set_option maxRecDepth 100000 in
theorem lifted (os : Os) (started : os.Started) (H : Type) (enc : TypeId × Value → H) :
    ReturnsInHanded {} Try.checked os 4 .any (Rows.penaltyRisesSpec.pre6 enc Try.prog Try.f4 Rows.penaltyRisesRow.domain false) (Rows.penaltyRisesSpec.post enc Try.prog Try.f4 false true false false) := by
  refine returnsInHanded_of_change (C := Try.checked) own started (by kernel_rfl) Try.func4
    (ChangeSpec.witness6 (enc := enc) (C := Try.checked) false ⟨#[], #[.int .i64 0, .int .i64 0, .int .i64 0, .int .i64 0], []⟩ 8 (by kernel_rfl) (by kernel_rfl) (by kernel_rfl) (by kernel_rfl)) ?_
  intro W base args ds gs before hval0 hW _ _
  have hval : ∀ (j : Nat) t v, Try.f4.params[j]? = some t → args[j]? = some v → Value.okWide Try.prog W .any base t v := hval0
  have hW' := hW
  obtain ⟨p, q, hA0, hV, rfl, hfz, hnd⟩ := hW
  have hA : DataW.TrodAll enc Try.prog W 0 (fun _ => true) true Try.f4.params.toList args.toList ds p := hA0
  rw [Try.params4] at hA hval
  obtain ⟨v0, vs0, d0, ds0, p0, q0, hargs, rfl, rfl, h0, r0⟩ := trodAll_cons hA
  obtain ⟨v1, vs1, d1, ds1, p1, q1, rfl, rfl, rfl, h1, r1⟩ := trodAll_cons r0
  obtain ⟨v2, vs2, d2, ds2, p2, q2, rfl, rfl, rfl, h2, r2⟩ := trodAll_cons r1
  obtain ⟨v3, vs3, d3, ds3, p3, q3, rfl, rfl, rfl, h3, r3⟩ := trodAll_cons r2
  obtain ⟨rfl, rfl, rfl⟩ := trodAll_nil r3
  obtain rfl : args = #[v0, v1, v2, v3] := by cases args; simp_all
  obtain ⟨rfl, rfl⟩ := trodVars_none hV
  obtain ⟨a0, rfl, rfl, rfl, w0⟩ := open_int Try.underlying3 (hval 0 3 v0 rfl rfl) h0
  obtain ⟨a1, rfl, rfl, rfl, w1⟩ := open_int Try.underlying3 (hval 1 3 v1 rfl rfl) h1
  obtain ⟨a2, rfl, rfl, rfl, w2⟩ := open_int Try.underlying3 (hval 2 3 v2 rfl rfl) h2
  obtain ⟨a3, rfl, rfl, rfl, w3⟩ := open_int Try.underlying3 (hval 3 3 v3 rfl rfl) h3
  clear hval0
  simp only [List.append_nil] at hW'
  refine ((v_penaltyRises a0 w0 a1 w1 a2 w2 a3 w3).c W (fun i => [][i]?) [_, _, _, _] (fun i o ho => by simp at ho) ⟨_, _, rfl, rfl, ⟨_, _, rfl, rfl, ⟨_, _, rfl, rfl, ⟨_, _, rfl, rfl, rfl⟩⟩⟩⟩).mono fun e W' ⟨he, hg⟩ => ?_
  subst he
  exact ⟨_, rfl, post_of_below (pa := _) (pv := []) hW' (fun _ _ _ => (trodAll_cons_mk (shut_bool Try.underlying4 _) trodAll_mk0)) (fun sp hsp => all_stays laidOut (by kernel_rfl) hA0 (fun x hx => hg.same (hW'.lt x (by revert hx; simp))) (fun x hx => hsp x (by revert hx; simp))) (fun _ _ => rfl) (by simp)
    hg (ok_one (by kernel_rfl) rfl (okWide_bool_mk Try.underlying4 _))⟩

theorem over : Rows.penaltyRisesRow.holds Try.pinned (OpenSpec.ofChange Rows.penaltyRisesSpec) :=
  OpenClaim.holds_of_wide 4 Try.f4 rfl rfl rfl rfl rfl rfl rfl ⟨rfl, rfl, rfl, rfl, rfl⟩ rfl rfl rfl rfl rfl (by kernel_rfl) Try.func4 (by kernel_rfl)
    (of_decide_eq_true (by kernel_rfl)) (by unfold Func.isWrapper; first | (rw [if_pos (by decide +kernel)]; kernel_rfl) | (rw [if_neg (by decide +kernel)]; exact ⟨rfl, rfl⟩))
    (fun os started H enc _ => lifted os started H enc)

theorem proved : Rows.PenaltyRisesSaid :=
  over
end Go.Proofs.Ytdeekpcfmgfmcaa.penaltyRises
