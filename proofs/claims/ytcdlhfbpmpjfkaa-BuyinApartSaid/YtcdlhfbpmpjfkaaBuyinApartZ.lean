/- The statement of BuyinApart: the call returns true for every input, and its input reads as it did. No condition. -/
import Derived.Test.YtcdlhfbpmpjfkaaRows
import Derived.WalkKit
import Derived.ProofKit
import Derived.OpenShut
import Derived.Test.YtcdlhfbpmpjfkaaZ1
import Derived.Test.YtcdlhfbpmpjfkaaZ2
import Derived.Test.YtcdlhfbpmpjfkaaZ3
import Derived.Test.YtcdlhfbpmpjfkaaZ4
import Derived.Test.YtcdlhfbpmpjfkaaZ5
import Derived.Test.YtcdlhfbpmpjfkaaZ6

/- What BuyinApart answers: true. -/
namespace Go.Proofs.Ytcdlhfbpmpjfkaa
open Go Go.RowKit V
set_option maxRecDepth 100000
set_option linter.unusedVariables false
set_option linter.unusedSimpArgs false
theorem B.ap_cases (u a p : Int) : (((0 ≤ u ∧ u ≤ 1073741824) ∧ P.Ok a ∧ P.Ok p) ∧ B.aV u a p = P.cost u p - P.cost u a ∧ B.aE u a p = 0) ∨ (¬ ((0 ≤ u ∧ u ≤ 1073741824) ∧ P.Ok a ∧ P.Ok p) ∧ B.aV u a p = 0 ∧ B.aE u a p = 3) := by
  by_cases h : (0 ≤ u ∧ u ≤ 1073741824) ∧ P.Ok a ∧ P.Ok p
  · exact .inl ⟨h, if_pos h, if_pos h⟩
  · exact .inr ⟨h, if_neg h, if_neg h⟩
set_option maxHeartbeats 4000000 in
theorem v_buyinApart (units : Int) (w_units : (Lit.int .i64 units).wf = true) (a : Int) (w_a : (Lit.int .i64 a).wf = true) (b : Int) (w_b : (Lit.int .i64 b).wf = true) (c : Int) (w_c : (Lit.int .i64 c).wf = true) : V.Fn Try.prog 6 [] [.one (.val (.int .i64 units)), .one (.val (.int .i64 a)), .one (.val (.int .i64 b)), .one (.val (.int .i64 c))] (.bool true) := by
  clear w_units w_a w_b w_c
  have c1 := v_byApart units a b
  have c2 := v_byApart units b c
  have c3 := v_byApart units a c
  have c4 := v_byApart units b a
  have c5 := v_byApart units a a
  by_cases h : (B.aE units a b = 0 ∧ B.aE units b c = 0)
  · rcases B.ap_cases units a b with ⟨⟨hu, ha, hb⟩, v1, e1⟩ | ⟨_, _, e⟩
    · rcases B.ap_cases units b c with ⟨⟨_, _, hc⟩, v2, e2⟩ | ⟨_, _, e⟩
      · rcases B.ap_cases units a c with ⟨_, v3, e3⟩ | ⟨q, _⟩
        rcases B.ap_cases units b a with ⟨_, v4, e4⟩ | ⟨q, _⟩
        rcases B.ap_cases units a a with ⟨_, v5, e5⟩ | ⟨q, _⟩
        · rw [v1, e1] at c1
          rw [v2, e2] at c2
          rw [v3, e3] at c3
          rw [v4, e4] at c4
          rw [v5, e5] at c5
          have ba := P.cost_bd hu ha
          have bb := P.cost_bd hu hb
          have bc := P.cost_bd hu hc
          have mo := fun q : b ≤ a => B.cost_mono2 (u := units) hu.1 q
          clear v1 v2 v3 v4 v5 e1 e2 e3 e4 e5 h ha hb hc
          generalize P.cost units a = A at *
          generalize P.cost units b = B at *
          generalize P.cost units c = C at *
          by_cases q : b ≤ a
          · have mo := mo q
            refine V.Fn.mk_ V.Tok V.mixed Try.func6 rfl Try.ntmps6 (by kernel_rfl) rfl rfl ?_
            repeat' ((conv => whnf); first | (refine V.NIf.yes ?_ ?_; · (decide; done)) | (refine V.NIf.no ?_ ?_; · (decide; done)) | refine V.NCond.mk ?_ | refine V.NIf.not_ ?_ | refine V.NIf.dec_ ?_ | refine V.NIf.no (by omega) ?_ | refine V.NIf.yes (by omega) ?_ | refine V.NIf.mk (fun _ => ?_) (fun _ => ?_) | refine V.NWrap.ok (by omega) (by omega) ?_ | refine V.NWrap.u64 (by omega) (by omega) ?_ | refine V.NLt.mk (by omega) ?_ | refine V.NBoth.mk ?_ ?_ | refine V.NTF.yes (by omega) ?_ | refine V.NTF.no (by omega) ?_ | refine V.NTF.dec ?_ | refine V.NDraw.q (by exact rfl) (by kernel_rfl) ?_ | refine V.NApp.one (by first | omega | (simp; omega)) (by first | omega | (simp; omega)) ?_ | (first | refine V.Fn.k0 (v_byBegun) rfl ?_ | refine V.Fn.q0 (v_byBegun) rfl ?_ | refine V.Fn.a0 (v_byBegun) rfl ?_) | (first | refine V.Fn.k0 (c1) rfl ?_ | refine V.Fn.q0 (c1) rfl ?_ | refine V.Fn.a0 (c1) rfl ?_) | (first | refine V.Fn.k0 (c2) rfl ?_ | refine V.Fn.q0 (c2) rfl ?_ | refine V.Fn.a0 (c2) rfl ?_) | (first | refine V.Fn.k0 (c3) rfl ?_ | refine V.Fn.q0 (c3) rfl ?_ | refine V.Fn.a0 (c3) rfl ?_) | (first | refine V.Fn.k0 (c4) rfl ?_ | refine V.Fn.q0 (c4) rfl ?_ | refine V.Fn.a0 (c4) rfl ?_) | (first | refine V.Fn.k0 (c5) rfl ?_ | refine V.Fn.q0 (c5) rfl ?_ | refine V.Fn.a0 (c5) rfl ?_) | (refine V.NDraw.any (by kernel_rfl) ?_) | fail)
            all_goals (conv => whnf)
            all_goals first
              | rfl
              | exact ⟨true, rfl, iff_of_true rfl rfl⟩
              | (first | exact ⟨_, rfl, iff_of_true (by omega) rfl⟩ | (exfalso; omega) | exact ⟨_, rfl, by simp; omega⟩ | exact ⟨_, rfl, by simp⟩)
              | trace_state
          · clear mo
            refine V.Fn.mk_ V.Tok V.mixed Try.func6 rfl Try.ntmps6 (by kernel_rfl) rfl rfl ?_
            repeat' ((conv => whnf); first | (refine V.NIf.yes ?_ ?_; · (decide; done)) | (refine V.NIf.no ?_ ?_; · (decide; done)) | refine V.NCond.mk ?_ | refine V.NIf.not_ ?_ | refine V.NIf.dec_ ?_ | refine V.NIf.no (by omega) ?_ | refine V.NIf.yes (by omega) ?_ | refine V.NIf.mk (fun _ => ?_) (fun _ => ?_) | refine V.NWrap.ok (by omega) (by omega) ?_ | refine V.NWrap.u64 (by omega) (by omega) ?_ | refine V.NLt.mk (by omega) ?_ | refine V.NBoth.mk ?_ ?_ | refine V.NTF.yes (by omega) ?_ | refine V.NTF.no (by omega) ?_ | refine V.NTF.dec ?_ | refine V.NDraw.q (by exact rfl) (by kernel_rfl) ?_ | refine V.NApp.one (by first | omega | (simp; omega)) (by first | omega | (simp; omega)) ?_ | (first | refine V.Fn.k0 (v_byBegun) rfl ?_ | refine V.Fn.q0 (v_byBegun) rfl ?_ | refine V.Fn.a0 (v_byBegun) rfl ?_) | (first | refine V.Fn.k0 (c1) rfl ?_ | refine V.Fn.q0 (c1) rfl ?_ | refine V.Fn.a0 (c1) rfl ?_) | (first | refine V.Fn.k0 (c2) rfl ?_ | refine V.Fn.q0 (c2) rfl ?_ | refine V.Fn.a0 (c2) rfl ?_) | (first | refine V.Fn.k0 (c3) rfl ?_ | refine V.Fn.q0 (c3) rfl ?_ | refine V.Fn.a0 (c3) rfl ?_) | (first | refine V.Fn.k0 (c4) rfl ?_ | refine V.Fn.q0 (c4) rfl ?_ | refine V.Fn.a0 (c4) rfl ?_) | (first | refine V.Fn.k0 (c5) rfl ?_ | refine V.Fn.q0 (c5) rfl ?_ | refine V.Fn.a0 (c5) rfl ?_) | (refine V.NDraw.any (by kernel_rfl) ?_) | fail)
            all_goals (conv => whnf)
            all_goals first
              | rfl
              | exact ⟨true, rfl, iff_of_true rfl rfl⟩
              | (first | exact ⟨_, rfl, iff_of_true (by omega) rfl⟩ | (exfalso; omega) | exact ⟨_, rfl, by simp; omega⟩ | exact ⟨_, rfl, by simp⟩)
              | trace_state
        · exact absurd ⟨hu, ha, ha⟩ q
        · exact absurd ⟨hu, hb, ha⟩ q
        · exact absurd ⟨hu, ha, hc⟩ q
      · omega
    · omega
  · have h1 : B.aE units a b ≠ 0 → B.aV units a b = 0 := fun q => by
      rcases B.ap_cases units a b with ⟨_, _, e⟩ | ⟨_, e, _⟩
      · exact absurd e q
      · exact e
    generalize B.aE units a b = E1 at *
    generalize B.aV units a b = V1 at *
    generalize B.aE units b c = E2 at *
    generalize B.aV units b c = V2 at *
    by_cases z : E1 = 0
    · clear h1
      refine V.Fn.mk_ V.Tok V.mixed Try.func6 rfl Try.ntmps6 (by kernel_rfl) rfl rfl ?_
      repeat' ((conv => whnf); first | (refine V.NIf.yes ?_ ?_; · (decide; done)) | (refine V.NIf.no ?_ ?_; · (decide; done)) | refine V.NCond.mk ?_ | refine V.NIf.not_ ?_ | refine V.NIf.dec_ ?_ | refine V.NIf.no (by omega) ?_ | refine V.NIf.yes (by omega) ?_ | refine V.NIf.mk (fun _ => ?_) (fun _ => ?_) | refine V.NWrap.ok (by omega) (by omega) ?_ | refine V.NWrap.u64 (by omega) (by omega) ?_ | refine V.NLt.mk (by omega) ?_ | refine V.NBoth.mk ?_ ?_ | refine V.NTF.yes (by omega) ?_ | refine V.NTF.no (by omega) ?_ | refine V.NTF.dec ?_ | refine V.NDraw.q (by exact rfl) (by kernel_rfl) ?_ | refine V.NApp.one (by first | omega | (simp; omega)) (by first | omega | (simp; omega)) ?_ | (first | refine V.Fn.k0 (v_byBegun) rfl ?_ | refine V.Fn.q0 (v_byBegun) rfl ?_ | refine V.Fn.a0 (v_byBegun) rfl ?_) | (first | refine V.Fn.k0 (c1) rfl ?_ | refine V.Fn.q0 (c1) rfl ?_ | refine V.Fn.a0 (c1) rfl ?_) | (first | refine V.Fn.k0 (c2) rfl ?_ | refine V.Fn.q0 (c2) rfl ?_ | refine V.Fn.a0 (c2) rfl ?_) | (refine V.NDraw.any (by kernel_rfl) ?_) | fail)
      all_goals (conv => whnf)
      all_goals first
        | rfl
        | exact ⟨true, rfl, iff_of_true rfl rfl⟩
        | (first | exact ⟨_, rfl, iff_of_true (by omega) rfl⟩ | (exfalso; omega) | exact ⟨_, rfl, by simp; omega⟩ | exact ⟨_, rfl, by simp⟩)
        | trace_state
    · have h1 := h1 z
      refine V.Fn.mk_ V.Tok V.mixed Try.func6 rfl Try.ntmps6 (by kernel_rfl) rfl rfl ?_
      repeat' ((conv => whnf); first | (refine V.NIf.yes ?_ ?_; · (decide; done)) | (refine V.NIf.no ?_ ?_; · (decide; done)) | refine V.NCond.mk ?_ | refine V.NIf.not_ ?_ | refine V.NIf.dec_ ?_ | refine V.NIf.no (by omega) ?_ | refine V.NIf.yes (by omega) ?_ | refine V.NIf.mk (fun _ => ?_) (fun _ => ?_) | refine V.NWrap.ok (by omega) (by omega) ?_ | refine V.NWrap.u64 (by omega) (by omega) ?_ | refine V.NLt.mk (by omega) ?_ | refine V.NBoth.mk ?_ ?_ | refine V.NTF.yes (by omega) ?_ | refine V.NTF.no (by omega) ?_ | refine V.NTF.dec ?_ | refine V.NDraw.q (by exact rfl) (by kernel_rfl) ?_ | refine V.NApp.one (by first | omega | (simp; omega)) (by first | omega | (simp; omega)) ?_ | (first | refine V.Fn.k0 (v_byBegun) rfl ?_ | refine V.Fn.q0 (v_byBegun) rfl ?_ | refine V.Fn.a0 (v_byBegun) rfl ?_) | (first | refine V.Fn.k0 (c1) rfl ?_ | refine V.Fn.q0 (c1) rfl ?_ | refine V.Fn.a0 (c1) rfl ?_) | (first | refine V.Fn.k0 (c2) rfl ?_ | refine V.Fn.q0 (c2) rfl ?_ | refine V.Fn.a0 (c2) rfl ?_) | (refine V.NDraw.any (by kernel_rfl) ?_) | fail)
      all_goals (conv => whnf)
      all_goals first
        | rfl
        | exact ⟨true, rfl, iff_of_true rfl rfl⟩
        | (first | exact ⟨_, rfl, iff_of_true (by omega) rfl⟩ | (exfalso; omega) | exact ⟨_, rfl, by simp; omega⟩ | exact ⟨_, rfl, by simp⟩)
        | trace_state
end Go.Proofs.Ytcdlhfbpmpjfkaa

/- The statement of BuyinApart: for every input the call returns true and its input reads as it did. No condition. -/
namespace Go.Proofs.Ytcdlhfbpmpjfkaa.buyinApart
open Go.ChangeShapes Go.WideShapes Go.ChangeAt Go.RowKit

theorem own : ownKnob Try.prog.godebug = none := by kernel_rfl

set_option maxRecDepth 100000 in
theorem lifted (os : Os) (started : os.Started) (H : Type) (enc : TypeId × Value → H) :
    ReturnsInHanded {} Try.checked os 6 .any (Rows.buyinApartSpec.pre6 enc Try.prog Try.f6 Rows.buyinApartRow.domain false) (Rows.buyinApartSpec.post enc Try.prog Try.f6 false true false false) := by
  refine returnsInHanded_of_change (C := Try.checked) own started (by kernel_rfl) Try.func6
    (ChangeSpec.witness6 (enc := enc) (C := Try.checked) false ⟨#[], #[.int .i64 0, .int .i64 0, .int .i64 0, .int .i64 0], []⟩ 8 (by kernel_rfl) (by kernel_rfl) (by kernel_rfl) (by kernel_rfl)) ?_
  intro W base args ds gs before hval0 hW _ _
  have hval : ∀ (j : Nat) t v, Try.f6.params[j]? = some t → args[j]? = some v → Value.okWide Try.prog W .any base t v := hval0
  have hW' := hW
  obtain ⟨p, q, hA0, hV, rfl, hfz, hnd⟩ := hW
  have hA : DataW.TrodAll enc Try.prog W 0 (fun _ => true) true Try.f6.params.toList args.toList ds p := hA0
  rw [Try.params6] at hA hval
  obtain ⟨v0, vs0, d0, ds0, p0, q0, hargs, rfl, rfl, h0, r0⟩ := trodAll_cons hA
  obtain ⟨v1, vs1, d1, ds1, p1, q1, rfl, rfl, rfl, h1, r1⟩ := trodAll_cons r0
  obtain ⟨v2, vs2, d2, ds2, p2, q2, rfl, rfl, rfl, h2, r2⟩ := trodAll_cons r1
  obtain ⟨v3, vs3, d3, ds3, p3, q3, rfl, rfl, rfl, h3, r3⟩ := trodAll_cons r2
  obtain ⟨rfl, rfl, rfl⟩ := trodAll_nil r3
  obtain rfl : args = #[v0, v1, v2, v3] := by cases args; simp_all
  obtain ⟨rfl, rfl⟩ := trodVars_none hV
  obtain ⟨a0, rfl, rfl, rfl, w0⟩ := open_int Try.underlying3 (hval 0 3 v0 rfl rfl) h0
  obtain ⟨a1, rfl, rfl, rfl, w1⟩ := open_int Try.underlying3 (hval 1 3 v1 rfl rfl) h1
  obtain ⟨a2, rfl, rfl, rfl, w2⟩ := open_int Try.underlying3 (hval 2 3 v2 rfl rfl) h2
  obtain ⟨a3, rfl, rfl, rfl, w3⟩ := open_int Try.underlying3 (hval 3 3 v3 rfl rfl) h3
  clear hval0
  simp only [List.append_nil] at hW'
  refine ((v_buyinApart a0 w0 a1 w1 a2 w2 a3 w3).c W (fun i => [][i]?) [_, _, _, _] (fun i o ho => by simp at ho) ⟨_, _, rfl, rfl, ⟨_, _, rfl, rfl, ⟨_, _, rfl, rfl, ⟨_, _, rfl, rfl, rfl⟩⟩⟩⟩).mono fun e W' ⟨he, hg⟩ => ?_
  subst he
  exact ⟨_, rfl, post_of_below (pa := _) (pv := []) hW' (fun _ _ _ => (trodAll_cons_mk (shut_bool Try.underlying4 _) trodAll_mk0)) (fun sp hsp => all_stays laidOut (by kernel_rfl) hA0 (fun x hx => hg.same (hW'.lt x (by revert hx; simp))) (fun x hx => hsp x (by revert hx; simp))) (fun _ _ => rfl) (by simp)
    hg (ok_one (by kernel_rfl) rfl (okWide_bool_mk Try.underlying4 _))⟩

theorem over : Rows.buyinApartRow.holds Try.pinned (OpenSpec.ofChange Rows.buyinApartSpec) :=
  OpenClaim.holds_of_wide 6 Try.f6 rfl rfl rfl rfl rfl rfl rfl ⟨rfl, rfl, rfl, rfl, rfl⟩ rfl rfl rfl rfl rfl (by kernel_rfl) Try.func6 (by kernel_rfl)
    (of_decide_eq_true (by kernel_rfl)) (by unfold Func.isWrapper; first | (rw [if_pos (by decide +kernel)]; kernel_rfl) | (rw [if_neg (by decide +kernel)]; exact ⟨rfl, rfl⟩))
    (fun os started H enc _ => lifted os started H enc)

theorem proved : Rows.BuyinApartSaid :=
  over
end Go.Proofs.Ytcdlhfbpmpjfkaa.buyinApart
