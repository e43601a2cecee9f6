/- The statement of CompFarther: the call returns true for every input, and its input reads as it did. No condition. -/
import Derived.Test.YtjjepkklaagmmaaRows
import Derived.WalkKit
import Derived.ProofKit
import Derived.OpenShut
import Derived.Test.YtjjepkklaagmmaaZ1
import Derived.Test.YtjjepkklaagmmaaZ2
import Derived.Test.YtjjepkklaagmmaaZ3
import Derived.Test.YtjjepkklaagmmaaZ4
import Derived.Test.YtjjepkklaagmmaaZ5
import Derived.Test.YtjjepkklaagmmaaZ6

/- What CompFarther answers: true. -/
namespace Go.Proofs.Ytjjepkklaagmmaa
open Go Go.RowKit V
set_option maxRecDepth 100000
set_option linter.unusedVariables false
set_option linter.unusedSimpArgs false
set_option maxHeartbeats 4000000 in
theorem v_compFarther (p : Int) (w_p : (Lit.int .i64 p).wf = true) (was : Int) (w_was : (Lit.int .i64 was).wf = true) (most : Int) (w_most : (Lit.int .i64 most).wf = true) (more : Int) (w_more : (Lit.int .i64 more).wf = true) : V.Fn Try.prog 7 [] [.one (.val (.int .i64 p)), .one (.val (.int .i64 was)), .one (.val (.int .i64 most)), .one (.val (.int .i64 more))] (.bool true) := by
  clear w_p w_was w_most w_more
  have c1 := v_cpLimit p was most
  have c2 := v_cpLimit p was more
  by_cases h : Cp.LOk p was most
  · obtain ⟨a1, a2⟩ := Cp.l_yes h
    rw [a1, a2] at c1
    by_cases h2 : Cp.LOk p was more ∧ most ≤ more
    · obtain ⟨h2, hm⟩ := h2
      obtain ⟨b1, b2⟩ := Cp.l_yes h2
      rw [b1, b2] at c2
      have k3 : Cp.LOk p was 10000 := ⟨h.1, h.2.1, by omega⟩
      have c3 := v_cpLimit p was 10000
      rw [(Cp.l_yes k3).1, (Cp.l_yes k3).2, show was * 10000 / 10000 = was by omega] at c3
      have d1 := Cp.away_bd h
      have d2 := Cp.away_bd h2
      have dm : was * most / 10000 ≤ was * more / 10000 := by
        have := Int.mul_le_mul_of_nonneg_left hm h.2.1.1
        generalize was * most = x at *
        generalize was * more = y at *
        omega
      have q1 := Cp.clamp_cases p was (was * most / 10000)
      have q2 := Cp.clamp_cases p was (was * more / 10000)
      have q3 := Cp.clamp_cases p was was
      obtain ⟨⟨_, _⟩, ⟨_, _⟩, _, _⟩ := h
      clear k3 a1 a2 b1 b2 h2
      generalize was * most / 10000 = a at *
      generalize was * more / 10000 = b at *
      generalize Cp.clamp p was a = l at *
      generalize Cp.clamp p was b = m at *
      generalize Cp.clamp p was was = w at *
      have f1 : (m - was ≥ l - was ∧ l - was ≥ 0 ∧ m - was ≥ 0) ∨ (was - m ≥ was - l ∧ l - was ≤ 0 ∧ m - was ≤ 0) := by omega
      have f2 : w = p ∨ w = 2 * was ∨ w = 1099511627776 := by omega
      have f3 : 0 ≤ l ∧ l ≤ 1099511627776 ∧ 0 ≤ m ∧ m ≤ 1099511627776 := by omega
      clear q1 q2 q3
      refine V.Fn.mk_ V.Tok V.mixed Try.func7 rfl Try.ntmps7 (by kernel_rfl) rfl rfl ?_
      repeat' ((conv => whnf); first | (refine V.NIf.yes ?_ ?_; · (decide; done)) | (refine V.NIf.no ?_ ?_; · (decide; done)) | (refine V.NIf.yes ?_ ?_; · (simp only [true_and, and_true, and_self]; done)) | refine V.NCond.mk ?_ | refine V.NIf.not_ ?_ | refine V.NIf.dec_ ?_ | refine V.NIf.no (by omega) ?_ | refine V.NIf.yes (by omega) ?_ | refine V.NIf.mk (fun _ => ?_) (fun _ => ?_) | refine V.NWrap.ok (by omega) (by omega) ?_ | refine V.NWrap.u64 (by omega) (by omega) ?_ | refine V.NLt.mk (by omega) ?_ | refine V.NBoth.mk ?_ ?_ | refine V.NTF.yes (by omega) ?_ | refine V.NTF.no (by omega) ?_ | refine V.NTF.dec ?_ | refine V.NDraw.q (by exact rfl) (by kernel_rfl) ?_ | refine V.NApp.one (by first | omega | (simp; omega)) (by first | omega | (simp; omega)) ?_ | (first | refine V.Fn.k0 (c1) rfl ?_ | refine V.Fn.q0 (c1) rfl ?_ | refine V.Fn.a0 (c1) rfl ?_) | (first | refine V.Fn.k0 (c2) rfl ?_ | refine V.Fn.q0 (c2) rfl ?_ | refine V.Fn.a0 (c2) rfl ?_) | (first | refine V.Fn.k0 (c3) rfl ?_ | refine V.Fn.q0 (c3) rfl ?_ | refine V.Fn.a0 (c3) rfl ?_) | (first | refine V.Fn.k0 (v_cpBegun) rfl ?_ | refine V.Fn.q0 (v_cpBegun) rfl ?_ | refine V.Fn.a0 (v_cpBegun) rfl ?_) | (refine V.NCall.inl (f := 19) V.Tok V.mixed Try.func19 rfl Try.ntmps19 (by kernel_rfl) rfl ?_) | (refine V.NDraw.any (by kernel_rfl) ?_) | fail)
      all_goals (conv => whnf)
      all_goals first
        | (first | exact ⟨_, rfl, iff_of_true (by omega) rfl⟩ | (exfalso; omega) | exact ⟨_, rfl, by simp; omega⟩ | exact ⟨_, rfl, by simp⟩)
        | trace_state
    · have h3 : ¬ Cp.LOk p was more ∨ more < most := by
        by_cases q : Cp.LOk p was more
        · exact .inr (Int.not_le.1 fun z => h2 ⟨q, z⟩)
        · exact .inl q
      have h4 : Cp.lE p was more = 0 → more < most := fun z => h3.resolve_left fun q => q (Cp.l_ok z)
      generalize Cp.lE p was more = E at *
      refine V.Fn.mk_ V.Tok V.mixed Try.func7 rfl Try.ntmps7 (by kernel_rfl) rfl rfl ?_
      repeat' ((conv => whnf); first | (refine V.NIf.yes ?_ ?_; · (decide; done)) | (refine V.NIf.no ?_ ?_; · (decide; done)) | (refine V.NIf.yes ?_ ?_; · (simp only [true_and, and_true, and_self]; done)) | refine V.NCond.mk ?_ | refine V.NIf.not_ ?_ | refine V.NIf.dec_ ?_ | refine V.NIf.no (by omega) ?_ | refine V.NIf.yes (by omega) ?_ | refine V.NIf.mk (fun _ => ?_) (fun _ => ?_) | refine V.NWrap.ok (by omega) (by omega) ?_ | refine V.NWrap.u64 (by omega) (by omega) ?_ | refine V.NLt.mk (by omega) ?_ | refine V.NBoth.mk ?_ ?_ | refine V.NTF.yes (by omega) ?_ | refine V.NTF.no (by omega) ?_ | refine V.NTF.dec ?_ | refine V.NDraw.q (by exact rfl) (by kernel_rfl) ?_ | refine V.NApp.one (by first | omega | (simp; omega)) (by first | omega | (simp; omega)) ?_ | (first | refine V.Fn.k0 (c1) rfl ?_ | refine V.Fn.q0 (c1) rfl ?_ | refine V.Fn.a0 (c1) rfl ?_) | (first | refine V.Fn.k0 (c2) rfl ?_ | refine V.Fn.q0 (c2) rfl ?_ | refine V.Fn.a0 (c2) rfl ?_) | (first | refine V.Fn.k0 (v_cpBegun) rfl ?_ | refine V.Fn.q0 (v_cpBegun) rfl ?_ | refine V.Fn.a0 (v_cpBegun) rfl ?_) | (refine V.NDraw.any (by kernel_rfl) ?_) | fail)
      all_goals (conv => whnf)
      all_goals first
        | (first | exact ⟨_, rfl, iff_of_true (by omega) rfl⟩ | (exfalso; omega) | exact ⟨_, rfl, by simp; omega⟩ | exact ⟨_, rfl, by simp⟩)
        | trace_state
  · obtain ⟨a1, a2⟩ := Cp.l_no h
    rw [a1, a2] at c1
    refine V.Fn.mk_ V.Tok V.mixed Try.func7 rfl Try.ntmps7 (by kernel_rfl) rfl rfl ?_
    repeat' ((conv => whnf); first | (refine V.NIf.yes ?_ ?_; · (decide; done)) | (refine V.NIf.no ?_ ?_; · (decide; done)) | (refine V.NIf.yes ?_ ?_; · (simp only [true_and, and_true, and_self]; done)) | refine V.NCond.mk ?_ | refine V.NIf.not_ ?_ | refine V.NIf.dec_ ?_ | refine V.NIf.no (by omega) ?_ | refine V.NIf.yes (by omega) ?_ | refine V.NIf.mk (fun _ => ?_) (fun _ => ?_) | refine V.NWrap.ok (by omega) (by omega) ?_ | refine V.NWrap.u64 (by omega) (by omega) ?_ | refine V.NLt.mk (by omega) ?_ | refine V.NBoth.mk ?_ ?_ | refine V.NTF.yes (by omega) ?_ | refine V.NTF.no (by omega) ?_ | refine V.NTF.dec ?_ | refine V.NDraw.q (by exact rfl) (by kernel_rfl) ?_ | refine V.NApp.one (by first | omega | (simp; omega)) (by first | omega | (simp; omega)) ?_ | (first | refine V.Fn.k0 (c1) rfl ?_ | refine V.Fn.q0 (c1) rfl ?_ | refine V.Fn.a0 (c1) rfl ?_) | (first | refine V.Fn.k0 (c2) rfl ?_ | refine V.Fn.q0 (c2) rfl ?_ | refine V.Fn.a0 (c2) rfl ?_) | (first | refine V.Fn.k0 (v_cpBegun) rfl ?_ | refine V.Fn.q0 (v_cpBegun) rfl ?_ | refine V.Fn.a0 (v_cpBegun) rfl ?_) | (refine V.NDraw.any (by kernel_rfl) ?_) | fail)
    all_goals (conv => whnf)
    all_goals first
      | (first | exact ⟨_, rfl, iff_of_true (by omega) rfl⟩ | (exfalso; omega) | exact ⟨_, rfl, by simp; omega⟩ | exact ⟨_, rfl, by simp⟩)
      | trace_state
end Go.Proofs.Ytjjepkklaagmmaa

/- The statement of CompFarther: for every input the call returns true and its input reads as it did. No condition. -/
namespace Go.Proofs.Ytjjepkklaagmmaa.compFarther
open Go.ChangeShapes Go.WideShapes Go.ChangeAt Go.RowKit

theorem own : ownKnob Try.prog.godebug = none := by kernel_rfl

set_option maxRecDepth 100000 in
theorem lifted (os : Os) (started : os.Started) (H : Type) (enc : TypeId × Value → H) :
    ReturnsInHanded {} Try.checked os 7 .any (Rows.compFartherSpec.pre6 enc Try.prog Try.f7 Rows.compFartherRow.domain false) (Rows.compFartherSpec.post enc Try.prog Try.f7 false true false false) := by
  refine returnsInHanded_of_change (C := Try.checked) own started (by kernel_rfl) Try.func7
    (ChangeSpec.witness6 (enc := enc) (C := Try.checked) false ⟨#[], #[.int .i64 0, .int .i64 0, .int .i64 0, .int .i64 0], []⟩ 8 (by kernel_rfl) (by kernel_rfl) (by kernel_rfl) (by kernel_rfl)) ?_
  intro W base args ds gs before hval0 hW _ _
  have hval : ∀ (j : Nat) t v, Try.f7.params[j]? = some t → args[j]? = some v → Value.okWide Try.prog W .any base t v := hval0
  have hW' := hW
  obtain ⟨p, q, hA0, hV, rfl, hfz, hnd⟩ := hW
  have hA : DataW.TrodAll enc Try.prog W 0 (fun _ => true) true Try.f7.params.toList args.toList ds p := hA0
  rw [Try.params7] at hA hval
  obtain ⟨v0, vs0, d0, ds0, p0, q0, hargs, rfl, rfl, h0, r0⟩ := trodAll_cons hA
  obtain ⟨v1, vs1, d1, ds1, p1, q1, rfl, rfl, rfl, h1, r1⟩ := trodAll_cons r0
  obtain ⟨v2, vs2, d2, ds2, p2, q2, rfl, rfl, rfl, h2, r2⟩ := trodAll_cons r1
  obtain ⟨v3, vs3, d3, ds3, p3, q3, rfl, rfl, rfl, h3, r3⟩ := trodAll_cons r2
  obtain ⟨rfl, rfl, rfl⟩ := trodAll_nil r3
  obtain rfl : args = #[v0, v1, v2, v3] := by cases args; simp_all
  obtain ⟨rfl, rfl⟩ := trodVars_none hV
  obtain ⟨a0, rfl, rfl, rfl, w0⟩ := open_int Try.underlying3 (hval 0 3 v0 rfl rfl) h0
  obtain ⟨a1, rfl, rfl, rfl, w1⟩ := open_int Try.underlying3 (hval 1 3 v1 rfl rfl) h1
  obtain ⟨a2, rfl, rfl, rfl, w2⟩ := open_int Try.underlying3 (hval 2 3 v2 rfl rfl) h2
  obtain ⟨a3, rfl, rfl, rfl, w3⟩ := open_int Try.underlying3 (hval 3 3 v3 rfl rfl) h3
  clear hval0
  simp only [List.append_nil] at hW'
  refine ((v_compFarther a0 w0 a1 w1 a2 w2 a3 w3).c W (fun i => [][i]?) [_, _, _, _] (fun i o ho => by simp at ho) ⟨_, _, rfl, rfl, ⟨_, _, rfl, rfl, ⟨_, _, rfl, rfl, ⟨_, _, rfl, rfl, rfl⟩⟩⟩⟩).mono fun e W' ⟨he, hg⟩ => ?_
  subst he
  exact ⟨_, rfl, post_of_below (pa := _) (pv := []) hW' (fun _ _ _ => (trodAll_cons_mk (shut_bool Try.underlying4 _) trodAll_mk0)) (fun sp hsp => all_stays laidOut (by kernel_rfl) hA0 (fun x hx => hg.same (hW'.lt x (by revert hx; simp))) (fun x hx => hsp x (by revert hx; simp))) (fun _ _ => rfl) (by simp)
    hg (ok_one (by kernel_rfl) rfl (okWide_bool_mk Try.underlying4 _))⟩

theorem over : Rows.compFartherRow.holds Try.pinned (OpenSpec.ofChange Rows.compFartherSpec) :=
  OpenClaim.holds_of_wide 7 Try.f7 rfl rfl rfl rfl rfl rfl rfl ⟨rfl, rfl, rfl, rfl, rfl⟩ rfl rfl rfl rfl rfl (by kernel_rfl) Try.func7 (by kernel_rfl)
    (of_decide_eq_true (by kernel_rfl)) (by unfold Func.isWrapper; first | (rw [if_pos (by decide +kernel)]; kernel_rfl) | (rw [if_neg (by decide +kernel)]; exact ⟨rfl, rfl⟩))
    (fun os started H enc _ => lifted os started H enc)

theorem proved : Rows.CompFartherSaid :=
  over
end Go.Proofs.Ytjjepkklaagmmaa.compFarther
