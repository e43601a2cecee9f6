/- The statement of ReportTells: the call returns true for every input, and its input reads as it did. No condition. -/
import Derived.Test.YtdehibmofmfkbaaRows
import Derived.WalkKit
import Derived.ProofKit
import Derived.OpenShut
import Derived.Test.YtdehibmofmfkbaaZ1
import Derived.Test.YtdehibmofmfkbaaZ2
import Derived.Test.YtdehibmofmfkbaaZ3
import Derived.Test.YtdehibmofmfkbaaZ4
import Derived.Test.YtdehibmofmfkbaaZ5
set_option linter.unusedVariables false
set_option linter.unusedSimpArgs false
set_option linter.unusedSectionVars false
set_option maxRecDepth 100000

/- What ReportTells answers: true. -/
namespace Go.Proofs.Ytdehibmofmfkbaa
open Go Go.RowKit V
set_option maxRecDepth 100000
set_option linter.unusedVariables false
set_option linter.unusedSimpArgs false
set_option maxHeartbeats 4000000 in
theorem v_reportTells (c : Cl) (wc : WfCl c) (l : List Fl) (wl : ∀ f ∈ l, WfF f) (today : Int) (w_today : (Lit.int .i64 today).wf = true) (b : List Int) (wb : ∀ f ∈ b, (Lit.int .i64 f).wf = true) (ps : List Int) (wp : ∀ f ∈ ps, (Lit.int .i64 f).wf = true) (many : Int) (w_many : (Lit.int .i64 many).wf = true) : V.Fn Try.prog 3 [.arr 1 c.hs.length (ga e1 c.hs), .arr 10 l.length (ga encF l), .arr 1 b.length (ga e1 b), .arr 1 ps.length (ga e1 ps)] [.agg [.val (.int .i64 c.we), .ref 0], .one (.ref 1), .one (.val (.int .i64 today)), .one (.ref 2), .one (.ref 3), .one (.val (.int .i64 many))] (.bool true) := by
  refine V.Fn.lim (by kernel_rfl) fun hl => ?_
  have hc := hl 0 _ _ _ rfl
  have hn := hl 2 _ _ _ rfl
  have hp := hl 3 _ _ _ rfl
  clear hl wc wl wb wp
  by_cases hx : F.checks l = 0
  · by_cases hw : Rp.aE c l today b = 0
    · by_cases h2 : P.chks ps = 0
      · by_cases h3 : 0 ≤ many ∧ many ≤ 60
        · exact v_rt_yc c l today b ps many hc hn hp hw hx ⟨h2, h3⟩
        · exact v_rt_yb c l today b ps many hc hn hp hw hx ⟨h2, h3⟩
      · exact v_rt_ya c l today b ps many hc hn hp hw hx h2
    · by_cases h2 : P.chks ps = 0
      · by_cases h3 : 0 ≤ many ∧ many ≤ 60
        · exact v_rt_nc c l today b ps many hc hn hp hw hx ⟨h2, h3⟩
        · exact v_rt_nb c l today b ps many hc hn hp hw hx ⟨h2, h3⟩
      · exact v_rt_na c l today b ps many hc hn hp hw hx h2
  · have hw : ¬ Rp.aE c l today b = 0 := fun h => hx (Rp.aE_ok h).2.1
    have c1 := v_rages c l today b hc hn
    have c2 := v_parties l
    have c3 := v_top l ps many hp
    have c4 := v_rrate l
    have c5 := v_rreperr c l today b hc hn
    have c6 := v_rfchecks l
    have te := Rp.tE_1 (pr := ps) (many := many) hx
    rw [Rp.tV_no (by rw [te]; exact hx), te] at c3
    rw [(Rp.rE_1 hx).1, (Rp.rE_1 hx).2] at c4
    rw [Rp.aV_no hw] at c1
    rw [show Rp.frV l = [] from if_neg hx, show Rp.toV l = [] from if_neg hx] at c2
    generalize Rp.aE c l today b = w at *
    generalize F.checks l = v at *
    have d1 := v_sameints [] [] (by decide)
    rw [show decide (([] : List Int) = []) = true from rfl] at d1
    refine V.Fn.mk_ V.Tok V.mixed Try.func3 rfl Try.ntmps3 (by kernel_rfl) rfl rfl ?_
    repeat' ((conv => whnf); first | (refine V.NIf.yes ?_ ?_; · (decide; done)) | (refine V.NIf.no ?_ ?_; · (decide; done)) | (refine V.NIf.yes ?_ ?_; · (exact hw; done)) | (refine V.NIf.no ?_ ?_; · (exact hw; done)) | (refine V.NIf.yes ?_ ?_; · (exact hx; done)) | (refine V.NIf.no ?_ ?_; · (exact hx; done)) | (refine V.NIf.yes ?_ ?_; · (rfl; done)) | refine V.NCond.mk ?_ | refine V.NPick.l ?_ | refine V.NIf.not_ ?_ | refine V.NIf.dec_ ?_ | refine V.a4 ?_ | refine V.a5 ?_ | refine V.NIf.mk (fun _ => ?_) (fun _ => ?_) | refine V.a7 ?_ | refine V.a8 ?_ | refine V.a9 ?_ | refine V.NBoth.mk ?_ ?_ | refine V.b1 ?_ | refine V.b2 ?_ | refine V.NTF.dec ?_ | refine V.b3 ?_ | refine V.b4 ?_ | ((first | refine V.FnR.k_ (c1) [0, 1, 2] rfl ?_ ?_ | refine V.FnR.a_ (c1) [0, 1, 2] rfl ?_ ?_); · exact V.D_) | ((first | refine V.FnR.k_ (c2) [1] rfl ?_ ?_ | refine V.FnR.a_ (c2) [1] rfl ?_ ?_); · exact V.D_) | ((first | refine V.FnR.k_ (c3) [1, 3] rfl ?_ ?_ | refine V.FnR.a_ (c3) [1, 3] rfl ?_ ?_); · exact V.D_) | ((first | refine V.Fn.k (c4) [1] rfl ?_ ?_ | refine V.Fn.q (c4) [1] rfl ?_ ?_ | refine V.Fn.a (c4) [1] rfl ?_ ?_); · exact V.D_) | ((first | refine V.Fn.k (c5) [0, 1, 2] rfl ?_ ?_ | refine V.Fn.q (c5) [0, 1, 2] rfl ?_ ?_ | refine V.Fn.a (c5) [0, 1, 2] rfl ?_ ?_); · exact V.D_) | ((first | refine V.Fn.k (c6) [1] rfl ?_ ?_ | refine V.Fn.q (c6) [1] rfl ?_ ?_ | refine V.Fn.a (c6) [1] rfl ?_ ?_); · exact V.D_) | (first | refine V.Fn.k0 (v_repBegun) rfl ?_ | refine V.Fn.q0 (v_repBegun) rfl ?_ | refine V.Fn.a0 (v_repBegun) rfl ?_) | ((first | refine V.Fn.k (d1) [5, 9] rfl ?_ ?_ | refine V.Fn.q (d1) [5, 9] rfl ?_ ?_ | refine V.Fn.a (d1) [5, 9] rfl ?_ ?_); · exact V.D_) | ((first | refine V.Fn.k (d1) [6, 10] rfl ?_ ?_ | refine V.Fn.q (d1) [6, 10] rfl ?_ ?_ | refine V.Fn.a (d1) [6, 10] rfl ?_ ?_); · exact V.D_) | ((first | refine V.Fn.k (d1) [7, 11] rfl ?_ ?_ | refine V.Fn.q (d1) [7, 11] rfl ?_ ?_ | refine V.Fn.a (d1) [7, 11] rfl ?_ ?_); · exact V.D_) | ((first | refine V.Fn.k (d1) [8, 12] rfl ?_ ?_ | refine V.Fn.q (d1) [8, 12] rfl ?_ ?_ | refine V.Fn.a (d1) [8, 12] rfl ?_ ?_); · exact V.D_) | (refine V.NDraw.any (by kernel_rfl) ?_) | fail)
    all_goals (conv => whnf)
    all_goals exact ⟨true, rfl, iff_of_true rfl rfl⟩
end Go.Proofs.Ytdehibmofmfkbaa

/- The statement of ReportTells: for every input the call returns true and its input reads as it did. No condition. -/
namespace Go.Proofs.Ytdehibmofmfkbaa.reportTells
open Go.ChangeShapes Go.WideShapes Go.ChangeAt Go.RowKit

theorem own : ownKnob Try.prog.godebug = none := by kernel_rfl

set_option maxRecDepth 100000 in
theorem lifted (os : Os) (started : os.Started) (H : Type) (enc : TypeId × Value → H) :
    ReturnsInHanded {} Try.checked os 3 .any (Rows.reportTellsSpec.pre6 enc Try.prog Try.f3 Rows.reportTellsRow.domain false) (Rows.reportTellsSpec.post enc Try.prog Try.f3 false true false false) := by
  refine returnsInHanded_of_change (C := Try.checked) own started (by kernel_rfl) Try.func3
    (ChangeSpec.witness6 (enc := enc) (C := Try.checked) false ⟨#[], #[.agg #[.int .i64 0, .slice none 0 0], .slice none 0 0, .int .i64 0, .slice none 0 0, .slice none 0 0, .int .i64 0], []⟩ 8 (by kernel_rfl) (by kernel_rfl) (by kernel_rfl) (by kernel_rfl)) ?_
  intro W base args ds gs before hval0 hW _ _
  have hval : ∀ (j : Nat) t v, Try.f3.params[j]? = some t → args[j]? = some v → Value.okWide Try.prog W .any base t v := hval0
  have hW' := hW
  obtain ⟨p, q, hA0, hV, rfl, hfz, hnd⟩ := hW
  have hA : DataW.TrodAll enc Try.prog W 0 (fun _ => true) true Try.f3.params.toList args.toList ds p := hA0
  rw [Try.params3] at hA hval
  obtain ⟨v0, vs0, d0, ds0, p0, q0, hargs, rfl, rfl, h0, r0⟩ := trodAll_cons hA
  obtain ⟨v1, vs1, d1, ds1, p1, q1, rfl, rfl, rfl, h1, r1⟩ := trodAll_cons r0
  obtain ⟨v2, vs2, d2, ds2, p2, q2, rfl, rfl, rfl, h2, r2⟩ := trodAll_cons r1
  obtain ⟨v3, vs3, d3, ds3, p3, q3, rfl, rfl, rfl, h3, r3⟩ := trodAll_cons r2
  obtain ⟨v4, vs4, d4, ds4, p4, q4, rfl, rfl, rfl, h4, r4⟩ := trodAll_cons r3
  obtain ⟨v5, vs5, d5, ds5, p5, q5, rfl, rfl, rfl, h5, r5⟩ := trodAll_cons r4
  obtain ⟨rfl, rfl, rfl⟩ := trodAll_nil r5
  obtain rfl : args = #[v0, v1, v2, v3, v4, v5] := by cases args; simp_all
  obtain ⟨rfl, rfl⟩ := trodVars_none hV
  obtain ⟨c0, u0, rfl, hl0, w0⟩ := open_cl (hval 0 24 v0 rfl rfl) h0
  obtain ⟨l1, hl1, w1⟩ := open_fls (hval 1 25 v1 rfl rfl) h1
  obtain ⟨a2, rfl, rfl, rfl, w2⟩ := open_int Try.underlying3 (hval 2 3 v2 rfl rfl) h2
  obtain ⟨l3, hl3, w3⟩ := open_il (hval 3 22 v3 rfl rfl) h3
  obtain ⟨l4, hl4, w4⟩ := open_il (hval 4 22 v4 rfl rfl) h4
  obtain ⟨a5, rfl, rfl, rfl, w5⟩ := open_int Try.underlying3 (hval 5 3 v5 rfl rfl) h5
  clear hval0
  simp only [List.append_nil] at hW'
  refine ((v_reportTells c0 w0 l1 w1 a2 w2 l3 w3 l4 w4 a5 w5).c W (fun i => [u0, v1, v3, v4][i]?) [_, _, _, _, _, _] (fun i o ho => by
      rcases i with _ | i
      · obtain rfl := Option.some.inj ho
        exact ⟨u0, rfl, hl0⟩
      rcases i with _ | i
      · obtain rfl := Option.some.inj ho
        exact ⟨v1, rfl, hl1⟩
      rcases i with _ | i
      · obtain rfl := Option.some.inj ho
        exact ⟨v3, rfl, hl3⟩
      rcases i with _ | i
      · obtain rfl := Option.some.inj ho
        exact ⟨v4, rfl, hl4⟩
      simp at ho
) ⟨_, _, rfl, ⟨[_, _], ⟨_, _, rfl, rfl, _, _, rfl, ⟨rfl, hl0.one⟩, rfl⟩, rfl⟩, ⟨_, _, rfl, ⟨rfl, hl1.one⟩, ⟨_, _, rfl, rfl, ⟨_, _, rfl, ⟨rfl, hl3.one⟩, ⟨_, _, rfl, ⟨rfl, hl4.one⟩, ⟨_, _, rfl, rfl, rfl⟩⟩⟩⟩⟩⟩).mono fun e W' ⟨he, hg0⟩ => ?_
  have hg := hg0.toBelow
  subst he
  exact ⟨_, rfl, post_of_below (pa := _) (pv := []) hW' (fun _ _ _ => (trodAll_cons_mk (shut_bool Try.underlying4 _) trodAll_mk0)) (fun sp hsp => all_stays laidOut (by kernel_rfl) hA0 (fun x hx => hg.same (hW'.lt x (by revert hx; simp))) (fun x hx => hsp x (by revert hx; simp))) (fun _ _ => rfl) (by simp)
    hg (ok_one (by kernel_rfl) rfl (okWide_bool_mk Try.underlying4 _))⟩

theorem over : Rows.reportTellsRow.holds Try.pinned (OpenSpec.ofChange Rows.reportTellsSpec) :=
  OpenClaim.holds_of_wide 3 Try.f3 rfl rfl rfl rfl rfl rfl rfl ⟨rfl, rfl, rfl, rfl, rfl⟩ rfl rfl rfl rfl rfl (by kernel_rfl) Try.func3 (by kernel_rfl)
    (of_decide_eq_true (by kernel_rfl)) (by unfold Func.isWrapper; first | (rw [if_pos (by decide +kernel)]; kernel_rfl) | (rw [if_neg (by decide +kernel)]; exact ⟨rfl, rfl⟩))
    (fun os started H enc _ => lifted os started H enc)

theorem proved : Rows.ReportTellsSaid :=
  over
end Go.Proofs.Ytdehibmofmfkbaa.reportTells
