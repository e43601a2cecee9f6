/- The statement of CycleTells: the call returns true for every input, and its input reads as it did. No condition. -/
import Derived.Test.YtpanlcnoopmchaaGreatRows
import Derived.WalkKit
import Derived.ProofKit
import Derived.OpenShut
import Derived.Test.YtpanlcnoopmchaaGreatZ1
import Derived.Test.YtpanlcnoopmchaaGreatZ2
import Derived.Test.YtpanlcnoopmchaaGreatZ3
import Derived.Test.YtpanlcnoopmchaaGreatZ4
import Derived.Test.YtpanlcnoopmchaaGreatZ5
import Derived.Test.YtpanlcnoopmchaaGreatZ6
import Derived.Test.YtpanlcnoopmchaaGreatZ7

/- What CycleTells answers: true. -/
namespace Go.Proofs.YtpanlcnoopmchaaGreat
open Go Go.RowKit V
set_option maxRecDepth 100000
set_option linter.unusedVariables false
set_option linter.unusedSimpArgs false
set_option maxHeartbeats 4000000 in
theorem v_cycleTells (w : Wd) (ww : WfWd w) (id : Int) (wi : (Lit.int .i64 id).wf = true) (u : Int) (wu : (Lit.int .i64 u).wf = true) (f : Fl) (wf : WfF f) : V.Fn Tryz.prog 4 [.arr 10 w.fs.length (ga encF w.fs), .arr 3 w.bk.length (ga encP w.bk)] [.agg [.val (.int .i64 w.td), .ref 0, .ref 1], .one (.val (.int .i64 id)), .one (.val (.int .i64 u)), .agg [.val (.int .i64 f.id), .val (.int .i64 f.fr), .val (.int .i64 f.to), .val (.int .i64 f.cl), .val (.int .i64 f.pa), .val (.int .i64 f.day), .val (.int .i64 f.un), .val (.int .i64 f.de), .val (.int .i64 f.bo), .val (.int .i64 f.pd)]] (.bool true) := by
  refine V.Fn.lim (by kernel_rfl) fun hl => ?_
  have hb := hl 1 _ _ _ rfl
  clear hl ww wf wi wu
  have c1 := v_cyDeliver w id u hb
  have c2 := v_cyAdd w f hb
  have c3 := v_cyTidy w hb
  have r1 := v_rDeliver w id u hb
  have cw := v_rWcheck w hb
  have d1 := Cy.dv_len w id u
  have d2 := Cy.ad_len w f
  have d3 := Cy.ty_len w
  have s1 := v_sameworld (Cy.dvW w id u) (Cy.dvW w id u) (by omega) (by omega)
  have s2 := v_sameworld (Cy.adW w f) (Cy.adW w f) (by omega) (by omega)
  have s3 := v_sameworld (Cy.tyW w) (Cy.tyW w) (by omega) (by omega)
  have s4 := v_samefails (Cy.tyO w) (Cy.tyO w) (by omega)
  rw [show decide (Cy.dvW w id u = Cy.dvW w id u) = true from decide_eq_true rfl] at s1
  rw [show decide (Cy.adW w f = Cy.adW w f) = true from decide_eq_true rfl] at s2
  rw [show decide (Cy.tyW w = Cy.tyW w) = true from decide_eq_true rfl] at s3
  rw [show decide (Cy.tyO w = Cy.tyO w) = true from decide_eq_true rfl] at s4
  clear d1 d2 d3
  by_cases h : Cy.wE w = 0
  · obtain ⟨n60, n400⟩ := Cy.wE_len h
    obtain ⟨t1, t2⟩ := Cy.ty_yes h
    have rt := v_rTidy w (Cy.wE_ok h).2.1
    rw [h] at cw c3
    rw [t1, t2] at c3 
    rw [t1] at s3
    rw [t2] at s4
    dsimp only at c3 s3 s4
    clear h t1 t2
    by_cases k : Cy.adE w f = 0
    · have r2 := v_rAdd_yes w f hb k
      rw [k, Cy.adW_yes k] at c2
      rw [Cy.adW_yes k] at s2
      dsimp only at c2 s2
      clear k
      refine V.Fn.mk_ V.Tok V.mixed Tryz.func4 rfl Tryz.ntmps4 (by kernel_rfl) rfl rfl ?_
      repeat' ((conv => whnf); first | (refine V.NIf.yes ?_ ?_; · (decide; done)) | (refine V.NIf.no ?_ ?_; · (decide; done)) | (refine V.NIf.yes ?_ ?_; · (simp only [true_and, and_true, and_self]; done)) | refine V.NCond.mk ?_ | refine V.NPick.l ?_ | refine V.NIf.not_ ?_ | refine V.NIf.dec_ ?_ | refine V.a4 ?_ | refine V.a5 ?_ | refine V.NIf.mk (fun _ => ?_) (fun _ => ?_) | refine V.a7 ?_ | refine V.a8 ?_ | refine V.a9 ?_ | refine V.NBoth.mk ?_ ?_ | refine V.b1 ?_ | refine V.b2 ?_ | refine V.NTF.dec ?_ | refine V.b3 ?_ | refine V.b4 ?_ | (first | refine V.Fn.k0 (v_cyBegun) rfl ?_ | refine V.Fn.q0 (v_cyBegun) rfl ?_ | refine V.Fn.a0 (v_cyBegun) rfl ?_) | ((first | refine V.FnR.k_ (c1) [0, 1] rfl ?_ ?_ | refine V.FnR.a_ (c1) [0, 1] rfl ?_ ?_); · exact V.D_) | ((first | refine V.FnR.k_ (c2) [0, 1] rfl ?_ ?_ | refine V.FnR.a_ (c2) [0, 1] rfl ?_ ?_); · exact V.D_) | ((first | refine V.FnR.k_ (c3) [0, 1] rfl ?_ ?_ | refine V.FnR.a_ (c3) [0, 1] rfl ?_ ?_); · exact V.D_) | ((first | refine V.FnR.k_ (r1) [0, 1] rfl ?_ ?_ | refine V.FnR.a_ (r1) [0, 1] rfl ?_ ?_); · exact V.D_) | ((first | refine V.FnR.k_ (r2) [0, 1] rfl ?_ ?_ | refine V.FnR.a_ (r2) [0, 1] rfl ?_ ?_); · exact V.D_) | ((first | refine V.Fn.k (cw) [0, 1] rfl ?_ ?_ | refine V.Fn.q (cw) [0, 1] rfl ?_ ?_ | refine V.Fn.a (cw) [0, 1] rfl ?_ ?_); · exact V.D_) | ((first | refine V.FnR.k_ (rt) [0, 1] rfl ?_ ?_ | refine V.FnR.a_ (rt) [0, 1] rfl ?_ ?_); · exact V.D_) | ((first | refine V.Fn.k (s1) [4, 5, 14, 15] rfl ?_ ?_ | refine V.Fn.q (s1) [4, 5, 14, 15] rfl ?_ ?_ | refine V.Fn.a (s1) [4, 5, 14, 15] rfl ?_ ?_); · exact V.D_) | ((first | refine V.Fn.k (s2) [7, 8, 17, 1] rfl ?_ ?_ | refine V.Fn.q (s2) [7, 8, 17, 1] rfl ?_ ?_ | refine V.Fn.a (s2) [7, 8, 17, 1] rfl ?_ ?_); · exact V.D_) | ((first | refine V.Fn.k (s3) [10, 11, 21, 1] rfl ?_ ?_ | refine V.Fn.q (s3) [10, 11, 21, 1] rfl ?_ ?_ | refine V.Fn.a (s3) [10, 11, 21, 1] rfl ?_ ?_); · exact V.D_) | ((first | refine V.Fn.k (s4) [12, 22] rfl ?_ ?_ | refine V.Fn.q (s4) [12, 22] rfl ?_ ?_ | refine V.Fn.a (s4) [12, 22] rfl ?_ ?_); · exact V.D_) | (refine V.NDraw.any (by kernel_rfl) ?_) | fail)
      all_goals (conv => whnf)
      all_goals first | exact ⟨true, rfl, by simp⟩ | trace_state
    · have r2 := v_rAdd_no w f hb k
      rw [Cy.adW_no k] at c2 s2
      refine V.Fn.mk_ V.Tok V.mixed Tryz.func4 rfl Tryz.ntmps4 (by kernel_rfl) rfl rfl ?_
      repeat' ((conv => whnf); first | (refine V.NIf.yes ?_ ?_; · (decide; done)) | (refine V.NIf.no ?_ ?_; · (decide; done)) | (refine V.NIf.yes ?_ ?_; · (simp only [true_and, and_true, and_self]; done)) | refine V.NCond.mk ?_ | refine V.NPick.l ?_ | refine V.NIf.not_ ?_ | refine V.NIf.dec_ ?_ | refine V.a4 ?_ | refine V.a5 ?_ | refine V.NIf.mk (fun _ => ?_) (fun _ => ?_) | refine V.a7 ?_ | refine V.a8 ?_ | refine V.a9 ?_ | refine V.NBoth.mk ?_ ?_ | refine V.b1 ?_ | refine V.b2 ?_ | refine V.NTF.dec ?_ | refine V.b3 ?_ | refine V.b4 ?_ | (first | refine V.Fn.k0 (v_cyBegun) rfl ?_ | refine V.Fn.q0 (v_cyBegun) rfl ?_ | refine V.Fn.a0 (v_cyBegun) rfl ?_) | ((first | refine V.FnR.k_ (c1) [0, 1] rfl ?_ ?_ | refine V.FnR.a_ (c1) [0, 1] rfl ?_ ?_); · exact V.D_) | ((first | refine V.FnR.k_ (c2) [0, 1] rfl ?_ ?_ | refine V.FnR.a_ (c2) [0, 1] rfl ?_ ?_); · exact V.D_) | ((first | refine V.FnR.k_ (c3) [0, 1] rfl ?_ ?_ | refine V.FnR.a_ (c3) [0, 1] rfl ?_ ?_); · exact V.D_) | ((first | refine V.FnR.k_ (r1) [0, 1] rfl ?_ ?_ | refine V.FnR.a_ (r1) [0, 1] rfl ?_ ?_); · exact V.D_) | ((first | refine V.FnR.k_ (r2) [0, 1] rfl ?_ ?_ | refine V.FnR.a_ (r2) [0, 1] rfl ?_ ?_); · exact V.D_) | ((first | refine V.Fn.k (cw) [0, 1] rfl ?_ ?_ | refine V.Fn.q (cw) [0, 1] rfl ?_ ?_ | refine V.Fn.a (cw) [0, 1] rfl ?_ ?_); · exact V.D_) | ((first | refine V.FnR.k_ (rt) [0, 1] rfl ?_ ?_ | refine V.FnR.a_ (rt) [0, 1] rfl ?_ ?_); · exact V.D_) | ((first | refine V.Fn.k (s1) [4, 5, 14, 15] rfl ?_ ?_ | refine V.Fn.q (s1) [4, 5, 14, 15] rfl ?_ ?_ | refine V.Fn.a (s1) [4, 5, 14, 15] rfl ?_ ?_); · exact V.D_) | ((first | refine V.Fn.k (s2) [7, 8, 17, 18] rfl ?_ ?_ | refine V.Fn.q (s2) [7, 8, 17, 18] rfl ?_ ?_ | refine V.Fn.a (s2) [7, 8, 17, 18] rfl ?_ ?_); · exact V.D_) | ((first | refine V.Fn.k (s3) [10, 11, 22, 1] rfl ?_ ?_ | refine V.Fn.q (s3) [10, 11, 22, 1] rfl ?_ ?_ | refine V.Fn.a (s3) [10, 11, 22, 1] rfl ?_ ?_); · exact V.D_) | ((first | refine V.Fn.k (s4) [12, 23] rfl ?_ ?_ | refine V.Fn.q (s4) [12, 23] rfl ?_ ?_ | refine V.Fn.a (s4) [12, 23] rfl ?_ ?_); · exact V.D_) | (refine V.NDraw.any (by kernel_rfl) ?_) | fail)
      all_goals (conv => whnf)
      all_goals first | exact ⟨true, rfl, by simp⟩ | trace_state
  · have k : ¬ Cy.adE w f = 0 := by rw [Cy.ad_1 h]; exact h
    have r2 := v_rAdd_no w f hb k
    rw [Cy.adW_no k] at c2 s2
    rw [(Cy.ty_no h).1, (Cy.ty_no h).2] at c3
    rw [(Cy.ty_no h).1] at s3
    rw [(Cy.ty_no h).2] at s4
    refine V.Fn.mk_ V.Tok V.mixed Tryz.func4 rfl Tryz.ntmps4 (by kernel_rfl) rfl rfl ?_
    repeat' ((conv => whnf); first | (refine V.NIf.yes ?_ ?_; · (decide; done)) | (refine V.NIf.no ?_ ?_; · (decide; done)) | (refine V.NIf.yes ?_ ?_; · (exact h; done)) | (refine V.NIf.no ?_ ?_; · (exact h; done)) | (refine V.NIf.yes ?_ ?_; · (simp only [true_and, and_true, and_self]; done)) | refine V.NCond.mk ?_ | refine V.NPick.l ?_ | refine V.NIf.not_ ?_ | refine V.NIf.dec_ ?_ | refine V.a4 ?_ | refine V.a5 ?_ | refine V.NIf.mk (fun _ => ?_) (fun _ => ?_) | refine V.a7 ?_ | refine V.a8 ?_ | refine V.a9 ?_ | refine V.NBoth.mk ?_ ?_ | refine V.b1 ?_ | refine V.b2 ?_ | refine V.NTF.dec ?_ | refine V.b3 ?_ | refine V.b4 ?_ | (first | refine V.Fn.k0 (v_cyBegun) rfl ?_ | refine V.Fn.q0 (v_cyBegun) rfl ?_ | refine V.Fn.a0 (v_cyBegun) rfl ?_) | ((first | refine V.FnR.k_ (c1) [0, 1] rfl ?_ ?_ | refine V.FnR.a_ (c1) [0, 1] rfl ?_ ?_); · exact V.D_) | ((first | refine V.FnR.k_ (c2) [0, 1] rfl ?_ ?_ | refine V.FnR.a_ (c2) [0, 1] rfl ?_ ?_); · exact V.D_) | ((first | refine V.FnR.k_ (c3) [0, 1] rfl ?_ ?_ | refine V.FnR.a_ (c3) [0, 1] rfl ?_ ?_); · exact V.D_) | ((first | refine V.FnR.k_ (r1) [0, 1] rfl ?_ ?_ | refine V.FnR.a_ (r1) [0, 1] rfl ?_ ?_); · exact V.D_) | ((first | refine V.FnR.k_ (r2) [0, 1] rfl ?_ ?_ | refine V.FnR.a_ (r2) [0, 1] rfl ?_ ?_); · exact V.D_) | ((first | refine V.Fn.k (cw) [0, 1] rfl ?_ ?_ | refine V.Fn.q (cw) [0, 1] rfl ?_ ?_ | refine V.Fn.a (cw) [0, 1] rfl ?_ ?_); · exact V.D_) | ((first | refine V.Fn.k (s1) [4, 5, 14, 15] rfl ?_ ?_ | refine V.Fn.q (s1) [4, 5, 14, 15] rfl ?_ ?_ | refine V.Fn.a (s1) [4, 5, 14, 15] rfl ?_ ?_); · exact V.D_) | ((first | refine V.Fn.k (s2) [7, 8, 17, 18] rfl ?_ ?_ | refine V.Fn.q (s2) [7, 8, 17, 18] rfl ?_ ?_ | refine V.Fn.a (s2) [7, 8, 17, 18] rfl ?_ ?_); · exact V.D_) | (refine V.NCall.nilf (f := 18) 1 1 10 _ rfl rfl ?_) | (refine V.NCall.nilf (f := 18) 1 2 3 _ rfl rfl ?_) | ((first | refine V.Fn.k (s3) [10, 11, 22, 23] rfl ?_ ?_ | refine V.Fn.q (s3) [10, 11, 22, 23] rfl ?_ ?_ | refine V.Fn.a (s3) [10, 11, 22, 23] rfl ?_ ?_); · exact ⟨⟨rfl, rfl, fun _ _ => rfl⟩, ⟨rfl, rfl, fun _ _ => rfl⟩, ⟨rfl, rfl, fun k hk => absurd hk (Nat.not_lt_zero _)⟩, ⟨rfl, rfl, fun k hk => absurd hk (Nat.not_lt_zero _)⟩, trivial⟩) | ((first | refine V.Fn.k (s4) [12, 21] rfl ?_ ?_ | refine V.Fn.q (s4) [12, 21] rfl ?_ ?_ | refine V.Fn.a (s4) [12, 21] rfl ?_ ?_); · exact ⟨⟨rfl, rfl, fun _ _ => rfl⟩, ⟨rfl, rfl, fun k hk => absurd hk (Nat.not_lt_zero _)⟩, trivial⟩) | (refine V.NDraw.any (by kernel_rfl) ?_) | fail)
    all_goals (conv => whnf)
    all_goals first | exact ⟨true, rfl, by simp⟩ | trace_state
end Go.Proofs.YtpanlcnoopmchaaGreat

/- The statement of CycleTells: for every input the call returns true and its input reads as it did. No condition. -/
namespace Go.Proofs.YtpanlcnoopmchaaGreat.cycleTells
open Go.ChangeShapes Go.WideShapes Go.ChangeAt Go.RowKit

theorem own : ownKnob Tryz.prog.godebug = none := by kernel_rfl

set_option maxRecDepth 100000 in
theorem lifted (os : Os) (started : os.Started) (H : Type) (enc : TypeId × Value → H) :
    ReturnsInHanded {} Tryz.checked os 4 .any (Rows.cycleTellsSpec.pre6 enc Tryz.prog Tryz.f4 Rows.cycleTellsRow.domain false) (Rows.cycleTellsSpec.post enc Tryz.prog Tryz.f4 false true false false) := by
  refine returnsInHanded_of_change (C := Tryz.checked) own started (by kernel_rfl) Tryz.func4
    (ChangeSpec.witness6 (enc := enc) (C := Tryz.checked) false ⟨#[], #[.agg #[.int .i64 0, .slice none 0 0, .slice none 0 0], .int .i64 0, .int .i64 0, .agg #[.int .i64 0, .int .i64 0, .int .i64 0, .int .i64 0, .int .i64 0, .int .i64 0, .int .i64 0, .int .i64 0, .int .i64 0, .int .i64 0]], []⟩ 8 (by kernel_rfl) (by kernel_rfl) (by kernel_rfl) (by kernel_rfl)) ?_
  intro W base args ds gs before hval0 hW _ _
  have hval : ∀ (j : Nat) t v, Tryz.f4.params[j]? = some t → args[j]? = some v → Value.okWide Tryz.prog W .any base t v := hval0
  have hW' := hW
  obtain ⟨p, q, hA0, hV, rfl, hfz, hnd⟩ := hW
  have hA : DataW.TrodAll enc Tryz.prog W 0 (fun _ => true) true Tryz.f4.params.toList args.toList ds p := hA0
  rw [Tryz.params4] at hA hval
  obtain ⟨v0, vs0, d0, ds0, p0, q0, hargs, rfl, rfl, h0, r0⟩ := trodAll_cons hA
  obtain ⟨v1, vs1, d1, ds1, p1, q1, rfl, rfl, rfl, h1, r1⟩ := trodAll_cons r0
  obtain ⟨v2, vs2, d2, ds2, p2, q2, rfl, rfl, rfl, h2, r2⟩ := trodAll_cons r1
  obtain ⟨v3, vs3, d3, ds3, p3, q3, rfl, rfl, rfl, h3, r3⟩ := trodAll_cons r2
  obtain ⟨rfl, rfl, rfl⟩ := trodAll_nil r3
  obtain rfl : args = #[v0, v1, v2, v3] := by cases args; simp_all
  obtain ⟨rfl, rfl⟩ := trodVars_none hV
  obtain ⟨c0, u0, x0, rfl, hl0, hm0, w0⟩ := open_wd (hval 0 31 v0 rfl rfl) h0
  obtain ⟨a1, rfl, rfl, rfl, w1⟩ := open_int Tryz.underlying3 (hval 1 3 v1 rfl rfl) h1
  obtain ⟨a2, rfl, rfl, rfl, w2⟩ := open_int Tryz.underlying3 (hval 2 3 v2 rfl rfl) h2
  obtain ⟨f3, rfl, w3⟩ := open_fl (hval 3 42 v3 rfl rfl) h3
  clear hval0
  simp only [List.append_nil] at hW'
  refine ((v_cycleTells c0 w0 a1 w1 a2 w2 f3 w3).c W (fun i => [u0, x0][i]?) [_, _, _, _] (fun i o ho => by
      rcases i with _ | i
      · obtain rfl := Option.some.inj ho
        exact ⟨u0, rfl, hl0⟩
      rcases i with _ | i
      · obtain rfl := Option.some.inj ho
        exact ⟨x0, rfl, hm0⟩
      simp at ho
) ⟨_, _, rfl, ⟨[_, _, _], ⟨_, _, rfl, rfl, _, _, rfl, ⟨rfl, hl0.one⟩, _, _, rfl, ⟨rfl, hm0.one⟩, rfl⟩, rfl⟩, ⟨_, _, rfl, rfl, ⟨_, _, rfl, rfl, ⟨_, _, rfl, ⟨_, V.Ats.vals _ [_, _, _, _, _, _, _, _, _, _], rfl⟩, rfl⟩⟩⟩⟩).mono fun e W' ⟨he, hg⟩ => ?_
  subst he
  exact ⟨_, rfl, post_of_below (pa := _) (pv := []) hW' (fun _ _ _ => (trodAll_cons_mk (shut_bool Tryz.underlying4 _) trodAll_mk0)) (fun sp hsp => all_stays laidOut (by kernel_rfl) hA0 (fun x hx => hg.same (hW'.lt x (by revert hx; simp))) (fun x hx => hsp x (by revert hx; simp))) (fun _ _ => rfl) (by simp)
    hg (ok_one (by kernel_rfl) rfl (okWide_bool_mk Tryz.underlying4 _))⟩

theorem over : Rows.cycleTellsRow.holds Tryz.pinned (OpenSpec.ofChange Rows.cycleTellsSpec) :=
  OpenClaim.holds_of_wide 4 Tryz.f4 rfl rfl rfl rfl rfl rfl rfl ⟨rfl, rfl, rfl, rfl, rfl⟩ rfl rfl rfl rfl rfl (by kernel_rfl) Tryz.func4 (by kernel_rfl)
    (of_decide_eq_true (by kernel_rfl)) (by unfold Func.isWrapper; first | (rw [if_pos (by decide +kernel)]; kernel_rfl) | (rw [if_neg (by decide +kernel)]; exact ⟨rfl, rfl⟩))
    (fun os started H enc _ => lifted os started H enc)

theorem proved : Rows.CycleTellsSaid :=
  over
end Go.Proofs.YtpanlcnoopmchaaGreat.cycleTells
