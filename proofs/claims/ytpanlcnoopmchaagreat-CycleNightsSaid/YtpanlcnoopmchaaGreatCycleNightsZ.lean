/- The statement of CycleNights: the call returns true for every input, and its input reads as it did. No condition. -/
import Derived.Test.YtpanlcnoopmchaaGreatRows
import Derived.WalkKit
import Derived.ProofKit
import Derived.OpenShut
import Derived.Test.YtpanlcnoopmchaaGreatX1
import Derived.Test.YtpanlcnoopmchaaGreatX2
import Derived.Test.YtpanlcnoopmchaaGreatX3
import Derived.Test.YtpanlcnoopmchaaGreatX4
import Derived.Test.YtpanlcnoopmchaaGreatX5
import Derived.Test.YtpanlcnoopmchaaGreatX6
import Derived.Test.YtpanlcnoopmchaaGreatX7
set_option linter.unusedVariables false
set_option linter.unusedSimpArgs false
set_option maxRecDepth 100000

/- What CycleNights answers: true. -/
namespace Go.Proofs.YtpanlcnoopmchaaGreat
open Go Go.RowKit V
set_option maxRecDepth 100000
set_option linter.unusedVariables false
set_option linter.unusedSimpArgs false
theorem v_rNight (c : Cl) (t : List Tm) (x : Int) (w : Wd) (pr : List Int) (hc : c.hs.length ≤ 9223372036854775807) (ht : t.length ≤ 9223372036854775807) (hb : w.bk.length ≤ 9223372036854775807) (hp : pr.length ≤ 9223372036854775807) (hN : ¬ (Cy.nE c t x w pr = 0 ∧ Cy.nP c t x w pr = [])) :
    V.FnR Tryz.prog 12 (nightO c t w pr) [ruV c x, .agg [.val (.int .i64 w.td), .ref 2, .ref 3], .one (.ref 4)] (.tup [.agg [.val (.int .i64 (Cy.nW c t x w pr).td), .ref 5, .ref 6], .one (.ref 7), .one (.val (.int .i64 (Cy.nE c t x w pr)))]) [.row 42 10 (Cy.nW c t x w pr).fs.length (ga encF (Cy.nW c t x w pr).fs), .row 65 3 (Cy.nW c t x w pr).bk.length (ga encP (Cy.nW c t x w pr).bk), .row 65 3 (Cy.nP c t x w pr).length (ga encP (Cy.nP c t x w pr))] := by
  by_cases h0 : (Cy.s0 c t x w pr).e = 0
  · by_cases hS : (Pn.suL (Cy.du c t w pr)).length = 0
    · exact v_rNight_a1 c t x w pr hc ht hb hp h0 hS hN
    · exact v_rNight_b c t x w pr hc ht hb hp h0 hS
  · exact v_rNight_e c t x w pr hc ht hb hp h0
theorem v_rNight0 (c : Cl) (t : List Tm) (x : Int) (w : Wd) (pr : List Int) (hc : c.hs.length ≤ 9223372036854775807) (ht : t.length ≤ 9223372036854775807) (hb : w.bk.length ≤ 9223372036854775807) (hp : pr.length ≤ 9223372036854775807) (hN : Cy.nE c t x w pr = 0 ∧ Cy.nP c t x w pr = []) :
    V.FnR Tryz.prog 12 (nightO c t w pr) [ruV c x, .agg [.val (.int .i64 w.td), .ref 2, .ref 3], .one (.ref 4)] (.tup [.agg [.val (.int .i64 (Cy.nW c t x w pr).td), .ref 5, .ref 3], .one (.ref 6), .one (.val (.int .i64 0))]) [.row 42 10 (Cy.nW c t x w pr).fs.length (ga encF (Cy.nW c t x w pr).fs), .row 65 3 0 (ga encP [])] := by
  have e1 : (Cy.s1 c t x w pr).e = 0 := by
    apply Classical.byContradiction
    intro q
    exact q (((Cy.n_err q).1).symm.trans hN.1)
  have h0 := (Cy.run_out (show (Cy.run c t x pr w.td (Cy.s0 c t x w pr) w.fs).e = 0 from e1)).1
  have hS : (Pn.suL (Cy.du c t w pr)).length = 0 := by
    have := (Cy.nt hN.1).ps
    rw [hN.2] at this
    have := congrArg List.length this
    rw [List.length_append, List.length_nil] at this
    omega
  exact v_rNight_a2 c t x w pr hc ht hb hp h0 hS hN
theorem nW_len (c : Cl) (t : List Tm) (x : Int) (w : Wd) (pr : List Int) : (Cy.nW c t x w pr).fs.length ≤ 60 ∧ (Cy.nW c t x w pr).bk.length ≤ 400 ∧ (Cy.nP c t x w pr).length ≤ 151 := by
  by_cases h : Cy.nE c t x w pr = 0
  · have a := Cy.wE_len (Cy.nt h).ok
    have b := Cy.nP_len h
    omega
  · rw [(Cy.zw_of h).1, (Cy.zw_of h).2]
    exact ⟨by decide, by decide, by decide⟩
set_option maxHeartbeats 4000000 in
theorem v_cycleNights (r : Ru0) (wr : WfRu r) (w : Wd) (ww : WfWd w) (hz1 : w.fs.length ≤ 1759218604390 ∧ w.bk.length ≤ 5864062014634) (pr : List Int) (wp : ∀ p ∈ pr, (Lit.int .i64 p).wf = true) : V.Fn Tryz.prog 3 [.arr 1 r.c.hs.length (ga e1 r.c.hs), .arr 4 r.ts.length (ga encTm r.ts), .arr 10 w.fs.length (ga encF w.fs), .arr 3 w.bk.length (ga encP w.bk), .arr 1 pr.length (ga e1 pr)] [.agg [.val (.int .i64 r.c.we), .ref 0, .ref 1, .val (.int .i64 r.ex)], .agg [.val (.int .i64 w.td), .ref 2, .ref 3], .one (.ref 4)] (.bool true) := by
  refine V.Fn.lim (by kernel_rfl) fun hl => ?_
  have hc := hl 0 _ _ _ rfl
  have ht := hl 1 _ _ _ rfl
  have hb := hl 3 _ _ _ rfl
  have hp := hl 4 _ _ _ rfl
  obtain ⟨c, t, x⟩ := r
  dsimp only at hc ht ⊢
  clear hl ww wr wp
  have c1 := v_night c t x w pr hc ht hp hz1.1 hz1.2
  have cR := v_cyRules c t x hc ht
  have rR := v_rRules c t x hc ht
  have cW := v_cyCheck w hb
  have rW := v_rWcheck w hb
  obtain ⟨n1, n2, n3⟩ := nW_len c t x w pr
  by_cases hN : Cy.nE c t x w pr = 0 ∧ Cy.nP c t x w pr = []
  · have r1 := v_rNight0 c t x w pr hc ht hb hp hN
    have hbk := Cy.nP_nil hN.1 hN.2
    rw [hN.1, hN.2] at c1
    have s1 := v_sameworld (Cy.nW c t x w pr) ⟨(Cy.nW c t x w pr).td, (Cy.nW c t x w pr).fs, w.bk⟩ (by omega) (by omega)
    rw [show decide (Cy.nW c t x w pr = ⟨(Cy.nW c t x w pr).td, (Cy.nW c t x w pr).fs, w.bk⟩) = true from decide_eq_true (Cy.wd_ext rfl rfl hbk)] at s1
    have s2 := v_sameposts [] [] (by decide)
    rw [show decide (([] : List Po) = []) = true from decide_eq_true rfl] at s2
    dsimp only at s1
    clear hN hbk
    generalize Cy.nW c t x w pr = X at *
    generalize Cy.rE c t x = RE at *
    generalize Cy.wE w = WE at *
    refine V.Fn.mk_ V.Tok V.mixed Tryz.func3 rfl Tryz.ntmps3 (by kernel_rfl) rfl rfl ?_
    repeat' ((conv => whnf); first | (refine V.NIf.yes ?_ ?_; · (decide; done)) | (refine V.NIf.no ?_ ?_; · (decide; done)) | (refine V.NIf.yes ?_ ?_; · (simp only [true_and, and_true, and_self]; done)) | refine V.NCond.mk ?_ | refine V.NPick.l ?_ | refine V.NIf.not_ ?_ | refine V.NIf.dec_ ?_ | refine V.a4 ?_ | refine V.a5 ?_ | refine V.NIf.mk (fun _ => ?_) (fun _ => ?_) | refine V.a7 ?_ | refine V.a8 ?_ | refine V.a9 ?_ | refine V.NBoth.mk ?_ ?_ | refine V.b1 ?_ | refine V.b2 ?_ | refine V.NTF.dec ?_ | refine V.b3 ?_ | refine V.b4 ?_ | (first | refine V.Fn.k0 (v_cyBegun) rfl ?_ | refine V.Fn.q0 (v_cyBegun) rfl ?_ | refine V.Fn.a0 (v_cyBegun) rfl ?_) | ((first | refine V.FnR.k_ (c1) [0, 1, 2, 3, 4] rfl ?_ ?_ | refine V.FnR.a_ (c1) [0, 1, 2, 3, 4] rfl ?_ ?_); · exact V.D_) | ((first | refine V.FnR.k_ (r1) [0, 1, 2, 3, 4] rfl ?_ ?_ | refine V.FnR.a_ (r1) [0, 1, 2, 3, 4] rfl ?_ ?_); · exact V.D_) | ((first | refine V.Fn.k (cR) [0, 1] rfl ?_ ?_ | refine V.Fn.q (cR) [0, 1] rfl ?_ ?_ | refine V.Fn.a (cR) [0, 1] rfl ?_ ?_); · exact V.D_) | ((first | refine V.Fn.k (rR) [0, 1] rfl ?_ ?_ | refine V.Fn.q (rR) [0, 1] rfl ?_ ?_ | refine V.Fn.a (rR) [0, 1] rfl ?_ ?_); · exact V.D_) | ((first | refine V.Fn.k (cW) [2, 3] rfl ?_ ?_ | refine V.Fn.q (cW) [2, 3] rfl ?_ ?_ | refine V.Fn.a (cW) [2, 3] rfl ?_ ?_); · exact V.D_) | ((first | refine V.Fn.k (rW) [2, 3] rfl ?_ ?_ | refine V.Fn.q (rW) [2, 3] rfl ?_ ?_ | refine V.Fn.a (rW) [2, 3] rfl ?_ ?_); · exact V.D_) | ((first | refine V.Fn.k (s1) [7, 8, 11, 3] rfl ?_ ?_ | refine V.Fn.q (s1) [7, 8, 11, 3] rfl ?_ ?_ | refine V.Fn.a (s1) [7, 8, 11, 3] rfl ?_ ?_); · exact V.D_) | ((first | refine V.Fn.k (s2) [9, 12] rfl ?_ ?_ | refine V.Fn.q (s2) [9, 12] rfl ?_ ?_ | refine V.Fn.a (s2) [9, 12] rfl ?_ ?_); · exact V.D_) | (refine V.NDraw.any (by kernel_rfl) ?_) | fail)
    all_goals (conv => whnf)
    all_goals first | exact ⟨true, rfl, by simp⟩ | trace_state
  · have r1 := v_rNight c t x w pr hc ht hb hp hN
    have s1 := v_sameworld (Cy.nW c t x w pr) (Cy.nW c t x w pr) (by omega) (by omega)
    rw [show decide (Cy.nW c t x w pr = Cy.nW c t x w pr) = true from decide_eq_true rfl] at s1
    have s2 := v_sameposts (Cy.nP c t x w pr) (Cy.nP c t x w pr) (by omega)
    rw [show decide (Cy.nP c t x w pr = Cy.nP c t x w pr) = true from decide_eq_true rfl] at s2
    clear hN
    generalize Cy.nW c t x w pr = X at *
    generalize Cy.nP c t x w pr = PS at *
    generalize Cy.nE c t x w pr = NE at *
    generalize Cy.rE c t x = RE at *
    generalize Cy.wE w = WE at *
    refine V.Fn.mk_ V.Tok V.mixed Tryz.func3 rfl Tryz.ntmps3 (by kernel_rfl) rfl rfl ?_
    repeat' ((conv => whnf); first | (refine V.NIf.yes ?_ ?_; · (decide; done)) | (refine V.NIf.no ?_ ?_; · (decide; done)) | (refine V.NIf.yes ?_ ?_; · (simp only [true_and, and_true, and_self]; done)) | refine V.NCond.mk ?_ | refine V.NPick.l ?_ | refine V.NIf.not_ ?_ | refine V.NIf.dec_ ?_ | refine V.a4 ?_ | refine V.a5 ?_ | refine V.NIf.mk (fun _ => ?_) (fun _ => ?_) | refine V.a7 ?_ | refine V.a8 ?_ | refine V.a9 ?_ | refine V.NBoth.mk ?_ ?_ | refine V.b1 ?_ | refine V.b2 ?_ | refine V.NTF.dec ?_ | refine V.b3 ?_ | refine V.b4 ?_ | (first | refine V.Fn.k0 (v_cyBegun) rfl ?_ | refine V.Fn.q0 (v_cyBegun) rfl ?_ | refine V.Fn.a0 (v_cyBegun) rfl ?_) | ((first | refine V.FnR.k_ (c1) [0, 1, 2, 3, 4] rfl ?_ ?_ | refine V.FnR.a_ (c1) [0, 1, 2, 3, 4] rfl ?_ ?_); · exact V.D_) | ((first | refine V.FnR.k_ (r1) [0, 1, 2, 3, 4] rfl ?_ ?_ | refine V.FnR.a_ (r1) [0, 1, 2, 3, 4] rfl ?_ ?_); · exact V.D_) | ((first | refine V.Fn.k (cR) [0, 1] rfl ?_ ?_ | refine V.Fn.q (cR) [0, 1] rfl ?_ ?_ | refine V.Fn.a (cR) [0, 1] rfl ?_ ?_); · exact V.D_) | ((first | refine V.Fn.k (rR) [0, 1] rfl ?_ ?_ | refine V.Fn.q (rR) [0, 1] rfl ?_ ?_ | refine V.Fn.a (rR) [0, 1] rfl ?_ ?_); · exact V.D_) | ((first | refine V.Fn.k (cW) [2, 3] rfl ?_ ?_ | refine V.Fn.q (cW) [2, 3] rfl ?_ ?_ | refine V.Fn.a (cW) [2, 3] rfl ?_ ?_); · exact V.D_) | ((first | refine V.Fn.k (rW) [2, 3] rfl ?_ ?_ | refine V.Fn.q (rW) [2, 3] rfl ?_ ?_ | refine V.Fn.a (rW) [2, 3] rfl ?_ ?_); · exact V.D_) | ((first | refine V.Fn.k (s1) [7, 8, 11, 12] rfl ?_ ?_ | refine V.Fn.q (s1) [7, 8, 11, 12] rfl ?_ ?_ | refine V.Fn.a (s1) [7, 8, 11, 12] rfl ?_ ?_); · exact V.D_) | ((first | refine V.Fn.k (s2) [9, 13] rfl ?_ ?_ | refine V.Fn.q (s2) [9, 13] rfl ?_ ?_ | refine V.Fn.a (s2) [9, 13] rfl ?_ ?_); · exact V.D_) | (refine V.NDraw.any (by kernel_rfl) ?_) | fail)
    all_goals (conv => whnf)
    all_goals first | exact ⟨true, rfl, by simp⟩ | trace_state
end Go.Proofs.YtpanlcnoopmchaaGreat

/- The statement of CycleNights: for every input the call returns true and its input reads as it did. No condition. -/
namespace Go.Proofs.YtpanlcnoopmchaaGreat.cycleNights
open Go.ChangeShapes Go.WideShapes Go.ChangeAt Go.RowKit

theorem own : ownKnob Tryz.prog.godebug = none := by kernel_rfl

set_option maxRecDepth 100000 in
theorem lifted (os : Os) (started : os.Started) (H : Type) (enc : TypeId × Value → H) :
    ReturnsInHanded {} Tryz.checked os 3 .any (Rows.cycleNightsSpec.pre6 enc Tryz.prog Tryz.f3 Rows.cycleNightsRow.domain false) (Rows.cycleNightsSpec.post enc Tryz.prog Tryz.f3 false true false false) := by
  refine returnsInHanded_of_change_sized (C := Tryz.checked) own started (by kernel_rfl) Tryz.func3
    (ChangeSpec.witness6 (enc := enc) (C := Tryz.checked) false ⟨#[], #[.agg #[.int .i64 0, .slice none 0 0, .slice none 0 0, .int .i64 0], .agg #[.int .i64 0, .slice none 0 0, .slice none 0 0], .slice none 0 0], []⟩ 8 (by kernel_rfl) (by kernel_rfl) (by kernel_rfl) (by kernel_rfl)) ?_
  intro W base args ds gs before hval0 hW _ hsz _
  have hval : ∀ (j : Nat) t v, Tryz.f3.params[j]? = some t → args[j]? = some v → Value.okWide Tryz.prog W .any base t v := hval0
  have hW' := hW
  obtain ⟨p, q, hA0, hV, rfl, hfz, hnd⟩ := hW
  have hA : DataW.TrodAll enc Tryz.prog W 0 (fun _ => true) true Tryz.f3.params.toList args.toList ds p := hA0
  rw [Tryz.params3] at hA hval hsz
  obtain ⟨v0, vs0, d0, ds0, p0, q0, hargs, rfl, rfl, h0, r0⟩ := trodAll_cons hA
  obtain ⟨v1, vs1, d1, ds1, p1, q1, rfl, rfl, rfl, h1, r1⟩ := trodAll_cons r0
  obtain ⟨v2, vs2, d2, ds2, p2, q2, rfl, rfl, rfl, h2, r2⟩ := trodAll_cons r1
  obtain ⟨rfl, rfl, rfl⟩ := trodAll_nil r2
  obtain rfl : args = #[v0, v1, v2] := by cases args; simp_all
  obtain ⟨rfl, rfl⟩ := trodVars_none hV
  obtain ⟨c0, u0, x0, rfl, hl0, hm0, w0⟩ := open_ru (hval 0 27 v0 rfl rfl) h0
  obtain ⟨c1, u1, x1, rfl, hl1, hm1, w1⟩ := open_wd (hval 1 31 v1 rfl rfl) h1
  obtain ⟨l2, hl2, w2⟩ := open_il (hval 2 22 v2 rfl rfl) h2
  have z1 := len_field hsz (j := 1) rfl rfl h1 wdStruct wd1 flsCells rfl Tryz.underlying28 (show Tryz.prog.bytesOf 42 = 80 by kernel_rfl) hl1
  have y1 := len_field hsz (j := 1) rfl rfl h1 wdStruct wd2 posCells rfl Tryz.underlying29 (show Tryz.prog.bytesOf 65 = 24 by kernel_rfl) hm1
  clear hval0
  simp only [List.append_nil] at hW'
  refine ((v_cycleNights c0 w0 c1 w1 ⟨by omega, by omega⟩ l2 w2).c W (fun i => [u0, x0, u1, x1, v2][i]?) [_, _, _] (fun i o ho => by
      rcases i with _ | i
      · obtain rfl := Option.some.inj ho
        exact ⟨u0, rfl, hl0⟩
      rcases i with _ | i
      · obtain rfl := Option.some.inj ho
        exact ⟨x0, rfl, hm0⟩
      rcases i with _ | i
      · obtain rfl := Option.some.inj ho
        exact ⟨u1, rfl, hl1⟩
      rcases i with _ | i
      · obtain rfl := Option.some.inj ho
        exact ⟨x1, rfl, hm1⟩
      rcases i with _ | i
      · obtain rfl := Option.some.inj ho
        exact ⟨v2, rfl, hl2⟩
      simp at ho
) ⟨_, _, rfl, ⟨[_, _, _, _], ⟨_, _, rfl, rfl, _, _, rfl, ⟨rfl, hl0.one⟩, _, _, rfl, ⟨rfl, hm0.one⟩, _, _, rfl, rfl, rfl⟩, rfl⟩, ⟨_, _, rfl, ⟨[_, _, _], ⟨_, _, rfl, rfl, _, _, rfl, ⟨rfl, hl1.one⟩, _, _, rfl, ⟨rfl, hm1.one⟩, rfl⟩, rfl⟩, ⟨_, _, rfl, ⟨rfl, hl2.one⟩, rfl⟩⟩⟩).mono fun e W' ⟨he, hg⟩ => ?_
  subst he
  exact ⟨_, rfl, post_of_below (pa := _) (pv := []) hW' (fun _ _ _ => (trodAll_cons_mk (shut_bool Tryz.underlying4 _) trodAll_mk0)) (fun sp hsp => all_stays laidOut (by kernel_rfl) hA0 (fun x hx => hg.same (hW'.lt x (by revert hx; simp))) (fun x hx => hsp x (by revert hx; simp))) (fun _ _ => rfl) (by simp)
    hg (ok_one (by kernel_rfl) rfl (okWide_bool_mk Tryz.underlying4 _))⟩

theorem over : Rows.cycleNightsRow.holds Tryz.pinned (OpenSpec.ofChange Rows.cycleNightsSpec) :=
  OpenClaim.holds_of_wide 3 Tryz.f3 rfl rfl rfl rfl rfl rfl rfl ⟨rfl, rfl, rfl, rfl, rfl⟩ rfl rfl rfl rfl rfl (by kernel_rfl) Tryz.func3 (by kernel_rfl)
    (of_decide_eq_true (by kernel_rfl)) (by unfold Func.isWrapper; first | (rw [if_pos (by decide +kernel)]; kernel_rfl) | (rw [if_neg (by decide +kernel)]; exact ⟨rfl, rfl⟩))
    (fun os started H enc _ => lifted os started H enc)

theorem proved : Rows.CycleNightsSaid :=
  over
end Go.Proofs.YtpanlcnoopmchaaGreat.cycleNights
