/- The statement of CycleAdds: the call returns true for every input, and its input reads as it did. No condition. -/
import Derived.Test.YtpanlcnoopmchaaGreatRows
import Derived.WalkKit
import Derived.ProofKit
import Derived.OpenShut
import Derived.Test.YtpanlcnoopmchaaGreatZ1
import Derived.Test.YtpanlcnoopmchaaGreatZ2
import Derived.Test.YtpanlcnoopmchaaGreatZ3
import Derived.Test.YtpanlcnoopmchaaGreatZ4
import Derived.Test.YtpanlcnoopmchaaGreatZ5
import Derived.Test.YtpanlcnoopmchaaGreatZ6
import Derived.Test.YtpanlcnoopmchaaGreatZ7

/- What CycleAdds answers: true. -/
namespace Go.Proofs.YtpanlcnoopmchaaGreat
open Go Go.RowKit V
set_option maxRecDepth 100000
set_option linter.unusedVariables false
set_option linter.unusedSimpArgs false
theorem add_two (l : List Fl) (f g : Fl) (k : Nat) (hk : k < 2) : ga encF (l ++ [f, g]) (l.length + k) = listG [encF f, encF g] k := by
  rw [ga_at (by simp; omega), List.getElem_append_right (by omega)]
  match k, hk with
  | 0, _ => simp [listG]
  | 1, _ => simp [listG]
set_option maxHeartbeats 4000000 in
theorem v_cycleAdds (w : Wd) (ww : WfWd w) (f : Fl) (wf : WfF f) (g : Fl) (wg : WfF g) : V.Fn Tryz.prog 6 [.arr 10 w.fs.length (ga encF w.fs), .arr 3 w.bk.length (ga encP w.bk)] [.agg [.val (.int .i64 w.td), .ref 0, .ref 1], .agg [.val (.int .i64 f.id), .val (.int .i64 f.fr), .val (.int .i64 f.to), .val (.int .i64 f.cl), .val (.int .i64 f.pa), .val (.int .i64 f.day), .val (.int .i64 f.un), .val (.int .i64 f.de), .val (.int .i64 f.bo), .val (.int .i64 f.pd)], .agg [.val (.int .i64 g.id), .val (.int .i64 g.fr), .val (.int .i64 g.to), .val (.int .i64 g.cl), .val (.int .i64 g.pa), .val (.int .i64 g.day), .val (.int .i64 g.un), .val (.int .i64 g.de), .val (.int .i64 g.bo), .val (.int .i64 g.pd)]] (.bool true) := by
  refine V.Fn.lim (by kernel_rfl) fun hl => ?_
  have hb := hl 1 _ _ _ rfl
  clear hl ww wf wg
  have c1 := v_cyAdd w f hb
  have cz := v_sameworld Cy.zw Cy.zw (by decide) (by decide)
  rw [show decide (Cy.zw = Cy.zw) = true from decide_eq_true rfl] at cz
  by_cases h : Cy.adE w f = 0
  · have hw := Cy.adW_yes h
    obtain ⟨h1, h2, h3⟩ := Cy.ad_ok h
    obtain ⟨n60, n400⟩ := Cy.wE_len h1
    have c2 := v_cyAdd (Cy.adW w f) g (by rw [hw]; omega)
    rw [h] at c1
    by_cases k : Cy.adE (Cy.adW w f) g = 0
    · have kw := Cy.adW_yes k
      obtain ⟨k1, k2, k3⟩ := Cy.ad_ok k
      rw [hw] at c1 c2 k kw k3
      have k3 : F.checks (w.fs ++ [f, g]) = 0 := by simpa using k3
      have kl := F.checks_len (l := w.fs ++ [f, g]) (by omega)
      have kn : g.id ≠ f.id := by
        obtain ⟨_, _, nd⟩ := K.checks_all k3
        rw [List.map_append, List.nodup_append] at nd
        have := nd.2.1
        simp at this
        exact fun z => this z.symm
      rw [k, kw] at c2
      have c3 := v_samefails (w.fs ++ [f, g]) (w.fs ++ [f, g]) (by omega)
      rw [show decide (w.fs ++ [f, g] = w.fs ++ [f, g]) = true from decide_eq_true rfl] at c3
      have c4 := v_sameposts w.bk w.bk hb
      rw [show decide (w.bk = w.bk) = true from decide_eq_true rfl] at c4
      rw [show (⟨(⟨w.td, w.fs ++ [f], w.bk⟩ : Wd).td, (⟨w.td, w.fs ++ [f], w.bk⟩ : Wd).fs ++ [g], (⟨w.td, w.fs ++ [f], w.bk⟩ : Wd).bk⟩ : Wd) = ⟨w.td, w.fs ++ [f, g], w.bk⟩ by simp] at c2
      clear h hw k kw k1 k2 k3 h1 h2 h3 cz
      refine V.Fn.mk_ V.Tok V.mixed Tryz.func6 rfl Tryz.ntmps6 (by kernel_rfl) rfl rfl ?_
      repeat' ((conv => whnf); first | (refine V.NIf.yes ?_ ?_; · (decide; done)) | (refine V.NIf.no ?_ ?_; · (decide; done)) | (refine V.NIf.yes ?_ ?_; · (simp only [true_and, and_true, and_self]; done)) | refine V.NCond.mk ?_ | refine V.NPick.l ?_ | refine V.NIf.not_ ?_ | refine V.NIf.dec_ ?_ | refine V.a4 ?_ | refine V.a5 ?_ | refine V.NIf.mk (fun _ => ?_) (fun _ => ?_) | refine V.a7 ?_ | refine V.a8 ?_ | refine V.a9 ?_ | refine V.NBoth.mk ?_ ?_ | refine V.b1 ?_ | refine V.b2 ?_ | refine V.NTF.dec ?_ | refine V.b3 ?_ | refine V.b4 ?_ | (first | refine V.Fn.k0 (v_cyBegun) rfl ?_ | refine V.Fn.q0 (v_cyBegun) rfl ?_ | refine V.Fn.a0 (v_cyBegun) rfl ?_) | ((first | refine V.FnR.k_ (c1) [0, 1] rfl ?_ ?_ | refine V.FnR.a_ (c1) [0, 1] rfl ?_ ?_); · exact V.D_) | ((first | refine V.FnR.k_ (c2) [4, 5] rfl ?_ ?_ | refine V.FnR.a_ (c2) [4, 5] rfl ?_ ?_); · exact V.D_) | ((first | refine V.FnR.k_ (c2) [5, 6] rfl ?_ ?_ | refine V.FnR.a_ (c2) [5, 6] rfl ?_ ?_); · exact V.D_) | (refine NOne.mk ?_ ?_; · (intro k hk; rfl)) | (refine NApp.all_ (by first | omega | (simp; omega)) (by omega) ?_) | (refine NApp.to_ (en := encF) (w.fs ++ [f, g]) (by simp) (by simp; omega) (by simp; omega) (fun k hk => V.ga_left hk) (fun k hk => add_two w.fs f g k hk) ?_) | ((first | refine V.Fn.k (c3) [8, 14] rfl ?_ ?_ | refine V.Fn.q (c3) [8, 14] rfl ?_ ?_ | refine V.Fn.a (c3) [8, 14] rfl ?_ ?_); · exact V.D_) | ((first | refine V.Fn.k (c4) [9, 1] rfl ?_ ?_ | refine V.Fn.q (c4) [9, 1] rfl ?_ ?_ | refine V.Fn.a (c4) [9, 1] rfl ?_ ?_); · exact V.D_) | (refine V.NDraw.any (by kernel_rfl) ?_) | fail)
      all_goals (conv => whnf)
      all_goals first | exact ⟨true, rfl, by simp⟩ | trace_state
    · rw [hw] at c1 c2 k
      rw [Cy.adW_no k] at c2
      clear hw h1 h2 h3 h
      refine V.Fn.mk_ V.Tok V.mixed Tryz.func6 rfl Tryz.ntmps6 (by kernel_rfl) rfl rfl ?_
      repeat' ((conv => whnf); first | (refine V.NIf.yes ?_ ?_; · (decide; done)) | (refine V.NIf.no ?_ ?_; · (decide; done)) | (refine V.NIf.yes ?_ ?_; · (exact k; done)) | (refine V.NIf.no ?_ ?_; · (exact k; done)) | (refine V.NIf.yes ?_ ?_; · (simp only [true_and, and_true, and_self]; done)) | refine V.NCond.mk ?_ | refine V.NPick.l ?_ | refine V.NIf.not_ ?_ | refine V.NIf.dec_ ?_ | refine V.a4 ?_ | refine V.a5 ?_ | refine V.NIf.mk (fun _ => ?_) (fun _ => ?_) | refine V.a7 ?_ | refine V.a8 ?_ | refine V.a9 ?_ | refine V.NBoth.mk ?_ ?_ | refine V.b1 ?_ | refine V.b2 ?_ | refine V.NTF.dec ?_ | refine V.b3 ?_ | refine V.b4 ?_ | (first | refine V.Fn.k0 (v_cyBegun) rfl ?_ | refine V.Fn.q0 (v_cyBegun) rfl ?_ | refine V.Fn.a0 (v_cyBegun) rfl ?_) | ((first | refine V.FnR.k_ (c1) [0, 1] rfl ?_ ?_ | refine V.FnR.a_ (c1) [0, 1] rfl ?_ ?_); · exact V.D_) | ((first | refine V.FnR.k_ (c2) [5, 6] rfl ?_ ?_ | refine V.FnR.a_ (c2) [5, 6] rfl ?_ ?_); · exact V.D_) | (refine V.NCall.nilf (f := 18) 1 1 10 _ rfl rfl ?_) | (refine V.NCall.nilf (f := 18) 1 2 3 _ rfl rfl ?_) | ((first | refine V.Fn.k (cz) [8, 9, 11, 12] rfl ?_ ?_ | refine V.Fn.q (cz) [8, 9, 11, 12] rfl ?_ ?_ | refine V.Fn.a (cz) [8, 9, 11, 12] rfl ?_ ?_); · exact ⟨⟨rfl, rfl, fun _ _ => rfl⟩, ⟨rfl, rfl, fun _ _ => rfl⟩, ⟨rfl, rfl, fun k hk => absurd hk (Nat.not_lt_zero _)⟩, ⟨rfl, rfl, fun k hk => absurd hk (Nat.not_lt_zero _)⟩, trivial⟩) | (refine V.NDraw.any (by kernel_rfl) ?_) | fail)
      all_goals (conv => whnf)
      all_goals first | exact ⟨true, rfl, by simp⟩ | trace_state
  · rw [Cy.adW_no h] at c1
    refine V.Fn.mk_ V.Tok V.mixed Tryz.func6 rfl Tryz.ntmps6 (by kernel_rfl) rfl rfl ?_
    repeat' ((conv => whnf); first | (refine V.NIf.yes ?_ ?_; · (decide; done)) | (refine V.NIf.no ?_ ?_; · (decide; done)) | (refine V.NIf.yes ?_ ?_; · (exact h; done)) | (refine V.NIf.no ?_ ?_; · (exact h; done)) | (refine V.NIf.yes ?_ ?_; · (simp only [true_and, and_true, and_self]; done)) | refine V.NCond.mk ?_ | refine V.NPick.l ?_ | refine V.NIf.not_ ?_ | refine V.NIf.dec_ ?_ | refine V.a4 ?_ | refine V.a5 ?_ | refine V.NIf.mk (fun _ => ?_) (fun _ => ?_) | refine V.a7 ?_ | refine V.a8 ?_ | refine V.a9 ?_ | refine V.NBoth.mk ?_ ?_ | refine V.b1 ?_ | refine V.b2 ?_ | refine V.NTF.dec ?_ | refine V.b3 ?_ | refine V.b4 ?_ | (first | refine V.Fn.k0 (v_cyBegun) rfl ?_ | refine V.Fn.q0 (v_cyBegun) rfl ?_ | refine V.Fn.a0 (v_cyBegun) rfl ?_) | ((first | refine V.FnR.k_ (c1) [0, 1] rfl ?_ ?_ | refine V.FnR.a_ (c1) [0, 1] rfl ?_ ?_); · exact V.D_) | (refine V.NCall.nilf (f := 18) 1 1 10 _ rfl rfl ?_) | (refine V.NCall.nilf (f := 18) 1 2 3 _ rfl rfl ?_) | ((first | refine V.Fn.k (cz) [5, 6, 8, 9] rfl ?_ ?_ | refine V.Fn.q (cz) [5, 6, 8, 9] rfl ?_ ?_ | refine V.Fn.a (cz) [5, 6, 8, 9] rfl ?_ ?_); · exact ⟨⟨rfl, rfl, fun _ _ => rfl⟩, ⟨rfl, rfl, fun _ _ => rfl⟩, ⟨rfl, rfl, fun k hk => absurd hk (Nat.not_lt_zero _)⟩, ⟨rfl, rfl, fun k hk => absurd hk (Nat.not_lt_zero _)⟩, trivial⟩) | (refine V.NDraw.any (by kernel_rfl) ?_) | fail)
    all_goals (conv => whnf)
    all_goals first | exact ⟨true, rfl, by simp⟩ | trace_state
end Go.Proofs.YtpanlcnoopmchaaGreat

/- The statement of CycleAdds: for every input the call returns true and its input reads as it did. No condition. -/
namespace Go.Proofs.YtpanlcnoopmchaaGreat.cycleAdds
open Go.ChangeShapes Go.WideShapes Go.ChangeAt Go.RowKit

theorem own : ownKnob Tryz.prog.godebug = none := by kernel_rfl

set_option maxRecDepth 100000 in
theorem lifted (os : Os) (started : os.Started) (H : Type) (enc : TypeId × Value → H) :
    ReturnsInHanded {} Tryz.checked os 6 .any (Rows.cycleAddsSpec.pre6 enc Tryz.prog Tryz.f6 Rows.cycleAddsRow.domain false) (Rows.cycleAddsSpec.post enc Tryz.prog Tryz.f6 false true false false) := by
  refine returnsInHanded_of_change (C := Tryz.checked) own started (by kernel_rfl) Tryz.func6
    (ChangeSpec.witness6 (enc := enc) (C := Tryz.checked) false ⟨#[], #[.agg #[.int .i64 0, .slice none 0 0, .slice none 0 0], .agg #[.int .i64 0, .int .i64 0, .int .i64 0, .int .i64 0, .int .i64 0, .int .i64 0, .int .i64 0, .int .i64 0, .int .i64 0, .int .i64 0], .agg #[.int .i64 0, .int .i64 0, .int .i64 0, .int .i64 0, .int .i64 0, .int .i64 0, .int .i64 0, .int .i64 0, .int .i64 0, .int .i64 0]], []⟩ 8 (by kernel_rfl) (by kernel_rfl) (by kernel_rfl) (by kernel_rfl)) ?_
  intro W base args ds gs before hval0 hW _ _
  have hval : ∀ (j : Nat) t v, Tryz.f6.params[j]? = some t → args[j]? = some v → Value.okWide Tryz.prog W .any base t v := hval0
  have hW' := hW
  obtain ⟨p, q, hA0, hV, rfl, hfz, hnd⟩ := hW
  have hA : DataW.TrodAll enc Tryz.prog W 0 (fun _ => true) true Tryz.f6.params.toList args.toList ds p := hA0
  rw [Tryz.params6] at hA hval
  obtain ⟨v0, vs0, d0, ds0, p0, q0, hargs, rfl, rfl, h0, r0⟩ := trodAll_cons hA
  obtain ⟨v1, vs1, d1, ds1, p1, q1, rfl, rfl, rfl, h1, r1⟩ := trodAll_cons r0
  obtain ⟨v2, vs2, d2, ds2, p2, q2, rfl, rfl, rfl, h2, r2⟩ := trodAll_cons r1
  obtain ⟨rfl, rfl, rfl⟩ := trodAll_nil r2
  obtain rfl : args = #[v0, v1, v2] := by cases args; simp_all
  obtain ⟨rfl, rfl⟩ := trodVars_none hV
  obtain ⟨c0, u0, x0, rfl, hl0, hm0, w0⟩ := open_wd (hval 0 31 v0 rfl rfl) h0
  obtain ⟨f1, rfl, w1⟩ := open_fl (hval 1 42 v1 rfl rfl) h1
  obtain ⟨f2, rfl, w2⟩ := open_fl (hval 2 42 v2 rfl rfl) h2
  clear hval0
  simp only [List.append_nil] at hW'
  refine ((v_cycleAdds c0 w0 f1 w1 f2 w2).c W (fun i => [u0, x0][i]?) [_, _, _] (fun i o ho => by
      rcases i with _ | i
      · obtain rfl := Option.some.inj ho
        exact ⟨u0, rfl, hl0⟩
      rcases i with _ | i
      · obtain rfl := Option.some.inj ho
        exact ⟨x0, rfl, hm0⟩
      simp at ho
) ⟨_, _, rfl, ⟨[_, _, _], ⟨_, _, rfl, rfl, _, _, rfl, ⟨rfl, hl0.one⟩, _, _, rfl, ⟨rfl, hm0.one⟩, rfl⟩, rfl⟩, ⟨_, _, rfl, ⟨_, V.Ats.vals _ [_, _, _, _, _, _, _, _, _, _], rfl⟩, ⟨_, _, rfl, ⟨_, V.Ats.vals _ [_, _, _, _, _, _, _, _, _, _], rfl⟩, rfl⟩⟩⟩).mono fun e W' ⟨he, hg⟩ => ?_
  subst he
  exact ⟨_, rfl, post_of_below (pa := _) (pv := []) hW' (fun _ _ _ => (trodAll_cons_mk (shut_bool Tryz.underlying4 _) trodAll_mk0)) (fun sp hsp => all_stays laidOut (by kernel_rfl) hA0 (fun x hx => hg.same (hW'.lt x (by revert hx; simp))) (fun x hx => hsp x (by revert hx; simp))) (fun _ _ => rfl) (by simp)
    hg (ok_one (by kernel_rfl) rfl (okWide_bool_mk Tryz.underlying4 _))⟩

theorem over : Rows.cycleAddsRow.holds Tryz.pinned (OpenSpec.ofChange Rows.cycleAddsSpec) :=
  OpenClaim.holds_of_wide 6 Tryz.f6 rfl rfl rfl rfl rfl rfl rfl ⟨rfl, rfl, rfl, rfl, rfl⟩ rfl rfl rfl rfl rfl (by kernel_rfl) Tryz.func6 (by kernel_rfl)
    (of_decide_eq_true (by kernel_rfl)) (by unfold Func.isWrapper; first | (rw [if_pos (by decide +kernel)]; kernel_rfl) | (rw [if_neg (by decide +kernel)]; exact ⟨rfl, rfl⟩))
    (fun os started H enc _ => lifted os started H enc)

theorem proved : Rows.CycleAddsSaid :=
  over
end Go.Proofs.YtpanlcnoopmchaaGreat.cycleAdds
