/- The statement of CycleTidy: the call returns true for every input, and its input reads as it did. No condition. -/
import Derived.Test.YtpanlcnoopmchaaGreatRows
import Derived.WalkKit
import Derived.ProofKit
import Derived.OpenShut
import Derived.Test.YtpanlcnoopmchaaGreatZ1
import Derived.Test.YtpanlcnoopmchaaGreatZ2
import Derived.Test.YtpanlcnoopmchaaGreatZ3
import Derived.Test.YtpanlcnoopmchaaGreatZ4
import Derived.Test.YtpanlcnoopmchaaGreatZ5
import Derived.Test.YtpanlcnoopmchaaGreatZ6
import Derived.Test.YtpanlcnoopmchaaGreatZ7

/- What CycleTidy answers: true. -/
namespace Go.Proofs.YtpanlcnoopmchaaGreat
open Go Go.RowKit V
set_option maxRecDepth 100000
set_option linter.unusedVariables false
set_option linter.unusedSimpArgs false
set_option maxHeartbeats 4000000 in
theorem v_cycleTidy (w : Wd) (ww : WfWd w) (f : Fl) (wf : WfF f) : V.Fn Tryz.prog 7 [.arr 10 w.fs.length (ga encF w.fs), .arr 3 w.bk.length (ga encP w.bk)] [.agg [.val (.int .i64 w.td), .ref 0, .ref 1], .agg [.val (.int .i64 f.id), .val (.int .i64 f.fr), .val (.int .i64 f.to), .val (.int .i64 f.cl), .val (.int .i64 f.pa), .val (.int .i64 f.day), .val (.int .i64 f.un), .val (.int .i64 f.de), .val (.int .i64 f.bo), .val (.int .i64 f.pd)]] (.bool true) := by
  refine V.Fn.lim (by kernel_rfl) fun hl => ?_
  have hb := hl 1 _ _ _ rfl
  clear hl ww wf
  have c1 := v_cyTidy w hb
  by_cases h : Cy.wE w = 0
  · obtain ⟨n60, n400⟩ := Cy.wE_len h
    obtain ⟨t1, t2⟩ := Cy.ty_yes h
    obtain ⟨g1, g2, g3⟩ := Cy.ty_again h
    have hn := Cy.opn_ovr w.fs
    have c2 := v_cyTidy ⟨w.td, Cy.opn w.fs, w.bk⟩ hb
    rw [g1, g2, g3] at c2
    rw [h, t1, t2] at c1
    have c3 := v_sameworld ⟨w.td, Cy.opn w.fs, w.bk⟩ ⟨w.td, Cy.opn w.fs, w.bk⟩ (by simp only; omega) hb
    rw [show decide ((⟨w.td, Cy.opn w.fs, w.bk⟩ : Wd) = ⟨w.td, Cy.opn w.fs, w.bk⟩) = true from decide_eq_true rfl] at c3
    have c4 := v_cyAdd ⟨w.td, Cy.opn w.fs, w.bk⟩ f hb
    clear g1 g2 g3 t1 t2 h
    dsimp only at c1 c2 c3 c4
    by_cases k : Cy.adE ⟨w.td, Cy.opn w.fs, w.bk⟩ f = 0
    · have kw := Cy.adW_yes k
      obtain ⟨k1, k2, k3⟩ := Cy.ad_ok k
      obtain ⟨f1, f2⟩ := Cy.fnd_last k3
      rw [k, kw] at c4
      dsimp only at c4
      have c5 := v_ffind (Cy.opn w.fs ++ [f]) f.id
      rw [f1, f2] at c5
      have c6 := v_samefails (Cy.opn w.fs) (Cy.opn w.fs) (by omega)
      rw [show decide (Cy.opn w.fs = Cy.opn w.fs) = true from decide_eq_true rfl] at c6
      have gl : (Cy.opn w.fs ++ [f]).getD (Cy.opn w.fs).length default = f := by simp
      clear k kw k1 k2 k3
      refine V.Fn.mk_ V.Tok V.mixed Tryz.func7 rfl Tryz.ntmps7 (by kernel_rfl) rfl rfl ?_
      repeat' ((conv => whnf); first | (refine V.NIf.yes ?_ ?_; · (simp only [gl, and_self]; done)) | (refine V.NIf.yes ?_ ?_; · (decide; done)) | (refine V.NIf.no ?_ ?_; · (decide; done)) | (refine V.NIf.yes ?_ ?_; · (omega; done)) | (refine V.NIf.no ?_ ?_; · (omega; done)) | (refine V.NIf.yes ?_ ?_; · (simp only [true_and, and_true, and_self]; done)) | refine V.NCond.mk ?_ | refine V.NPick.l ?_ | refine V.NIf.not_ ?_ | refine V.NIf.dec_ ?_ | refine V.a4 ?_ | refine V.a5 ?_ | refine V.NIf.mk (fun _ => ?_) (fun _ => ?_) | refine V.a7 ?_ | refine V.a8 ?_ | refine V.a9 ?_ | refine V.NBoth.mk ?_ ?_ | refine V.b1 ?_ | refine V.b2 ?_ | refine V.NTF.dec ?_ | refine V.b3 ?_ | refine V.b4 ?_ | (first | refine V.Fn.k0 (v_cyBegun) rfl ?_ | refine V.Fn.q0 (v_cyBegun) rfl ?_ | refine V.Fn.a0 (v_cyBegun) rfl ?_) | (first | refine V.Fn.k0 (v_fbegun) rfl ?_ | refine V.Fn.q0 (v_fbegun) rfl ?_ | refine V.Fn.a0 (v_fbegun) rfl ?_) | ((first | refine V.FnR.k_ (c1) [0, 1] rfl ?_ ?_ | refine V.FnR.a_ (c1) [0, 1] rfl ?_ ?_); · exact V.D_) | ((first | refine V.FnR.k_ (c2) [4, 5] rfl ?_ ?_ | refine V.FnR.a_ (c2) [4, 5] rfl ?_ ?_); · exact V.D_) | ((first | refine V.Fn.k (c3) [8, 9, 4, 5] rfl ?_ ?_ | refine V.Fn.q (c3) [8, 9, 4, 5] rfl ?_ ?_ | refine V.Fn.a (c3) [8, 9, 4, 5] rfl ?_ ?_); · exact V.D_) | ((first | refine V.FnR.k_ (c4) [4, 5] rfl ?_ ?_ | refine V.FnR.a_ (c4) [4, 5] rfl ?_ ?_); · exact V.D_) | ((first | refine V.Fn.k (c5) [12] rfl ?_ ?_ | refine V.Fn.q (c5) [12] rfl ?_ ?_ | refine V.Fn.a (c5) [12] rfl ?_ ?_); · exact V.D_) | (refine V.NLt.mk (by simp) ?_) | (refine NIdx.mk ⟨(Cy.opn w.fs).length, rfl, by simp, ?_⟩) | (refine NCut.mk ⟨0, (Cy.opn w.fs).length, rfl, rfl, by omega, by simp, ?_⟩) | ((first | refine V.Fn.k (c6) [15, 4] rfl ?_ ?_ | refine V.Fn.q (c6) [15, 4] rfl ?_ ?_ | refine V.Fn.a (c6) [15, 4] rfl ?_ ?_); · exact ⟨⟨rfl, rfl, fun k hk => by have e := V.ga_left (en := encF) (l := Cy.opn w.fs) (r := [f]) (k := k) (by simpa using hk); simp only [Nat.zero_add]; first | exact e | exact e.symm⟩, ⟨rfl, rfl, fun _ _ => rfl⟩, trivial⟩) | (refine V.NDraw.any (by kernel_rfl) ?_) | fail)
      all_goals (conv => whnf)
      all_goals first | exact ⟨true, rfl, by simp⟩ | trace_state
    · rw [Cy.adW_no k] at c4
      have cz := v_sameworld Cy.zw Cy.zw (by decide) (by decide)
      rw [show decide (Cy.zw = Cy.zw) = true from decide_eq_true rfl] at cz
      refine V.Fn.mk_ V.Tok V.mixed Tryz.func7 rfl Tryz.ntmps7 (by kernel_rfl) rfl rfl ?_
      repeat' ((conv => whnf); first | (refine V.NIf.yes ?_ ?_; · (decide; done)) | (refine V.NIf.no ?_ ?_; · (decide; done)) | (refine V.NIf.yes ?_ ?_; · (exact k; done)) | (refine V.NIf.no ?_ ?_; · (exact k; done)) | (refine V.NIf.yes ?_ ?_; · (omega; done)) | (refine V.NIf.no ?_ ?_; · (omega; done)) | (refine V.NIf.yes ?_ ?_; · (simp only [true_and, and_true, and_self]; done)) | refine V.NCond.mk ?_ | refine V.NPick.l ?_ | refine V.NIf.not_ ?_ | refine V.NIf.dec_ ?_ | refine V.a4 ?_ | refine V.a5 ?_ | refine V.NIf.mk (fun _ => ?_) (fun _ => ?_) | refine V.a7 ?_ | refine V.a8 ?_ | refine V.a9 ?_ | refine V.NBoth.mk ?_ ?_ | refine V.b1 ?_ | refine V.b2 ?_ | refine V.NTF.dec ?_ | refine V.b3 ?_ | refine V.b4 ?_ | (first | refine V.Fn.k0 (v_cyBegun) rfl ?_ | refine V.Fn.q0 (v_cyBegun) rfl ?_ | refine V.Fn.a0 (v_cyBegun) rfl ?_) | (first | refine V.Fn.k0 (v_fbegun) rfl ?_ | refine V.Fn.q0 (v_fbegun) rfl ?_ | refine V.Fn.a0 (v_fbegun) rfl ?_) | ((first | refine V.FnR.k_ (c1) [0, 1] rfl ?_ ?_ | refine V.FnR.a_ (c1) [0, 1] rfl ?_ ?_); · exact V.D_) | ((first | refine V.FnR.k_ (c2) [4, 5] rfl ?_ ?_ | refine V.FnR.a_ (c2) [4, 5] rfl ?_ ?_); · exact V.D_) | ((first | refine V.Fn.k (c3) [8, 9, 4, 5] rfl ?_ ?_ | refine V.Fn.q (c3) [8, 9, 4, 5] rfl ?_ ?_ | refine V.Fn.a (c3) [8, 9, 4, 5] rfl ?_ ?_); · exact V.D_) | ((first | refine V.FnR.k_ (c4) [4, 5] rfl ?_ ?_ | refine V.FnR.a_ (c4) [4, 5] rfl ?_ ?_); · exact V.D_) | (refine V.NCall.nilf (f := 18) 1 1 10 _ rfl rfl ?_) | (refine V.NCall.nilf (f := 18) 1 2 3 _ rfl rfl ?_) | ((first | refine V.Fn.k (cz) [12, 13, 15, 16] rfl ?_ ?_ | refine V.Fn.q (cz) [12, 13, 15, 16] rfl ?_ ?_ | refine V.Fn.a (cz) [12, 13, 15, 16] rfl ?_ ?_); · exact ⟨⟨rfl, rfl, fun _ _ => rfl⟩, ⟨rfl, rfl, fun _ _ => rfl⟩, ⟨rfl, rfl, fun k hk => absurd hk (Nat.not_lt_zero _)⟩, ⟨rfl, rfl, fun k hk => absurd hk (Nat.not_lt_zero _)⟩, trivial⟩) | (refine V.NDraw.any (by kernel_rfl) ?_) | fail)
      all_goals (conv => whnf)
      all_goals first | exact ⟨true, rfl, by simp⟩ | trace_state
  · rw [(Cy.ty_no h).1, (Cy.ty_no h).2] at c1
    refine V.Fn.mk_ V.Tok V.mixed Tryz.func7 rfl Tryz.ntmps7 (by kernel_rfl) rfl rfl ?_
    repeat' ((conv => whnf); first | (refine V.NIf.yes ?_ ?_; · (decide; done)) | (refine V.NIf.no ?_ ?_; · (decide; done)) | (refine V.NIf.yes ?_ ?_; · (exact h; done)) | (refine V.NIf.no ?_ ?_; · (exact h; done)) | (refine V.NIf.yes ?_ ?_; · (omega; done)) | (refine V.NIf.no ?_ ?_; · (omega; done)) | (refine V.NIf.yes ?_ ?_; · (simp only [true_and, and_true, and_self]; done)) | refine V.NCond.mk ?_ | refine V.NPick.l ?_ | refine V.NIf.not_ ?_ | refine V.NIf.dec_ ?_ | refine V.a4 ?_ | refine V.a5 ?_ | refine V.NIf.mk (fun _ => ?_) (fun _ => ?_) | refine V.a7 ?_ | refine V.a8 ?_ | refine V.a9 ?_ | refine V.NBoth.mk ?_ ?_ | refine V.b1 ?_ | refine V.b2 ?_ | refine V.NTF.dec ?_ | refine V.b3 ?_ | refine V.b4 ?_ | (first | refine V.Fn.k0 (v_cyBegun) rfl ?_ | refine V.Fn.q0 (v_cyBegun) rfl ?_ | refine V.Fn.a0 (v_cyBegun) rfl ?_) | (first | refine V.Fn.k0 (v_fbegun) rfl ?_ | refine V.Fn.q0 (v_fbegun) rfl ?_ | refine V.Fn.a0 (v_fbegun) rfl ?_) | ((first | refine V.FnR.k_ (c1) [0, 1] rfl ?_ ?_ | refine V.FnR.a_ (c1) [0, 1] rfl ?_ ?_); · exact V.D_) | (refine V.NDraw.any (by kernel_rfl) ?_) | fail)
    all_goals (conv => whnf)
    all_goals first | exact ⟨true, rfl, by simp⟩ | trace_state
end Go.Proofs.YtpanlcnoopmchaaGreat

/- The statement of CycleTidy: for every input the call returns true and its input reads as it did. No condition. -/
namespace Go.Proofs.YtpanlcnoopmchaaGreat.cycleTidy
open Go.ChangeShapes Go.WideShapes Go.ChangeAt Go.RowKit

theorem own : ownKnob Tryz.prog.godebug = none := by kernel_rfl

set_option maxRecDepth 100000 in
theorem lifted (os : Os) (started : os.Started) (H : Type) (enc : TypeId × Value → H) :
    ReturnsInHanded {} Tryz.checked os 7 .any (Rows.cycleTidySpec.pre6 enc Tryz.prog Tryz.f7 Rows.cycleTidyRow.domain false) (Rows.cycleTidySpec.post enc Tryz.prog Tryz.f7 false true false false) := by
  refine returnsInHanded_of_change (C := Tryz.checked) own started (by kernel_rfl) Tryz.func7
    (ChangeSpec.witness6 (enc := enc) (C := Tryz.checked) false ⟨#[], #[.agg #[.int .i64 0, .slice none 0 0, .slice none 0 0], .agg #[.int .i64 0, .int .i64 0, .int .i64 0, .int .i64 0, .int .i64 0, .int .i64 0, .int .i64 0, .int .i64 0, .int .i64 0, .int .i64 0]], []⟩ 8 (by kernel_rfl) (by kernel_rfl) (by kernel_rfl) (by kernel_rfl)) ?_
  intro W base args ds gs before hval0 hW _ _
  have hval : ∀ (j : Nat) t v, Tryz.f7.params[j]? = some t → args[j]? = some v → Value.okWide Tryz.prog W .any base t v := hval0
  have hW' := hW
  obtain ⟨p, q, hA0, hV, rfl, hfz, hnd⟩ := hW
  have hA : DataW.TrodAll enc Tryz.prog W 0 (fun _ => true) true Tryz.f7.params.toList args.toList ds p := hA0
  rw [Tryz.params7] at hA hval
  obtain ⟨v0, vs0, d0, ds0, p0, q0, hargs, rfl, rfl, h0, r0⟩ := trodAll_cons hA
  obtain ⟨v1, vs1, d1, ds1, p1, q1, rfl, rfl, rfl, h1, r1⟩ := trodAll_cons r0
  obtain ⟨rfl, rfl, rfl⟩ := trodAll_nil r1
  obtain rfl : args = #[v0, v1] := by cases args; simp_all
  obtain ⟨rfl, rfl⟩ := trodVars_none hV
  obtain ⟨c0, u0, x0, rfl, hl0, hm0, w0⟩ := open_wd (hval 0 31 v0 rfl rfl) h0
  obtain ⟨f1, rfl, w1⟩ := open_fl (hval 1 42 v1 rfl rfl) h1
  clear hval0
  simp only [List.append_nil] at hW'
  refine ((v_cycleTidy c0 w0 f1 w1).c W (fun i => [u0, x0][i]?) [_, _] (fun i o ho => by
      rcases i with _ | i
      · obtain rfl := Option.some.inj ho
        exact ⟨u0, rfl, hl0⟩
      rcases i with _ | i
      · obtain rfl := Option.some.inj ho
        exact ⟨x0, rfl, hm0⟩
      simp at ho
) ⟨_, _, rfl, ⟨[_, _, _], ⟨_, _, rfl, rfl, _, _, rfl, ⟨rfl, hl0.one⟩, _, _, rfl, ⟨rfl, hm0.one⟩, rfl⟩, rfl⟩, ⟨_, _, rfl, ⟨_, V.Ats.vals _ [_, _, _, _, _, _, _, _, _, _], rfl⟩, rfl⟩⟩).mono fun e W' ⟨he, hg⟩ => ?_
  subst he
  exact ⟨_, rfl, post_of_below (pa := _) (pv := []) hW' (fun _ _ _ => (trodAll_cons_mk (shut_bool Tryz.underlying4 _) trodAll_mk0)) (fun sp hsp => all_stays laidOut (by kernel_rfl) hA0 (fun x hx => hg.same (hW'.lt x (by revert hx; simp))) (fun x hx => hsp x (by revert hx; simp))) (fun _ _ => rfl) (by simp)
    hg (ok_one (by kernel_rfl) rfl (okWide_bool_mk Tryz.underlying4 _))⟩

theorem over : Rows.cycleTidyRow.holds Tryz.pinned (OpenSpec.ofChange Rows.cycleTidySpec) :=
  OpenClaim.holds_of_wide 7 Tryz.f7 rfl rfl rfl rfl rfl rfl rfl ⟨rfl, rfl, rfl, rfl, rfl⟩ rfl rfl rfl rfl rfl (by kernel_rfl) Tryz.func7 (by kernel_rfl)
    (of_decide_eq_true (by kernel_rfl)) (by unfold Func.isWrapper; first | (rw [if_pos (by decide +kernel)]; kernel_rfl) | (rw [if_neg (by decide +kernel)]; exact ⟨rfl, rfl⟩))
    (fun os started H enc _ => lifted os started H enc)

theorem proved : Rows.CycleTidySaid :=
  over
end Go.Proofs.YtpanlcnoopmchaaGreat.cycleTidy
