/- The statement of CycleGives: the call returns true for every input, and its input reads as it did. No condition. -/
import Derived.Test.YtpanlcnoopmchaaGreatRows
import Derived.WalkKit
import Derived.ProofKit
import Derived.OpenShut
import Derived.Test.YtpanlcnoopmchaaGreatZ1
import Derived.Test.YtpanlcnoopmchaaGreatZ2
import Derived.Test.YtpanlcnoopmchaaGreatZ3
import Derived.Test.YtpanlcnoopmchaaGreatZ4
import Derived.Test.YtpanlcnoopmchaaGreatZ5
import Derived.Test.YtpanlcnoopmchaaGreatZ6
import Derived.Test.YtpanlcnoopmchaaGreatZ7

/- What CycleGives answers: true. (under way) -/
namespace Go.Proofs.YtpanlcnoopmchaaGreat
open Go Go.RowKit V
set_option maxRecDepth 100000
set_option linter.unusedVariables false
set_option linter.unusedSimpArgs false
theorem gv_amt {w : Wd} {id u : Int} (h : Cy.dvE w id u = 0) : (-1152921504606846976 ≤ Bk.bV w.bk (Cy.fl w id).to (Cy.fl w id).pa ∧ Bk.bV w.bk (Cy.fl w id).to (Cy.fl w id).pa ≤ 1152921504606846976) ∧ 1 ≤ u ∧ u ≤ 1073741824 ∧ u ≤ F.opn (Cy.fl w id) ∧ F.opn (Cy.fl w id) ≤ 1073741824 := by
  obtain ⟨_, _, hl, hp⟩ := Cy.dv_ok h
  have P := Bk.pE_0.1 hp
  have r2 := P.r ⟨(Cy.fl w id).to, (Cy.fl w id).pa, u⟩ (by simp [Cp.mvd])
  have k2 : Bk.Kn (Cy.fl w id).to (Cy.fl w id).pa := r2.1
  obtain ⟨o1, o2, o3, o4⟩ := F.less_ok hl
  have bd := F.ok_bounds o1
  rw [Bk.bV_is P.bo P.be k2]
  unfold F.opn
  rw [if_pos (F.chk_of o1)]
  exact ⟨Bk.tot_amt P.bo _, o2, o3, o4, by omega⟩
set_option maxHeartbeats 4000000 in
theorem v_cycleGives (w : Wd) (ww : WfWd w) (id : Int) (wi : (Lit.int .i64 id).wf = true) (a : Int) (wa : (Lit.int .i64 a).wf = true) (b : Int) (wb : (Lit.int .i64 b).wf = true) : V.Fn Tryz.prog 9 [.arr 10 w.fs.length (ga encF w.fs), .arr 3 w.bk.length (ga encP w.bk)] [.agg [.val (.int .i64 w.td), .ref 0, .ref 1], .one (.val (.int .i64 id)), .one (.val (.int .i64 a)), .one (.val (.int .i64 b))] (.bool true) := by
  refine V.Fn.lim (by kernel_rfl) fun hl => ?_
  have hb := hl 1 _ _ _ rfl
  clear hl ww wi wa wb
  have c1 := v_cyDeliver w id a hb
  by_cases h : Cy.dvE w id a = 0
  · have d1 := Cy.dv_len w id a
    have c2 := v_cyDeliver (Cy.dvW w id a) id b (by omega)
    obtain ⟨hi, f1, f2, f3⟩ := Cy.gv h
    obtain ⟨o1, o2, o3⟩ := Cy.gv_opn h
    obtain ⟨b1, b2, b3⟩ := Cy.gv_bal h
    obtain ⟨g1, g2, g3, g4, g5⟩ := Cy.gv_fl h
    have hk := Cy.wE_len (Cy.dv_ok h).1
    have cf := v_ffind w.fs id
    rw [f1, f2] at cf
    have p1 := v_open (Cy.fl w id)
    rw [o1] at p1
    have gx : (Cy.dvW w id a).fs.getD (Cy.at_ w id) default = F.addDe (Cy.fl w id) a := by rw [← g5]; unfold Cy.fl; rw [g4]
    have xl : (Cy.dvW w id a).fs.length = w.fs.length := by rw [g1, List.length_set]
    have p2 := v_open ((Cy.dvW w id a).fs.getD (Cy.at_ w id) default)
    rw [show F.chk ((Cy.dvW w id a).fs.getD (Cy.at_ w id) default) = 0 by rw [gx]; exact o2, show F.opn ((Cy.dvW w id a).fs.getD (Cy.at_ w id) default) = F.opn (Cy.fl w id) - a by rw [gx]; exact o3] at p2
    have q1 := v_bkBalance w.bk (Cy.fl w id).to (Cy.fl w id).pa hb
    rw [b1] at q1
    have q2 := v_bkBalance (Cy.dvW w id a).bk (Cy.fl w id).to (Cy.fl w id).pa (by omega)
    rw [b2, b3] at q2
    rw [h] at c1
    clear g1 g2 g3 g4 g5 gx
    obtain ⟨⟨m1, m2⟩, m3, m4, m5, m6⟩ := gv_amt h
    have m7 : Cy.dvE (Cy.dvW w id a) id b = 0 → 1 ≤ b ∧ b ≤ 1073741824 := fun k => by have := gv_amt k; omega
    have two := @Cy.gv_two w id a b h
    have c3 := v_cyDeliver w id (a + b) hb
    have d2 := Cy.dv_len (Cy.dvW w id a) id b
    have s := v_sameworld (Cy.dvW (Cy.dvW w id a) id b) (Cy.dvW w id (a + b)) (by omega) (by omega)
    refine V.Fn.mk_ V.Tok V.mixed Tryz.func9 rfl Tryz.ntmps9 (by kernel_rfl) rfl rfl ?_
    repeat' ((conv => whnf); first | (refine V.NIf.yes ?_ ?_; · (exact (two (by assumption)).1; done)) | (refine V.NIf.no ?_ ?_; · (exact fun z => z (two (by assumption)).1; done)) | (refine V.NIf.yes ?_ ?_; · (decide; done)) | (refine V.NIf.no ?_ ?_; · (decide; done)) | (refine V.NIf.yes ?_ ?_; · (omega; done)) | (refine V.NIf.no ?_ ?_; · (omega; done)) | (refine V.NIf.yes ?_ ?_; · (simp only [true_and, and_true, and_self]; done)) | refine V.NCond.mk ?_ | refine V.NPick.l ?_ | refine V.NIf.not_ ?_ | refine V.NIf.dec_ ?_ | refine V.a4 ?_ | refine V.a5 ?_ | refine V.NIf.mk (fun _ => ?_) (fun _ => ?_) | refine V.a7 ?_ | refine V.a8 ?_ | refine V.a9 ?_ | refine V.NBoth.mk ?_ ?_ | refine V.b1 ?_ | refine V.b2 ?_ | refine V.NTF.dec ?_ | refine V.b3 ?_ | refine V.b4 ?_ | (first | refine V.Fn.k0 (v_cyBegun) rfl ?_ | refine V.Fn.q0 (v_cyBegun) rfl ?_ | refine V.Fn.a0 (v_cyBegun) rfl ?_) | (first | refine V.Fn.k0 (v_bkBegun) rfl ?_ | refine V.Fn.q0 (v_bkBegun) rfl ?_ | refine V.Fn.a0 (v_bkBegun) rfl ?_) | (first | refine V.Fn.k0 (v_fbegun) rfl ?_ | refine V.Fn.q0 (v_fbegun) rfl ?_ | refine V.Fn.a0 (v_fbegun) rfl ?_) | ((first | refine V.FnR.k_ (c1) [0, 1] rfl ?_ ?_ | refine V.FnR.a_ (c1) [0, 1] rfl ?_ ?_); · exact V.D_) | ((first | refine V.Fn.k (cf) [0] rfl ?_ ?_ | refine V.Fn.q (cf) [0] rfl ?_ ?_ | refine V.Fn.a (cf) [0] rfl ?_ ?_); · exact V.D_) | (refine NIdx.mk ⟨Cy.at_ w id, rfl, by omega, ?_⟩) | (first | refine V.Fn.k0 (p1) rfl ?_ | refine V.Fn.q0 (p1) rfl ?_ | refine V.Fn.a0 (p1) rfl ?_) | (first | refine V.Fn.k0 (p2) rfl ?_ | refine V.Fn.q0 (p2) rfl ?_ | refine V.Fn.a0 (p2) rfl ?_) | ((first | refine V.Fn.k (q1) [1] rfl ?_ ?_ | refine V.Fn.q (q1) [1] rfl ?_ ?_ | refine V.Fn.a (q1) [1] rfl ?_ ?_); · exact V.D_) | ((first | refine V.Fn.k (q2) [4] rfl ?_ ?_ | refine V.Fn.q (q2) [4] rfl ?_ ?_ | refine V.Fn.a (q2) [4] rfl ?_ ?_); · exact V.D_) | ((first | refine V.FnR.k_ (c2) [3, 4] rfl ?_ ?_ | refine V.FnR.a_ (c2) [3, 4] rfl ?_ ?_); · exact V.D_) | ((first | refine V.FnR.k_ (c3) [0, 1] rfl ?_ ?_ | refine V.FnR.a_ (c3) [0, 1] rfl ?_ ?_); · exact V.D_) | ((first | refine V.Fn.k (s) [6, 7, 9, 10] rfl ?_ ?_ | refine V.Fn.q (s) [6, 7, 9, 10] rfl ?_ ?_ | refine V.Fn.a (s) [6, 7, 9, 10] rfl ?_ ?_); · exact V.D_) | (refine V.NDraw.any (by kernel_rfl) ?_) | fail)
    all_goals (conv => whnf)
    all_goals first | exact congrArg Value.bool (decide_eq_true (two (by assumption)).2.symm) | exact ⟨true, rfl, by simp⟩ | trace_state
  · have cz := v_sameworld Cy.zw Cy.zw (by decide) (by decide)
    rw [show decide (Cy.zw = Cy.zw) = true from decide_eq_true rfl] at cz
    rw [Cy.dvW_no h] at c1
    refine V.Fn.mk_ V.Tok V.mixed Tryz.func9 rfl Tryz.ntmps9 (by kernel_rfl) rfl rfl ?_
    repeat' ((conv => whnf); first | (refine V.NIf.yes ?_ ?_; · (decide; done)) | (refine V.NIf.no ?_ ?_; · (decide; done)) | (refine V.NIf.yes ?_ ?_; · (exact h; done)) | (refine V.NIf.no ?_ ?_; · (exact h; done)) | (refine V.NIf.yes ?_ ?_; · (simp only [true_and, and_true, and_self]; done)) | refine V.NCond.mk ?_ | refine V.NPick.l ?_ | refine V.NIf.not_ ?_ | refine V.NIf.dec_ ?_ | refine V.a4 ?_ | refine V.a5 ?_ | refine V.NIf.mk (fun _ => ?_) (fun _ => ?_) | refine V.a7 ?_ | refine V.a8 ?_ | refine V.a9 ?_ | refine V.NBoth.mk ?_ ?_ | refine V.b1 ?_ | refine V.b2 ?_ | refine V.NTF.dec ?_ | refine V.b3 ?_ | refine V.b4 ?_ | (first | refine V.Fn.k0 (v_cyBegun) rfl ?_ | refine V.Fn.q0 (v_cyBegun) rfl ?_ | refine V.Fn.a0 (v_cyBegun) rfl ?_) | (first | refine V.Fn.k0 (v_bkBegun) rfl ?_ | refine V.Fn.q0 (v_bkBegun) rfl ?_ | refine V.Fn.a0 (v_bkBegun) rfl ?_) | (first | refine V.Fn.k0 (v_fbegun) rfl ?_ | refine V.Fn.q0 (v_fbegun) rfl ?_ | refine V.Fn.a0 (v_fbegun) rfl ?_) | ((first | refine V.FnR.k_ (c1) [0, 1] rfl ?_ ?_ | refine V.FnR.a_ (c1) [0, 1] rfl ?_ ?_); · exact V.D_) | (refine V.NCall.nilf (f := 18) 1 1 10 _ rfl rfl ?_) | (refine V.NCall.nilf (f := 18) 1 2 3 _ rfl rfl ?_) | ((first | refine V.Fn.k (cz) [3, 4, 6, 7] rfl ?_ ?_ | refine V.Fn.q (cz) [3, 4, 6, 7] rfl ?_ ?_ | refine V.Fn.a (cz) [3, 4, 6, 7] rfl ?_ ?_); · exact ⟨⟨rfl, rfl, fun _ _ => rfl⟩, ⟨rfl, rfl, fun _ _ => rfl⟩, ⟨rfl, rfl, fun k hk => absurd hk (Nat.not_lt_zero _)⟩, ⟨rfl, rfl, fun k hk => absurd hk (Nat.not_lt_zero _)⟩, trivial⟩) | (refine V.NDraw.any (by kernel_rfl) ?_) | fail)
    all_goals (conv => whnf)
    all_goals first | exact ⟨true, rfl, by simp⟩ | trace_state
end Go.Proofs.YtpanlcnoopmchaaGreat

/- The statement of CycleGives: for every input the call returns true and its input reads as it did. No condition. -/
namespace Go.Proofs.YtpanlcnoopmchaaGreat.cycleGives
open Go.ChangeShapes Go.WideShapes Go.ChangeAt Go.RowKit

theorem own : ownKnob Tryz.prog.godebug = none := by kernel_rfl

set_option maxRecDepth 100000 in
theorem lifted (os : Os) (started : os.Started) (H : Type) (enc : TypeId × Value → H) :
    ReturnsInHanded {} Tryz.checked os 9 .any (Rows.cycleGivesSpec.pre6 enc Tryz.prog Tryz.f9 Rows.cycleGivesRow.domain false) (Rows.cycleGivesSpec.post enc Tryz.prog Tryz.f9 false true false false) := by
  refine returnsInHanded_of_change (C := Tryz.checked) own started (by kernel_rfl) Tryz.func9
    (ChangeSpec.witness6 (enc := enc) (C := Tryz.checked) false ⟨#[], #[.agg #[.int .i64 0, .slice none 0 0, .slice none 0 0], .int .i64 0, .int .i64 0, .int .i64 0], []⟩ 8 (by kernel_rfl) (by kernel_rfl) (by kernel_rfl) (by kernel_rfl)) ?_
  intro W base args ds gs before hval0 hW _ _
  have hval : ∀ (j : Nat) t v, Tryz.f9.params[j]? = some t → args[j]? = some v → Value.okWide Tryz.prog W .any base t v := hval0
  have hW' := hW
  obtain ⟨p, q, hA0, hV, rfl, hfz, hnd⟩ := hW
  have hA : DataW.TrodAll enc Tryz.prog W 0 (fun _ => true) true Tryz.f9.params.toList args.toList ds p := hA0
  rw [Tryz.params9] at hA hval
  obtain ⟨v0, vs0, d0, ds0, p0, q0, hargs, rfl, rfl, h0, r0⟩ := trodAll_cons hA
  obtain ⟨v1, vs1, d1, ds1, p1, q1, rfl, rfl, rfl, h1, r1⟩ := trodAll_cons r0
  obtain ⟨v2, vs2, d2, ds2, p2, q2, rfl, rfl, rfl, h2, r2⟩ := trodAll_cons r1
  obtain ⟨v3, vs3, d3, ds3, p3, q3, rfl, rfl, rfl, h3, r3⟩ := trodAll_cons r2
  obtain ⟨rfl, rfl, rfl⟩ := trodAll_nil r3
  obtain rfl : args = #[v0, v1, v2, v3] := by cases args; simp_all
  obtain ⟨rfl, rfl⟩ := trodVars_none hV
  obtain ⟨c0, u0, x0, rfl, hl0, hm0, w0⟩ := open_wd (hval 0 31 v0 rfl rfl) h0
  obtain ⟨a1, rfl, rfl, rfl, w1⟩ := open_int Tryz.underlying3 (hval 1 3 v1 rfl rfl) h1
  obtain ⟨a2, rfl, rfl, rfl, w2⟩ := open_int Tryz.underlying3 (hval 2 3 v2 rfl rfl) h2
  obtain ⟨a3, rfl, rfl, rfl, w3⟩ := open_int Tryz.underlying3 (hval 3 3 v3 rfl rfl) h3
  clear hval0
  simp only [List.append_nil] at hW'
  refine ((v_cycleGives c0 w0 a1 w1 a2 w2 a3 w3).c W (fun i => [u0, x0][i]?) [_, _, _, _] (fun i o ho => by
      rcases i with _ | i
      · obtain rfl := Option.some.inj ho
        exact ⟨u0, rfl, hl0⟩
      rcases i with _ | i
      · obtain rfl := Option.some.inj ho
        exact ⟨x0, rfl, hm0⟩
      simp at ho
) ⟨_, _, rfl, ⟨[_, _, _], ⟨_, _, rfl, rfl, _, _, rfl, ⟨rfl, hl0.one⟩, _, _, rfl, ⟨rfl, hm0.one⟩, rfl⟩, rfl⟩, ⟨_, _, rfl, rfl, ⟨_, _, rfl, rfl, ⟨_, _, rfl, rfl, rfl⟩⟩⟩⟩).mono fun e W' ⟨he, hg⟩ => ?_
  subst he
  exact ⟨_, rfl, post_of_below (pa := _) (pv := []) hW' (fun _ _ _ => (trodAll_cons_mk (shut_bool Tryz.underlying4 _) trodAll_mk0)) (fun sp hsp => all_stays laidOut (by kernel_rfl) hA0 (fun x hx => hg.same (hW'.lt x (by revert hx; simp))) (fun x hx => hsp x (by revert hx; simp))) (fun _ _ => rfl) (by simp)
    hg (ok_one (by kernel_rfl) rfl (okWide_bool_mk Tryz.underlying4 _))⟩

theorem over : Rows.cycleGivesRow.holds Tryz.pinned (OpenSpec.ofChange Rows.cycleGivesSpec) :=
  OpenClaim.holds_of_wide 9 Tryz.f9 rfl rfl rfl rfl rfl rfl rfl ⟨rfl, rfl, rfl, rfl, rfl⟩ rfl rfl rfl rfl rfl (by kernel_rfl) Tryz.func9 (by kernel_rfl)
    (of_decide_eq_true (by kernel_rfl)) (by unfold Func.isWrapper; first | (rw [if_pos (by decide +kernel)]; kernel_rfl) | (rw [if_neg (by decide +kernel)]; exact ⟨rfl, rfl⟩))
    (fun os started H enc _ => lifted os started H enc)

theorem proved : Rows.CycleGivesSaid :=
  over
end Go.Proofs.YtpanlcnoopmchaaGreat.cycleGives
