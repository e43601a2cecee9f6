/- The statement of CycleEnds: the call returns true for every input, and its input reads as it did. No condition. -/
import Derived.Test.YtpanlcnoopmchaaGreatRows
import Derived.WalkKit
import Derived.ProofKit
import Derived.OpenShut
import Derived.Test.YtpanlcnoopmchaaGreatY1
import Derived.Test.YtpanlcnoopmchaaGreatY2
import Derived.Test.YtpanlcnoopmchaaGreatY3
import Derived.Test.YtpanlcnoopmchaaGreatY4
import Derived.Test.YtpanlcnoopmchaaGreatY5
import Derived.Test.YtpanlcnoopmchaaGreatY6
import Derived.Test.YtpanlcnoopmchaaGreatY7
set_option linter.unusedVariables false
set_option linter.unusedSimpArgs false
set_option maxRecDepth 100000

/- What CycleEnds answers: true. -/
namespace Go.Proofs.YtpanlcnoopmchaaGreat
open Go Go.RowKit V
set_option maxRecDepth 100000
set_option linter.unusedVariables false
set_option linter.unusedSimpArgs false
set_option maxHeartbeats 4000000 in
theorem v_cycleEnds (r : Ru0) (wr : WfRu r) (w : Wd) (ww : WfWd w) (hz1 : w.fs.length ≤ 1759218604390 ∧ w.bk.length ≤ 5864062014634) (pr : List Int) (wp : ∀ p ∈ pr, (Lit.int .i64 p).wf = true) : V.Fn Tryz.prog 8 [.arr 1 r.c.hs.length (ga e1 r.c.hs), .arr 4 r.ts.length (ga encTm r.ts), .arr 10 w.fs.length (ga encF w.fs), .arr 3 w.bk.length (ga encP w.bk), .arr 1 pr.length (ga e1 pr)] [.agg [.val (.int .i64 r.c.we), .ref 0, .ref 1, .val (.int .i64 r.ex)], .agg [.val (.int .i64 w.td), .ref 2, .ref 3], .one (.ref 4)] (.bool true) := by
  refine V.Fn.lim (by kernel_rfl) fun hl => ?_
  have hc := hl 0 _ _ _ rfl
  have ht := hl 1 _ _ _ rfl
  have hp := hl 4 _ _ _ rfl
  obtain ⟨c, t, x⟩ := r
  dsimp only at hc ht ⊢
  clear hl ww wr wp
  have c1 := v_night c t x w pr hc ht hp hz1.1 hz1.2
  by_cases h : Cy.nE c t x w pr = 0
  · have N := Cy.nt h
    have hE := fun k (hk : k < (Cy.nW c t x w pr).fs.length) => @Cy.ends c t x w pr h ((Cy.nW c t x w pr).fs.getD k default) (getD_mem hk)
    obtain ⟨n60, n400⟩ := Cy.wE_len N.ok
    have t6 := (Pn.tE_ok (Cy.rE_ok N.rk).2.1).1
    have hcl := fun k (hk : k < (Cy.nW c t x w pr).fs.length) => (Pn.all_ok (Cy.wE_ok N.ok).2.1 _ (getD_mem hk)).1.2.2.2.1
    have cD := fun k => v_agDays c (Pn.cl t ((Cy.nW c t x w pr).fs.getD k default)) ((Cy.nW c t x w pr).fs.getD k default).day hc
    have cO := fun k => v_open ((Cy.nW c t x w pr).fs.getD k default)
    rw [h] at c1
    clear h N
    generalize Cy.nW c t x w pr = X at *
    generalize Cy.nP c t x w pr = PS at *
    refine V.Fn.mk_ V.Tok V.mixed Tryz.func8 rfl Tryz.ntmps8 (by kernel_rfl) rfl rfl ?_
    repeat' ((conv => whnf); first | (refine V.NIf.yes ?_ ?_; · (decide; done)) | (refine V.NIf.no ?_ ?_; · (decide; done)) | (refine V.NIf.yes ?_ ?_; · (simp only [true_and, and_true, and_self]; done)) | refine V.NCond.mk ?_ | refine V.NPick.l ?_ | refine V.NIf.not_ ?_ | refine V.NIf.dec_ ?_ | refine V.a4 ?_ | refine V.a5 ?_ | refine V.NIf.mk (fun _ => ?_) (fun _ => ?_) | refine V.a7 ?_ | refine V.a8 ?_ | refine V.a9 ?_ | refine V.NBoth.mk ?_ ?_ | refine V.b1 ?_ | refine V.b2 ?_ | refine V.NTF.dec ?_ | refine V.b3 ?_ | refine V.b4 ?_ | (first | refine V.Fn.k0 (v_cyBegun) rfl ?_ | refine V.Fn.q0 (v_cyBegun) rfl ?_ | refine V.Fn.a0 (v_cyBegun) rfl ?_) | (first | refine V.Fn.k0 (v_ageBegun) rfl ?_ | refine V.Fn.q0 (v_ageBegun) rfl ?_ | refine V.Fn.a0 (v_ageBegun) rfl ?_) | (first | refine V.Fn.k0 (v_fbegun) rfl ?_ | refine V.Fn.q0 (v_fbegun) rfl ?_ | refine V.Fn.a0 (v_fbegun) rfl ?_) | ((first | refine V.FnR.k_ (c1) [0, 1, 2, 3, 4] rfl ?_ ?_ | refine V.FnR.a_ (c1) [0, 1, 2, 3, 4] rfl ?_ ?_); · exact V.D_) | (refine V.NDraw.any (by kernel_rfl) ?_) | fail)
    refine V.NLoop.auto (fun (k : Nat) => [(10, .one (.val (.int .i64 k)))]) (fun (k : Nat) => []) [] [] (fun (k : Nat) => X.fs.length - k) (fun (k : Nat) => k ≤ X.fs.length) 0 (Nat.zero_le _) V.S_ V.S_ (fun _ => ⟨rfl, rfl⟩) ?_; (conv => whnf); refine ⟨⟨rfl, rfl⟩, ?_⟩
    rintro k hk
    by_cases hlt : k < X.fs.length
    · have e1 := cD k
      have e2 := cO k
      obtain ⟨z1, z2, z3⟩ := hE k hlt
      have q := hcl k hlt
      rw [z1] at e1
      rw [z2] at e2
      unfold Pn.cl at *
      clear hE hcl cD cO z1 z2
      repeat' ((conv => whnf); first | (refine V.NIf.yes ?_ ?_; · (decide; done)) | (refine V.NIf.no ?_ ?_; · (decide; done)) | refine V.NCond.mk ?_ | refine V.NPick.l ?_ | refine V.NIf.not_ ?_ | refine V.NIf.dec_ ?_ | refine V.a4 ?_ | refine V.a5 ?_ | refine V.NIf.mk (fun _ => ?_) (fun _ => ?_) | refine V.a7 ?_ | refine V.a8 ?_ | refine V.a9 ?_ | refine V.NBoth.mk ?_ ?_ | refine V.b1 ?_ | refine V.b2 ?_ | refine V.NTF.dec ?_ | refine V.b3 ?_ | refine V.b4 ?_ | (refine NIdx.mk ⟨k, rfl, by omega, ?_⟩) | (refine NIdx.mk ⟨(X.fs.getD k default).cl.toNat, by omega, by omega, ?_⟩) | ((first | refine V.Fn.k (e1) [0] rfl ?_ ?_ | refine V.Fn.q (e1) [0] rfl ?_ ?_ | refine V.Fn.a (e1) [0] rfl ?_ ?_); · exact V.D_) | (first | refine V.Fn.k0 (e2) rfl ?_ | refine V.Fn.q0 (e2) rfl ?_ | refine V.Fn.a0 (e2) rfl ?_) | (refine V.NDraw.any (by kernel_rfl) ?_) | fail)
      all_goals (conv => whnf)
      all_goals first
        | exact V.NBack.at_ (k + 1) [] (by omega) (by omega) V.S_ rfl V.S_ V.S_ V.S_
        | (exfalso; omega)
        | trace_state
    · obtain rfl : k = X.fs.length := by omega
      repeat' ((conv => whnf); first | refine V.NCond.mk ?_ | refine V.NPick.l ?_ | refine V.NIf.not_ ?_ | refine V.NIf.dec_ ?_ | refine V.a4 ?_ | refine V.a5 ?_ | refine V.NIf.mk (fun _ => ?_) (fun _ => ?_) | refine V.a7 ?_ | refine V.a8 ?_ | refine V.a9 ?_ | refine V.NBoth.mk ?_ ?_ | refine V.b1 ?_ | refine V.b2 ?_ | refine V.NTF.dec ?_ | refine V.b3 ?_ | refine V.b4 ?_ | (refine V.NDraw.any (by kernel_rfl) ?_) | fail)
      all_goals (conv => whnf)
      all_goals first | exact ⟨true, rfl, by simp⟩ | trace_state
  · rw [(Cy.zw_of h).1, (Cy.zw_of h).2] at c1
    refine V.Fn.mk_ V.Tok V.mixed Tryz.func8 rfl Tryz.ntmps8 (by kernel_rfl) rfl rfl ?_
    repeat' ((conv => whnf); first | (refine V.NIf.yes ?_ ?_; · (decide; done)) | (refine V.NIf.no ?_ ?_; · (decide; done)) | (refine V.NIf.yes ?_ ?_; · (exact h; done)) | (refine V.NIf.no ?_ ?_; · (exact h; done)) | (refine V.NIf.yes ?_ ?_; · (simp only [true_and, and_true, and_self]; done)) | refine V.NCond.mk ?_ | refine V.NPick.l ?_ | refine V.NIf.not_ ?_ | refine V.NIf.dec_ ?_ | refine V.a4 ?_ | refine V.a5 ?_ | refine V.NIf.mk (fun _ => ?_) (fun _ => ?_) | refine V.a7 ?_ | refine V.a8 ?_ | refine V.a9 ?_ | refine V.NBoth.mk ?_ ?_ | refine V.b1 ?_ | refine V.b2 ?_ | refine V.NTF.dec ?_ | refine V.b3 ?_ | refine V.b4 ?_ | (first | refine V.Fn.k0 (v_cyBegun) rfl ?_ | refine V.Fn.q0 (v_cyBegun) rfl ?_ | refine V.Fn.a0 (v_cyBegun) rfl ?_) | (first | refine V.Fn.k0 (v_ageBegun) rfl ?_ | refine V.Fn.q0 (v_ageBegun) rfl ?_ | refine V.Fn.a0 (v_ageBegun) rfl ?_) | (first | refine V.Fn.k0 (v_fbegun) rfl ?_ | refine V.Fn.q0 (v_fbegun) rfl ?_ | refine V.Fn.a0 (v_fbegun) rfl ?_) | ((first | refine V.FnR.k_ (c1) [0, 1, 2, 3, 4] rfl ?_ ?_ | refine V.FnR.a_ (c1) [0, 1, 2, 3, 4] rfl ?_ ?_); · exact V.D_) | (refine V.NDraw.any (by kernel_rfl) ?_) | fail)
    all_goals (conv => whnf)
    all_goals first | exact ⟨true, rfl, by simp⟩ | trace_state
end Go.Proofs.YtpanlcnoopmchaaGreat

/- The statement of CycleEnds: for every input the call returns true and its input reads as it did. No condition. -/
namespace Go.Proofs.YtpanlcnoopmchaaGreat.cycleEnds
open Go.ChangeShapes Go.WideShapes Go.ChangeAt Go.RowKit

theorem own : ownKnob Tryz.prog.godebug = none := by kernel_rfl

set_option maxRecDepth 100000 in
theorem lifted (os : Os) (started : os.Started) (H : Type) (enc : TypeId × Value → H) :
    ReturnsInHanded {} Tryz.checked os 8 .any (Rows.cycleEndsSpec.pre6 enc Tryz.prog Tryz.f8 Rows.cycleEndsRow.domain false) (Rows.cycleEndsSpec.post enc Tryz.prog Tryz.f8 false true false false) := by
  refine returnsInHanded_of_change_sized (C := Tryz.checked) own started (by kernel_rfl) Tryz.func8
    (ChangeSpec.witness6 (enc := enc) (C := Tryz.checked) false ⟨#[], #[.agg #[.int .i64 0, .slice none 0 0, .slice none 0 0, .int .i64 0], .agg #[.int .i64 0, .slice none 0 0, .slice none 0 0], .slice none 0 0], []⟩ 8 (by kernel_rfl) (by kernel_rfl) (by kernel_rfl) (by kernel_rfl)) ?_
  intro W base args ds gs before hval0 hW _ hsz _
  have hval : ∀ (j : Nat) t v, Tryz.f8.params[j]? = some t → args[j]? = some v → Value.okWide Tryz.prog W .any base t v := hval0
  have hW' := hW
  obtain ⟨p, q, hA0, hV, rfl, hfz, hnd⟩ := hW
  have hA : DataW.TrodAll enc Tryz.prog W 0 (fun _ => true) true Tryz.f8.params.toList args.toList ds p := hA0
  rw [Tryz.params8] at hA hval hsz
  obtain ⟨v0, vs0, d0, ds0, p0, q0, hargs, rfl, rfl, h0, r0⟩ := trodAll_cons hA
  obtain ⟨v1, vs1, d1, ds1, p1, q1, rfl, rfl, rfl, h1, r1⟩ := trodAll_cons r0
  obtain ⟨v2, vs2, d2, ds2, p2, q2, rfl, rfl, rfl, h2, r2⟩ := trodAll_cons r1
  obtain ⟨rfl, rfl, rfl⟩ := trodAll_nil r2
  obtain rfl : args = #[v0, v1, v2] := by cases args; simp_all
  obtain ⟨rfl, rfl⟩ := trodVars_none hV
  obtain ⟨c0, u0, x0, rfl, hl0, hm0, w0⟩ := open_ru (hval 0 27 v0 rfl rfl) h0
  obtain ⟨c1, u1, x1, rfl, hl1, hm1, w1⟩ := open_wd (hval 1 31 v1 rfl rfl) h1
  obtain ⟨l2, hl2, w2⟩ := open_il (hval 2 22 v2 rfl rfl) h2
  have z1 := len_field hsz (j := 1) rfl rfl h1 wdStruct wd1 flsCells rfl Tryz.underlying28 (show Tryz.prog.bytesOf 42 = 80 by kernel_rfl) hl1
  have y1 := len_field hsz (j := 1) rfl rfl h1 wdStruct wd2 posCells rfl Tryz.underlying29 (show Tryz.prog.bytesOf 65 = 24 by kernel_rfl) hm1
  clear hval0
  simp only [List.append_nil] at hW'
  refine ((v_cycleEnds c0 w0 c1 w1 ⟨by omega, by omega⟩ l2 w2).c W (fun i => [u0, x0, u1, x1, v2][i]?) [_, _, _] (fun i o ho => by
      rcases i with _ | i
      · obtain rfl := Option.some.inj ho
        exact ⟨u0, rfl, hl0⟩
      rcases i with _ | i
      · obtain rfl := Option.some.inj ho
        exact ⟨x0, rfl, hm0⟩
      rcases i with _ | i
      · obtain rfl := Option.some.inj ho
        exact ⟨u1, rfl, hl1⟩
      rcases i with _ | i
      · obtain rfl := Option.some.inj ho
        exact ⟨x1, rfl, hm1⟩
      rcases i with _ | i
      · obtain rfl := Option.some.inj ho
        exact ⟨v2, rfl, hl2⟩
      simp at ho
) ⟨_, _, rfl, ⟨[_, _, _, _], ⟨_, _, rfl, rfl, _, _, rfl, ⟨rfl, hl0.one⟩, _, _, rfl, ⟨rfl, hm0.one⟩, _, _, rfl, rfl, rfl⟩, rfl⟩, ⟨_, _, rfl, ⟨[_, _, _], ⟨_, _, rfl, rfl, _, _, rfl, ⟨rfl, hl1.one⟩, _, _, rfl, ⟨rfl, hm1.one⟩, rfl⟩, rfl⟩, ⟨_, _, rfl, ⟨rfl, hl2.one⟩, rfl⟩⟩⟩).mono fun e W' ⟨he, hg⟩ => ?_
  subst he
  exact ⟨_, rfl, post_of_below (pa := _) (pv := []) hW' (fun _ _ _ => (trodAll_cons_mk (shut_bool Tryz.underlying4 _) trodAll_mk0)) (fun sp hsp => all_stays laidOut (by kernel_rfl) hA0 (fun x hx => hg.same (hW'.lt x (by revert hx; simp))) (fun x hx => hsp x (by revert hx; simp))) (fun _ _ => rfl) (by simp)
    hg (ok_one (by kernel_rfl) rfl (okWide_bool_mk Tryz.underlying4 _))⟩

theorem over : Rows.cycleEndsRow.holds Tryz.pinned (OpenSpec.ofChange Rows.cycleEndsSpec) :=
  OpenClaim.holds_of_wide 8 Tryz.f8 rfl rfl rfl rfl rfl rfl rfl ⟨rfl, rfl, rfl, rfl, rfl⟩ rfl rfl rfl rfl rfl (by kernel_rfl) Tryz.func8 (by kernel_rfl)
    (of_decide_eq_true (by kernel_rfl)) (by unfold Func.isWrapper; first | (rw [if_pos (by decide +kernel)]; kernel_rfl) | (rw [if_neg (by decide +kernel)]; exact ⟨rfl, rfl⟩))
    (fun os started H enc _ => lifted os started H enc)

theorem proved : Rows.CycleEndsSaid :=
  over
end Go.Proofs.YtpanlcnoopmchaaGreat.cycleEnds
