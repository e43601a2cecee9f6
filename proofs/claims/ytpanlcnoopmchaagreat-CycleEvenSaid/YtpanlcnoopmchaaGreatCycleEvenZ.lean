/- The statement of CycleEven: the call returns true for every input, and its input reads as it did. No condition. -/
import Derived.Test.YtpanlcnoopmchaaGreatRows
import Derived.WalkKit
import Derived.ProofKit
import Derived.OpenShut
import Derived.Test.YtpanlcnoopmchaaGreatY1
import Derived.Test.YtpanlcnoopmchaaGreatY2
import Derived.Test.YtpanlcnoopmchaaGreatY3
import Derived.Test.YtpanlcnoopmchaaGreatY4
import Derived.Test.YtpanlcnoopmchaaGreatY5
import Derived.Test.YtpanlcnoopmchaaGreatY6
import Derived.Test.YtpanlcnoopmchaaGreatY7
set_option linter.unusedVariables false
set_option linter.unusedSimpArgs false
set_option maxRecDepth 100000

/- What CycleEven answers: true. -/
namespace Go.Proofs.YtpanlcnoopmchaaGreat
open Go Go.RowKit V
set_option maxRecDepth 100000
set_option linter.unusedVariables false
set_option linter.unusedSimpArgs false
theorem sofV_of {l : List Int} (h : M.Amt (M.sum l)) : M.sofV l = M.sum l := by
  unfold M.sofV M.Amt at *
  rw [if_pos (by omega)]
set_option maxHeartbeats 8000000 in
theorem v_cycleEven (r : Ru0) (wr : WfRu r) (w : Wd) (ww : WfWd w) (hz1 : w.fs.length ≤ 1759218604390 ∧ w.bk.length ≤ 5864062014634) (pr : List Int) (wp : ∀ p ∈ pr, (Lit.int .i64 p).wf = true) (account : Int) (wa : (Lit.int .i64 account).wf = true) (unit : Int) (wu : (Lit.int .i64 unit).wf = true) : V.Fn Tryz.prog 10 [.arr 1 r.c.hs.length (ga e1 r.c.hs), .arr 4 r.ts.length (ga encTm r.ts), .arr 10 w.fs.length (ga encF w.fs), .arr 3 w.bk.length (ga encP w.bk), .arr 1 pr.length (ga e1 pr)] [.agg [.val (.int .i64 r.c.we), .ref 0, .ref 1, .val (.int .i64 r.ex)], .agg [.val (.int .i64 w.td), .ref 2, .ref 3], .one (.ref 4), .one (.val (.int .i64 account)), .one (.val (.int .i64 unit))] (.bool true) := by
  refine V.Fn.lim (by kernel_rfl) fun hl => ?_
  have hc := hl 0 _ _ _ rfl
  have ht := hl 1 _ _ _ rfl
  have hb := hl 3 _ _ _ rfl
  have hp := hl 4 _ _ _ rfl
  obtain ⟨c, t, x⟩ := r
  dsimp only at hc ht ⊢
  clear hl ww wr wp wa wu
  have c1 := v_night c t x w pr hc ht hp hz1.1 hz1.2
  by_cases h : Cy.nE c t x w pr = 0
  · have N := Cy.nt h
    obtain ⟨n60, n400⟩ := Cy.wE_len N.ok
    have m60 := Cy.wE_len N.wk
    have xl := (Cy.nW_at h).1
    have xt : w.td < (Cy.nW c t x w pr).td := N.up.1
    have t6 := (Pn.tE_ok (Cy.rE_ok N.rk).2.1).1
    have hcl := fun k (hk : k < w.fs.length) => (N.fo _ (getD_mem hk)).1.2.2.2.1
    obtain ⟨v1, v2, v3⟩ := Cy.even_is h account unit
    have hS := fun k (hk : k < w.fs.length) => @Cy.even_pd c t x w pr h k hk
    have cS := fun k => v_agStage c (Pn.cl t (w.fs.getD k default)) (w.fs.getD k default) w.td hc
    have pl := Cy.nP_len h
    have cW := v_cyCheck (Cy.nW c t x w pr) (by omega)
    rw [N.ok] at cW
    rw [h] at c1
    have b1 := v_bkBalance w.bk account unit hb
    have b2 := v_bkBalance (Cy.nW c t x w pr).bk account unit (by omega)
    rw [v1] at b2
    have sn := fun k (hk : k < (Cy.nP c t x w pr).length) => @Cy.mor_snoc (Cy.nP c t x w pr) account unit k hk
    have sm : ∀ k, (Cy.mor ((Cy.nP c t x w pr).take k) account unit).length ≤ 151 := fun k => by
      have := Cy.mor_len ((Cy.nP c t x w pr).take k) account unit
      rw [List.length_take] at this
      omega
    have sl := Cy.mor_len (Cy.nP c t x w pr) account unit
    have cs := v_sumof (Cy.mor (Cy.nP c t x w pr) account unit ++ [Bk.bV w.bk account unit]) (by simp; omega) v2
    have sv : Bk.bE w.bk account unit = 0 → M.sofV (Cy.mor (Cy.nP c t x w pr) account unit ++ [Bk.bV w.bk account unit]) = Bk.bV (Cy.nW c t x w pr).bk account unit ∧ decide (M.Amt (M.sum (Cy.mor (Cy.nP c t x w pr) account unit ++ [Bk.bV w.bk account unit]))) = true := fun q => by
      obtain ⟨q1, q2⟩ := v3 q
      rw [← q1] at q2 ⊢
      exact ⟨sofV_of q2, decide_eq_true q2⟩
    clear h N v1 v2 v3
    generalize Cy.nW c t x w pr = X at *
    generalize Cy.nP c t x w pr = PS at *
    generalize Bk.bV w.bk account unit = WAS at *
    generalize Bk.bV X.bk account unit = NOW at *
    generalize Bk.bE w.bk account unit = E at *
    generalize M.sofV (Cy.mor PS account unit ++ [WAS]) = SV0 at *
    generalize decide (M.Amt (M.sum (Cy.mor PS account unit ++ [WAS]))) = SP at *
    refine V.Fn.mk_ V.Tok V.mixed Tryz.func10 rfl Tryz.ntmps10 (by kernel_rfl) rfl rfl ?_
    repeat' ((conv => whnf); first | (refine V.NIf.yes ?_ ?_; · (decide; done)) | (refine V.NIf.no ?_ ?_; · (decide; done)) | (refine V.NIf.yes ?_ ?_; · (simp only [true_and, and_true, and_self]; done)) | refine V.NCond.mk ?_ | refine V.NPick.l ?_ | refine V.NIf.not_ ?_ | refine V.NIf.dec_ ?_ | refine V.a4 ?_ | refine V.a5 ?_ | refine V.NIf.mk (fun _ => ?_) (fun _ => ?_) | refine V.a7 ?_ | refine V.a8 ?_ | refine V.a9 ?_ | refine V.NBoth.mk ?_ ?_ | refine V.b1 ?_ | refine V.b2 ?_ | refine V.NTF.dec ?_ | refine V.b3 ?_ | refine V.b4 ?_ | (first | refine V.Fn.k0 (v_cyBegun) rfl ?_ | refine V.Fn.q0 (v_cyBegun) rfl ?_ | refine V.Fn.a0 (v_cyBegun) rfl ?_) | (first | refine V.Fn.k0 (v_bkBegun) rfl ?_ | refine V.Fn.q0 (v_bkBegun) rfl ?_ | refine V.Fn.a0 (v_bkBegun) rfl ?_) | (first | refine V.Fn.k0 (v_ageBegun) rfl ?_ | refine V.Fn.q0 (v_ageBegun) rfl ?_ | refine V.Fn.a0 (v_ageBegun) rfl ?_) | ((first | refine V.FnR.k_ (c1) [0, 1, 2, 3, 4] rfl ?_ ?_ | refine V.FnR.a_ (c1) [0, 1, 2, 3, 4] rfl ?_ ?_); · exact V.D_) | ((first | refine V.Fn.k (cW) [7, 8] rfl ?_ ?_ | refine V.Fn.q (cW) [7, 8] rfl ?_ ?_ | refine V.Fn.a (cW) [7, 8] rfl ?_ ?_); · exact V.D_) | ((first | refine V.Fn.k (b1) [3] rfl ?_ ?_ | refine V.Fn.q (b1) [3] rfl ?_ ?_ | refine V.Fn.a (b1) [3] rfl ?_ ?_); · exact V.D_) | ((first | refine V.Fn.k (b2) [8] rfl ?_ ?_ | refine V.Fn.q (b2) [8] rfl ?_ ?_ | refine V.Fn.a (b2) [8] rfl ?_ ?_); · exact V.D_) | (refine V.NDraw.any (by kernel_rfl) ?_) | fail)
    refine V.NLoop.auto (fun (k : Nat) => [(19, .one (.val (.int .i64 k))), (18, .one (.ref 11))]) (fun (k : Nat) => [(11, .row 3 1 (Cy.mor (PS.take k) account unit).length (ga e1 (Cy.mor (PS.take k) account unit)))]) [] [] (fun (k : Nat) => PS.length - k) (fun (k : Nat) => k ≤ PS.length) 0 (Nat.zero_le _) V.S_ V.S_ (fun _ => ⟨rfl, rfl⟩) ?_; (conv => whnf); refine ⟨⟨rfl, rfl⟩, ?_⟩
    rintro k hk
    have tk := sm k
    by_cases hlt : k < PS.length
    · have sn := sn k hlt
      clear hS cS cs sv
      repeat' ((conv => whnf); first | refine V.NCond.mk ?_ | refine V.NPick.l ?_ | refine V.NIf.not_ ?_ | refine V.NIf.dec_ ?_ | refine V.a4 ?_ | refine V.a5 ?_ | refine V.NIf.mk (fun _ => ?_) (fun _ => ?_) | refine V.a7 ?_ | refine V.a8 ?_ | refine V.a9 ?_ | refine V.NBoth.mk ?_ ?_ | refine V.b1 ?_ | refine V.b2 ?_ | refine V.NTF.dec ?_ | refine V.b3 ?_ | refine V.b4 ?_ | (refine NIdx.mk ⟨k, rfl, by omega, ?_⟩) | (refine V.NDraw.any (by kernel_rfl) ?_) | fail)
      all_goals (conv => whnf)
      all_goals first
        | exact V.NBack.at_ (k + 1) [(11, 13)] (by omega) (by omega) V.S_ rfl ⟨ObLe.as_ (sn.trans (by rw [if_pos (by omega)])), trivial⟩ V.S_ V.S_
        | exact V.NBack.at_ (k + 1) [] (by omega) (by omega) V.S_ rfl ⟨ObLe.as_ (sn.trans (by rw [if_neg (by omega), List.append_nil])), trivial⟩ V.S_ V.S_
        | trace_state
    · obtain rfl : k = PS.length := by omega
      rw [List.take_length]
      clear sn sm
      have sv' : (E = 0 ∧ SV0 = NOW ∧ SP = true) ∨ ¬ E = 0 := by
        by_cases z : E = 0
        · exact .inl ⟨z, sv z⟩
        · exact .inr z
      clear sv
      rcases sv' with ⟨rfl, rfl, rfl⟩ | hE
      all_goals (
        repeat' ((conv => whnf); first | (refine V.NIf.yes ?_ ?_; · (assumption; done)) | (refine V.NIf.no ?_ ?_; · (assumption; done)) | (refine V.NIf.yes ?_ ?_; · (decide; done)) | (refine V.NIf.no ?_ ?_; · (decide; done)) | (refine V.NIf.yes ?_ ?_; · (simp only [true_and, and_true, and_self]; done)) | refine V.NCond.mk ?_ | refine V.NPick.l ?_ | refine V.NIf.not_ ?_ | refine V.NIf.dec_ ?_ | refine V.a4 ?_ | refine V.a5 ?_ | refine V.NIf.mk (fun _ => ?_) (fun _ => ?_) | refine V.a7 ?_ | refine V.a8 ?_ | refine V.a9 ?_ | refine V.NBoth.mk ?_ ?_ | refine V.b1 ?_ | refine V.b2 ?_ | refine V.NTF.dec ?_ | refine V.b3 ?_ | refine V.b4 ?_ | ((first | refine V.Fn.k (cs) [13] rfl ?_ ?_ | refine V.Fn.q (cs) [13] rfl ?_ ?_ | refine V.Fn.a (cs) [13] rfl ?_ ?_); · exact V.D_) | (refine V.NDraw.any (by kernel_rfl) ?_) | fail)
        all_goals (conv => whnf)
        refine V.NLoop.auto (fun (k : Nat) => [(22, .one (.val (.int .i64 k)))]) (fun (k : Nat) => []) [] [] (fun (k : Nat) => w.fs.length - k) (fun (k : Nat) => k ≤ w.fs.length) 0 (Nat.zero_le _) V.S_ V.S_ (fun _ => ⟨rfl, rfl⟩) ?_; (conv => whnf); refine ⟨⟨rfl, rfl⟩, ?_⟩
        rintro k hk
        by_cases hlt : k < w.fs.length
        · obtain ⟨z1, z2⟩ := hS k hlt
          have e1 := cS k
          have q := hcl k hlt
          rw [z1] at e1
          unfold Pn.cl at *
          clear hS cS hcl z1 cs
          generalize Ag.sV c (t.getD (w.fs.getD k default).cl.toNat default) (w.fs.getD k default) w.td = SS at *
          repeat' ((conv => whnf); first | (refine V.NIf.yes ?_ ?_; · (assumption; done)) | (refine V.NIf.no ?_ ?_; · (assumption; done)) | (refine V.NIf.yes ?_ ?_; · (decide; done)) | (refine V.NIf.no ?_ ?_; · (decide; done)) | (refine V.NIf.no ?_ ?_; · (exact fun z => z z2; done)) | refine V.NCond.mk ?_ | refine V.NPick.l ?_ | refine V.NIf.not_ ?_ | refine V.NIf.dec_ ?_ | refine V.a4 ?_ | refine V.a5 ?_ | refine V.NIf.mk (fun _ => ?_) (fun _ => ?_) | refine V.a7 ?_ | refine V.a8 ?_ | refine V.a9 ?_ | refine V.NBoth.mk ?_ ?_ | refine V.b1 ?_ | refine V.b2 ?_ | refine V.NTF.dec ?_ | refine V.b3 ?_ | refine V.b4 ?_ | (refine NIdx.mk ⟨k, rfl, by omega, ?_⟩) | (refine NIdx.mk ⟨(w.fs.getD k default).cl.toNat, by omega, by omega, ?_⟩) | ((first | refine V.Fn.k (e1) [0] rfl ?_ ?_ | refine V.Fn.q (e1) [0] rfl ?_ ?_ | refine V.Fn.a (e1) [0] rfl ?_ ?_); · exact V.D_) | (refine V.NDraw.any (by kernel_rfl) ?_) | fail)
          all_goals (conv => whnf)
          all_goals first
            | exact V.NBack.at_ (k + 1) [] (by omega) (by omega) V.S_ rfl V.S_ V.S_ V.S_
            | trace_state
        · obtain rfl : k = w.fs.length := by omega
          clear hS cS hcl cs
          repeat' ((conv => whnf); first | refine V.NCond.mk ?_ | refine V.NPick.l ?_ | refine V.NIf.not_ ?_ | refine V.NIf.dec_ ?_ | refine V.a4 ?_ | refine V.a5 ?_ | refine V.NIf.mk (fun _ => ?_) (fun _ => ?_) | refine V.a7 ?_ | refine V.a8 ?_ | refine V.a9 ?_ | refine V.NBoth.mk ?_ ?_ | refine V.b1 ?_ | refine V.b2 ?_ | refine V.NTF.dec ?_ | refine V.b3 ?_ | refine V.b4 ?_ | (refine V.NDraw.any (by kernel_rfl) ?_) | fail)
          all_goals (conv => whnf)
          all_goals first | exact ⟨true, rfl, by simp⟩ | trace_state)
  · rw [(Cy.zw_of h).1, (Cy.zw_of h).2] at c1
    have cz := v_sameworld Cy.zw Cy.zw (by decide) (by decide)
    rw [show decide (Cy.zw = Cy.zw) = true from decide_eq_true rfl] at cz
    refine V.Fn.mk_ V.Tok V.mixed Tryz.func10 rfl Tryz.ntmps10 (by kernel_rfl) rfl rfl ?_
    repeat' ((conv => whnf); first | (refine V.NIf.yes ?_ ?_; · (decide; done)) | (refine V.NIf.no ?_ ?_; · (decide; done)) | (refine V.NIf.yes ?_ ?_; · (exact h; done)) | (refine V.NIf.no ?_ ?_; · (exact h; done)) | (refine V.NIf.yes ?_ ?_; · (simp only [true_and, and_true, and_self]; done)) | refine V.NCond.mk ?_ | refine V.NPick.l ?_ | refine V.NIf.not_ ?_ | refine V.NIf.dec_ ?_ | refine V.a4 ?_ | refine V.a5 ?_ | refine V.NIf.mk (fun _ => ?_) (fun _ => ?_) | refine V.a7 ?_ | refine V.a8 ?_ | refine V.a9 ?_ | refine V.NBoth.mk ?_ ?_ | refine V.b1 ?_ | refine V.b2 ?_ | refine V.NTF.dec ?_ | refine V.b3 ?_ | refine V.b4 ?_ | (first | refine V.Fn.k0 (v_cyBegun) rfl ?_ | refine V.Fn.q0 (v_cyBegun) rfl ?_ | refine V.Fn.a0 (v_cyBegun) rfl ?_) | (first | refine V.Fn.k0 (v_bkBegun) rfl ?_ | refine V.Fn.q0 (v_bkBegun) rfl ?_ | refine V.Fn.a0 (v_bkBegun) rfl ?_) | (first | refine V.Fn.k0 (v_ageBegun) rfl ?_ | refine V.Fn.q0 (v_ageBegun) rfl ?_ | refine V.Fn.a0 (v_ageBegun) rfl ?_) | ((first | refine V.FnR.k_ (c1) [0, 1, 2, 3, 4] rfl ?_ ?_ | refine V.FnR.a_ (c1) [0, 1, 2, 3, 4] rfl ?_ ?_); · exact V.D_) | (refine V.NCall.nilf (f := 18) 1 1 10 _ rfl rfl ?_) | (refine V.NCall.nilf (f := 18) 1 2 3 _ rfl rfl ?_) | ((first | refine V.Fn.k (cz) [7, 8, 11, 12] rfl ?_ ?_ | refine V.Fn.q (cz) [7, 8, 11, 12] rfl ?_ ?_ | refine V.Fn.a (cz) [7, 8, 11, 12] rfl ?_ ?_); · exact ⟨⟨rfl, rfl, fun _ _ => rfl⟩, ⟨rfl, rfl, fun _ _ => rfl⟩, ⟨rfl, rfl, fun k hk => absurd hk (Nat.not_lt_zero _)⟩, ⟨rfl, rfl, fun k hk => absurd hk (Nat.not_lt_zero _)⟩, trivial⟩) | (refine V.NDraw.any (by kernel_rfl) ?_) | fail)
    all_goals (conv => whnf)
    all_goals first | exact ⟨true, rfl, by simp⟩ | trace_state
end Go.Proofs.YtpanlcnoopmchaaGreat

/- The statement of CycleEven: for every input the call returns true and its input reads as it did. No condition. -/
namespace Go.Proofs.YtpanlcnoopmchaaGreat.cycleEven
open Go.ChangeShapes Go.WideShapes Go.ChangeAt Go.RowKit

theorem own : ownKnob Tryz.prog.godebug = none := by kernel_rfl

set_option maxRecDepth 100000 in
theorem lifted (os : Os) (started : os.Started) (H : Type) (enc : TypeId × Value → H) :
    ReturnsInHanded {} Tryz.checked os 10 .any (Rows.cycleEvenSpec.pre6 enc Tryz.prog Tryz.f10 Rows.cycleEvenRow.domain false) (Rows.cycleEvenSpec.post enc Tryz.prog Tryz.f10 false true false false) := by
  refine returnsInHanded_of_change_sized (C := Tryz.checked) own started (by kernel_rfl) Tryz.func10
    (ChangeSpec.witness6 (enc := enc) (C := Tryz.checked) false ⟨#[], #[.agg #[.int .i64 0, .slice none 0 0, .slice none 0 0, .int .i64 0], .agg #[.int .i64 0, .slice none 0 0, .slice none 0 0], .slice none 0 0, .int .i64 0, .int .i64 0], []⟩ 8 (by kernel_rfl) (by kernel_rfl) (by kernel_rfl) (by kernel_rfl)) ?_
  intro W base args ds gs before hval0 hW _ hsz _
  have hval : ∀ (j : Nat) t v, Tryz.f10.params[j]? = some t → args[j]? = some v → Value.okWide Tryz.prog W .any base t v := hval0
  have hW' := hW
  obtain ⟨p, q, hA0, hV, rfl, hfz, hnd⟩ := hW
  have hA : DataW.TrodAll enc Tryz.prog W 0 (fun _ => true) true Tryz.f10.params.toList args.toList ds p := hA0
  rw [Tryz.params10] at hA hval hsz
  obtain ⟨v0, vs0, d0, ds0, p0, q0, hargs, rfl, rfl, h0, r0⟩ := trodAll_cons hA
  obtain ⟨v1, vs1, d1, ds1, p1, q1, rfl, rfl, rfl, h1, r1⟩ := trodAll_cons r0
  obtain ⟨v2, vs2, d2, ds2, p2, q2, rfl, rfl, rfl, h2, r2⟩ := trodAll_cons r1
  obtain ⟨v3, vs3, d3, ds3, p3, q3, rfl, rfl, rfl, h3, r3⟩ := trodAll_cons r2
  obtain ⟨v4, vs4, d4, ds4, p4, q4, rfl, rfl, rfl, h4, r4⟩ := trodAll_cons r3
  obtain ⟨rfl, rfl, rfl⟩ := trodAll_nil r4
  obtain rfl : args = #[v0, v1, v2, v3, v4] := by cases args; simp_all
  obtain ⟨rfl, rfl⟩ := trodVars_none hV
  obtain ⟨c0, u0, x0, rfl, hl0, hm0, w0⟩ := open_ru (hval 0 27 v0 rfl rfl) h0
  obtain ⟨c1, u1, x1, rfl, hl1, hm1, w1⟩ := open_wd (hval 1 31 v1 rfl rfl) h1
  obtain ⟨l2, hl2, w2⟩ := open_il (hval 2 22 v2 rfl rfl) h2
  obtain ⟨a3, rfl, rfl, rfl, w3⟩ := open_int Tryz.underlying3 (hval 3 3 v3 rfl rfl) h3
  obtain ⟨a4, rfl, rfl, rfl, w4⟩ := open_int Tryz.underlying3 (hval 4 3 v4 rfl rfl) h4
  have z1 := len_field hsz (j := 1) rfl rfl h1 wdStruct wd1 flsCells rfl Tryz.underlying28 (show Tryz.prog.bytesOf 42 = 80 by kernel_rfl) hl1
  have y1 := len_field hsz (j := 1) rfl rfl h1 wdStruct wd2 posCells rfl Tryz.underlying29 (show Tryz.prog.bytesOf 65 = 24 by kernel_rfl) hm1
  clear hval0
  simp only [List.append_nil] at hW'
  refine ((v_cycleEven c0 w0 c1 w1 ⟨by omega, by omega⟩ l2 w2 a3 w3 a4 w4).c W (fun i => [u0, x0, u1, x1, v2][i]?) [_, _, _, _, _] (fun i o ho => by
      rcases i with _ | i
      · obtain rfl := Option.some.inj ho
        exact ⟨u0, rfl, hl0⟩
      rcases i with _ | i
      · obtain rfl := Option.some.inj ho
        exact ⟨x0, rfl, hm0⟩
      rcases i with _ | i
      · obtain rfl := Option.some.inj ho
        exact ⟨u1, rfl, hl1⟩
      rcases i with _ | i
      · obtain rfl := Option.some.inj ho
        exact ⟨x1, rfl, hm1⟩
      rcases i with _ | i
      · obtain rfl := Option.some.inj ho
        exact ⟨v2, rfl, hl2⟩
      simp at ho
) ⟨_, _, rfl, ⟨[_, _, _, _], ⟨_, _, rfl, rfl, _, _, rfl, ⟨rfl, hl0.one⟩, _, _, rfl, ⟨rfl, hm0.one⟩, _, _, rfl, rfl, rfl⟩, rfl⟩, ⟨_, _, rfl, ⟨[_, _, _], ⟨_, _, rfl, rfl, _, _, rfl, ⟨rfl, hl1.one⟩, _, _, rfl, ⟨rfl, hm1.one⟩, rfl⟩, rfl⟩, ⟨_, _, rfl, ⟨rfl, hl2.one⟩, ⟨_, _, rfl, rfl, ⟨_, _, rfl, rfl, rfl⟩⟩⟩⟩⟩).mono fun e W' ⟨he, hg⟩ => ?_
  subst he
  exact ⟨_, rfl, post_of_below (pa := _) (pv := []) hW' (fun _ _ _ => (trodAll_cons_mk (shut_bool Tryz.underlying4 _) trodAll_mk0)) (fun sp hsp => all_stays laidOut (by kernel_rfl) hA0 (fun x hx => hg.same (hW'.lt x (by revert hx; simp))) (fun x hx => hsp x (by revert hx; simp))) (fun _ _ => rfl) (by simp)
    hg (ok_one (by kernel_rfl) rfl (okWide_bool_mk Tryz.underlying4 _))⟩

theorem over : Rows.cycleEvenRow.holds Tryz.pinned (OpenSpec.ofChange Rows.cycleEvenSpec) :=
  OpenClaim.holds_of_wide 10 Tryz.f10 rfl rfl rfl rfl rfl rfl rfl ⟨rfl, rfl, rfl, rfl, rfl⟩ rfl rfl rfl rfl rfl (by kernel_rfl) Tryz.func10 (by kernel_rfl)
    (of_decide_eq_true (by kernel_rfl)) (by unfold Func.isWrapper; first | (rw [if_pos (by decide +kernel)]; kernel_rfl) | (rw [if_neg (by decide +kernel)]; exact ⟨rfl, rfl⟩))
    (fun os started H enc _ => lifted os started H enc)

theorem proved : Rows.CycleEvenSaid :=
  over
end Go.Proofs.YtpanlcnoopmchaaGreat.cycleEven
