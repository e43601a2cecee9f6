/- Shared texts, one behind the other: VClaim, VCy2, VCy3, VCy4, VCy5, VPen2, VCy6, VCy7, CyPl2, VCy8, VCy9, VNil2, VPen3, VAgeB, VPenB, PenPl2, CyPl3, VPenC, VCyB, VOpenI, VOpenC, VOpenF, VOpenPo, VOpenTm, VOpenW, CyPl4, CyPl5, CompPl2, CyPl7, CyPl8, CyPl9, VCal3, Laid, VSized, VSizedW -/
import Derived.Test.YtpanlcnoopmchaaGreatDoorRows
import Derived.ProofKit
import Derived.LaidMore
import Derived.OpenShut
import Derived.Stop.Joined
import Derived.Lib.LaidTab
import Derived.SizedLaws
import Derived.Test.YtpanlcnoopmchaaGreatDoorZ1
import Derived.Test.YtpanlcnoopmchaaGreatDoorZ2
import Derived.Test.YtpanlcnoopmchaaGreatDoorZ3
import Derived.Test.YtpanlcnoopmchaaGreatDoorZ4
import Derived.Test.YtpanlcnoopmchaaGreatDoorZ5
set_option linter.unusedVariables false
set_option linter.unusedSimpArgs false
set_option maxRecDepth 100000

namespace Go.Proofs.YtpanlcnoopmchaaGreatDoor
open Go Go.RowKit V
theorem v_cloneF (l : List Fl) (hn : l.length ≤ 1759218604390) : V.FnR Tryz.prog 49 [.arr 10 l.length (ga encF l)] [.one (.ref 0)] (.one (.ref 1)) [.row 41 10 l.length (ga encF l)] := by
  refine V.FnR.mk_ V.Tok V.mixed Tryz.func49 rfl Tryz.ntmps49 (by kernel_rfl) rfl rfl rfl rfl ?_
  repeat' ((conv => whnf); first | refine V.NCond.mk ?_ | refine V.NPick.l ?_ | refine V.NIf.not_ ?_ | refine V.NIf.dec_ ?_ | refine V.a4 ?_ | refine V.a5 ?_ | refine V.NIf.mk (fun _ => ?_) (fun _ => ?_) | refine V.a7 ?_ | refine V.a8 ?_ | refine V.a9 ?_ | refine V.NBoth.mk ?_ ?_ | refine V.b1 ?_ | refine V.b2 ?_ | refine V.NTF.dec ?_ | refine V.b3 ?_ | refine V.b4 ?_ | (refine NNil.mk ?_; intro p hp) | (refine NOne.mk ?_ ?_; · (intro k hk; rfl)) | (refine NApp.all_ (by first | omega | (simp; omega)) (by omega) ?_) | (refine V.NDraw.any (by kernel_rfl) ?_) | fail)
  all_goals (conv => whnf)
  · refine NRet.mk_ [some 2] rfl ?_ ?_
    · exact rfl
    · exact ⟨⟨rfl, rfl, (hp (by assumption)).symm, fun k hk => absurd hk (Nat.not_lt_zero _)⟩, trivial⟩
  · refine NRet.mk_ [some 3] rfl ?_ ?_
    · exact rfl
    · exact ⟨⟨rfl, rfl, rfl, fun _ _ => rfl⟩, trivial⟩
end Go.Proofs.YtpanlcnoopmchaaGreatDoor

namespace Go.Proofs.YtpanlcnoopmchaaGreatDoor
open Go Go.RowKit V
set_option maxHeartbeats 4000000 in
theorem v_cyAdd (w : Wd) (f : Fl) (hb : w.bk.length ≤ 9223372036854775807) : V.FnR Tryz.prog 10 [.arr 10 w.fs.length (ga encF w.fs), .arr 3 w.bk.length (ga encP w.bk)] [.agg [.val (.int .i64 w.td), .ref 0, .ref 1], .agg [.val (.int .i64 f.id), .val (.int .i64 f.fr), .val (.int .i64 f.to), .val (.int .i64 f.cl), .val (.int .i64 f.pa), .val (.int .i64 f.day), .val (.int .i64 f.un), .val (.int .i64 f.de), .val (.int .i64 f.bo), .val (.int .i64 f.pd)]] (.tup [.agg [.val (.int .i64 (Cy.adW w f).td), .ref 2, .ref 3], .one (.val (.int .i64 (Cy.adE w f)))]) [.row 41 10 (Cy.adW w f).fs.length (ga encF (Cy.adW w f).fs), .row 52 3 (Cy.adW w f).bk.length (ga encP (Cy.adW w f).bk)] := by
  by_cases hw : Cy.wE w = 0
  · obtain ⟨n60, n400⟩ := Cy.wE_len hw
    have cc := v_cyCheck w hb
    rw [hw] at cc
    by_cases hf : Cy.Fresh w f
    · have e := Cy.ad_3 hw hf
      by_cases hk : F.checks (w.fs ++ [f]) = 0
      · rw [hk] at e
        rw [Cy.adW_yes e, e]
        unfold Cy.Fresh at hf
        have ck := v_fchecks (w.fs ++ [f])
        rw [hk] at ck
        refine V.FnR.mk_ V.Tok V.mixed Tryz.func10 rfl Tryz.ntmps10 (by kernel_rfl) rfl rfl rfl rfl ?_
        repeat' ((conv => whnf); first | (refine V.NIf.yes ?_ ?_; · (decide; done)) | (refine V.NIf.no ?_ ?_; · (decide; done)) | refine V.NCond.mk ?_ | refine V.NPick.l ?_ | refine V.NIf.not_ ?_ | refine V.NIf.dec_ ?_ | refine V.a4 ?_ | refine V.a5 ?_ | refine V.NIf.mk (fun _ => ?_) (fun _ => ?_) | refine V.a7 ?_ | refine V.a8 ?_ | refine V.a9 ?_ | refine V.NBoth.mk ?_ ?_ | refine V.b1 ?_ | refine V.b2 ?_ | refine V.NTF.dec ?_ | refine V.b3 ?_ | refine V.b4 ?_ | ((first | refine V.Fn.k (cc) [0, 1] rfl ?_ ?_ | refine V.Fn.q (cc) [0, 1] rfl ?_ ?_ | refine V.Fn.a (cc) [0, 1] rfl ?_ ?_); · exact V.D_) | (refine V.NCall.inl (f := 24) V.Tok V.mixed Tryz.func24 rfl Tryz.ntmps24 (by kernel_rfl) rfl ?_) | ((first | refine V.FnR.k_ (v_cloneF w.fs (by omega)) [0] rfl ?_ ?_ | refine V.FnR.a_ (v_cloneF w.fs (by omega)) [0] rfl ?_ ?_); · exact V.D_) | ((first | refine V.FnR.k_ (v_cloneP w.bk (by omega)) [1] rfl ?_ ?_ | refine V.FnR.a_ (v_cloneP w.bk (by omega)) [1] rfl ?_ ?_); · exact V.D_) | ((first | refine V.Fn.k (ck) [11] rfl ?_ ?_ | refine V.Fn.q (ck) [11] rfl ?_ ?_ | refine V.Fn.a (ck) [11] rfl ?_ ?_); · exact V.D_) | (refine V.NDraw.any (by kernel_rfl) ?_) | fail)
        all_goals (conv => whnf)
        all_goals first
          | exact V.er2 11 8
          | (exfalso; omega)
          | trace_state
      · have ck := v_fchecks (w.fs ++ [f])
        rw [Cy.adW_no (by rw [e]; exact hk), e]
        unfold Cy.Fresh at hf
        refine V.FnR.mk_ V.Tok V.mixed Tryz.func10 rfl Tryz.ntmps10 (by kernel_rfl) rfl rfl rfl rfl ?_
        repeat' ((conv => whnf); first | (refine V.NIf.yes ?_ ?_; · (decide; done)) | (refine V.NIf.no ?_ ?_; · (decide; done)) | refine V.NCond.mk ?_ | refine V.NPick.l ?_ | refine V.NIf.not_ ?_ | refine V.NIf.dec_ ?_ | refine V.a4 ?_ | refine V.a5 ?_ | refine V.NIf.mk (fun _ => ?_) (fun _ => ?_) | refine V.a7 ?_ | refine V.a8 ?_ | refine V.a9 ?_ | refine V.NBoth.mk ?_ ?_ | refine V.b1 ?_ | refine V.b2 ?_ | refine V.NTF.dec ?_ | refine V.b3 ?_ | refine V.b4 ?_ | ((first | refine V.Fn.k (cc) [0, 1] rfl ?_ ?_ | refine V.Fn.q (cc) [0, 1] rfl ?_ ?_ | refine V.Fn.a (cc) [0, 1] rfl ?_ ?_); · exact V.D_) | (refine V.NCall.inl (f := 24) V.Tok V.mixed Tryz.func24 rfl Tryz.ntmps24 (by kernel_rfl) rfl ?_) | ((first | refine V.FnR.k_ (v_cloneF w.fs (by omega)) [0] rfl ?_ ?_ | refine V.FnR.a_ (v_cloneF w.fs (by omega)) [0] rfl ?_ ?_); · exact V.D_) | ((first | refine V.FnR.k_ (v_cloneP w.bk (by omega)) [1] rfl ?_ ?_ | refine V.FnR.a_ (v_cloneP w.bk (by omega)) [1] rfl ?_ ?_); · exact V.D_) | ((first | refine V.Fn.k (ck) [11] rfl ?_ ?_ | refine V.Fn.q (ck) [11] rfl ?_ ?_ | refine V.Fn.a (ck) [11] rfl ?_ ?_); · exact V.D_) | (refine V.NDraw.any (by kernel_rfl) ?_) | fail)
        all_goals (conv => whnf)
        all_goals first
          | exact V.er00
          | (exfalso; omega)
          | trace_state
    · have e := Cy.ad_2 hw hf
      rw [Cy.adW_no (by rw [e]; decide), e]
      unfold Cy.Fresh at hf
      refine V.FnR.mk_ V.Tok V.mixed Tryz.func10 rfl Tryz.ntmps10 (by kernel_rfl) rfl rfl rfl rfl ?_
      repeat' ((conv => whnf); first | (refine V.NIf.yes ?_ ?_; · (decide; done)) | (refine V.NIf.no ?_ ?_; · (decide; done)) | refine V.NCond.mk ?_ | refine V.NPick.l ?_ | refine V.NIf.not_ ?_ | refine V.NIf.dec_ ?_ | refine V.a4 ?_ | refine V.a5 ?_ | refine V.NIf.mk (fun _ => ?_) (fun _ => ?_) | refine V.a7 ?_ | refine V.a8 ?_ | refine V.a9 ?_ | refine V.NBoth.mk ?_ ?_ | refine V.b1 ?_ | refine V.b2 ?_ | refine V.NTF.dec ?_ | refine V.b3 ?_ | refine V.b4 ?_ | ((first | refine V.Fn.k (cc) [0, 1] rfl ?_ ?_ | refine V.Fn.q (cc) [0, 1] rfl ?_ ?_ | refine V.Fn.a (cc) [0, 1] rfl ?_ ?_); · exact V.D_) | (refine V.NCall.inl (f := 24) V.Tok V.mixed Tryz.func24 rfl Tryz.ntmps24 (by kernel_rfl) rfl ?_) | ((first | refine V.FnR.k_ (v_cloneF w.fs (by omega)) [0] rfl ?_ ?_ | refine V.FnR.a_ (v_cloneF w.fs (by omega)) [0] rfl ?_ ?_); · exact V.D_) | ((first | refine V.FnR.k_ (v_cloneP w.bk (by omega)) [1] rfl ?_ ?_ | refine V.FnR.a_ (v_cloneP w.bk (by omega)) [1] rfl ?_ ?_); · exact V.D_) | (refine V.NDraw.any (by kernel_rfl) ?_) | fail)
      all_goals (conv => whnf)
      all_goals first
        | exact V.er00
        | (exfalso; omega)
        | trace_state
  · have cc := v_cyCheck w hb
    have e := Cy.ad_1 (f := f) hw
    rw [Cy.adW_no (by rw [e]; exact hw), e]
    refine V.FnR.mk_ V.Tok V.mixed Tryz.func10 rfl Tryz.ntmps10 (by kernel_rfl) rfl rfl rfl rfl ?_
    repeat' ((conv => whnf); first | (refine V.NIf.yes ?_ ?_; · (decide; done)) | (refine V.NIf.no ?_ ?_; · (decide; done)) | refine V.NCond.mk ?_ | refine V.NPick.l ?_ | refine V.NIf.not_ ?_ | refine V.NIf.dec_ ?_ | refine V.a4 ?_ | refine V.a5 ?_ | refine V.NIf.mk (fun _ => ?_) (fun _ => ?_) | refine V.a7 ?_ | refine V.a8 ?_ | refine V.a9 ?_ | refine V.NBoth.mk ?_ ?_ | refine V.b1 ?_ | refine V.b2 ?_ | refine V.NTF.dec ?_ | refine V.b3 ?_ | refine V.b4 ?_ | ((first | refine V.Fn.k (cc) [0, 1] rfl ?_ ?_ | refine V.Fn.q (cc) [0, 1] rfl ?_ ?_ | refine V.Fn.a (cc) [0, 1] rfl ?_ ?_); · exact V.D_) | (refine V.NDraw.any (by kernel_rfl) ?_) | fail)
    all_goals (conv => whnf)
    all_goals first
      | exact V.er00
      | trace_state
end Go.Proofs.YtpanlcnoopmchaaGreatDoor

namespace Go.Proofs.YtpanlcnoopmchaaGreatDoor
open Go Go.RowKit V
set_option maxHeartbeats 4000000 in
theorem v_cyDeliver (w : Wd) (id u : Int) (hb : w.bk.length ≤ 9223372036854775807) : V.FnR Tryz.prog 11 [.arr 10 w.fs.length (ga encF w.fs), .arr 3 w.bk.length (ga encP w.bk)] [.agg [.val (.int .i64 w.td), .ref 0, .ref 1], .one (.val (.int .i64 id)), .one (.val (.int .i64 u))] (.tup [.agg [.val (.int .i64 (Cy.dvW w id u).td), .ref 2, .ref 3], .one (.val (.int .i64 (Cy.dvE w id u)))]) [.row 41 10 (Cy.dvW w id u).fs.length (ga encF (Cy.dvW w id u).fs), .row 52 3 (Cy.dvW w id u).bk.length (ga encP (Cy.dvW w id u).bk)] := by
  have cc := v_cyCheck w hb
  by_cases hw : Cy.wE w = 0
  · obtain ⟨n60, n400⟩ := Cy.wE_len hw
    rw [hw] at cc
    have cf := v_ffind w.fs id
    by_cases hf : F.fndE id w.fs = 0
    · obtain ⟨i0, i1, hk⟩ := Cy.fnd_ok hf
      have ix := F.idx_lt id w.fs 0
      rw [hf, i1] at cf
      have cd := v_deliver (Cy.fl w id) u
      have ei : F.idx id w.fs 0 = (Cy.at_ w id : Int) := by unfold Cy.at_; omega
      have hlt : Cy.at_ w id < w.fs.length := by omega
      have e1 : w.fs.getD (Cy.at_ w id) default = Cy.fl w id := rfl
      rw [ei] at cf
      by_cases hl : F.less (Cy.fl w id) u = 0
      · obtain ⟨o, l1, l2, l3⟩ := F.less_ok hl
        have e := Cy.dv_4 hw hf hl
        have cm := v_cpMoved (Cy.fl w id).fr (Cy.fl w id).to (Cy.fl w id).pa u (by omega)
        have cp := v_bkPost w.bk (Cp.mvd (Cy.fl w id).fr (Cy.fl w id).to (Cy.fl w id).pa u) (by omega) (Nat.le_trans (show _ ≤ 2 from Nat.le_refl _) (by decide))
        rw [hl, F.deliver_yes hl] at cd
        have m2 : (Cp.mvd (Cy.fl w id).fr (Cy.fl w id).to (Cy.fl w id).pa u).length = 2 := rfl
        by_cases hp : Bk.pE w.bk (Cp.mvd (Cy.fl w id).fr (Cy.fl w id).to (Cy.fl w id).pa u) = 0
        · rw [hp] at e cp
          rw [Cy.dvW_yes e, e]
          have pl : (Bk.pL w.bk (Cp.mvd (Cy.fl w id).fr (Cy.fl w id).to (Cy.fl w id).pa u)).length ≤ 400 := (Bk.po_lines (Bk.pE_0.1 hp)).le
          have sl : (w.fs.set (Cy.at_ w id) (F.addDe (Cy.fl w id) u)).length = w.fs.length := List.length_set
          clear hw hf hl hp e hk o
          generalize Bk.pL w.bk (Cp.mvd (Cy.fl w id).fr (Cy.fl w id).to (Cy.fl w id).pa u) = PL at *
          generalize Cp.mvd (Cy.fl w id).fr (Cy.fl w id).to (Cy.fl w id).pa u = ML at *
          generalize Cy.at_ w id = k at *
          rw [← e1] at cm cd sl ⊢
          refine V.FnR.mk_ V.Tok V.mixed Tryz.func11 rfl Tryz.ntmps11 (by kernel_rfl) rfl rfl rfl rfl ?_
          repeat' ((conv => whnf); first | (refine V.NIf.yes ?_ ?_; · (decide; done)) | (refine V.NIf.no ?_ ?_; · (decide; done)) | refine V.NCond.mk ?_ | refine V.NPick.l ?_ | refine V.NIf.not_ ?_ | refine V.NIf.dec_ ?_ | refine V.a4 ?_ | refine V.a5 ?_ | refine V.NIf.mk (fun _ => ?_) (fun _ => ?_) | refine V.a7 ?_ | refine V.a8 ?_ | refine V.a9 ?_ | refine V.NBoth.mk ?_ ?_ | refine V.b1 ?_ | refine V.b2 ?_ | refine V.NTF.dec ?_ | refine V.b3 ?_ | refine V.b4 ?_ | ((first | refine V.Fn.k (cc) [0, 1] rfl ?_ ?_ | refine V.Fn.q (cc) [0, 1] rfl ?_ ?_ | refine V.Fn.a (cc) [0, 1] rfl ?_ ?_); · exact V.D_) | ((first | refine V.Fn.k (cf) [0] rfl ?_ ?_ | refine V.Fn.q (cf) [0] rfl ?_ ?_ | refine V.Fn.a (cf) [0] rfl ?_ ?_); · exact V.D_) | (first | refine V.Fn.k0 (cd) rfl ?_ | refine V.Fn.q0 (cd) rfl ?_ | refine V.Fn.a0 (cd) rfl ?_) | (refine NIdx.mk ⟨k, rfl, by omega, ?_⟩) | (refine V.NCall.inl (f := 24) V.Tok V.mixed Tryz.func24 rfl Tryz.ntmps24 (by kernel_rfl) rfl ?_) | ((first | refine V.FnR.k_ (v_cloneF w.fs (by omega)) [0] rfl ?_ ?_ | refine V.FnR.a_ (v_cloneF w.fs (by omega)) [0] rfl ?_ ?_); · exact V.D_) | ((first | refine V.FnR.k_ (v_cloneP w.bk (by omega)) [1] rfl ?_ ?_ | refine V.FnR.a_ (v_cloneP w.bk (by omega)) [1] rfl ?_ ?_); · exact V.D_) | (refine NPut.to (en := encF) (F.addDe (w.fs.getD k default) u) rfl rfl ?_) | (first | refine V.FnR.k0 (cm) rfl ?_ | refine V.FnR.a0 (cm) rfl ?_) | (refine V.NCall.inl (f := 37) V.Tok V.mixed Tryz.func37 rfl Tryz.ntmps37 (by kernel_rfl) rfl ?_) | (refine V.NCall.inl (f := 25) V.Tok V.mixed Tryz.func25 rfl Tryz.ntmps25 (by kernel_rfl) rfl ?_) | (refine V.NCall.inl (f := 29) V.Tok V.mixed Tryz.func29 rfl Tryz.ntmps29 (by kernel_rfl) rfl ?_) | ((first | refine V.FnR.k_ (cp) [8, 10] rfl ?_ ?_ | refine V.FnR.a_ (cp) [8, 10] rfl ?_ ?_); · exact V.D_) | (refine NOne.mk ?_ ?_; · (intro k hk; rfl)) | (refine NApp.all_ (by first | omega | (simp; omega)) (by omega) ?_) | (refine V.NDraw.any (by kernel_rfl) ?_) | fail)
          all_goals (conv => whnf)
          all_goals first
            | exact V.er2 7 11 (h2 := ⟨⟨rfl, rfl, sl.symm, fun _ _ => rfl⟩, ⟨rfl, rfl, rfl, fun _ _ => rfl⟩, trivial⟩)
            | (exfalso; omega)
            | trace_state
        · rw [Cy.dvW_no (by rw [e]; exact hp), e]
          have z : Bk.pL w.bk (Cp.mvd (Cy.fl w id).fr (Cy.fl w id).to (Cy.fl w id).pa u) = [] := if_neg hp
          rw [z] at cp
          clear hw hf hl e hk o z
          generalize Bk.pE w.bk (Cp.mvd (Cy.fl w id).fr (Cy.fl w id).to (Cy.fl w id).pa u) = PE at *
          generalize Cp.mvd (Cy.fl w id).fr (Cy.fl w id).to (Cy.fl w id).pa u = ML at *
          generalize Cy.at_ w id = k at *
          rw [← e1] at cm cd
          refine V.FnR.mk_ V.Tok V.mixed Tryz.func11 rfl Tryz.ntmps11 (by kernel_rfl) rfl rfl rfl rfl ?_
          repeat' ((conv => whnf); first | (refine V.NIf.yes ?_ ?_; · (decide; done)) | (refine V.NIf.no ?_ ?_; · (decide; done)) | refine V.NCond.mk ?_ | refine V.NPick.l ?_ | refine V.NIf.not_ ?_ | refine V.NIf.dec_ ?_ | refine V.a4 ?_ | refine V.a5 ?_ | refine V.NIf.mk (fun _ => ?_) (fun _ => ?_) | refine V.a7 ?_ | refine V.a8 ?_ | refine V.a9 ?_ | refine V.NBoth.mk ?_ ?_ | refine V.b1 ?_ | refine V.b2 ?_ | refine V.NTF.dec ?_ | refine V.b3 ?_ | refine V.b4 ?_ | ((first | refine V.Fn.k (cc) [0, 1] rfl ?_ ?_ | refine V.Fn.q (cc) [0, 1] rfl ?_ ?_ | refine V.Fn.a (cc) [0, 1] rfl ?_ ?_); · exact V.D_) | ((first | refine V.Fn.k (cf) [0] rfl ?_ ?_ | refine V.Fn.q (cf) [0] rfl ?_ ?_ | refine V.Fn.a (cf) [0] rfl ?_ ?_); · exact V.D_) | (first | refine V.Fn.k0 (cd) rfl ?_ | refine V.Fn.q0 (cd) rfl ?_ | refine V.Fn.a0 (cd) rfl ?_) | (refine NIdx.mk ⟨k, rfl, by omega, ?_⟩) | (refine V.NCall.inl (f := 24) V.Tok V.mixed Tryz.func24 rfl Tryz.ntmps24 (by kernel_rfl) rfl ?_) | ((first | refine V.FnR.k_ (v_cloneF w.fs (by omega)) [0] rfl ?_ ?_ | refine V.FnR.a_ (v_cloneF w.fs (by omega)) [0] rfl ?_ ?_); · exact V.D_) | ((first | refine V.FnR.k_ (v_cloneP w.bk (by omega)) [1] rfl ?_ ?_ | refine V.FnR.a_ (v_cloneP w.bk (by omega)) [1] rfl ?_ ?_); · exact V.D_) | (refine NPut.to (en := encF) (F.addDe (w.fs.getD k default) u) rfl rfl ?_) | (first | refine V.FnR.k0 (cm) rfl ?_ | refine V.FnR.a0 (cm) rfl ?_) | (refine V.NCall.inl (f := 37) V.Tok V.mixed Tryz.func37 rfl Tryz.ntmps37 (by kernel_rfl) rfl ?_) | (refine V.NCall.inl (f := 25) V.Tok V.mixed Tryz.func25 rfl Tryz.ntmps25 (by kernel_rfl) rfl ?_) | (refine V.NCall.inl (f := 29) V.Tok V.mixed Tryz.func29 rfl Tryz.ntmps29 (by kernel_rfl) rfl ?_) | ((first | refine V.FnR.k_ (cp) [8, 10] rfl ?_ ?_ | refine V.FnR.a_ (cp) [8, 10] rfl ?_ ?_); · exact V.D_) | (refine V.NDraw.any (by kernel_rfl) ?_) | fail)
          all_goals (conv => whnf)
          all_goals first
            | exact V.er00
            | (exfalso; omega)
            | trace_state
      · have e := Cy.dv_3 hw hf hl
        rw [Cy.dvW_no (by rw [e]; exact hl), e]
        clear hw hf e hk
        generalize F.less (Cy.fl w id) u = LE at *
        generalize F.deliver (Cy.fl w id) u = DF at *
        generalize Cy.at_ w id = k at *
        rw [← e1] at cd
        refine V.FnR.mk_ V.Tok V.mixed Tryz.func11 rfl Tryz.ntmps11 (by kernel_rfl) rfl rfl rfl rfl ?_
        repeat' ((conv => whnf); first | (refine V.NIf.yes ?_ ?_; · (decide; done)) | (refine V.NIf.no ?_ ?_; · (decide; done)) | refine V.NCond.mk ?_ | refine V.NPick.l ?_ | refine V.NIf.not_ ?_ | refine V.NIf.dec_ ?_ | refine V.a4 ?_ | refine V.a5 ?_ | refine V.NIf.mk (fun _ => ?_) (fun _ => ?_) | refine V.a7 ?_ | refine V.a8 ?_ | refine V.a9 ?_ | refine V.NBoth.mk ?_ ?_ | refine V.b1 ?_ | refine V.b2 ?_ | refine V.NTF.dec ?_ | refine V.b3 ?_ | refine V.b4 ?_ | ((first | refine V.Fn.k (cc) [0, 1] rfl ?_ ?_ | refine V.Fn.q (cc) [0, 1] rfl ?_ ?_ | refine V.Fn.a (cc) [0, 1] rfl ?_ ?_); · exact V.D_) | ((first | refine V.Fn.k (cf) [0] rfl ?_ ?_ | refine V.Fn.q (cf) [0] rfl ?_ ?_ | refine V.Fn.a (cf) [0] rfl ?_ ?_); · exact V.D_) | (first | refine V.Fn.k0 (cd) rfl ?_ | refine V.Fn.q0 (cd) rfl ?_ | refine V.Fn.a0 (cd) rfl ?_) | (refine NIdx.mk ⟨k, rfl, by omega, ?_⟩) | (refine V.NDraw.any (by kernel_rfl) ?_) | fail)
        all_goals (conv => whnf)
        all_goals first
          | exact V.er00
          | (exfalso; omega)
          | trace_state
    · have e := Cy.dv_2 (u := u) hw hf
      rw [Cy.dvW_no (by rw [e]; exact hf), e]
      refine V.FnR.mk_ V.Tok V.mixed Tryz.func11 rfl Tryz.ntmps11 (by kernel_rfl) rfl rfl rfl rfl ?_
      repeat' ((conv => whnf); first | (refine V.NIf.yes ?_ ?_; · (decide; done)) | (refine V.NIf.no ?_ ?_; · (decide; done)) | refine V.NCond.mk ?_ | refine V.NPick.l ?_ | refine V.NIf.not_ ?_ | refine V.NIf.dec_ ?_ | refine V.a4 ?_ | refine V.a5 ?_ | refine V.NIf.mk (fun _ => ?_) (fun _ => ?_) | refine V.a7 ?_ | refine V.a8 ?_ | refine V.a9 ?_ | refine V.NBoth.mk ?_ ?_ | refine V.b1 ?_ | refine V.b2 ?_ | refine V.NTF.dec ?_ | refine V.b3 ?_ | refine V.b4 ?_ | ((first | refine V.Fn.k (cc) [0, 1] rfl ?_ ?_ | refine V.Fn.q (cc) [0, 1] rfl ?_ ?_ | refine V.Fn.a (cc) [0, 1] rfl ?_ ?_); · exact V.D_) | ((first | refine V.Fn.k (cf) [0] rfl ?_ ?_ | refine V.Fn.q (cf) [0] rfl ?_ ?_ | refine V.Fn.a (cf) [0] rfl ?_ ?_); · exact V.D_) | (refine V.NDraw.any (by kernel_rfl) ?_) | fail)
      all_goals (conv => whnf)
      all_goals first
        | exact V.er00
        | (exfalso; omega)
        | trace_state
  · have e := Cy.dv_1 (id := id) (u := u) hw
    rw [Cy.dvW_no (by rw [e]; exact hw), e]
    refine V.FnR.mk_ V.Tok V.mixed Tryz.func11 rfl Tryz.ntmps11 (by kernel_rfl) rfl rfl rfl rfl ?_
    repeat' ((conv => whnf); first | (refine V.NIf.yes ?_ ?_; · (decide; done)) | (refine V.NIf.no ?_ ?_; · (decide; done)) | refine V.NCond.mk ?_ | refine V.NPick.l ?_ | refine V.NIf.not_ ?_ | refine V.NIf.dec_ ?_ | refine V.a4 ?_ | refine V.a5 ?_ | refine V.NIf.mk (fun _ => ?_) (fun _ => ?_) | refine V.a7 ?_ | refine V.a8 ?_ | refine V.a9 ?_ | refine V.NBoth.mk ?_ ?_ | refine V.b1 ?_ | refine V.b2 ?_ | refine V.NTF.dec ?_ | refine V.b3 ?_ | refine V.b4 ?_ | ((first | refine V.Fn.k (cc) [0, 1] rfl ?_ ?_ | refine V.Fn.q (cc) [0, 1] rfl ?_ ?_ | refine V.Fn.a (cc) [0, 1] rfl ?_ ?_); · exact V.D_) | (refine V.NDraw.any (by kernel_rfl) ?_) | fail)
    all_goals (conv => whnf)
    all_goals first
      | exact V.er00
      | (exfalso; omega)
      | trace_state
end Go.Proofs.YtpanlcnoopmchaaGreatDoor

namespace Go.Proofs.YtpanlcnoopmchaaGreatDoor
open Go Go.RowKit V
set_option maxHeartbeats 4000000 in
theorem v_cyTidy (w : Wd) (hb : w.bk.length ≤ 9223372036854775807) : V.FnR Tryz.prog 14 [.arr 10 w.fs.length (ga encF w.fs), .arr 3 w.bk.length (ga encP w.bk)] [.agg [.val (.int .i64 w.td), .ref 0, .ref 1]] (.tup [.agg [.val (.int .i64 (Cy.tyW w).td), .ref 2, .ref 3], .one (.ref 4), .one (.val (.int .i64 (Cy.wE w)))]) [.row 41 10 (Cy.tyW w).fs.length (ga encF (Cy.tyW w).fs), .row 52 3 (Cy.tyW w).bk.length (ga encP (Cy.tyW w).bk), .row 41 10 (Cy.tyO w).length (ga encF (Cy.tyO w))] := by
  have cc := v_cyCheck w hb
  by_cases hw : Cy.wE w = 0
  · obtain ⟨n60, n400⟩ := Cy.wE_len hw
    obtain ⟨hw1, hw2, hw3⟩ := Cy.wE_ok hw
    obtain ⟨t1, t2⟩ := Cy.ty_yes hw
    have ok := Pn.all_ok hw2
    rw [hw] at cc
    rw [t1, t2, hw]
    refine V.FnR.mk_ V.Tok V.mixed Tryz.func14 rfl Tryz.ntmps14 (by kernel_rfl) rfl rfl rfl rfl ?_
    repeat' ((conv => whnf); first | (refine V.NIf.yes ?_ ?_; · (decide; done)) | (refine V.NIf.no ?_ ?_; · (decide; done)) | refine V.NCond.mk ?_ | refine V.NPick.l ?_ | refine V.NIf.not_ ?_ | refine V.NIf.dec_ ?_ | refine V.a4 ?_ | refine V.a5 ?_ | refine V.NIf.mk (fun _ => ?_) (fun _ => ?_) | refine V.a7 ?_ | refine V.a8 ?_ | refine V.a9 ?_ | refine V.NBoth.mk ?_ ?_ | refine V.b1 ?_ | refine V.b2 ?_ | refine V.NTF.dec ?_ | refine V.b3 ?_ | refine V.b4 ?_ | ((first | refine V.Fn.k (cc) [0, 1] rfl ?_ ?_ | refine V.Fn.q (cc) [0, 1] rfl ?_ ?_ | refine V.Fn.a (cc) [0, 1] rfl ?_ ?_); · exact V.D_) | (refine V.NCall.inl (f := 24) V.Tok V.mixed Tryz.func24 rfl Tryz.ntmps24 (by kernel_rfl) rfl ?_) | ((first | refine V.FnR.k_ (v_cloneF w.fs (by omega)) [0] rfl ?_ ?_ | refine V.FnR.a_ (v_cloneF w.fs (by omega)) [0] rfl ?_ ?_); · exact V.D_) | ((first | refine V.FnR.k_ (v_cloneP w.bk (by omega)) [1] rfl ?_ ?_ | refine V.FnR.a_ (v_cloneP w.bk (by omega)) [1] rfl ?_ ?_); · exact V.D_) | (refine V.NCall.inl (f := 40) V.Tok V.mixed Tryz.func40 rfl Tryz.ntmps40 (by kernel_rfl) rfl ?_) | (refine V.NCall.inl (f := 57) V.Tok V.mixed Tryz.func57 rfl Tryz.ntmps57 (by kernel_rfl) rfl ?_) | (refine V.NDraw.any (by kernel_rfl) ?_) | fail)
    all_goals (conv => whnf)
    refine V.NLoop.auto (fun (k : Nat) => [(8, .one (.val (.int .i64 k)))]) (fun (k : Nat) => []) [] [] (fun (k : Nat) => w.fs.length - k) (fun (k : Nat) => k ≤ w.fs.length ∧ ∀ f ∈ w.fs.take k, 0 < F.left f) 0 ⟨Nat.zero_le _, by simp⟩ V.S_ V.S_ (fun _ => ⟨rfl, rfl⟩) ?_; (conv => whnf); refine ⟨⟨rfl, rfl⟩, ?_⟩
    rintro k ⟨hk, hJ⟩
    by_cases hlt : k < w.fs.length
    · have o := ok _ (getD_mem hlt)
      repeat' ((conv => whnf); first | (refine V.NIf.yes ?_ ?_; · (decide; done)) | (refine V.NIf.no ?_ ?_; · (decide; done)) | refine V.NCond.mk ?_ | refine V.NPick.l ?_ | refine V.NIf.not_ ?_ | refine V.NIf.dec_ ?_ | refine V.a4 ?_ | refine V.a5 ?_ | refine V.NIf.mk (fun _ => ?_) (fun _ => ?_) | refine V.a7 ?_ | refine V.a8 ?_ | refine V.a9 ?_ | refine V.NBoth.mk ?_ ?_ | refine V.b1 ?_ | refine V.b2 ?_ | refine V.NTF.dec ?_ | refine V.b3 ?_ | refine V.b4 ?_ | (refine NIdx.mk ⟨k, rfl, by omega, ?_⟩) | (refine V.NCall.inl (f := 41) V.Tok V.mixed Tryz.func41 rfl Tryz.ntmps41 (by kernel_rfl) rfl ?_) | (first | refine V.Fn.k0 (v_fleft _ o) rfl ?_ | refine V.Fn.q0 (v_fleft _ o) rfl ?_ | refine V.Fn.a0 (v_fleft _ o) rfl ?_) | (refine NApp.first (en := encF) (x := w.fs.getD k default) (by first | omega | (simp; done) | decide) ?_) | (refine V.NDraw.any (by kernel_rfl) ?_) | fail)
      all_goals (conv => whnf)
      · exact V.NBack.at_ (k + 1) [] ⟨by omega, all_snoc hlt hJ (by assumption)⟩ (by omega) V.S_ rfl V.S_ V.S_ V.S_
      have hn : ¬ 0 < F.left (w.fs.getD k default) := by assumption
      obtain ⟨j0, j1, j2⟩ := Cy.TJ.start hlt hJ hn
      refine V.NLoop.auto (fun (s : Nat × List Fl) => [(6, .one (.val (.int .i64 s.1))), (5, .one (.val (.int .i64 (Cy.opn (w.fs.take s.1)).length))), (0, .one (.ref 7))]) (fun (s : Nat × List Fl) => [(7, .row 41 10 s.2.length (ga encF s.2)), (15, .row 41 10 (Cy.ovr (w.fs.take s.1)).length (ga encF (Cy.ovr (w.fs.take s.1)))), (11, .box 28 [.ref 15])]) [] [] (fun (s : Nat × List Fl) => w.fs.length - s.1) (fun (s : Nat × List Fl) => Cy.TJ w.fs s.1 s.2) (k + 1, w.fs) j0 (by (conv => whnf); exact ⟨rfl, congrArg (fun z => V.SV.one (V.At.val (Value.int .i64 z))) (by dsimp only; omega), rfl, trivial⟩) (by (conv => whnf); exact ⟨⟨rfl, rfl, rfl, fun _ _ => rfl⟩, ObLe.as_ j2, rfl, trivial⟩) (fun _ => ⟨rfl, rfl⟩) ?_; (conv => whnf); refine ⟨⟨rfl, rfl⟩, ?_⟩
      clear hJ hn j0 j1 j2 hlt o
      rintro s hs
      generalize s.1 = j at *
      generalize s.2 = X at *
      have xl := hs.len
      have xt := hs.lt
      have xe := hs.le
      by_cases hlt : j < w.fs.length
      · have ex := hs.rs j (Nat.le_refl _) hlt
        have o : F.Ok (X.getD j default) := by rw [ex]; exact ok _ (getD_mem hlt)
        have yo := hs.yes hlt
        have no := hs.no hlt
        have so := Cy.opn_snoc hlt
        have sv := Cy.ovr_snoc hlt
        have vl := Cy.ovr_len (w.fs.take j)
        rw [List.length_take] at vl
        rw [← ex] at yo no so sv
        have so1 : 0 < F.left (X.getD j default) → (Cy.opn (w.fs.take (j + 1))).length = (Cy.opn (w.fs.take j)).length + 1 := fun q => by rw [so, if_pos q, List.length_append]; rfl
        have so2 : ¬ 0 < F.left (X.getD j default) → (Cy.opn (w.fs.take (j + 1))).length = (Cy.opn (w.fs.take j)).length := fun q => by rw [so, if_neg q, List.append_nil]
        repeat' ((conv => whnf); first | (refine V.NIf.yes ?_ ?_; · (decide; done)) | (refine V.NIf.no ?_ ?_; · (decide; done)) | (refine NApp.one (en := encF) (l := Cy.ovr (w.fs.take j)) (x := X.getD j default) (by first | omega | (simp; omega)) (by omega) ?_) | refine V.NCond.mk ?_ | refine V.NPick.l ?_ | refine V.NIf.not_ ?_ | refine V.NIf.dec_ ?_ | refine V.a4 ?_ | refine V.a5 ?_ | refine V.NIf.mk (fun _ => ?_) (fun _ => ?_) | refine V.a7 ?_ | refine V.a8 ?_ | refine V.a9 ?_ | refine V.NBoth.mk ?_ ?_ | refine V.b1 ?_ | refine V.b2 ?_ | refine V.NTF.dec ?_ | refine V.b3 ?_ | refine V.b4 ?_ | (refine NIdx.mk ⟨j, rfl, by omega, ?_⟩) | (refine NIdx.mk ⟨(Cy.opn (w.fs.take j)).length, rfl, by omega, ?_⟩) | (refine V.NCall.inl (f := 41) V.Tok V.mixed Tryz.func41 rfl Tryz.ntmps41 (by kernel_rfl) rfl ?_) | (first | refine V.Fn.k0 (v_fleft _ o) rfl ?_ | refine V.Fn.q0 (v_fleft _ o) rfl ?_ | refine V.Fn.a0 (v_fleft _ o) rfl ?_) | (refine NPut.to (en := encF) (X.getD j default) rfl rfl ?_) | (refine V.NDraw.any (by kernel_rfl) ?_) | fail)
        all_goals (conv => whnf)
        all_goals first
          | (have q : 0 < F.left (X.getD j default) := by assumption
             exact V.NBack.at_ (j + 1, X.set (Cy.opn (w.fs.take j)).length (X.getD j default)) [] (yo q) (by dsimp only; omega) ⟨congrArg (fun z => V.SV.one (V.At.val (Value.int .i64 z))) (by dsimp only; omega), congrArg (fun z => V.SV.one (V.At.val (Value.int .i64 z))) (by have := so1 q; dsimp only; omega), rfl, trivial⟩ rfl ⟨ObLe.is_ rfl (by rw [List.length_set]), ObLe.as_ (by dsimp only; rw [sv, if_pos q, List.append_nil]), rfl, trivial⟩ V.S_ V.S_)
          | (have q : ¬ 0 < F.left (X.getD j default) := by assumption
             exact V.NBack.at_ (j + 1, X) [(15, 19)] (no q) (by dsimp only; omega) ⟨congrArg (fun z => V.SV.one (V.At.val (Value.int .i64 z))) (by dsimp only; omega), congrArg (fun z => V.SV.one (V.At.val (Value.int .i64 z))) (by have := so2 q; dsimp only; omega), rfl, trivial⟩ rfl ⟨ObLe.as_ rfl, ObLe.as_ (by dsimp only; rw [sv, if_neg q]), rfl, trivial⟩ V.S_ V.S_)
          | trace_state
      · obtain rfl : j = w.fs.length := by omega
        rw [List.take_length] at *
        have fin : ∀ p, p < (Cy.opn w.fs).length → ga encF X p = ga encF (Cy.opn w.fs) p := fun p hp => by
          have tk := hs.tk
          rw [List.take_length] at tk
          rw [← V.ga_take (l := X) (i := (Cy.opn w.fs).length) hp (by omega), tk]
        repeat' ((conv => whnf); first | (refine V.NIf.yes ?_ ?_; · (decide; done)) | (refine V.NIf.no ?_ ?_; · (decide; done)) | (refine V.NPick.r ?_; (conv => whnf); refine V.NPick.l ?_; (conv => whnf); refine NCut.mk ⟨(Cy.opn w.fs).length, X.length, rfl, rfl, by omega, by omega, ?_⟩; (conv => whnf); refine ⟨by omega, rfl, ?_⟩) | (refine V.NPick.r ?_; (conv => whnf); refine V.NPick.r ?_; (conv => whnf); refine NCut.mk ⟨0, (Cy.opn w.fs).length, rfl, rfl, by omega, by omega, ?_⟩; (conv => whnf); refine ⟨rfl, ?_⟩) | refine V.NCond.mk ?_ | refine V.NPick.l ?_ | refine V.NIf.not_ ?_ | refine V.NIf.dec_ ?_ | refine V.a4 ?_ | refine V.a5 ?_ | refine V.NIf.mk (fun _ => ?_) (fun _ => ?_) | refine V.a7 ?_ | refine V.a8 ?_ | refine V.a9 ?_ | refine V.NBoth.mk ?_ ?_ | refine V.b1 ?_ | refine V.b2 ?_ | refine V.NTF.dec ?_ | refine V.b3 ?_ | refine V.b4 ?_ | (refine V.NDraw.any (by kernel_rfl) ?_) | fail)
        all_goals (conv => whnf)
        all_goals exact V.er3 17 8 15 (h2 := ⟨⟨rfl, rfl, rfl, fun p hp => (if_pos hp).trans (fin p hp)⟩, ⟨rfl, rfl, rfl, fun _ _ => rfl⟩, ⟨rfl, rfl, rfl, fun _ _ => rfl⟩, trivial⟩)
    · obtain rfl : k = w.fs.length := by omega
      rw [List.take_length] at hJ
      obtain ⟨o1, o2⟩ := Cy.opn_all hJ
      rw [o1, o2]
      repeat' ((conv => whnf); first | (refine V.NIf.yes ?_ ?_; · (decide; done)) | (refine V.NIf.no ?_ ?_; · (decide; done)) | refine V.NCond.mk ?_ | refine V.NPick.l ?_ | refine V.NIf.not_ ?_ | refine V.NIf.dec_ ?_ | refine V.a4 ?_ | refine V.a5 ?_ | refine V.NIf.mk (fun _ => ?_) (fun _ => ?_) | refine V.a7 ?_ | refine V.a8 ?_ | refine V.a9 ?_ | refine V.NBoth.mk ?_ ?_ | refine V.b1 ?_ | refine V.b2 ?_ | refine V.NTF.dec ?_ | refine V.b3 ?_ | refine V.b4 ?_ | (refine V.NDraw.any (by kernel_rfl) ?_) | fail)
      all_goals (conv => whnf)
      all_goals first
        | exact V.er3 7 8 10 (h2 := ⟨⟨rfl, rfl, rfl, fun _ _ => rfl⟩, ⟨rfl, rfl, rfl, fun _ _ => rfl⟩, ⟨rfl, rfl, rfl, fun k hk => absurd hk (Nat.not_lt_zero _)⟩, trivial⟩)
        | trace_state
  · obtain ⟨t1, t2⟩ := Cy.ty_no hw
    rw [t1, t2]
    refine V.FnR.mk_ V.Tok V.mixed Tryz.func14 rfl Tryz.ntmps14 (by kernel_rfl) rfl rfl rfl rfl ?_
    repeat' ((conv => whnf); first | (refine V.NIf.yes ?_ ?_; · (decide; done)) | (refine V.NIf.no ?_ ?_; · (decide; done)) | refine V.NCond.mk ?_ | refine V.NPick.l ?_ | refine V.NIf.not_ ?_ | refine V.NIf.dec_ ?_ | refine V.a4 ?_ | refine V.a5 ?_ | refine V.NIf.mk (fun _ => ?_) (fun _ => ?_) | refine V.a7 ?_ | refine V.a8 ?_ | refine V.a9 ?_ | refine V.NBoth.mk ?_ ?_ | refine V.b1 ?_ | refine V.b2 ?_ | refine V.NTF.dec ?_ | refine V.b3 ?_ | refine V.b4 ?_ | ((first | refine V.Fn.k (cc) [0, 1] rfl ?_ ?_ | refine V.Fn.q (cc) [0, 1] rfl ?_ ?_ | refine V.Fn.a (cc) [0, 1] rfl ?_ ?_); · exact V.D_) | (refine V.NDraw.any (by kernel_rfl) ?_) | fail)
    all_goals (conv => whnf)
    all_goals first
      | exact V.er001 5
      | exact V.er001 6
      | exact V.er001 7
      | (exfalso; omega)
      | trace_state
end Go.Proofs.YtpanlcnoopmchaaGreatDoor

namespace Go.Proofs.YtpanlcnoopmchaaGreatDoor
open Go Go.RowKit V
end Go.Proofs.YtpanlcnoopmchaaGreatDoor

namespace Go.Proofs.YtpanlcnoopmchaaGreatDoor
open Go Go.RowKit V
set_option maxHeartbeats 4000000 in
theorem v_day (c : Cl) (t : List Tm) (l : List Fl) (ps : List Int) (n : Int) (hc : c.hs.length ≤ 9223372036854775807) (ht : t.length ≤ 9223372036854775807) (hp : ps.length ≤ 9223372036854775807) :
    V.FnR Tryz.prog 52 (penO c t l ps) [.agg [.val (.int .i64 c.we), .ref 0], .one (.ref 1), .one (.ref 2), .one (.ref 3), .one (.val (.int .i64 n))] (.tup [.one (.ref 4), .one (.val (.int .i64 (Pn.yD c t l ps n)))]) [.row 125 3 (Pn.yL c t l ps n).length (ga encD (Pn.yL c t l ps n))] := by
  refine V.FnR.mk_ V.Tok V.mixed Tryz.func52 rfl Tryz.ntmps52 (by kernel_rfl) rfl rfl rfl rfl ?_
  repeat' ((conv => whnf); first | refine V.NCond.mk ?_ | refine V.NPick.l ?_ | refine V.NIf.not_ ?_ | refine V.NIf.dec_ ?_ | refine V.a4 ?_ | refine V.a5 ?_ | refine V.NIf.mk (fun _ => ?_) (fun _ => ?_) | refine V.a7 ?_ | refine V.a8 ?_ | refine V.a9 ?_ | refine V.NBoth.mk ?_ ?_ | refine V.b1 ?_ | refine V.b2 ?_ | refine V.NTF.dec ?_ | refine V.b3 ?_ | refine V.b4 ?_ | (refine V.NCall.inl (f := 69) V.Tok V.mixed Tryz.func69 rfl Tryz.ntmps69 (by kernel_rfl) rfl ?_) | (refine V.NDraw.any (by kernel_rfl) ?_) | fail)
  all_goals (conv => whnf)
  refine V.NLoop.auto (fun (k : Nat) => [(8, .one (.val (.int .i64 k)))]) (fun (k : Nat) => []) [] [] (fun (k : Nat) => 5 - k) (fun (k : Nat) => k ≤ 5 ∧ (1 ≤ k → Ca.chk c = 0) ∧ (2 ≤ k → Pn.tE t = 0) ∧ (3 ≤ k → F.checks l = 0) ∧ (4 ≤ k → P.chks ps = 0) ∧ (5 ≤ k → Pn.oE c n = 0)) 0 ⟨by omega, by omega, by omega, by omega, by omega, by omega⟩ V.S_ V.S_ (fun _ => ⟨rfl, rfl⟩) ?_; (conv => whnf); refine ⟨⟨rfl, rfl⟩, ?_⟩
  rintro k ⟨hk, j1, j2, j3, j4, j5⟩
  have hk6 : k = 0 ∨ k = 1 ∨ k = 2 ∨ k = 3 ∨ k = 4 ∨ k = 5 := by omega
  rcases hk6 with rfl | rfl | rfl | rfl | rfl | rfl
  · repeat' ((conv => whnf); first | (refine V.NIf.yes ?_ ?_; · (simp; done)) | refine V.NCond.mk ?_ | refine V.NPick.l ?_ | refine V.NIf.not_ ?_ | refine V.NIf.dec_ ?_ | refine V.a4 ?_ | refine V.a5 ?_ | refine V.NIf.mk (fun _ => ?_) (fun _ => ?_) | refine V.a7 ?_ | refine V.a8 ?_ | refine V.a9 ?_ | refine V.NBoth.mk ?_ ?_ | refine V.b1 ?_ | refine V.b2 ?_ | refine V.NTF.dec ?_ | refine V.b3 ?_ | refine V.b4 ?_ | (refine NIdx.mk ⟨0, rfl, by simp, ?_⟩) | (refine V.NCall.inl (f := 70) V.Tok V.mixed Tryz.func70 rfl Tryz.ntmps70 (by kernel_rfl) rfl ?_) | ((first | refine V.Fn.k (v_caCheck c hc) [0] rfl ?_ ?_ | refine V.Fn.q (v_caCheck c hc) [0] rfl ?_ ?_ | refine V.Fn.a (v_caCheck c hc) [0] rfl ?_ ?_); · exact V.D_) | (refine V.NDraw.any (by kernel_rfl) ?_) | fail)
    all_goals (conv => whnf)
    · exact V.NBack.at_ 1 [] ⟨by omega, fun _ => by assumption, by omega, by omega, by omega, by omega⟩ (by omega) V.S_ rfl V.S_ V.S_ V.S_
    · have e := Pn.yE_1 (c := c) (t := t) (l := l) (ps := ps) (n := n)  (by assumption)
      have y := Pn.y_no (c := c) (t := t) (l := l) (ps := ps) (n := n) (by rw [e]; assumption)
      rw [y.1, y.2, e]
      (first | exact V.er 0 | exact V.er 1 | exact V.er 2 | exact V.er 3 | exact V.er 4 | exact V.er 5 | exact V.er 6 | exact V.er 7 | exact V.er 8 | exact V.er 9 | exact V.er 10 | exact V.er 11 | exact V.er 12 | exact V.er 13 | exact V.er 14 | exact V.er 15 | exact V.er 16 | exact V.er 17)
  · repeat' ((conv => whnf); first | (refine V.NIf.yes ?_ ?_; · (simp; done)) | refine V.NCond.mk ?_ | refine V.NPick.l ?_ | refine V.NIf.not_ ?_ | refine V.NIf.dec_ ?_ | refine V.a4 ?_ | refine V.a5 ?_ | refine V.NIf.mk (fun _ => ?_) (fun _ => ?_) | refine V.a7 ?_ | refine V.a8 ?_ | refine V.a9 ?_ | refine V.NBoth.mk ?_ ?_ | refine V.b1 ?_ | refine V.b2 ?_ | refine V.NTF.dec ?_ | refine V.b3 ?_ | refine V.b4 ?_ | (refine NIdx.mk ⟨1, rfl, by simp, ?_⟩) | (refine V.NCall.inl (f := 71) V.Tok V.mixed Tryz.func71 rfl Tryz.ntmps71 (by kernel_rfl) rfl ?_) | ((first | refine V.Fn.k (v_pterms t ht) [1] rfl ?_ ?_ | refine V.Fn.q (v_pterms t ht) [1] rfl ?_ ?_ | refine V.Fn.a (v_pterms t ht) [1] rfl ?_ ?_); · exact V.D_) | (refine V.NDraw.any (by kernel_rfl) ?_) | fail)
    all_goals (conv => whnf)
    · exact V.NBack.at_ 2 [] ⟨by omega, fun _ => j1 (by omega), fun _ => by assumption, by omega, by omega, by omega⟩ (by omega) V.S_ rfl V.S_ V.S_ V.S_
    · have e := Pn.yE_2 (c := c) (t := t) (l := l) (ps := ps) (n := n) (j1 (by omega)) (by assumption)
      have y := Pn.y_no (c := c) (t := t) (l := l) (ps := ps) (n := n) (by rw [e]; assumption)
      rw [y.1, y.2, e]
      (first | exact V.er 0 | exact V.er 1 | exact V.er 2 | exact V.er 3 | exact V.er 4 | exact V.er 5 | exact V.er 6 | exact V.er 7 | exact V.er 8 | exact V.er 9 | exact V.er 10 | exact V.er 11 | exact V.er 12 | exact V.er 13 | exact V.er 14 | exact V.er 15 | exact V.er 16 | exact V.er 17)
  · repeat' ((conv => whnf); first | (refine V.NIf.yes ?_ ?_; · (simp; done)) | refine V.NCond.mk ?_ | refine V.NPick.l ?_ | refine V.NIf.not_ ?_ | refine V.NIf.dec_ ?_ | refine V.a4 ?_ | refine V.a5 ?_ | refine V.NIf.mk (fun _ => ?_) (fun _ => ?_) | refine V.a7 ?_ | refine V.a8 ?_ | refine V.a9 ?_ | refine V.NBoth.mk ?_ ?_ | refine V.b1 ?_ | refine V.b2 ?_ | refine V.NTF.dec ?_ | refine V.b3 ?_ | refine V.b4 ?_ | (refine NIdx.mk ⟨2, rfl, by simp, ?_⟩) | (refine V.NCall.inl (f := 72) V.Tok V.mixed Tryz.func72 rfl Tryz.ntmps72 (by kernel_rfl) rfl ?_) | ((first | refine V.Fn.k (v_fchecks l) [2] rfl ?_ ?_ | refine V.Fn.q (v_fchecks l) [2] rfl ?_ ?_ | refine V.Fn.a (v_fchecks l) [2] rfl ?_ ?_); · exact V.D_) | (refine V.NDraw.any (by kernel_rfl) ?_) | fail)
    all_goals (conv => whnf)
    · exact V.NBack.at_ 3 [] ⟨by omega, fun _ => j1 (by omega), fun _ => j2 (by omega), fun _ => by assumption, by omega, by omega⟩ (by omega) V.S_ rfl V.S_ V.S_ V.S_
    · have e := Pn.yE_3 (c := c) (t := t) (l := l) (ps := ps) (n := n) (j1 (by omega)) (j2 (by omega)) (by assumption)
      have y := Pn.y_no (c := c) (t := t) (l := l) (ps := ps) (n := n) (by rw [e]; assumption)
      rw [y.1, y.2, e]
      (first | exact V.er 0 | exact V.er 1 | exact V.er 2 | exact V.er 3 | exact V.er 4 | exact V.er 5 | exact V.er 6 | exact V.er 7 | exact V.er 8 | exact V.er 9 | exact V.er 10 | exact V.er 11 | exact V.er 12 | exact V.er 13 | exact V.er 14 | exact V.er 15 | exact V.er 16 | exact V.er 17)
  · repeat' ((conv => whnf); first | (refine V.NIf.yes ?_ ?_; · (simp; done)) | refine V.NCond.mk ?_ | refine V.NPick.l ?_ | refine V.NIf.not_ ?_ | refine V.NIf.dec_ ?_ | refine V.a4 ?_ | refine V.a5 ?_ | refine V.NIf.mk (fun _ => ?_) (fun _ => ?_) | refine V.a7 ?_ | refine V.a8 ?_ | refine V.a9 ?_ | refine V.NBoth.mk ?_ ?_ | refine V.b1 ?_ | refine V.b2 ?_ | refine V.NTF.dec ?_ | refine V.b3 ?_ | refine V.b4 ?_ | (refine NIdx.mk ⟨3, rfl, by simp, ?_⟩) | (refine V.NCall.inl (f := 73) V.Tok V.mixed Tryz.func73 rfl Tryz.ntmps73 (by kernel_rfl) rfl ?_) | ((first | refine V.Fn.k (v_prices ps hp) [3] rfl ?_ ?_ | refine V.Fn.q (v_prices ps hp) [3] rfl ?_ ?_ | refine V.Fn.a (v_prices ps hp) [3] rfl ?_ ?_); · exact V.D_) | (refine V.NDraw.any (by kernel_rfl) ?_) | fail)
    all_goals (conv => whnf)
    · exact V.NBack.at_ 4 [] ⟨by omega, fun _ => j1 (by omega), fun _ => j2 (by omega), fun _ => j3 (by omega), fun _ => by assumption, by omega⟩ (by omega) V.S_ rfl V.S_ V.S_ V.S_
    · have e := Pn.yE_4 (c := c) (t := t) (l := l) (ps := ps) (n := n) (j1 (by omega)) (j2 (by omega)) (j3 (by omega)) (by assumption)
      have y := Pn.y_no (c := c) (t := t) (l := l) (ps := ps) (n := n) (by rw [e]; assumption)
      rw [y.1, y.2, e]
      (first | exact V.er 0 | exact V.er 1 | exact V.er 2 | exact V.er 3 | exact V.er 4 | exact V.er 5 | exact V.er 6 | exact V.er 7 | exact V.er 8 | exact V.er 9 | exact V.er 10 | exact V.er 11 | exact V.er 12 | exact V.er 13 | exact V.er 14 | exact V.er 15 | exact V.er 16 | exact V.er 17)
  · repeat' ((conv => whnf); first | (refine V.NIf.yes ?_ ?_; · (simp; done)) | refine V.NCond.mk ?_ | refine V.NPick.l ?_ | refine V.NIf.not_ ?_ | refine V.NIf.dec_ ?_ | refine V.a4 ?_ | refine V.a5 ?_ | refine V.NIf.mk (fun _ => ?_) (fun _ => ?_) | refine V.a7 ?_ | refine V.a8 ?_ | refine V.a9 ?_ | refine V.NBoth.mk ?_ ?_ | refine V.b1 ?_ | refine V.b2 ?_ | refine V.NTF.dec ?_ | refine V.b3 ?_ | refine V.b4 ?_ | (refine NIdx.mk ⟨4, rfl, by simp, ?_⟩) | (refine V.NCall.inl (f := 74) V.Tok V.mixed Tryz.func74 rfl Tryz.ntmps74 (by kernel_rfl) rfl ?_) | ((first | refine V.Fn.k (v_popen c n hc) [0] rfl ?_ ?_ | refine V.Fn.q (v_popen c n hc) [0] rfl ?_ ?_ | refine V.Fn.a (v_popen c n hc) [0] rfl ?_ ?_); · exact V.D_) | (refine V.NDraw.any (by kernel_rfl) ?_) | fail)
    all_goals (conv => whnf)
    · exact V.NBack.at_ 5 [] ⟨by omega, fun _ => j1 (by omega), fun _ => j2 (by omega), fun _ => j3 (by omega), fun _ => j4 (by omega), fun _ => by assumption⟩ (by omega) V.S_ rfl V.S_ V.S_ V.S_
    · have e := Pn.yE_5 (c := c) (t := t) (l := l) (ps := ps) (n := n) (j1 (by omega)) (j2 (by omega)) (j3 (by omega)) (j4 (by omega))
      have y := Pn.y_no (c := c) (t := t) (l := l) (ps := ps) (n := n) (by rw [e]; assumption)
      rw [y.1, y.2, e]
      (first | exact V.er 0 | exact V.er 1 | exact V.er 2 | exact V.er 3 | exact V.er 4 | exact V.er 5 | exact V.er 6 | exact V.er 7 | exact V.er 8 | exact V.er 9 | exact V.er 10 | exact V.er 11 | exact V.er 12 | exact V.er 13 | exact V.er 14 | exact V.er 15 | exact V.er 16 | exact V.er 17)
  repeat' ((conv => whnf); first | (refine V.NIf.no ?_ ?_; · (simp; done)) | refine V.NCond.mk ?_ | refine V.NPick.l ?_ | refine V.NIf.not_ ?_ | refine V.NIf.dec_ ?_ | refine V.a4 ?_ | refine V.a5 ?_ | refine V.NIf.mk (fun _ => ?_) (fun _ => ?_) | refine V.a7 ?_ | refine V.a8 ?_ | refine V.a9 ?_ | refine V.NBoth.mk ?_ ?_ | refine V.b1 ?_ | refine V.b2 ?_ | refine V.NTF.dec ?_ | refine V.b3 ?_ | refine V.b4 ?_ | (refine V.NDraw.any (by kernel_rfl) ?_) | fail)
  all_goals (conv => whnf)
  have hR : Pn.Right c t l ps n := ⟨j1 (by omega), j2 (by omega), j3 (by omega), j4 (by omega), j5 (by omega)⟩
  have l60 := F.checks_len (l := l) (by have := hR.kl; omega)
  refine V.NLoop.auto (fun (k : Nat) => [(31, .one (.val (.int .i64 k))), (13, .one (.ref 11))]) (fun (k : Nat) => [(11, .row 125 3 (Pn.dus c t ps n (l.take k)).length (ga encD (Pn.dus c t ps n (l.take k))))]) [] [] (fun (k : Nat) => l.length - k) (fun (k : Nat) => k ≤ l.length ∧ ∀ f ∈ l.take k, Pn.eF c t n f = 0) 0 ⟨by omega, by simp⟩ V.S_ V.S_ (fun _ => ⟨rfl, rfl⟩) ?_; (conv => whnf); refine ⟨⟨rfl, rfl⟩, ?_⟩
  rintro k ⟨hk, hJ⟩
  by_cases hlt : k < l.length
  · have hf : F.Ok (l.getD k default) := Pn.all_ok hR.kl _ (getD_mem hlt)
    obtain ⟨ht6, htw⟩ := Pn.tE_ok hR.kt
    obtain ⟨hp20, _⟩ := P.chks_ok hR.kp
    have qk := Pn.qF_ok hR.kt hR.kp hf
    have qd := Pn.d_yes qk
    have dl := Pn.dus_len c t ps n (l.take k)
    have ds := Pn.dus_snoc (c := c) (t := t) (ps := ps) (n := n) hlt
    rw [List.length_take] at dl
    obtain ⟨⟨_, _, _, hcl, hpa, _⟩, _⟩ := id hf
    have qv : Pn.dV (F.left (l.getD k default)) (ps.getD ((l.getD k default).pa - 1).toNat default) (t.getD (l.getD k default).cl.toNat default).ra = Pn.qF t ps (l.getD k default) := qd.2
    have qe : Pn.dE (F.left (l.getD k default)) (ps.getD ((l.getD k default).pa - 1).toNat default) (t.getD (l.getD k default).cl.toNat default).ra = 0 := qd.1
    repeat' ((conv => whnf); first | (refine NApp.one (en := encD) (l := Pn.dus c t ps n (l.take k)) (x := ⟨(l.getD k default).fr, (l.getD k default).to, Pn.dV (F.left (l.getD k default)) (ps.getD ((l.getD k default).pa - 1).toNat default) (t.getD (l.getD k default).cl.toNat default).ra⟩) (by simp; omega) (by simp; omega) ?_) | refine V.NCond.mk ?_ | refine V.NPick.l ?_ | refine V.NIf.not_ ?_ | refine V.NIf.dec_ ?_ | refine V.a4 ?_ | refine V.a5 ?_ | refine V.NIf.mk (fun _ => ?_) (fun _ => ?_) | refine V.a7 ?_ | refine V.a8 ?_ | refine V.a9 ?_ | refine V.NBoth.mk ?_ ?_ | refine V.b1 ?_ | refine V.b2 ?_ | refine V.NTF.dec ?_ | refine V.b3 ?_ | refine V.b4 ?_ | (refine NIdx.mk ⟨_, rfl, by omega, ?_⟩) | (refine NIdx.mk ⟨(l.getD k default).cl.toNat, by omega, by omega, ?_⟩) | (refine NIdx.mk ⟨((l.getD k default).pa - 1).toNat, by omega, by omega, ?_⟩) | ((first | refine V.Fn.k (v_agStage c (Pn.cl t (l.getD k default)) (l.getD k default) n hc) [0] rfl ?_ ?_ | refine V.Fn.q (v_agStage c (Pn.cl t (l.getD k default)) (l.getD k default) n hc) [0] rfl ?_ ?_ | refine V.Fn.a (v_agStage c (Pn.cl t (l.getD k default)) (l.getD k default) n hc) [0] rfl ?_ ?_); · exact V.D_) | (first | refine V.Fn.k0 (v_fleft (l.getD k default) hf) rfl ?_ | refine V.Fn.q0 (v_fleft (l.getD k default) hf) rfl ?_ | refine V.Fn.a0 (v_fleft (l.getD k default) hf) rfl ?_) | (first | refine V.Fn.k0 (v_daily _ _ _) rfl ?_ | refine V.Fn.q0 (v_daily _ _ _) rfl ?_ | refine V.Fn.a0 (v_daily _ _ _) rfl ?_) | (refine V.NDraw.any (by kernel_rfl) ?_) | fail)
    all_goals (conv => whnf)
    · exact V.NBack.at_ (k + 1) [] ⟨by omega, all_snoc hlt hJ (by assumption)⟩ (by omega) V.S_ rfl ⟨ObLe.as_ (ds.trans (by rw [Pn.du1_no (fun z => absurd (by assumption) z.1.1), List.append_nil])), trivial⟩ V.S_ V.S_
    · exact V.NBack.at_ (k + 1) [] ⟨by omega, all_snoc hlt hJ (by assumption)⟩ (by omega) V.S_ rfl ⟨ObLe.as_ (ds.trans (by rw [Pn.du1_no (fun z => absurd (by assumption) z.1.2), List.append_nil])), trivial⟩ V.S_ V.S_
    · rename_i g1 g2 g3 g4 g5
      exact V.NBack.at_ (k + 1) [(11, 14)] ⟨by omega, all_snoc hlt hJ (by assumption)⟩ (by omega) V.S_ rfl ⟨ObLe.as_ (ds.trans (by rw [Pn.du1_yes ⟨by assumption, by assumption⟩ (by rw [← qv]; exact g5), qv])), trivial⟩ V.S_ V.S_
    · rename_i g1 g2 g3 g4 g5
      exact V.NBack.at_ (k + 1) [] ⟨by omega, all_snoc hlt hJ (by assumption)⟩ (by omega) V.S_ rfl ⟨ObLe.as_ (ds.trans (by rw [Pn.du1_no (fun z => g5 (by rw [qv]; exact z.2)), List.append_nil])), trivial⟩ V.S_ V.S_
    · have e := fb_get (f := Pn.eF c t n) hlt hJ (by assumption)
      have y := Pn.y_bad (c := c) (t := t) (l := l) (ps := ps) (n := n) (Pn.yE_of hR) (by rw [e]; assumption)
      rw [y.1, y.2, e]
      (first | exact V.er 0 | exact V.er 1 | exact V.er 2 | exact V.er 3 | exact V.er 4 | exact V.er 5 | exact V.er 6 | exact V.er 7 | exact V.er 8 | exact V.er 9 | exact V.er 10 | exact V.er 11 | exact V.er 12 | exact V.er 13 | exact V.er 14 | exact V.er 15 | exact V.er 16 | exact V.er 17)
  obtain rfl : k = l.length := by omega
  have y := Pn.y_yes (c := c) (t := t) (l := l) (ps := ps) (n := n) (Pn.yE_of hR) (fb_end (by omega) hJ)
  rw [y.1, y.2]
  rw [show l.take l.length = l from List.take_length]
  repeat' ((conv => whnf); first | refine V.NCond.mk ?_ | refine V.NPick.l ?_ | refine V.NIf.not_ ?_ | refine V.NIf.dec_ ?_ | refine V.a4 ?_ | refine V.a5 ?_ | refine V.NIf.mk (fun _ => ?_) (fun _ => ?_) | refine V.a7 ?_ | refine V.a8 ?_ | refine V.a9 ?_ | refine V.NBoth.mk ?_ ?_ | refine V.b1 ?_ | refine V.b2 ?_ | refine V.NTF.dec ?_ | refine V.b3 ?_ | refine V.b4 ?_ | (refine V.NDraw.any (by kernel_rfl) ?_) | fail)
  all_goals (conv => whnf)
  (first | exact V.erf 0 | exact V.erf 1 | exact V.erf 2 | exact V.erf 3 | exact V.erf 4 | exact V.erf 5 | exact V.erf 6 | exact V.erf 7 | exact V.erf 8 | exact V.erf 9 | exact V.erf 10 | exact V.erf 11 | exact V.erf 12 | exact V.erf 13 | exact V.erf 14 | exact V.erf 15 | exact V.erf 16 | exact V.erf 17)
end Go.Proofs.YtpanlcnoopmchaaGreatDoor

namespace Go.Proofs.YtpanlcnoopmchaaGreatDoor
open Go Go.RowKit V
abbrev nightO (c : Cl) (t : List Tm) (w : Wd) (pr : List Int) : List Ob := [.arr 1 c.hs.length (ga e1 c.hs), .arr 4 t.length (ga encTm t), .arr 10 w.fs.length (ga encF w.fs), .arr 3 w.bk.length (ga encP w.bk), .arr 1 pr.length (ga e1 pr)]
abbrev ruV (c : Cl) (x : Int) : SV := .agg [.val (.int .i64 c.we), .ref 0, .ref 1, .val (.int .i64 x)]
theorem v_cyOwn (w : Wd) (h1 : w.fs.length ≤ 1759218604390) (h2 : w.bk.length ≤ 5864062014634) : V.FnR Tryz.prog 24 [.arr 10 w.fs.length (ga encF w.fs), .arr 3 w.bk.length (ga encP w.bk)] [.agg [.val (.int .i64 w.td), .ref 0, .ref 1]] (.agg [.val (.int .i64 w.td), .ref 2, .ref 3]) [.row 41 10 w.fs.length (ga encF w.fs), .row 52 3 w.bk.length (ga encP w.bk)] := by
  refine V.FnR.mk_ V.Tok V.mixed Tryz.func24 rfl Tryz.ntmps24 (by kernel_rfl) rfl rfl rfl rfl ?_
  repeat' ((conv => whnf); first | refine V.NCond.mk ?_ | refine V.NPick.l ?_ | refine V.NIf.not_ ?_ | refine V.NIf.dec_ ?_ | refine V.a4 ?_ | refine V.a5 ?_ | refine V.NIf.mk (fun _ => ?_) (fun _ => ?_) | refine V.a7 ?_ | refine V.a8 ?_ | refine V.a9 ?_ | refine V.NBoth.mk ?_ ?_ | refine V.b1 ?_ | refine V.b2 ?_ | refine V.NTF.dec ?_ | refine V.b3 ?_ | refine V.b4 ?_ | ((first | refine V.FnR.k_ (v_cloneF w.fs h1) [0] rfl ?_ ?_ | refine V.FnR.a_ (v_cloneF w.fs h1) [0] rfl ?_ ?_); · exact V.D_) | ((first | refine V.FnR.k_ (v_cloneP w.bk h2) [1] rfl ?_ ?_ | refine V.FnR.a_ (v_cloneP w.bk h2) [1] rfl ?_ ?_); · exact V.D_) | (refine V.NDraw.any (by kernel_rfl) ?_) | fail)
  all_goals (conv => whnf)
  all_goals first
    | exact V.er2 4 5
    | exact V.er2 5 4
    | trace_state
set_option maxHeartbeats 8000000 in
theorem v_night_b (c : Cl) (t : List Tm) (x : Int) (w : Wd) (pr : List Int) (hc : c.hs.length ≤ 9223372036854775807) (ht : t.length ≤ 9223372036854775807) (hb : w.bk.length ≤ 9223372036854775807) (hp : pr.length ≤ 9223372036854775807)
    (h0 : (Cy.s0 c t x w pr).e = 0) (hS : ¬ (Pn.suL (Cy.du c t w pr)).length = 0) :
    V.FnR Tryz.prog 6 (nightO c t w pr) [ruV c x, .agg [.val (.int .i64 w.td), .ref 2, .ref 3], .one (.ref 4)] (.tup [.agg [.val (.int .i64 (Cy.nW c t x w pr).td), .ref 5, .ref 6], .one (.ref 7), .one (.val (.int .i64 (Cy.nE c t x w pr)))]) [.row 41 10 (Cy.nW c t x w pr).fs.length (ga encF (Cy.nW c t x w pr).fs), .row 52 3 (Cy.nW c t x w pr).bk.length (ga encP (Cy.nW c t x w pr).bk), .row 52 3 (Cy.nP c t x w pr).length (ga encP (Cy.nP c t x w pr))] := by
  obtain ⟨b0, p0, s0⟩ := Cy.s0_ok h0
  obtain ⟨r0, w0, k0, o0, y0⟩ := Cy.nB_ok b0
  obtain ⟨n60, n400⟩ := Cy.wE_len w0
  have cR := v_cyRules c t x hc ht
  rw [r0] at cR
  have cW := v_cyCheck w hb
  rw [w0] at cW
  have cP := v_prices pr hp
  rw [k0] at cP
  have cI := v_caIs c w.td hc
  obtain ⟨i0, _, q5, hbl, hou, hbk, hps⟩ := Cy.night_ok h0
  obtain ⟨e5, pE0⟩ := q5 hS
  rw [i0] at cI
  have cD := v_day c t w.fs pr w.td hc ht hp
  rw [y0, show Pn.yL c t w.fs pr w.td = Cy.du c t w pr from rfl] at cD
  have cS := v_psum (Cy.du c t w pr) (by have := Pn.yL_len c t w.fs pr w.td; unfold Cy.du; omega)
  rw [e5] at cS
  have sl : (Pn.suL (Cy.du c t w pr)).length ≤ 31 := by
    unfold Pn.suL
    split
    all_goals first | exact Pn.pos_len _ _ | exact Nat.zero_le _
  have cB := v_bkPost w.bk (Pn.suL (Cy.du c t w pr)) hb (by omega)
  rw [pE0] at cB
  have kc := (Cy.rE_ok r0).1
  obtain ⟨ht6, htw⟩ := Pn.tE_ok (Cy.rE_ok r0).2.1
  obtain ⟨hp20, _⟩ := P.chks_ok k0
  obtain ⟨_, hx, _⟩ := Cy.wE_ok w0
  have ok := Pn.all_ok hx
  obtain ⟨_, ef, _⟩ := Pn.y_ok y0
  have st0 := Cy.NJ.start (c := c) (t := t) (x := x) (pr := pr) (td := w.td) (fs := w.fs) hbl hou h0
  have res1 := fun z => @Cy.n_err c t x w pr z
  have res2 := fun z z' => @Cy.n_end c t x w pr z z'
  have res3 := fun z z' => @Cy.n_yes c t x w pr z z'
  rw [show Cy.s1 c t x w pr = Cy.run c t x pr w.td (Cy.s0 c t x w pr) w.fs from rfl] at res1 res2 res3
  have hbk1 : (Cy.s0 c t x w pr).bk = Bk.pL w.bk (Pn.suL (Cy.du c t w pr)) := hbk.trans (if_neg hS)
  rw [hbk1, hps] at st0
  have hsp : (Cy.s0 c t x w pr).ps.length ≤ 31 := by rw [hps]; exact sl
  clear b0 p0 s0 r0 w0 k0 o0 y0 h0 q5 i0 e5 pE0 hbl hou hbk hps hbk1
  generalize Cy.s0 c t x w pr = S0 at *
  generalize Pn.suL (Cy.du c t w pr) = S at *
  generalize Cy.du c t w pr = D at *
  generalize Bk.pL w.bk S = B1 at *
  have cT := v_caStep c w.td 1 hc
  generalize Cy.nE c t x w pr = NE at *
  generalize Cy.nW c t x w pr = NW at *
  generalize Cy.nP c t x w pr = NP at *
  refine V.FnR.mk_ V.Tok V.mixed Tryz.func6 rfl Tryz.ntmps6 (by kernel_rfl) rfl rfl rfl rfl ?_
  repeat' ((conv => whnf); first | (refine V.NDraw.any (by kernel_rfl) ?_) | (refine V.NIf.yes ?_ ?_; · (decide; done)) | (refine V.NIf.no ?_ ?_; · (decide; done)) | refine V.NCond.mk ?_ | refine V.NPick.l ?_ | refine V.NIf.not_ ?_ | refine V.NIf.dec_ ?_ | refine V.a4 ?_ | refine V.a5 ?_ | refine V.NIf.mk (fun _ => ?_) (fun _ => ?_) | refine V.a7 ?_ | refine V.a8 ?_ | refine V.a9 ?_ | refine V.NBoth.mk ?_ ?_ | refine V.b1 ?_ | refine V.b2 ?_ | refine V.NTF.dec ?_ | refine V.b3 ?_ | refine V.b4 ?_ | ((first | refine V.FnR.k_ (v_cyOwn w (by omega) (by omega)) [2, 3] rfl ?_ ?_ | refine V.FnR.a_ (v_cyOwn w (by omega) (by omega)) [2, 3] rfl ?_ ?_); · exact V.D_) | ((first | refine V.Fn.k (cR) [0, 1] rfl ?_ ?_ | refine V.Fn.q (cR) [0, 1] rfl ?_ ?_ | refine V.Fn.a (cR) [0, 1] rfl ?_ ?_); · exact V.D_) | ((first | refine V.Fn.k (cW) [2, 3] rfl ?_ ?_ | refine V.Fn.q (cW) [2, 3] rfl ?_ ?_ | refine V.Fn.a (cW) [2, 3] rfl ?_ ?_); · exact V.D_) | ((first | refine V.Fn.k (cP) [4] rfl ?_ ?_ | refine V.Fn.q (cP) [4] rfl ?_ ?_ | refine V.Fn.a (cP) [4] rfl ?_ ?_); · exact V.D_) | ((first | refine V.Fn.k (cI) [0] rfl ?_ ?_ | refine V.Fn.q (cI) [0] rfl ?_ ?_ | refine V.Fn.a (cI) [0] rfl ?_ ?_); · exact V.D_) | (refine V.NCall.inl (f := 25) V.Tok V.mixed Tryz.func25 rfl Tryz.ntmps25 (by kernel_rfl) rfl ?_) | (refine V.NCall.inl (f := 27) V.Tok V.mixed Tryz.func27 rfl Tryz.ntmps27 (by kernel_rfl) rfl ?_) | (refine V.NCall.inl (f := 37) V.Tok V.mixed Tryz.func37 rfl Tryz.ntmps37 (by kernel_rfl) rfl ?_) | ((first | refine V.FnR.k_ (cD) [0, 1, 9, 4] rfl ?_ ?_ | refine V.FnR.a_ (cD) [0, 1, 9, 4] rfl ?_ ?_); · exact V.D_) | ((first | refine V.FnR.k_ (cS) [12] rfl ?_ ?_ | refine V.FnR.a_ (cS) [12] rfl ?_ ?_); · exact V.D_) | ((first | refine V.FnR.k_ (cB) [10, 13] rfl ?_ ?_ | refine V.FnR.a_ (cB) [10, 13] rfl ?_ ?_); · exact V.D_) | (refine NOne.mk ?_ ?_; · (intro k hk; rfl)) | (refine NApp.all_ (by first | omega | (simp; omega)) (by omega) ?_) | (refine V.NDraw.any (by kernel_rfl) ?_) | fail)
  all_goals (conv => whnf)
  clear cR cW cP cI cD cS cB
  refine V.NLoop.auto (fun (s : Nat × List Fl × List Po × List Po × Int) => [(62, .one (.val (.int .i64 s.1)))]) (fun (s : Nat × List Fl × List Po × List Po × Int) => [(9, .row 41 10 s.2.1.length (ga encF s.2.1)), (14, .row 52 3 s.2.2.1.length (ga encP s.2.2.1)), (15, .row 52 3 s.2.2.2.1.length (ga encP s.2.2.2.1)), (11, .box 63 [.val (.int .i64 w.td), .ref 9, .ref 14, .val (.int .i64 c.we), .ref 0, .ref 1, .val (.int .i64 x), .ref 15, .val (.int .i64 s.2.2.2.2)])]) [] [] (fun (s : Nat × List Fl × List Po × List Po × Int) => w.fs.length - s.1) (fun (s : Nat × List Fl × List Po × List Po × Int) => Cy.NJ c t x pr w.td S0 w.fs s.1 s.2.1 s.2.2.1 s.2.2.2.1 s.2.2.2.2) (0, w.fs, B1, S, 0) st0 V.S_ V.S_ (fun _ => ⟨rfl, rfl⟩) ?_; (conv => whnf); refine ⟨⟨rfl, rfl⟩, ?_⟩
  rintro s hs
  generalize s.1 = k at *
  generalize s.2.1 = X at *
  generalize s.2.2.1 = b at *
  generalize s.2.2.2.1 = p at *
  generalize s.2.2.2.2 = e at *
  have xl := hs.xl
  have kl := hs.le
  by_cases hlt : k < w.fs.length
  · by_cases he : e = 0
    · subst he
      have o2 := (hs.ok rfl).2 k (Nat.le_refl _) hlt
      have o : F.Ok (X.getD k default) := by rw [o2]; exact ok _ (getD_mem hlt)
      obtain ⟨⟨_, _, _, hcl, hpa, _⟩, _⟩ := id o
      have sE : Ag.sE c (Pn.cl t (X.getD k default)) (X.getD k default) w.td = 0 := by rw [o2]; exact ef _ (getD_mem hlt)
      have cst := v_agStage c (Pn.cl t (X.getD k default)) (X.getD k default) w.td hc
      rw [sE, Ag.sV_yes sE] at cst
      have n1 := hs.s1 hlt
      have n2 := hs.s2 hlt
      have n3 := hs.s3 hlt
      have n4 := hs.s4 hlt
      have n5 := hs.s5 hlt
      have bl := hs.bl
      have pl := hs.pl
      rw [show P.pr pr (X.getD k default).pa = pr.getD ((X.getD k default).pa - 1).toNat default from rfl] at n2 n3 n4 n5
      have l2 := Cy.pL_len (X.getD k default) (pr.getD ((X.getD k default).pa - 1).toNat default) x
      have cpy := v_cpPay (X.getD k default) (pr.getD ((X.getD k default).pa - 1).toNat default) x
      have cbp := v_bkPost b (Cp.pL (X.getD k default) (pr.getD ((X.getD k default).pa - 1).toNat default) x) (by omega) (by omega)
      have bl2 : (Bk.pL b (Cp.pL (X.getD k default) (pr.getD ((X.getD k default).pa - 1).toNat default) x)).length ≤ 2121 := by
        unfold Bk.pL
        split
        · exact Bk.out_len _ _
        · exact Nat.zero_le _
      clear hs res1 res2 res3 cT st0 sE o2 ef ok o
      generalize Ag.stg c (Pn.cl t (X.getD k default)) (X.getD k default) w.td = G at *
      generalize Bk.pE b (Cp.pL (X.getD k default) (pr.getD ((X.getD k default).pa - 1).toNat default) x) = BE at *
      generalize Bk.pL b (Cp.pL (X.getD k default) (pr.getD ((X.getD k default).pa - 1).toNat default) x) = BL at *
      generalize Cp.pE (X.getD k default) (pr.getD ((X.getD k default).pa - 1).toNat default) x = PE at *
      generalize Cp.pL (X.getD k default) (pr.getD ((X.getD k default).pa - 1).toNat default) x = PL at *
      generalize hPF : Cp.pF (X.getD k default) (pr.getD ((X.getD k default).pa - 1).toNat default) x = PF at *
      clear hPF
      repeat' ((conv => whnf); first | (refine V.NDraw.any (by kernel_rfl) ?_) | (refine V.NIf.yes ?_ ?_; · (decide; done)) | (refine V.NIf.no ?_ ?_; · (decide; done)) | refine V.NCond.mk ?_ | refine V.NPick.l ?_ | refine V.NIf.not_ ?_ | refine V.NIf.dec_ ?_ | refine V.a4 ?_ | refine V.a5 ?_ | refine V.NIf.mk (fun _ => ?_) (fun _ => ?_) | refine V.a7 ?_ | refine V.a8 ?_ | refine V.a9 ?_ | refine V.NBoth.mk ?_ ?_ | refine V.b1 ?_ | refine V.b2 ?_ | refine V.NTF.dec ?_ | refine V.b3 ?_ | refine V.b4 ?_ | (refine V.NCall.inl (f := 28) V.Tok V.mixed Tryz.func28 rfl Tryz.ntmps28 (by kernel_rfl) rfl ?_) | (refine V.NCall.inl (f := 25) V.Tok V.mixed Tryz.func25 rfl Tryz.ntmps25 (by kernel_rfl) rfl ?_) | (refine V.NCall.inl (f := 37) V.Tok V.mixed Tryz.func37 rfl Tryz.ntmps37 (by kernel_rfl) rfl ?_) | (refine NIdx.mk ⟨k, rfl, by omega, ?_⟩) | (refine NIdx.mk ⟨(X.getD k default).cl.toNat, by omega, by omega, ?_⟩) | (refine NIdx.mk ⟨((X.getD k default).pa - 1).toNat, by omega, by omega, ?_⟩) | ((first | refine V.Fn.k (cst) [0] rfl ?_ ?_ | refine V.Fn.q (cst) [0] rfl ?_ ?_ | refine V.Fn.a (cst) [0] rfl ?_ ?_); · exact V.D_) | (first | refine V.FnR.k0 (cpy) rfl ?_ | refine V.FnR.a0 (cpy) rfl ?_) | (refine NPut.to (en := encF) PF rfl rfl ?_) | ((first | refine V.FnR.k_ (cbp) [14, 17] rfl ?_ ?_ | refine V.FnR.a_ (cbp) [14, 17] rfl ?_ ?_); · exact V.D_) | ((first | refine V.FnR.k_ (cbp) [14, 18] rfl ?_ ?_ | refine V.FnR.a_ (cbp) [14, 18] rfl ?_ ?_); · exact V.D_) | (refine NOne.mk ?_ ?_; · (intro k hk; rfl)) | (refine NApp.list (by first | omega | (simp; omega)) (by omega) ?_) | (refine V.NDraw.any (by kernel_rfl) ?_) | fail)
      all_goals (conv => whnf)
      all_goals first
        | exact V.NBack.at_ (k + 1, X, b, p, 0) [] (n1 (by assumption)) (by dsimp only; omega) V.S_ rfl ⟨ObLe.as_ rfl, ObLe.as_ rfl, ObLe.as_ rfl, rfl, trivial⟩ V.S_ V.S_
        | exact V.NBack.at_ (k + 1, X, b, p, PE) [] (n2 (by assumption) (by assumption)) (by dsimp only; omega) V.S_ rfl ⟨ObLe.as_ rfl, ObLe.as_ rfl, ObLe.as_ rfl, rfl, trivial⟩ V.S_ V.S_
        | (obtain rfl : PE = 0 := by assumption
           exact V.NBack.at_ (k + 1, X.set k PF, b, p, 0) [] (n3 (by assumption) rfl (by omega)) (by dsimp only; omega) V.S_ rfl ⟨ObLe.is_ rfl (by rw [List.length_set]), ObLe.as_ rfl, ObLe.as_ rfl, rfl, trivial⟩ V.S_ V.S_)
        | (obtain rfl : PE = 0 := by assumption
           exact V.NBack.at_ (k + 1, X.set k PF, b, p, BE) [] (n4 (by assumption) rfl (by omega) (by assumption)) (by dsimp only; omega) V.S_ rfl ⟨ObLe.is_ rfl (by rw [List.length_set]), ObLe.as_ rfl, ObLe.as_ rfl, rfl, trivial⟩ V.S_ V.S_)
        | (obtain rfl : PE = 0 := by assumption
           obtain rfl : BE = 0 := by assumption
           exact V.NBack.at_ (k + 1, X.set k PF, BL, p ++ PL, 0) [(14, 19), (15, 20)] (n5 (by assumption) rfl (by omega) rfl) (by dsimp only; omega) V.S_ rfl ⟨ObLe.is_ rfl (by rw [List.length_set]), ObLe.as_ rfl, ObLe.as_ rfl, rfl, trivial⟩ V.S_ V.S_)
        | trace_state
    · have hs' := hs.skip hlt he
      repeat' ((conv => whnf); first | (refine V.NIf.no ?_ ?_; · (assumption; done)) | refine V.NCond.mk ?_ | refine V.NPick.l ?_ | refine V.NIf.not_ ?_ | refine V.NIf.dec_ ?_ | refine V.a4 ?_ | refine V.a5 ?_ | refine V.NIf.mk (fun _ => ?_) (fun _ => ?_) | refine V.a7 ?_ | refine V.a8 ?_ | refine V.a9 ?_ | refine V.NBoth.mk ?_ ?_ | refine V.b1 ?_ | refine V.b2 ?_ | refine V.NTF.dec ?_ | refine V.b3 ?_ | refine V.b4 ?_ | (refine V.NDraw.any (by kernel_rfl) ?_) | fail)
      all_goals (conv => whnf)
      all_goals exact V.NBack.at_ (k + 1, X, b, p, e) [] hs' (by dsimp only; omega) V.S_ rfl ⟨ObLe.as_ rfl, ObLe.as_ rfl, ObLe.as_ rfl, rfl, trivial⟩ V.S_ V.S_
  · obtain rfl : k = w.fs.length := by omega
    obtain ⟨f1, f2⟩ := hs.fin
    by_cases he : e = 0
    · subst he
      have f3 := f2 rfl
      by_cases hT : Ca.sE c w.td 1 = 0
      · obtain ⟨r1, r2, r3⟩ := res3 f1 hT
        rw [f3] at r2 r3
        rw [r1, r2, r3]
        rw [hT] at cT
        repeat' ((conv => whnf); first | (refine V.NIf.yes ?_ ?_; · (decide; done)) | (refine V.NIf.no ?_ ?_; · (decide; done)) | refine V.NCond.mk ?_ | refine V.NPick.l ?_ | refine V.NIf.not_ ?_ | refine V.NIf.dec_ ?_ | refine V.a4 ?_ | refine V.a5 ?_ | refine V.NIf.mk (fun _ => ?_) (fun _ => ?_) | refine V.a7 ?_ | refine V.a8 ?_ | refine V.a9 ?_ | refine V.NBoth.mk ?_ ?_ | refine V.b1 ?_ | refine V.b2 ?_ | refine V.NTF.dec ?_ | refine V.b3 ?_ | refine V.b4 ?_ | ((first | refine V.Fn.k (cT) [0] rfl ?_ ?_ | refine V.Fn.q (cT) [0] rfl ?_ ?_ | refine V.Fn.a (cT) [0] rfl ?_ ?_); · exact V.D_) | (refine V.NCall.inl (f := 25) V.Tok V.mixed Tryz.func25 rfl Tryz.ntmps25 (by kernel_rfl) rfl ?_) | (refine V.NCall.inl (f := 29) V.Tok V.mixed Tryz.func29 rfl Tryz.ntmps29 (by kernel_rfl) rfl ?_) | (refine V.NDraw.any (by kernel_rfl) ?_) | fail)
        all_goals (conv => whnf)
        all_goals first
          | exact V.er3 9 14 15
          | trace_state
      · obtain ⟨r1, r2, r3⟩ := res2 f1 hT
        rw [r1, r2, r3]
        repeat' ((conv => whnf); first | (refine V.NIf.yes ?_ ?_; · (decide; done)) | (refine V.NIf.no ?_ ?_; · (assumption; done)) | (refine V.NIf.no ?_ ?_; · (decide; done)) | refine V.NCond.mk ?_ | refine V.NPick.l ?_ | refine V.NIf.not_ ?_ | refine V.NIf.dec_ ?_ | refine V.a4 ?_ | refine V.a5 ?_ | refine V.NIf.mk (fun _ => ?_) (fun _ => ?_) | refine V.a7 ?_ | refine V.a8 ?_ | refine V.a9 ?_ | refine V.NBoth.mk ?_ ?_ | refine V.b1 ?_ | refine V.b2 ?_ | refine V.NTF.dec ?_ | refine V.b3 ?_ | refine V.b4 ?_ | ((first | refine V.Fn.k (cT) [0] rfl ?_ ?_ | refine V.Fn.q (cT) [0] rfl ?_ ?_ | refine V.Fn.a (cT) [0] rfl ?_ ?_); · exact V.D_) | (refine V.NCall.inl (f := 25) V.Tok V.mixed Tryz.func25 rfl Tryz.ntmps25 (by kernel_rfl) rfl ?_) | (refine V.NCall.inl (f := 29) V.Tok V.mixed Tryz.func29 rfl Tryz.ntmps29 (by kernel_rfl) rfl ?_) | (refine V.NDraw.any (by kernel_rfl) ?_) | fail)
        all_goals (conv => whnf)
        all_goals first
          | exact V.er000
          | trace_state
    · obtain ⟨r1, r2, r3⟩ := res1 (by rw [f1]; exact he)
      rw [f1] at r1
      rw [r1, r2, r3]
      repeat' ((conv => whnf); first | (refine V.NIf.no ?_ ?_; · (assumption; done)) | (refine V.NIf.no ?_ ?_; · (decide; done)) | refine V.NCond.mk ?_ | refine V.NPick.l ?_ | refine V.NIf.not_ ?_ | refine V.NIf.dec_ ?_ | refine V.a4 ?_ | refine V.a5 ?_ | refine V.NIf.mk (fun _ => ?_) (fun _ => ?_) | refine V.a7 ?_ | refine V.a8 ?_ | refine V.a9 ?_ | refine V.NBoth.mk ?_ ?_ | refine V.b1 ?_ | refine V.b2 ?_ | refine V.NTF.dec ?_ | refine V.b3 ?_ | refine V.b4 ?_ | (refine V.NCall.inl (f := 29) V.Tok V.mixed Tryz.func29 rfl Tryz.ntmps29 (by kernel_rfl) rfl ?_) | (refine V.NDraw.any (by kernel_rfl) ?_) | fail)
      all_goals (conv => whnf)
      all_goals first
        | exact V.er000
        | trace_state
end Go.Proofs.YtpanlcnoopmchaaGreatDoor

namespace Go.Proofs.YtpanlcnoopmchaaGreatDoor
open Go Go.RowKit V
def psO (o : Option (List Po)) (l : Obs) : Obs := match o with
  | none => l
  | some p => (12, .row 52 3 p.length (ga encP p)) :: l
def psA (o : Option (List Po)) : At := match o with
  | none => .val (.slice none 0 0)
  | some _ => .ref 12
set_option maxHeartbeats 8000000 in
theorem v_night_a (c : Cl) (t : List Tm) (x : Int) (w : Wd) (pr : List Int) (hc : c.hs.length ≤ 9223372036854775807) (ht : t.length ≤ 9223372036854775807) (hb : w.bk.length ≤ 9223372036854775807) (hp : pr.length ≤ 9223372036854775807)
    (h0 : (Cy.s0 c t x w pr).e = 0) (hS : (Pn.suL (Cy.du c t w pr)).length = 0) :
    V.FnR Tryz.prog 6 (nightO c t w pr) [ruV c x, .agg [.val (.int .i64 w.td), .ref 2, .ref 3], .one (.ref 4)] (.tup [.agg [.val (.int .i64 (Cy.nW c t x w pr).td), .ref 5, .ref 6], .one (.ref 7), .one (.val (.int .i64 (Cy.nE c t x w pr)))]) [.row 41 10 (Cy.nW c t x w pr).fs.length (ga encF (Cy.nW c t x w pr).fs), .row 52 3 (Cy.nW c t x w pr).bk.length (ga encP (Cy.nW c t x w pr).bk), .row 52 3 (Cy.nP c t x w pr).length (ga encP (Cy.nP c t x w pr))] := by
  obtain ⟨b0, p0, s0⟩ := Cy.s0_ok h0
  obtain ⟨r0, w0, k0, o0, y0⟩ := Cy.nB_ok b0
  obtain ⟨n60, n400⟩ := Cy.wE_len w0
  have cR := v_cyRules c t x hc ht
  rw [r0] at cR
  have cW := v_cyCheck w hb
  rw [w0] at cW
  have cP := v_prices pr hp
  rw [k0] at cP
  have cI := v_caIs c w.td hc
  obtain ⟨i0, q5, _, hbl, hou, hbk, hps⟩ := Cy.night_ok h0
  have q5 : Pn.suE (Cy.du c t w pr) = 5 := by
    rcases q5 hS with z | z
    · exact z
    · obtain ⟨_, a, b⟩ := Pn.su_ok z
      rw [b] at hS
      exact absurd hS a
  rw [i0] at cI
  have cD := v_day c t w.fs pr w.td hc ht hp
  rw [y0, show Pn.yL c t w.fs pr w.td = Cy.du c t w pr from rfl] at cD
  have cS := v_psum (Cy.du c t w pr) (by have := Pn.yL_len c t w.fs pr w.td; unfold Cy.du; omega)
  have sl : (Pn.suL (Cy.du c t w pr)).length ≤ 31 := by
    unfold Pn.suL
    split
    all_goals first | exact Pn.pos_len _ _ | exact Nat.zero_le _
  have kc := (Cy.rE_ok r0).1
  obtain ⟨ht6, htw⟩ := Pn.tE_ok (Cy.rE_ok r0).2.1
  obtain ⟨hp20, _⟩ := P.chks_ok k0
  obtain ⟨_, hx, _⟩ := Cy.wE_ok w0
  have ok := Pn.all_ok hx
  obtain ⟨_, ef, _⟩ := Pn.y_ok y0
  have st0 := Cy.NJ.start (c := c) (t := t) (x := x) (pr := pr) (td := w.td) (fs := w.fs) hbl hou h0
  have res1 := fun z => @Cy.n_err c t x w pr z
  have res2 := fun z z' => @Cy.n_end c t x w pr z z'
  have res3 := fun z z' => @Cy.n_yes c t x w pr z z'
  rw [show Cy.s1 c t x w pr = Cy.run c t x pr w.td (Cy.s0 c t x w pr) w.fs from rfl] at res1 res2 res3
  have hbk1 : (Cy.s0 c t x w pr).bk = w.bk := hbk.trans (if_pos hS)
  have hS0 : Pn.suL (Cy.du c t w pr) = [] := List.length_eq_zero_iff.1 hS
  rw [hbk1, hps, hS0] at st0
  rw [hS0, q5] at cS
  have hsp : (Cy.s0 c t x w pr).ps.length ≤ 31 := by rw [hps]; exact sl
  clear b0 p0 s0 r0 w0 k0 o0 y0 h0 i0 hbl hou hbk hps hbk1 hS0 hS sl
  clear q5
  generalize Cy.s0 c t x w pr = S0 at *
  generalize Cy.du c t w pr = D at *
  have cT := v_caStep c w.td 1 hc
  generalize Cy.nE c t x w pr = NE at *
  generalize Cy.nW c t x w pr = NW at *
  generalize Cy.nP c t x w pr = NP at *
  refine V.FnR.mk_ V.Tok V.mixed Tryz.func6 rfl Tryz.ntmps6 (by kernel_rfl) rfl rfl rfl rfl ?_
  repeat' ((conv => whnf); first | (refine V.NDraw.any (by kernel_rfl) ?_) | (refine V.NIf.yes ?_ ?_; · (decide; done)) | (refine V.NIf.no ?_ ?_; · (decide; done)) | refine V.NCond.mk ?_ | refine V.NPick.l ?_ | refine V.NIf.not_ ?_ | refine V.NIf.dec_ ?_ | refine V.a4 ?_ | refine V.a5 ?_ | refine V.NIf.mk (fun _ => ?_) (fun _ => ?_) | refine V.a7 ?_ | refine V.a8 ?_ | refine V.a9 ?_ | refine V.NBoth.mk ?_ ?_ | refine V.b1 ?_ | refine V.b2 ?_ | refine V.NTF.dec ?_ | refine V.b3 ?_ | refine V.b4 ?_ | ((first | refine V.FnR.k_ (v_cyOwn w (by omega) (by omega)) [2, 3] rfl ?_ ?_ | refine V.FnR.a_ (v_cyOwn w (by omega) (by omega)) [2, 3] rfl ?_ ?_); · exact V.D_) | ((first | refine V.Fn.k (cR) [0, 1] rfl ?_ ?_ | refine V.Fn.q (cR) [0, 1] rfl ?_ ?_ | refine V.Fn.a (cR) [0, 1] rfl ?_ ?_); · exact V.D_) | ((first | refine V.Fn.k (cW) [2, 3] rfl ?_ ?_ | refine V.Fn.q (cW) [2, 3] rfl ?_ ?_ | refine V.Fn.a (cW) [2, 3] rfl ?_ ?_); · exact V.D_) | ((first | refine V.Fn.k (cP) [4] rfl ?_ ?_ | refine V.Fn.q (cP) [4] rfl ?_ ?_ | refine V.Fn.a (cP) [4] rfl ?_ ?_); · exact V.D_) | ((first | refine V.Fn.k (cI) [0] rfl ?_ ?_ | refine V.Fn.q (cI) [0] rfl ?_ ?_ | refine V.Fn.a (cI) [0] rfl ?_ ?_); · exact V.D_) | (refine V.NCall.inl (f := 25) V.Tok V.mixed Tryz.func25 rfl Tryz.ntmps25 (by kernel_rfl) rfl ?_) | (refine V.NCall.inl (f := 27) V.Tok V.mixed Tryz.func27 rfl Tryz.ntmps27 (by kernel_rfl) rfl ?_) | (refine V.NCall.inl (f := 37) V.Tok V.mixed Tryz.func37 rfl Tryz.ntmps37 (by kernel_rfl) rfl ?_) | ((first | refine V.FnR.k_ (cD) [0, 1, 9, 4] rfl ?_ ?_ | refine V.FnR.a_ (cD) [0, 1, 9, 4] rfl ?_ ?_); · exact V.D_) | ((first | refine V.FnR.k_ (cS) [12] rfl ?_ ?_ | refine V.FnR.a_ (cS) [12] rfl ?_ ?_); · exact V.D_) | (refine V.NDraw.any (by kernel_rfl) ?_) | fail)
  all_goals (conv => whnf)
  all_goals refine V.NLoop.auto (fun (s : Nat × List Fl × List Po × Option (List Po) × Int) => [(62, .one (.val (.int .i64 s.1)))]) (fun (s : Nat × List Fl × List Po × Option (List Po) × Int) => [(9, .row 41 10 s.2.1.length (ga encF s.2.1)), (10, .row 52 3 s.2.2.1.length (ga encP s.2.2.1)), (11, .box 63 [.val (.int .i64 w.td), .ref 9, .ref 10, .val (.int .i64 c.we), .ref 0, .ref 1, .val (.int .i64 x), psA s.2.2.2.1, .val (.int .i64 s.2.2.2.2)])] ++ psO s.2.2.2.1 []) [16, 18] [12] (fun s => w.fs.length - s.1) (fun s => Cy.NJ c t x pr w.td S0 w.fs s.1 s.2.1 s.2.2.1 (s.2.2.2.1.getD []) s.2.2.2.2) (0, w.fs, w.bk, none, 0) st0 V.S_ V.S_ (fun s => by obtain ⟨_, _, _, o, _⟩ := s; cases o <;> exact ⟨rfl, rfl⟩) ?_; (conv => whnf); refine ⟨⟨rfl, rfl⟩, ?_⟩
  rintro s hs
  generalize s.1 = k at *
  generalize s.2.1 = X at *
  generalize s.2.2.1 = b at *
  generalize s.2.2.2.1 = o at *
  generalize s.2.2.2.2 = e at *
  rcases o with _ | p
  · skip
    have hs : Cy.NJ c t x pr w.td S0 w.fs k X b [] e := hs
    have xl := hs.xl
    have kl := hs.le
    by_cases hlt : k < w.fs.length
    · by_cases he : e = 0
      · subst he
        have o2 := (hs.ok rfl).2 k (Nat.le_refl _) hlt
        have o : F.Ok (X.getD k default) := by rw [o2]; exact ok _ (getD_mem hlt)
        obtain ⟨⟨_, _, _, hcl, hpa, _⟩, _⟩ := id o
        have sE : Ag.sE c (Pn.cl t (X.getD k default)) (X.getD k default) w.td = 0 := by rw [o2]; exact ef _ (getD_mem hlt)
        have cst := v_agStage c (Pn.cl t (X.getD k default)) (X.getD k default) w.td hc
        rw [sE, Ag.sV_yes sE] at cst
        have n1 := hs.s1 hlt
        have n2 := hs.s2 hlt
        have n3 := hs.s3 hlt
        have n4 := hs.s4 hlt
        have n5 := hs.s5 hlt
        have bl := hs.bl
        have pl := hs.pl
        rw [show P.pr pr (X.getD k default).pa = pr.getD ((X.getD k default).pa - 1).toNat default from rfl] at n2 n3 n4 n5
        have l2 := Cy.pL_len (X.getD k default) (pr.getD ((X.getD k default).pa - 1).toNat default) x
        have cpy := v_cpPay (X.getD k default) (pr.getD ((X.getD k default).pa - 1).toNat default) x
        have cbp := v_bkPost b (Cp.pL (X.getD k default) (pr.getD ((X.getD k default).pa - 1).toNat default) x) (by omega) (by omega)
        have bl2 : (Bk.pL b (Cp.pL (X.getD k default) (pr.getD ((X.getD k default).pa - 1).toNat default) x)).length ≤ 2121 := by
          unfold Bk.pL
          split
          · exact Bk.out_len _ _
          · exact Nat.zero_le _
        clear hs res1 res2 res3 cT st0 sE o2 ef ok o
        generalize Ag.stg c (Pn.cl t (X.getD k default)) (X.getD k default) w.td = G at *
        generalize Bk.pE b (Cp.pL (X.getD k default) (pr.getD ((X.getD k default).pa - 1).toNat default) x) = BE at *
        generalize Bk.pL b (Cp.pL (X.getD k default) (pr.getD ((X.getD k default).pa - 1).toNat default) x) = BL at *
        generalize Cp.pE (X.getD k default) (pr.getD ((X.getD k default).pa - 1).toNat default) x = PE at *
        generalize Cp.pL (X.getD k default) (pr.getD ((X.getD k default).pa - 1).toNat default) x = PL at *
        generalize hPF : Cp.pF (X.getD k default) (pr.getD ((X.getD k default).pa - 1).toNat default) x = PF at *
        clear hPF
        repeat' ((conv => whnf); first | (refine V.NDraw.any (by kernel_rfl) ?_) | (refine V.NIf.yes ?_ ?_; · (decide; done)) | (refine V.NIf.no ?_ ?_; · (decide; done)) | refine V.NCond.mk ?_ | refine V.NPick.l ?_ | refine V.NIf.not_ ?_ | refine V.NIf.dec_ ?_ | refine V.a4 ?_ | refine V.a5 ?_ | refine V.NIf.mk (fun _ => ?_) (fun _ => ?_) | refine V.a7 ?_ | refine V.a8 ?_ | refine V.a9 ?_ | refine V.NBoth.mk ?_ ?_ | refine V.b1 ?_ | refine V.b2 ?_ | refine V.NTF.dec ?_ | refine V.b3 ?_ | refine V.b4 ?_ | (refine V.NCall.inl (f := 28) V.Tok V.mixed Tryz.func28 rfl Tryz.ntmps28 (by kernel_rfl) rfl ?_) | (refine V.NCall.inl (f := 25) V.Tok V.mixed Tryz.func25 rfl Tryz.ntmps25 (by kernel_rfl) rfl ?_) | (refine V.NCall.inl (f := 37) V.Tok V.mixed Tryz.func37 rfl Tryz.ntmps37 (by kernel_rfl) rfl ?_) | (refine NIdx.mk ⟨k, rfl, by omega, ?_⟩) | (refine NIdx.mk ⟨(X.getD k default).cl.toNat, by omega, by omega, ?_⟩) | (refine NIdx.mk ⟨((X.getD k default).pa - 1).toNat, by omega, by omega, ?_⟩) | ((first | refine V.Fn.k (cst) [0] rfl ?_ ?_ | refine V.Fn.q (cst) [0] rfl ?_ ?_ | refine V.Fn.a (cst) [0] rfl ?_ ?_); · exact V.D_) | (first | refine V.FnR.k0 (cpy) rfl ?_ | refine V.FnR.a0 (cpy) rfl ?_) | (refine NPut.to (en := encF) PF rfl rfl ?_) | ((first | refine V.FnR.k_ (cbp) [10, 15] rfl ?_ ?_ | refine V.FnR.a_ (cbp) [10, 15] rfl ?_ ?_); · exact V.D_) | ((first | refine V.FnR.k_ (cbp) [10, 16] rfl ?_ ?_ | refine V.FnR.a_ (cbp) [10, 16] rfl ?_ ?_); · exact V.D_) | (refine NOne.mk ?_ ?_; · (intro k hk; rfl)) | (refine NApp.all_ (by first | omega | (simp; omega)) (by omega) ?_) | (refine V.NDraw.any (by kernel_rfl) ?_) | fail)
        all_goals (conv => whnf)
        all_goals first
          | exact V.NBack.at_ (k + 1, X, b, none, 0) [] (n1 (by assumption)) (by dsimp only; omega) V.S_ rfl ⟨ObLe.as_ rfl, ObLe.as_ rfl, rfl, trivial⟩ V.S_ V.S_
          | exact V.NBack.at_ (k + 1, X, b, none, PE) [] (n2 (by assumption) (by assumption)) (by dsimp only; omega) V.S_ rfl ⟨ObLe.as_ rfl, ObLe.as_ rfl, rfl, trivial⟩ V.S_ V.S_
          | (obtain rfl : PE = 0 := by assumption
             exact V.NBack.at_ (k + 1, X.set k PF, b, none, 0) [] (n3 (by assumption) rfl (by omega)) (by dsimp only; omega) V.S_ rfl ⟨ObLe.is_ rfl (by rw [List.length_set]), ObLe.as_ rfl, rfl, trivial⟩ V.S_ V.S_)
          | (obtain rfl : PE = 0 := by assumption
             exact V.NBack.at_ (k + 1, X.set k PF, b, none, BE) [] (n4 (by assumption) rfl (by omega) (by assumption)) (by dsimp only; omega) V.S_ rfl ⟨ObLe.is_ rfl (by rw [List.length_set]), ObLe.as_ rfl, rfl, trivial⟩ V.S_ V.S_)
          | (obtain rfl : PE = 0 := by assumption
             obtain rfl : BE = 0 := by assumption
             exact V.NBack.at_ (k + 1, X.set k PF, BL, some PL, 0) [(10, 17), (12, 18)] (n5 (by assumption) rfl (by omega) rfl) (by dsimp only; omega) V.S_ rfl ⟨ObLe.is_ rfl (by rw [List.length_set]), ObLe.as_ rfl, rfl, ObLe.as_ rfl, trivial⟩ V.S_ V.S_)
          | trace_state
      · have hs' := hs.skip hlt he
        repeat' ((conv => whnf); first | (refine V.NIf.no ?_ ?_; · (assumption; done)) | refine V.NCond.mk ?_ | refine V.NPick.l ?_ | refine V.NIf.not_ ?_ | refine V.NIf.dec_ ?_ | refine V.a4 ?_ | refine V.a5 ?_ | refine V.NIf.mk (fun _ => ?_) (fun _ => ?_) | refine V.a7 ?_ | refine V.a8 ?_ | refine V.a9 ?_ | refine V.NBoth.mk ?_ ?_ | refine V.b1 ?_ | refine V.b2 ?_ | refine V.NTF.dec ?_ | refine V.b3 ?_ | refine V.b4 ?_ | (refine V.NDraw.any (by kernel_rfl) ?_) | fail)
        all_goals (conv => whnf)
        all_goals exact V.NBack.at_ (k + 1, X, b, none, e) [] hs' (by dsimp only; omega) V.S_ rfl ⟨ObLe.as_ rfl, ObLe.as_ rfl, rfl, trivial⟩ V.S_ V.S_
    · obtain rfl : k = w.fs.length := by omega
      obtain ⟨f1, f2⟩ := hs.fin
      by_cases he : e = 0
      · subst he
        have f3 := f2 rfl
        by_cases hT : Ca.sE c w.td 1 = 0
        · obtain ⟨r1, r2, r3⟩ := res3 f1 hT
          rw [f3] at r2 r3
          rw [r1, r2, r3]
          rw [hT] at cT
          repeat' ((conv => whnf); first | (refine V.NIf.yes ?_ ?_; · (decide; done)) | (refine V.NIf.no ?_ ?_; · (decide; done)) | refine V.NCond.mk ?_ | refine V.NPick.l ?_ | refine V.NIf.not_ ?_ | refine V.NIf.dec_ ?_ | refine V.a4 ?_ | refine V.a5 ?_ | refine V.NIf.mk (fun _ => ?_) (fun _ => ?_) | refine V.a7 ?_ | refine V.a8 ?_ | refine V.a9 ?_ | refine V.NBoth.mk ?_ ?_ | refine V.b1 ?_ | refine V.b2 ?_ | refine V.NTF.dec ?_ | refine V.b3 ?_ | refine V.b4 ?_ | ((first | refine V.Fn.k (cT) [0] rfl ?_ ?_ | refine V.Fn.q (cT) [0] rfl ?_ ?_ | refine V.Fn.a (cT) [0] rfl ?_ ?_); · exact V.D_) | (refine V.NCall.inl (f := 25) V.Tok V.mixed Tryz.func25 rfl Tryz.ntmps25 (by kernel_rfl) rfl ?_) | (refine V.NCall.inl (f := 29) V.Tok V.mixed Tryz.func29 rfl Tryz.ntmps29 (by kernel_rfl) rfl ?_) | (refine V.NDraw.any (by kernel_rfl) ?_) | fail)
          all_goals (conv => whnf)
          all_goals first
            | exact .mk_ [some 9, some 10, none] rfl (by (repeat' (first | exact rfl | exact trivial | exact Nat.le_of_ble_eq_true rfl | refine ⟨?_, ?_⟩))) ⟨⟨rfl, rfl, rfl, fun _ _ => rfl⟩, ⟨rfl, rfl, rfl, fun _ _ => rfl⟩, rfl, trivial⟩
            | trace_state
        · obtain ⟨r1, r2, r3⟩ := res2 f1 hT
          rw [r1, r2, r3]
          repeat' ((conv => whnf); first | (refine V.NIf.yes ?_ ?_; · (decide; done)) | (refine V.NIf.no ?_ ?_; · (assumption; done)) | (refine V.NIf.no ?_ ?_; · (decide; done)) | refine V.NCond.mk ?_ | refine V.NPick.l ?_ | refine V.NIf.not_ ?_ | refine V.NIf.dec_ ?_ | refine V.a4 ?_ | refine V.a5 ?_ | refine V.NIf.mk (fun _ => ?_) (fun _ => ?_) | refine V.a7 ?_ | refine V.a8 ?_ | refine V.a9 ?_ | refine V.NBoth.mk ?_ ?_ | refine V.b1 ?_ | refine V.b2 ?_ | refine V.NTF.dec ?_ | refine V.b3 ?_ | refine V.b4 ?_ | ((first | refine V.Fn.k (cT) [0] rfl ?_ ?_ | refine V.Fn.q (cT) [0] rfl ?_ ?_ | refine V.Fn.a (cT) [0] rfl ?_ ?_); · exact V.D_) | (refine V.NCall.inl (f := 25) V.Tok V.mixed Tryz.func25 rfl Tryz.ntmps25 (by kernel_rfl) rfl ?_) | (refine V.NCall.inl (f := 29) V.Tok V.mixed Tryz.func29 rfl Tryz.ntmps29 (by kernel_rfl) rfl ?_) | (refine V.NDraw.any (by kernel_rfl) ?_) | fail)
          all_goals (conv => whnf)
          all_goals first
            | exact V.er000
            | trace_state
      · obtain ⟨r1, r2, r3⟩ := res1 (by rw [f1]; exact he)
        rw [f1] at r1
        rw [r1, r2, r3]
        repeat' ((conv => whnf); first | (refine V.NIf.no ?_ ?_; · (assumption; done)) | (refine V.NIf.no ?_ ?_; · (decide; done)) | refine V.NCond.mk ?_ | refine V.NPick.l ?_ | refine V.NIf.not_ ?_ | refine V.NIf.dec_ ?_ | refine V.a4 ?_ | refine V.a5 ?_ | refine V.NIf.mk (fun _ => ?_) (fun _ => ?_) | refine V.a7 ?_ | refine V.a8 ?_ | refine V.a9 ?_ | refine V.NBoth.mk ?_ ?_ | refine V.b1 ?_ | refine V.b2 ?_ | refine V.NTF.dec ?_ | refine V.b3 ?_ | refine V.b4 ?_ | (refine V.NCall.inl (f := 29) V.Tok V.mixed Tryz.func29 rfl Tryz.ntmps29 (by kernel_rfl) rfl ?_) | (refine V.NDraw.any (by kernel_rfl) ?_) | fail)
        all_goals (conv => whnf)
        all_goals first
          | exact V.er000
          | trace_state
  · skip
    have hs : Cy.NJ c t x pr w.td S0 w.fs k X b p e := hs
    have xl := hs.xl
    have kl := hs.le
    by_cases hlt : k < w.fs.length
    · by_cases he : e = 0
      · subst he
        have o2 := (hs.ok rfl).2 k (Nat.le_refl _) hlt
        have o : F.Ok (X.getD k default) := by rw [o2]; exact ok _ (getD_mem hlt)
        obtain ⟨⟨_, _, _, hcl, hpa, _⟩, _⟩ := id o
        have sE : Ag.sE c (Pn.cl t (X.getD k default)) (X.getD k default) w.td = 0 := by rw [o2]; exact ef _ (getD_mem hlt)
        have cst := v_agStage c (Pn.cl t (X.getD k default)) (X.getD k default) w.td hc
        rw [sE, Ag.sV_yes sE] at cst
        have n1 := hs.s1 hlt
        have n2 := hs.s2 hlt
        have n3 := hs.s3 hlt
        have n4 := hs.s4 hlt
        have n5 := hs.s5 hlt
        have bl := hs.bl
        have pl := hs.pl
        rw [show P.pr pr (X.getD k default).pa = pr.getD ((X.getD k default).pa - 1).toNat default from rfl] at n2 n3 n4 n5
        have l2 := Cy.pL_len (X.getD k default) (pr.getD ((X.getD k default).pa - 1).toNat default) x
        have cpy := v_cpPay (X.getD k default) (pr.getD ((X.getD k default).pa - 1).toNat default) x
        have cbp := v_bkPost b (Cp.pL (X.getD k default) (pr.getD ((X.getD k default).pa - 1).toNat default) x) (by omega) (by omega)
        have bl2 : (Bk.pL b (Cp.pL (X.getD k default) (pr.getD ((X.getD k default).pa - 1).toNat default) x)).length ≤ 2121 := by
          unfold Bk.pL
          split
          · exact Bk.out_len _ _
          · exact Nat.zero_le _
        clear hs res1 res2 res3 cT st0 sE o2 ef ok o
        generalize Ag.stg c (Pn.cl t (X.getD k default)) (X.getD k default) w.td = G at *
        generalize Bk.pE b (Cp.pL (X.getD k default) (pr.getD ((X.getD k default).pa - 1).toNat default) x) = BE at *
        generalize Bk.pL b (Cp.pL (X.getD k default) (pr.getD ((X.getD k default).pa - 1).toNat default) x) = BL at *
        generalize Cp.pE (X.getD k default) (pr.getD ((X.getD k default).pa - 1).toNat default) x = PE at *
        generalize Cp.pL (X.getD k default) (pr.getD ((X.getD k default).pa - 1).toNat default) x = PL at *
        generalize hPF : Cp.pF (X.getD k default) (pr.getD ((X.getD k default).pa - 1).toNat default) x = PF at *
        clear hPF
        repeat' ((conv => whnf); first | (refine V.NDraw.any (by kernel_rfl) ?_) | (refine V.NIf.yes ?_ ?_; · (decide; done)) | (refine V.NIf.no ?_ ?_; · (decide; done)) | refine V.NCond.mk ?_ | refine V.NPick.l ?_ | refine V.NIf.not_ ?_ | refine V.NIf.dec_ ?_ | refine V.a4 ?_ | refine V.a5 ?_ | refine V.NIf.mk (fun _ => ?_) (fun _ => ?_) | refine V.a7 ?_ | refine V.a8 ?_ | refine V.a9 ?_ | refine V.NBoth.mk ?_ ?_ | refine V.b1 ?_ | refine V.b2 ?_ | refine V.NTF.dec ?_ | refine V.b3 ?_ | refine V.b4 ?_ | (refine V.NCall.inl (f := 28) V.Tok V.mixed Tryz.func28 rfl Tryz.ntmps28 (by kernel_rfl) rfl ?_) | (refine V.NCall.inl (f := 25) V.Tok V.mixed Tryz.func25 rfl Tryz.ntmps25 (by kernel_rfl) rfl ?_) | (refine V.NCall.inl (f := 37) V.Tok V.mixed Tryz.func37 rfl Tryz.ntmps37 (by kernel_rfl) rfl ?_) | (refine NIdx.mk ⟨k, rfl, by omega, ?_⟩) | (refine NIdx.mk ⟨(X.getD k default).cl.toNat, by omega, by omega, ?_⟩) | (refine NIdx.mk ⟨((X.getD k default).pa - 1).toNat, by omega, by omega, ?_⟩) | ((first | refine V.Fn.k (cst) [0] rfl ?_ ?_ | refine V.Fn.q (cst) [0] rfl ?_ ?_ | refine V.Fn.a (cst) [0] rfl ?_ ?_); · exact V.D_) | (first | refine V.FnR.k0 (cpy) rfl ?_ | refine V.FnR.a0 (cpy) rfl ?_) | (refine NPut.to (en := encF) PF rfl rfl ?_) | ((first | refine V.FnR.k_ (cbp) [10, 15] rfl ?_ ?_ | refine V.FnR.a_ (cbp) [10, 15] rfl ?_ ?_); · exact V.D_) | ((first | refine V.FnR.k_ (cbp) [10, 16] rfl ?_ ?_ | refine V.FnR.a_ (cbp) [10, 16] rfl ?_ ?_); · exact V.D_) | (refine NOne.mk ?_ ?_; · (intro k hk; rfl)) | (refine NApp.list (by first | omega | (simp; omega)) (by omega) ?_) | (refine V.NDraw.any (by kernel_rfl) ?_) | fail)
        all_goals (conv => whnf)
        all_goals first
          | exact V.NBack.at_ (k + 1, X, b, some p, 0) [] (n1 (by assumption)) (by dsimp only; omega) V.S_ rfl ⟨ObLe.as_ rfl, ObLe.as_ rfl, rfl, ObLe.as_ rfl, trivial⟩ V.S_ V.S_
          | exact V.NBack.at_ (k + 1, X, b, some p, PE) [] (n2 (by assumption) (by assumption)) (by dsimp only; omega) V.S_ rfl ⟨ObLe.as_ rfl, ObLe.as_ rfl, rfl, ObLe.as_ rfl, trivial⟩ V.S_ V.S_
          | (obtain rfl : PE = 0 := by assumption
             exact V.NBack.at_ (k + 1, X.set k PF, b, some p, 0) [] (n3 (by assumption) rfl (by omega)) (by dsimp only; omega) V.S_ rfl ⟨ObLe.is_ rfl (by rw [List.length_set]), ObLe.as_ rfl, rfl, ObLe.as_ rfl, trivial⟩ V.S_ V.S_)
          | (obtain rfl : PE = 0 := by assumption
             exact V.NBack.at_ (k + 1, X.set k PF, b, some p, BE) [] (n4 (by assumption) rfl (by omega) (by assumption)) (by dsimp only; omega) V.S_ rfl ⟨ObLe.is_ rfl (by rw [List.length_set]), ObLe.as_ rfl, rfl, ObLe.as_ rfl, trivial⟩ V.S_ V.S_)
          | (obtain rfl : PE = 0 := by assumption
             obtain rfl : BE = 0 := by assumption
             exact V.NBack.at_ (k + 1, X.set k PF, BL, some (p ++ PL), 0) [(10, 17), (12, 18)] (n5 (by assumption) rfl (by omega) rfl) (by dsimp only; omega) V.S_ rfl ⟨ObLe.is_ rfl (by rw [List.length_set]), ObLe.as_ rfl, rfl, ObLe.as_ rfl, trivial⟩ V.S_ V.S_)
          | trace_state
      · have hs' := hs.skip hlt he
        repeat' ((conv => whnf); first | (refine V.NIf.no ?_ ?_; · (assumption; done)) | refine V.NCond.mk ?_ | refine V.NPick.l ?_ | refine V.NIf.not_ ?_ | refine V.NIf.dec_ ?_ | refine V.a4 ?_ | refine V.a5 ?_ | refine V.NIf.mk (fun _ => ?_) (fun _ => ?_) | refine V.a7 ?_ | refine V.a8 ?_ | refine V.a9 ?_ | refine V.NBoth.mk ?_ ?_ | refine V.b1 ?_ | refine V.b2 ?_ | refine V.NTF.dec ?_ | refine V.b3 ?_ | refine V.b4 ?_ | (refine V.NDraw.any (by kernel_rfl) ?_) | fail)
        all_goals (conv => whnf)
        all_goals exact V.NBack.at_ (k + 1, X, b, some p, e) [] hs' (by dsimp only; omega) V.S_ rfl ⟨ObLe.as_ rfl, ObLe.as_ rfl, rfl, ObLe.as_ rfl, trivial⟩ V.S_ V.S_
    · obtain rfl : k = w.fs.length := by omega
      obtain ⟨f1, f2⟩ := hs.fin
      by_cases he : e = 0
      · subst he
        have f3 := f2 rfl
        by_cases hT : Ca.sE c w.td 1 = 0
        · obtain ⟨r1, r2, r3⟩ := res3 f1 hT
          rw [f3] at r2 r3
          rw [r1, r2, r3]
          rw [hT] at cT
          repeat' ((conv => whnf); first | (refine V.NIf.yes ?_ ?_; · (decide; done)) | (refine V.NIf.no ?_ ?_; · (decide; done)) | refine V.NCond.mk ?_ | refine V.NPick.l ?_ | refine V.NIf.not_ ?_ | refine V.NIf.dec_ ?_ | refine V.a4 ?_ | refine V.a5 ?_ | refine V.NIf.mk (fun _ => ?_) (fun _ => ?_) | refine V.a7 ?_ | refine V.a8 ?_ | refine V.a9 ?_ | refine V.NBoth.mk ?_ ?_ | refine V.b1 ?_ | refine V.b2 ?_ | refine V.NTF.dec ?_ | refine V.b3 ?_ | refine V.b4 ?_ | ((first | refine V.Fn.k (cT) [0] rfl ?_ ?_ | refine V.Fn.q (cT) [0] rfl ?_ ?_ | refine V.Fn.a (cT) [0] rfl ?_ ?_); · exact V.D_) | (refine V.NCall.inl (f := 25) V.Tok V.mixed Tryz.func25 rfl Tryz.ntmps25 (by kernel_rfl) rfl ?_) | (refine V.NCall.inl (f := 29) V.Tok V.mixed Tryz.func29 rfl Tryz.ntmps29 (by kernel_rfl) rfl ?_) | (refine V.NDraw.any (by kernel_rfl) ?_) | fail)
          all_goals (conv => whnf)
          all_goals first
            | exact V.er3 9 10 12
            | trace_state
        · obtain ⟨r1, r2, r3⟩ := res2 f1 hT
          rw [r1, r2, r3]
          repeat' ((conv => whnf); first | (refine V.NIf.yes ?_ ?_; · (decide; done)) | (refine V.NIf.no ?_ ?_; · (assumption; done)) | (refine V.NIf.no ?_ ?_; · (decide; done)) | refine V.NCond.mk ?_ | refine V.NPick.l ?_ | refine V.NIf.not_ ?_ | refine V.NIf.dec_ ?_ | refine V.a4 ?_ | refine V.a5 ?_ | refine V.NIf.mk (fun _ => ?_) (fun _ => ?_) | refine V.a7 ?_ | refine V.a8 ?_ | refine V.a9 ?_ | refine V.NBoth.mk ?_ ?_ | refine V.b1 ?_ | refine V.b2 ?_ | refine V.NTF.dec ?_ | refine V.b3 ?_ | refine V.b4 ?_ | ((first | refine V.Fn.k (cT) [0] rfl ?_ ?_ | refine V.Fn.q (cT) [0] rfl ?_ ?_ | refine V.Fn.a (cT) [0] rfl ?_ ?_); · exact V.D_) | (refine V.NCall.inl (f := 25) V.Tok V.mixed Tryz.func25 rfl Tryz.ntmps25 (by kernel_rfl) rfl ?_) | (refine V.NCall.inl (f := 29) V.Tok V.mixed Tryz.func29 rfl Tryz.ntmps29 (by kernel_rfl) rfl ?_) | (refine V.NDraw.any (by kernel_rfl) ?_) | fail)
          all_goals (conv => whnf)
          all_goals first
            | exact V.er000
            | trace_state
      · obtain ⟨r1, r2, r3⟩ := res1 (by rw [f1]; exact he)
        rw [f1] at r1
        rw [r1, r2, r3]
        repeat' ((conv => whnf); first | (refine V.NIf.no ?_ ?_; · (assumption; done)) | (refine V.NIf.no ?_ ?_; · (decide; done)) | refine V.NCond.mk ?_ | refine V.NPick.l ?_ | refine V.NIf.not_ ?_ | refine V.NIf.dec_ ?_ | refine V.a4 ?_ | refine V.a5 ?_ | refine V.NIf.mk (fun _ => ?_) (fun _ => ?_) | refine V.a7 ?_ | refine V.a8 ?_ | refine V.a9 ?_ | refine V.NBoth.mk ?_ ?_ | refine V.b1 ?_ | refine V.b2 ?_ | refine V.NTF.dec ?_ | refine V.b3 ?_ | refine V.b4 ?_ | (refine V.NCall.inl (f := 29) V.Tok V.mixed Tryz.func29 rfl Tryz.ntmps29 (by kernel_rfl) rfl ?_) | (refine V.NDraw.any (by kernel_rfl) ?_) | fail)
        all_goals (conv => whnf)
        all_goals first
          | exact V.er000
          | trace_state
end Go.Proofs.YtpanlcnoopmchaaGreatDoor

namespace Go.Proofs.YtpanlcnoopmchaaGreatDoor
namespace Cy
section
variable {c : Cl} {t : List Tm} {x : Int} {w : Wd} {pr : List Int}
theorem e_1 (h : ¬ rE c t x = 0) : (s0 c t x w pr).e = rE c t x := by rw [s0_1 (by rw [nB_1 h]; exact h)]; exact nB_1 h
theorem e_2 (h : rE c t x = 0) (k : ¬ wE w = 0) : (s0 c t x w pr).e = wE w := by rw [s0_1 (by rw [nB_2 h k]; exact k)]; exact nB_2 h k
theorem e_3 (h : rE c t x = 0) (k : wE w = 0) (p : ¬ P.chks pr = 0) : (s0 c t x w pr).e = P.chks pr := by rw [s0_1 (by rw [nB_3 h k p]; exact p)]; exact nB_3 h k p
theorem is_op {c : Cl} {w : Wd} (h : Ca.chk c = 0) (k : wE w = 0) : Ca.isV c w.td = decide (Ca.op c w.td = 1) := by
  obtain ⟨d0, _⟩ := wE_ok k
  exact Ca.isV_yes h (by have z := Ca.dchk w.td; unfold Ca.Day at *; omega)
theorem e_4 (h : rE c t x = 0) (k : wE w = 0) (p : P.chks pr = 0) (o : ¬ Ca.isV c w.td = true) : (s0 c t x w pr).e = 4 := by
  have o' : ¬ Ca.op c w.td = 1 := fun z => o (by rw [is_op (rE_ok h).1 k]; exact decide_eq_true z)
  rw [s0_1 (by rw [nB_4 h k p o']; decide)]; exact nB_4 h k p o'
theorem e_o (h : rE c t x = 0) (k : wE w = 0) (o : Ca.isV c w.td = true) : Ca.op c w.td = 1 := by
  rw [is_op (rE_ok h).1 k] at o
  exact of_decide_eq_true o
theorem e_5 (h : rE c t x = 0) (k : wE w = 0) (p : P.chks pr = 0) (o : Ca.isV c w.td = true) (y : ¬ Pn.yD c t w.fs pr w.td = 0) : (s0 c t x w pr).e = Pn.yD c t w.fs pr w.td := by
  have e := nB_5 h k p (e_o h k o)
  rw [s0_1 (by rw [e]; exact y)]; exact e
theorem e_6 (h : rE c t x = 0) (k : wE w = 0) (p : P.chks pr = 0) (o : Ca.isV c w.td = true) (y : Pn.yD c t w.fs pr w.td = 0) (s : ¬ Pn.suE (du c t w pr) = 0) (s' : ¬ Pn.suE (du c t w pr) = 5) : (s0 c t x w pr).e = Pn.suE (du c t w pr) := by
  have e := (nB_5 (pr := pr) h k p (e_o h k o)).trans y
  have q : psE w (du c t w pr) = Pn.suE (du c t w pr) := if_pos ⟨s, s'⟩
  rw [s0_2 e (by rw [q]; exact s)]; exact q
theorem e_7 (h : rE c t x = 0) (k : wE w = 0) (p : P.chks pr = 0) (o : Ca.isV c w.td = true) (y : Pn.yD c t w.fs pr w.td = 0) (s : Pn.suE (du c t w pr) = 0 ∨ Pn.suE (du c t w pr) = 5) (l : ¬ (Pn.suL (du c t w pr)).length = 0) (b : ¬ Bk.pE w.bk (Pn.suL (du c t w pr)) = 0) : (s0 c t x w pr).e = Bk.pE w.bk (Pn.suL (du c t w pr)) := by
  have e := (nB_5 (pr := pr) h k p (e_o h k o)).trans y
  have q : psE w (du c t w pr) = Bk.pE w.bk (Pn.suL (du c t w pr)) := (if_neg (by omega)).trans (if_neg l)
  rw [s0_2 e (by rw [q]; exact b)]; exact q
theorem e_8 (h : rE c t x = 0) (k : wE w = 0) (p : P.chks pr = 0) (o : Ca.isV c w.td = true) (y : Pn.yD c t w.fs pr w.td = 0) (s : Pn.suE (du c t w pr) = 0 ∨ Pn.suE (du c t w pr) = 5) (l : (Pn.suL (du c t w pr)).length = 0 ∨ Bk.pE w.bk (Pn.suL (du c t w pr)) = 0) : (s0 c t x w pr).e = 0 := by
  have e := (nB_5 (pr := pr) h k p (e_o h k o)).trans y
  have q : psE w (du c t w pr) = 0 := by
    unfold psE
    rw [if_neg (by omega)]
    split
    · rfl
    · rcases l with z | z
      · exact absurd z (by assumption)
      · exact z
  rw [s0_3 e q]
end
end Cy
end Go.Proofs.YtpanlcnoopmchaaGreatDoor

namespace Go.Proofs.YtpanlcnoopmchaaGreatDoor
open Go Go.RowKit V
set_option maxHeartbeats 8000000 in
theorem v_night_e (c : Cl) (t : List Tm) (x : Int) (w : Wd) (pr : List Int) (hc : c.hs.length ≤ 9223372036854775807) (ht : t.length ≤ 9223372036854775807) (hb : w.bk.length ≤ 9223372036854775807) (hp : pr.length ≤ 9223372036854775807)
    (hf1 : w.fs.length ≤ 1759218604390) (hb1 : w.bk.length ≤ 5864062014634) (h0 : ¬ (Cy.s0 c t x w pr).e = 0) :
    V.FnR Tryz.prog 6 (nightO c t w pr) [ruV c x, .agg [.val (.int .i64 w.td), .ref 2, .ref 3], .one (.ref 4)] (.tup [.agg [.val (.int .i64 (Cy.nW c t x w pr).td), .ref 5, .ref 6], .one (.ref 7), .one (.val (.int .i64 (Cy.nE c t x w pr)))]) [.row 41 10 (Cy.nW c t x w pr).fs.length (ga encF (Cy.nW c t x w pr).fs), .row 52 3 (Cy.nW c t x w pr).bk.length (ga encP (Cy.nW c t x w pr).bk), .row 52 3 (Cy.nP c t x w pr).length (ga encP (Cy.nP c t x w pr))] := by
  obtain ⟨r1, r2, r3⟩ := Cy.n_bad h0
  rw [r1, r2, r3]
  have cR := v_cyRules c t x hc ht
  have cW := v_cyCheck w hb
  have cP := v_prices pr hp
  have cI := v_caIs c w.td hc
  have cD := v_day c t w.fs pr w.td hc ht hp
  rw [show Pn.yL c t w.fs pr w.td = Cy.du c t w pr from rfl] at cD
  have cS := v_psum (Cy.du c t w pr) (by have := Pn.yL_len c t w.fs pr w.td; unfold Cy.du; omega)
  have sl : (Pn.suL (Cy.du c t w pr)).length ≤ 31 := by
    unfold Pn.suL
    split
    all_goals first | exact Pn.pos_len _ _ | exact Nat.zero_le _
  have cB := v_bkPost w.bk (Pn.suL (Cy.du c t w pr)) hb (by omega)
  have e1 := Cy.e_1 (c := c) (t := t) (x := x) (w := w) (pr := pr)
  have e2 := Cy.e_2 (c := c) (t := t) (x := x) (w := w) (pr := pr)
  have e3 := Cy.e_3 (c := c) (t := t) (x := x) (w := w) (pr := pr)
  have e4 := Cy.e_4 (c := c) (t := t) (x := x) (w := w) (pr := pr)
  have e5 := Cy.e_5 (c := c) (t := t) (x := x) (w := w) (pr := pr)
  have e6 := Cy.e_6 (c := c) (t := t) (x := x) (w := w) (pr := pr)
  have e7 := Cy.e_7 (c := c) (t := t) (x := x) (w := w) (pr := pr)
  have e8 := Cy.e_8 (c := c) (t := t) (x := x) (w := w) (pr := pr)
  generalize Pn.suE (Cy.du c t w pr) = SE at *
  generalize Pn.suL (Cy.du c t w pr) = S at *
  generalize Cy.du c t w pr = D at *
  generalize Bk.pE w.bk S = BE at *
  generalize Bk.pL w.bk S = B1 at *
  generalize Pn.yD c t w.fs pr w.td = YD at *
  generalize Cy.rE c t x = RE at *
  generalize Cy.wE w = WE at *
  generalize P.chks pr = CE at *
  generalize Ca.isV c w.td = IV at *
  generalize (Cy.s0 c t x w pr).e = E0 at *
  by_cases hse : SE = 0
  all_goals (
    refine V.FnR.mk_ V.Tok V.mixed Tryz.func6 rfl Tryz.ntmps6 (by kernel_rfl) rfl rfl rfl rfl ?_
    repeat' ((conv => whnf); first | (refine V.NDraw.any (by kernel_rfl) ?_) | (refine V.NIf.yes ?_ ?_; · (assumption; done)) | (refine V.NIf.no ?_ ?_; · (assumption; done)) | (refine V.NIf.yes ?_ ?_; · (decide; done)) | (refine V.NIf.no ?_ ?_; · (decide; done)) | refine V.NCond.mk ?_ | refine V.NPick.l ?_ | refine V.NIf.not_ ?_ | refine V.NIf.dec_ ?_ | refine V.a4 ?_ | refine V.a5 ?_ | refine V.NIf.mk (fun _ => ?_) (fun _ => ?_) | refine V.a7 ?_ | refine V.a8 ?_ | refine V.a9 ?_ | refine V.NBoth.mk ?_ ?_ | refine V.b1 ?_ | refine V.b2 ?_ | refine V.NTF.dec ?_ | refine V.b3 ?_ | refine V.b4 ?_ | ((first | refine V.FnR.k_ (v_cyOwn w hf1 hb1) [2, 3] rfl ?_ ?_ | refine V.FnR.a_ (v_cyOwn w hf1 hb1) [2, 3] rfl ?_ ?_); · exact V.D_) | ((first | refine V.Fn.k (cR) [0, 1] rfl ?_ ?_ | refine V.Fn.q (cR) [0, 1] rfl ?_ ?_ | refine V.Fn.a (cR) [0, 1] rfl ?_ ?_); · exact V.D_) | ((first | refine V.Fn.k (cW) [2, 3] rfl ?_ ?_ | refine V.Fn.q (cW) [2, 3] rfl ?_ ?_ | refine V.Fn.a (cW) [2, 3] rfl ?_ ?_); · exact V.D_) | ((first | refine V.Fn.k (cP) [4] rfl ?_ ?_ | refine V.Fn.q (cP) [4] rfl ?_ ?_ | refine V.Fn.a (cP) [4] rfl ?_ ?_); · exact V.D_) | ((first | refine V.Fn.k (cI) [0] rfl ?_ ?_ | refine V.Fn.q (cI) [0] rfl ?_ ?_ | refine V.Fn.a (cI) [0] rfl ?_ ?_); · exact V.D_) | (refine V.NCall.inl (f := 25) V.Tok V.mixed Tryz.func25 rfl Tryz.ntmps25 (by kernel_rfl) rfl ?_) | (refine V.NCall.inl (f := 27) V.Tok V.mixed Tryz.func27 rfl Tryz.ntmps27 (by kernel_rfl) rfl ?_) | (refine V.NCall.inl (f := 37) V.Tok V.mixed Tryz.func37 rfl Tryz.ntmps37 (by kernel_rfl) rfl ?_) | ((first | refine V.FnR.k_ (cD) [0, 1, 9, 4] rfl ?_ ?_ | refine V.FnR.a_ (cD) [0, 1, 9, 4] rfl ?_ ?_); · exact V.D_) | ((first | refine V.FnR.k_ (cS) [12] rfl ?_ ?_ | refine V.FnR.a_ (cS) [12] rfl ?_ ?_); · exact V.D_) | ((first | refine V.FnR.k_ (cB) [10, 13] rfl ?_ ?_ | refine V.FnR.a_ (cB) [10, 13] rfl ?_ ?_); · exact V.D_) | (refine NOne.mk ?_ ?_; · (intro k hk; rfl)) | (refine NApp.all_ (by first | omega | (simp; omega)) (by omega) ?_) | (refine V.NDraw.any (by kernel_rfl) ?_) | fail)
    all_goals (conv => whnf)
    all_goals clear cR cW cP cI cD cS cB
    all_goals first
      | exact absurd (e8 (by assumption) (by assumption) (by assumption) (by assumption) (by assumption) (by omega) (by omega)) h0
      | rw [e1 (by assumption)]
      | rw [e2 (by assumption) (by assumption)]
      | rw [e3 (by assumption) (by assumption) (by assumption)]
      | rw [e4 (by assumption) (by assumption) (by assumption) (by assumption)]
      | rw [e5 (by assumption) (by assumption) (by assumption) (by assumption) (by assumption)]
      | rw [e6 (by assumption) (by assumption) (by assumption) (by assumption) (by assumption) (by assumption) (by assumption)]
      | rw [e7 (by assumption) (by assumption) (by assumption) (by assumption) (by assumption) (by omega) (by omega) (by assumption)]
      | trace_state
    all_goals clear e1 e2 e3 e4 e5 e6 e7 e8 h0
    all_goals (
      refine V.NLoop.auto (fun (k : Nat) => [(62, .one (.val (.int .i64 k)))]) (fun (k : Nat) => []) [] [] (fun (k : Nat) => w.fs.length - k) (fun (k : Nat) => k ≤ w.fs.length) 0 (Nat.zero_le _) V.S_ V.S_ (fun _ => ⟨rfl, rfl⟩) ?_; (conv => whnf); refine ⟨⟨rfl, rfl⟩, ?_⟩
      rintro k hk
      by_cases hlt : k < w.fs.length
      · repeat' ((conv => whnf); first | (refine V.NIf.no ?_ ?_; · (assumption; done)) | (refine V.NIf.no ?_ ?_; · (decide; done)) | refine V.NCond.mk ?_ | refine V.NPick.l ?_ | refine V.NIf.not_ ?_ | refine V.NIf.dec_ ?_ | refine V.a4 ?_ | refine V.a5 ?_ | refine V.NIf.mk (fun _ => ?_) (fun _ => ?_) | refine V.a7 ?_ | refine V.a8 ?_ | refine V.a9 ?_ | refine V.NBoth.mk ?_ ?_ | refine V.b1 ?_ | refine V.b2 ?_ | refine V.NTF.dec ?_ | refine V.b3 ?_ | refine V.b4 ?_ | (refine V.NDraw.any (by kernel_rfl) ?_) | fail)
        all_goals (conv => whnf)
        all_goals first
          | exact V.NBack.at_ (k + 1) [] (by omega) (by omega) V.S_ rfl V.S_ V.S_ V.S_
          | trace_state
      · obtain rfl : k = w.fs.length := by omega
        repeat' ((conv => whnf); first | (refine V.NIf.no ?_ ?_; · (assumption; done)) | (refine V.NIf.no ?_ ?_; · (decide; done)) | refine V.NCond.mk ?_ | refine V.NPick.l ?_ | refine V.NIf.not_ ?_ | refine V.NIf.dec_ ?_ | refine V.a4 ?_ | refine V.a5 ?_ | refine V.NIf.mk (fun _ => ?_) (fun _ => ?_) | refine V.a7 ?_ | refine V.a8 ?_ | refine V.a9 ?_ | refine V.NBoth.mk ?_ ?_ | refine V.b1 ?_ | refine V.b2 ?_ | refine V.NTF.dec ?_ | refine V.b3 ?_ | refine V.b4 ?_ | (refine V.NCall.inl (f := 29) V.Tok V.mixed Tryz.func29 rfl Tryz.ntmps29 (by kernel_rfl) rfl ?_) | (refine V.NDraw.any (by kernel_rfl) ?_) | fail)
        all_goals (conv => whnf)
        all_goals first
          | exact V.er000
          | trace_state))
end Go.Proofs.YtpanlcnoopmchaaGreatDoor

namespace Go.Proofs.YtpanlcnoopmchaaGreatDoor
open Go Go.RowKit V
theorem v_night (c : Cl) (t : List Tm) (x : Int) (w : Wd) (pr : List Int) (hc : c.hs.length ≤ 9223372036854775807) (ht : t.length ≤ 9223372036854775807) (hp : pr.length ≤ 9223372036854775807) (hf1 : w.fs.length ≤ 1759218604390) (hb1 : w.bk.length ≤ 5864062014634) :
    V.FnR Tryz.prog 6 (nightO c t w pr) [ruV c x, .agg [.val (.int .i64 w.td), .ref 2, .ref 3], .one (.ref 4)] (.tup [.agg [.val (.int .i64 (Cy.nW c t x w pr).td), .ref 5, .ref 6], .one (.ref 7), .one (.val (.int .i64 (Cy.nE c t x w pr)))]) [.row 41 10 (Cy.nW c t x w pr).fs.length (ga encF (Cy.nW c t x w pr).fs), .row 52 3 (Cy.nW c t x w pr).bk.length (ga encP (Cy.nW c t x w pr).bk), .row 52 3 (Cy.nP c t x w pr).length (ga encP (Cy.nP c t x w pr))] := by
  by_cases h0 : (Cy.s0 c t x w pr).e = 0
  · by_cases hS : (Pn.suL (Cy.du c t w pr)).length = 0
    · exact v_night_a c t x w pr hc ht (by omega) hp h0 hS
    · exact v_night_b c t x w pr hc ht (by omega) hp h0 hS
  · exact v_night_e c t x w pr hc ht (by omega) hp hf1 hb1 h0
end Go.Proofs.YtpanlcnoopmchaaGreatDoor

namespace Go.Proofs.YtpanlcnoopmchaaGreatDoor.V
open Go Go.RowKit
theorem Ats.nilf {ρ : Rho} {nx : Nat} (hx : ρ nx = none) : ∀ {l : List At} {cs : List Value} {i : Nat}, l[i]? = some (.val (.slice none 0 0)) → Ats ρ l cs → Ats (upd ρ nx (.slice none 0 0)) (l.set i (.ref nx)) cs
  | [], _, i, h, _ => by simp at h
  | a :: l, _, 0, h, ⟨u, r, e, ha, hr⟩ => by
    have ea : a = .val (.slice none 0 0) := by simpa using h
    subst ea
    have eu : u = .slice none 0 0 := ha
    subst eu
    exact ⟨_, r, e, ⟨upd_same _ _ _, rfl⟩, hr.ext (ext_upd hx)⟩
  | a :: l, _, i + 1, h, ⟨u, r, e, ha, hr⟩ => ⟨u, r, e, At.is_ext (ext_upd hx) ha, Ats.nilf hx (by simpa using h) hr⟩
theorem Svs.nilf {ρ : Rho} {nx : Nat} (hx : ρ nx = none) {c : List At} {i : Nat} (hi : c[i]? = some (.val (.slice none 0 0))) : ∀ {args : List SV} {xs : List Value} {j : Nat}, args[j]? = some (.agg c) → Svs ρ args xs → Svs (upd ρ nx (.slice none 0 0)) (args.set j (.agg (c.set i (.ref nx)))) xs
  | [], _, j, h, _ => by simp at h
  | a :: l, _, 0, h, ⟨u, r, e, ha, hr⟩ => by
    have ea : a = .agg c := by simpa using h
    subst ea
    obtain ⟨cs, hc, ex⟩ := ha
    exact ⟨u, r, e, ⟨cs, Ats.nilf hx hi hc, ex⟩, Svs.ext (ext_upd hx) hr⟩
  | a :: l, _, j + 1, h, ⟨u, r, e, ha, hr⟩ => ⟨u, r, e, SV.is1_ext (ext_upd hx) ha, Svs.nilf hx hi (by simpa using h) hr⟩
theorem NCall.nilf {P : Program} {f : FuncId} {args : List SV} {obs : Obs} {nx : Nat} {K : SV → Obs → Nat → Prop} (j i s : Nat) (c : List At) (e : args[j]? = some (.agg c)) (hi : c[i]? = some (.val (.slice none 0 0))) (h : NCall P f (args.set j (.agg (c.set i (.ref nx)))) ((nx, .arr s 0 fun _ => []) :: obs) (nx + 1) K) : NCall P f args obs nx K := by
  refine ⟨h.b, fun B ρ w xs hC ha => ?_⟩
  have hx := hC.new nx (Nat.le_refl _)
  have hC' := hC.more (v := .slice none 0 0) (o := .arr s 0 fun _ => []) (Below.refl _ _) ⟨_, upd_same _ _ _, none, 0, rfl, by omega, by omega, fun k hk => by omega⟩ (fun b hf => by simp [foot] at hf)
  refine (h.h B _ w xs hC' (Svs.nilf hx hi e ha)).mono ?_
  rintro e w' ⟨v, obs', nx', ρ', x, hK, hE, r⟩
  exact ⟨v, obs', nx', ρ', x, hK, fun i y hy => hE i y (by have : i ≠ nx := fun q => (by rw [q, hx] at hy; cases hy); simpa [upd, this] using hy), r⟩
end Go.Proofs.YtpanlcnoopmchaaGreatDoor.V

namespace Go.Proofs.YtpanlcnoopmchaaGreatDoor
open Go Go.RowKit V
end Go.Proofs.YtpanlcnoopmchaaGreatDoor

namespace Go.Proofs.YtpanlcnoopmchaaGreatDoor
open Go Go.RowKit V
theorem v_someTerms : V.Fn Tryz.prog 61 [] [] (.agg #[.int .i64 4, .int .i64 7, .int .i64 2, .int .i64 100]) := by
  refine V.Fn.mk_ V.Tok V.mixed Tryz.func61 rfl Tryz.ntmps61 (by kernel_rfl) rfl rfl ?_
  repeat' ((conv => whnf); first | refine V.NCond.mk ?_ | refine V.NPick.l ?_ | refine V.NIf.not_ ?_ | refine V.NIf.dec_ ?_ | refine V.a4 ?_ | refine V.a5 ?_ | refine V.NIf.mk (fun _ => ?_) (fun _ => ?_) | refine V.a7 ?_ | refine V.a8 ?_ | refine V.a9 ?_ | refine V.NBoth.mk ?_ ?_ | refine V.b1 ?_ | refine V.b2 ?_ | refine V.NTF.dec ?_ | refine V.b3 ?_ | refine V.b4 ?_ | (refine V.NDraw.any (by kernel_rfl) ?_) | fail)
  all_goals (conv => whnf)
  all_goals exact ⟨rfl, rfl, rfl, rfl, trivial⟩
end Go.Proofs.YtpanlcnoopmchaaGreatDoor

namespace Go.Proofs.YtpanlcnoopmchaaGreatDoor
open Go Go.RowKit V
def tm0 : Tm := ⟨4, 7, 2, 100⟩
namespace Pn
def cls : List Tm := List.replicate 6 tm0
def tens : List Int := List.replicate 20 100000
theorem rep_at {α : Type} (x d : α) {n j : Nat} (h : j < n) : (List.replicate n x).getD j d = x := by simp [List.getD, h]
end Pn
theorem v_classes : V.FnR Tryz.prog 39 [] [] (.one (.ref 0)) [.row 99 4 6 (ga encTm Pn.cls)] := by
  refine V.FnR.mk_ V.Tok V.mixed Tryz.func39 rfl Tryz.ntmps39 (by kernel_rfl) rfl rfl rfl rfl ?_
  repeat' ((conv => whnf); first | refine V.NCond.mk ?_ | refine V.NPick.l ?_ | refine V.NIf.not_ ?_ | refine V.NIf.dec_ ?_ | refine V.a4 ?_ | refine V.a5 ?_ | refine V.NIf.mk (fun _ => ?_) (fun _ => ?_) | refine V.a7 ?_ | refine V.a8 ?_ | refine V.a9 ?_ | refine V.NBoth.mk ?_ ?_ | refine V.b1 ?_ | refine V.b2 ?_ | refine V.NTF.dec ?_ | refine V.b3 ?_ | refine V.b4 ?_ | (refine NMake.mk ⟨6, 6, rfl, rfl, by omega, by omega, by first | omega | decide | (simp; done) | (simp; omega), ?_⟩) | (refine V.NDraw.any (by kernel_rfl) ?_) | fail)
  all_goals (conv => whnf)
  refine V.NLoop.auto (fun (k : Nat) => [(2, .one (.val (.int .i64 k))), (1, .one (.ref 1))]) (fun (k : Nat) => [(1, .row 99 4 6 fun j => encTm (if j < k then tm0 else (⟨0, 0, 0, 0⟩ : Tm)))]) [] [] (fun (k : Nat) => 6 - k) (fun (k : Nat) => k ≤ 6) 0 (Nat.zero_le _) V.S_ (by (conv => whnf); exact ⟨⟨rfl, rfl, rfl, fun j hj => (congrArg encTm (show (if j < 0 then tm0 else (⟨0, 0, 0, 0⟩ : Tm)) = ⟨0, 0, 0, 0⟩ from if_neg (Nat.not_lt_zero j))).symm⟩, trivial⟩) (fun _ => ⟨rfl, rfl⟩) ?_; (conv => whnf); refine ⟨⟨rfl, rfl⟩, ?_⟩
  rintro k hk
  by_cases hlt : k < 6
  · repeat' ((conv => whnf); first | refine V.NCond.mk ?_ | refine V.NPick.l ?_ | refine V.NIf.not_ ?_ | refine V.NIf.dec_ ?_ | refine V.a4 ?_ | refine V.a5 ?_ | refine V.NIf.mk (fun _ => ?_) (fun _ => ?_) | refine V.a7 ?_ | refine V.a8 ?_ | refine V.a9 ?_ | refine V.NBoth.mk ?_ ?_ | refine V.b1 ?_ | refine V.b2 ?_ | refine V.NTF.dec ?_ | refine V.b3 ?_ | refine V.b4 ?_ | (first | refine V.Fn.k0 (v_someTerms) rfl ?_ | refine V.Fn.q0 (v_someTerms) rfl ?_ | refine V.Fn.a0 (v_someTerms) rfl ?_) | (refine NIdx.mk ⟨k, rfl, by omega, ?_⟩) | (refine NPut.mk ⟨fun j => encTm (if j < k + 1 then tm0 else (⟨0, 0, 0, 0⟩ : Tm)), ?_, ?_⟩) | (refine V.NDraw.any (by kernel_rfl) ?_) | fail)
    all_goals (conv => whnf)
    · intro j hj
      by_cases e : j = k
      · rw [if_pos e]; exact congrArg encTm (if_pos (by omega))
      · rw [if_neg e]
        by_cases e2 : j < k
        · exact congrArg encTm ((if_pos (by omega)).trans (if_pos e2).symm)
        · exact congrArg encTm ((if_neg (by omega)).trans (if_neg e2).symm)
    · exact V.NBack.at_ (k + 1) [] (by omega) (by omega) V.S_ rfl ⟨⟨rfl, rfl, rfl, fun _ _ => rfl⟩, trivial⟩ V.S_ V.S_
  obtain rfl : k = 6 := by omega
  repeat' ((conv => whnf); first | refine V.NCond.mk ?_ | refine V.NPick.l ?_ | refine V.NIf.not_ ?_ | refine V.NIf.dec_ ?_ | refine V.a4 ?_ | refine V.a5 ?_ | refine V.NIf.mk (fun _ => ?_) (fun _ => ?_) | refine V.a7 ?_ | refine V.a8 ?_ | refine V.a9 ?_ | refine V.NBoth.mk ?_ ?_ | refine V.b1 ?_ | refine V.b2 ?_ | refine V.NTF.dec ?_ | refine V.b3 ?_ | refine V.b4 ?_ | (refine V.NDraw.any (by kernel_rfl) ?_) | fail)
  all_goals (conv => whnf)
  exact NRet.mk_ [some 1] rfl rfl ⟨⟨rfl, rfl, rfl, fun j hj => congrArg encTm ((if_pos hj).trans (Pn.rep_at tm0 default hj).symm)⟩, trivial⟩
theorem v_tenEach : V.FnR Tryz.prog 13 [] [] (.one (.ref 0)) [.row 3 1 20 (ga e1 Pn.tens)] := by
  refine V.FnR.mk_ V.Tok V.mixed Tryz.func13 rfl Tryz.ntmps13 (by kernel_rfl) rfl rfl rfl rfl ?_
  repeat' ((conv => whnf); first | refine V.NCond.mk ?_ | refine V.NPick.l ?_ | refine V.NIf.not_ ?_ | refine V.NIf.dec_ ?_ | refine V.a4 ?_ | refine V.a5 ?_ | refine V.NIf.mk (fun _ => ?_) (fun _ => ?_) | refine V.a7 ?_ | refine V.a8 ?_ | refine V.a9 ?_ | refine V.NBoth.mk ?_ ?_ | refine V.b1 ?_ | refine V.b2 ?_ | refine V.NTF.dec ?_ | refine V.b3 ?_ | refine V.b4 ?_ | (refine NMake.mk ⟨20, 20, rfl, rfl, by omega, by omega, by first | omega | decide | (simp; done) | (simp; omega), ?_⟩) | (refine V.NDraw.any (by kernel_rfl) ?_) | fail)
  all_goals (conv => whnf)
  refine V.NLoop.auto (fun (k : Nat) => [(2, .one (.val (.int .i64 k))), (1, .one (.ref 1))]) (fun (k : Nat) => [(1, .row 3 1 20 fun j => e1 (if j < k then 100000 else 0))]) [] [] (fun (k : Nat) => 20 - k) (fun (k : Nat) => k ≤ 20) 0 (Nat.zero_le _) V.S_ (by (conv => whnf); exact ⟨⟨rfl, rfl, rfl, fun j hj => (congrArg e1 (if_neg (Nat.not_lt_zero j))).symm⟩, trivial⟩) (fun _ => ⟨rfl, rfl⟩) ?_; (conv => whnf); refine ⟨⟨rfl, rfl⟩, ?_⟩
  rintro k hk
  by_cases hlt : k < 20
  · repeat' ((conv => whnf); first | refine V.NCond.mk ?_ | refine V.NPick.l ?_ | refine V.NIf.not_ ?_ | refine V.NIf.dec_ ?_ | refine V.a4 ?_ | refine V.a5 ?_ | refine V.NIf.mk (fun _ => ?_) (fun _ => ?_) | refine V.a7 ?_ | refine V.a8 ?_ | refine V.a9 ?_ | refine V.NBoth.mk ?_ ?_ | refine V.b1 ?_ | refine V.b2 ?_ | refine V.NTF.dec ?_ | refine V.b3 ?_ | refine V.b4 ?_ | (refine NIdx.mk ⟨k, rfl, by omega, ?_⟩) | (refine NPut.mk ⟨fun j => e1 (if j < k + 1 then 100000 else 0), ?_, ?_⟩) | (refine V.NDraw.any (by kernel_rfl) ?_) | fail)
    all_goals (conv => whnf)
    · intro j hj
      by_cases e : j = k
      · rw [if_pos e]; exact congrArg e1 (if_pos (by omega))
      · rw [if_neg e]
        by_cases e2 : j < k
        · exact congrArg e1 ((if_pos (by omega)).trans (if_pos e2).symm)
        · exact congrArg e1 ((if_neg (by omega)).trans (if_neg e2).symm)
    · exact V.NBack.at_ (k + 1) [] (by omega) (by omega) V.S_ rfl ⟨⟨rfl, rfl, rfl, fun _ _ => rfl⟩, trivial⟩ V.S_ V.S_
  obtain rfl : k = 20 := by omega
  repeat' ((conv => whnf); first | refine V.NCond.mk ?_ | refine V.NPick.l ?_ | refine V.NIf.not_ ?_ | refine V.NIf.dec_ ?_ | refine V.a4 ?_ | refine V.a5 ?_ | refine V.NIf.mk (fun _ => ?_) (fun _ => ?_) | refine V.a7 ?_ | refine V.a8 ?_ | refine V.a9 ?_ | refine V.NBoth.mk ?_ ?_ | refine V.b1 ?_ | refine V.b2 ?_ | refine V.NTF.dec ?_ | refine V.b3 ?_ | refine V.b4 ?_ | (refine V.NDraw.any (by kernel_rfl) ?_) | fail)
  all_goals (conv => whnf)
  exact NRet.mk_ [some 1] rfl rfl ⟨⟨rfl, rfl, rfl, fun j hj => congrArg e1 ((if_pos hj).trans (Pn.rep_at 100000 default hj).symm)⟩, trivial⟩
end Go.Proofs.YtpanlcnoopmchaaGreatDoor

namespace Go.Proofs.YtpanlcnoopmchaaGreatDoor
namespace Pn
def f1 : Fl := ⟨7, 1, 2, 0, 3, 739935, 3000, 0, 0, 0⟩
def d1 : List Du := [⟨1, 2, 3⟩]
theorem t_cls : tE cls = 0 := tE_of (by decide) fun x hx => by rw [List.eq_of_mem_replicate hx]; decide
theorem p_tens : P.chks tens = 0 := P.chks_of (by decide) fun p hp => by rw [List.eq_of_mem_replicate hp]; decide
theorem w_chk : Ca.chk Ca.W = 0 := by decide
theorem o_yes : oE Ca.W 739937 = 0 := oE_yes w_chk ⟨by decide, by decide⟩
theorem o_no : oE Ca.W 739936 = 4 := oE_4 w_chk (by decide) (by decide)
end Pn
end Go.Proofs.YtpanlcnoopmchaaGreatDoor

namespace Go.Proofs.YtpanlcnoopmchaaGreatDoor
namespace Cy
open Pn (f1 cls tens)
def w0 : Wd := ⟨739935, [], []⟩
def w1 : Wd := ⟨739935, [f1], []⟩
def f2 : Fl := ⟨7, 1, 2, 0, 3, 739935, 3000, 1000, 0, 0⟩
def f3 : Fl := ⟨7, 1, 2, 0, 3, 739935, 3000, 1000, 0, 2000⟩
def k2 : List Po := [⟨1, 3, -1000⟩, ⟨2, 3, 1000⟩]
def k3 : List Po := [⟨1, 0, -2⟩, ⟨1, 3, -1000⟩, ⟨2, 0, 2⟩, ⟨2, 3, 1000⟩]
def k4 : List Po := [⟨1, 0, -4⟩, ⟨1, 3, -1000⟩, ⟨2, 0, 4⟩, ⟨2, 3, 1000⟩]
def k5 : List Po := [⟨1, 0, -20004⟩, ⟨1, 3, -1000⟩, ⟨2, 0, 20004⟩, ⟨2, 3, 1000⟩]
def w3 : Wd := ⟨739937, [f2], k2⟩
def w4 : Wd := ⟨739956, [f2], k3⟩
def w5 : Wd := ⟨739957, [f3], k5⟩
def du0 : List Du := [⟨1, 2, 2⟩]
def su0 : List Po := [⟨1, 0, -2⟩, ⟨2, 0, 2⟩]
theorem b_add : adE w0 f1 = 0 := by kernel_rfl
theorem b_addW : adW w0 f1 = w1 := adW_yes b_add
theorem b_dv : dvE w1 7 1000 = 0 := by kernel_rfl
theorem b_dvK : Bk.pL [] (Cp.mvd 1 2 3 1000) = k2 := by kernel_rfl
theorem b_dvW : dvW w1 7 1000 = ⟨739935, [f2], k2⟩ := (dvW_yes b_dv).trans (wd_ext rfl rfl b_dvK)
theorem b_dn : dvE w1 8 1 = 5 := by kernel_rfl
theorem b_wz : wE zw = 0 := by kernel_rfl
theorem b_rz : rE ⟨0, []⟩ [] 0 = 1 := by kernel_rfl
theorem b_w3 : wE w3 = 0 := by kernel_rfl
theorem b_w4 : wE w4 = 0 := by kernel_rfl
theorem b_w5 : wE w5 = 0 := by kernel_rfl
theorem b_r : rE Ca.W cls 0 = 0 := rE_4 Pn.w_chk Pn.t_cls (by decide)
theorem b_o3 : Ca.op Ca.W 739937 = 1 := by decide
theorem b_o4 : Ca.op Ca.W 739956 = 1 := by decide
theorem b_cl : Pn.cl cls f2 = Ag.A := Pn.rep_at tm0 default (by decide)
theorem b_e3 : Ag.sE Ca.W Ag.A f2 739937 = 0 := Ag.sE_of (by decide) (by decide) (by decide) (by decide) (by exact Ag.a_th)
theorem b_e4 : Ag.sE Ca.W Ag.A f2 739956 = 0 := Ag.sE_of (by decide) (by decide) (by decide) (by decide) (by exact Ag.a_th)
theorem b_s3 : Ag.stg Ca.W Ag.A f2 739937 = 1 := ((Ag.stg_is b_e3).2 (by decide)).2.1 (by decide) (by rw [show f2.day = 739935 from rfl, Ag.a_1]; decide)
theorem b_q : Pn.qF cls tens f2 = 2 := by
  show Pn.cs (F.left f2) (P.pr tens f2.pa) (Pn.cl cls f2).ra = 2
  rw [show F.left f2 = 2000 by decide, show P.pr tens f2.pa = 100000 from Pn.rep_at 100000 default (by decide), b_cl]
  decide
theorem b_s4 : Ag.stg Ca.W Ag.A f2 739956 = 4 := ((Ag.stg_is b_e4).2 (by decide)).2.2.2.2 (by rw [show f2.day = 739935 from rfl, Ag.a_3]; decide)
theorem b_su : Pn.suE du0 = 0 ∧ Pn.suL du0 = su0 := by decide
theorem b_y (n : Int) (h : Ca.Day n) (o : Ca.op Ca.W n = 1) (s : Ag.sE Ca.W Ag.A f2 n = 0) (g : 1 ≤ Ag.stg Ca.W Ag.A f2 n ∧ Ag.stg Ca.W Ag.A f2 n ≤ 4) : Pn.yD Ca.W cls [f2] tens n = 0 ∧ Pn.yL Ca.W cls [f2] tens n = du0 := by
  have e : Pn.eF Ca.W cls n f2 = 0 := by show Ag.sE Ca.W (Pn.cl cls f2) f2 n = 0; rw [b_cl]; exact s
  have y := Pn.y_yes (c := Ca.W) (t := cls) (l := [f2]) (ps := tens) (n := n) (Pn.yE_of ⟨Pn.w_chk, Pn.t_cls, by decide, Pn.p_tens, Pn.oE_yes Pn.w_chk ⟨h, o⟩⟩) (fb_yes fun d hd => by rw [List.mem_singleton] at hd; rw [hd]; exact e)
  refine ⟨y.1, y.2.trans ?_⟩
  show Pn.du1 Ca.W cls tens n f2 ++ [] = du0
  rw [Pn.du1_yes (by rw [b_cl]; exact (Pn.late_iff s).2 g) (by rw [b_q]; decide), b_q]
  rfl
theorem b_s0 (w : Wd) (K : List Po) (hw : wE w = 0) (hf : w.fs = [f2]) (o : Ca.op Ca.W w.td = 1) (s : Ag.sE Ca.W Ag.A f2 w.td = 0) (g : 1 ≤ Ag.stg Ca.W Ag.A f2 w.td ∧ Ag.stg Ca.W Ag.A f2 w.td ≤ 4) (h : Ca.Day w.td) (e : Bk.pE w.bk su0 = 0) (k : Bk.pL w.bk su0 = K) : s0 Ca.W cls 0 w tens = ⟨[], K, su0, 0⟩ := by
  obtain ⟨y1, y2⟩ := b_y w.td h o s g
  have d : du Ca.W cls w tens = du0 := by unfold du; rw [hf]; exact y2
  have n : nB Ca.W cls 0 w tens = 0 := (nB_5 b_r hw Pn.p_tens o).trans (by rw [hf]; exact y1)
  have p : psE w (du Ca.W cls w tens) = 0 := by
    rw [d]
    unfold psE
    rw [b_su.1, b_su.2, if_neg (by decide), if_neg (by decide)]
    exact e
  rw [s0_3 n p, d]
  unfold psB
  rw [b_su.2, if_neg (by decide), k]
theorem b_pE3 : Bk.pE k2 su0 = 0 := by kernel_rfl
theorem b_pL3 : Bk.pL k2 su0 = k3 := by kernel_rfl
theorem b_pE4 : Bk.pE k3 su0 = 0 := by kernel_rfl
theorem b_pL4 : Bk.pL k3 su0 = k4 := by kernel_rfl
theorem b_pay : Cp.pE f2 100000 0 = 0 ∧ Cp.pF f2 100000 0 = f3 ∧ Cp.pL f2 100000 0 = [⟨1, 0, -20000⟩, ⟨2, 0, 20000⟩] := ⟨by decide, by kernel_rfl, by decide⟩
theorem b_pE5 : Bk.pE k4 [⟨1, 0, -20000⟩, ⟨2, 0, 20000⟩] = 0 := by kernel_rfl
theorem b_pL5 : Bk.pL k4 [⟨1, 0, -20000⟩, ⟨2, 0, 20000⟩] = k5 := by kernel_rfl
theorem b_st3 : Ca.sV Ca.W 739937 1 = 739938 ∧ Ca.sE Ca.W 739937 1 = 0 := by
  have s : Ca.stp Ca.W 739937 1 = 739938 := (Ca.stp_p (by decide)).trans (Ca.stU_is (by unfold Ca.Up; decide))
  obtain ⟨a, b⟩ := Ca.sE_of (c := Ca.W) (n := 739937) (m := 1) Ca.w0 (by decide) (by decide) (by rw [s]; decide)
  exact ⟨b.trans s, a⟩
theorem b_st4 : Ca.sV Ca.W 739956 1 = 739957 ∧ Ca.sE Ca.W 739956 1 = 0 := by
  have s : Ca.stp Ca.W 739956 1 = 739957 := (Ca.stp_p (by decide)).trans (Ca.stU_is (by unfold Ca.Up; decide))
  obtain ⟨a, b⟩ := Ca.sE_of (c := Ca.W) (n := 739956) (m := 1) Ca.w0 (by decide) (by decide) (by rw [s]; decide)
  exact ⟨b.trans s, a⟩
theorem b_n3 : nE Ca.W cls 0 w3 tens = 0 ∧ nW Ca.W cls 0 w3 tens = ⟨739938, [f2], k3⟩ ∧ nP Ca.W cls 0 w3 tens = su0 := by
  have a := b_s0 w3 k3 b_w3 rfl b_o3 b_e3 (by rw [show w3.td = 739937 from rfl, b_s3]; decide) (by decide) b_pE3 b_pL3
  have r : s1 Ca.W cls 0 w3 tens = ⟨[f2], k3, su0, 0⟩ := by
    unfold s1
    rw [a]
    show one Ca.W cls 0 tens 739937 ⟨[], k3, su0, 0⟩ f2 = _
    rw [one_1 rfl (by rw [b_cl, b_s3]; decide)]
    rfl
  obtain ⟨x1, x2, x3⟩ := n_yes (c := Ca.W) (t := cls) (x := 0) (w := w3) (pr := tens) (by rw [r]) b_st3.2
  rw [r] at x2 x3
  exact ⟨x1, x2.trans (wd_ext b_st3.1 rfl rfl), x3⟩
theorem b_n4 : nE Ca.W cls 0 w4 tens = 0 ∧ nW Ca.W cls 0 w4 tens = w5 ∧ nP Ca.W cls 0 w4 tens = su0 ++ [⟨1, 0, -20000⟩, ⟨2, 0, 20000⟩] := by
  have a := b_s0 w4 k4 b_w4 rfl b_o4 b_e4 (by rw [show w4.td = 739956 from rfl, b_s4]; decide) (by decide) b_pE4 b_pL4
  have pr3 : P.pr tens f2.pa = 100000 := Pn.rep_at 100000 default (by decide)
  have r : s1 Ca.W cls 0 w4 tens = ⟨[f3], k5, su0 ++ [⟨1, 0, -20000⟩, ⟨2, 0, 20000⟩], 0⟩ := by
    unfold s1
    rw [a]
    show one Ca.W cls 0 tens 739956 ⟨[], k4, su0, 0⟩ f2 = _
    rw [one_5 rfl (by rw [b_cl]; exact b_s4) (by rw [pr3]; exact b_pay.1) (by rw [pr3, b_pay.2.2]; decide) (by rw [pr3, b_pay.2.2]; exact b_pE5), pr3, b_pay.2.1, b_pay.2.2, b_pL5]
    rfl
  obtain ⟨x1, x2, x3⟩ := n_yes (c := Ca.W) (t := cls) (x := 0) (w := w4) (pr := tens) (by rw [r]) b_st4.2
  rw [r] at x2 x3
  exact ⟨x1, x2.trans (wd_ext b_st4.1 rfl rfl), x3⟩
theorem b_ty : tyW w5 = ⟨739957, [], k5⟩ ∧ tyO w5 = [f3] := by
  obtain ⟨a, b⟩ := ty_yes b_w5
  exact ⟨a.trans (wd_ext rfl (by decide) rfl), b.trans (by decide)⟩
end Cy
end Go.Proofs.YtpanlcnoopmchaaGreatDoor

namespace Go.Proofs.YtpanlcnoopmchaaGreatDoor
open Go Go.RowKit V
theorem v_week : V.FnR Tryz.prog 19 [] [] (.agg [.val (.int .i64 96), .ref 0]) [.row 3 1 1 (ga e1 [739936])] := by
  refine V.FnR.mk_ V.Tok V.mixed Tryz.func19 rfl Tryz.ntmps19 (by kernel_rfl) rfl rfl rfl rfl ?_
  repeat' ((conv => whnf); first | refine V.NCond.mk ?_ | refine V.NPick.l ?_ | refine V.NIf.not_ ?_ | refine V.NIf.dec_ ?_ | refine V.a4 ?_ | refine V.a5 ?_ | refine V.NIf.mk (fun _ => ?_) (fun _ => ?_) | refine V.a7 ?_ | refine V.a8 ?_ | refine V.a9 ?_ | refine V.NBoth.mk ?_ ?_ | refine V.b1 ?_ | refine V.b2 ?_ | refine V.NTF.dec ?_ | refine V.b3 ?_ | refine V.b4 ?_ | (refine V.NDraw.any (by kernel_rfl) ?_) | fail)
  all_goals (conv => whnf)
  exact NRet.mk_ [some 1] rfl ⟨rfl, rfl, trivial⟩ ⟨⟨rfl, rfl, rfl, Nat.one_pos, V.S_⟩, trivial⟩
end Go.Proofs.YtpanlcnoopmchaaGreatDoor

namespace Go.Proofs.YtpanlcnoopmchaaGreatDoor
open Go Go.RowKit V
theorem v_someRules : V.FnR Tryz.prog 12 [] [] (.agg [.val (.int .i64 96), .ref 0, .ref 1, .val (.int .i64 0)]) [.row 3 1 1 (ga e1 [739936]), .row 99 4 6 (ga encTm Pn.cls)] := by
  refine V.FnR.mk_ V.Tok V.mixed Tryz.func12 rfl Tryz.ntmps12 (by kernel_rfl) rfl rfl rfl rfl ?_
  repeat' ((conv => whnf); first | refine V.NCond.mk ?_ | refine V.NPick.l ?_ | refine V.NIf.not_ ?_ | refine V.NIf.dec_ ?_ | refine V.a4 ?_ | refine V.a5 ?_ | refine V.NIf.mk (fun _ => ?_) (fun _ => ?_) | refine V.a7 ?_ | refine V.a8 ?_ | refine V.a9 ?_ | refine V.NBoth.mk ?_ ?_ | refine V.b1 ?_ | refine V.b2 ?_ | refine V.NTF.dec ?_ | refine V.b3 ?_ | refine V.b4 ?_ | (first | refine V.FnR.k0 (v_week) rfl ?_ | refine V.FnR.a0 (v_week) rfl ?_) | (first | refine V.FnR.k0 (v_classes) rfl ?_ | refine V.FnR.a0 (v_classes) rfl ?_) | (refine V.NDraw.any (by kernel_rfl) ?_) | fail)
  all_goals (conv => whnf)
  all_goals first
    | exact V.er2 1 2
    | exact V.er2 2 1
    | trace_state
set_option maxHeartbeats 8000000 in
theorem v_cyBegun : V.Fn Tryz.prog 4 [] [] (.bool true) := by
  have cA := v_cyAdd Cy.w0 Pn.f1 (by decide)
  rw [Cy.b_add, Cy.b_addW] at cA
  have cD := v_cyDeliver Cy.w1 7 1000 (by decide)
  rw [Cy.b_dv, Cy.b_dvW] at cD
  have cN := v_night Ca.W Pn.cls 0 Cy.w3 Pn.tens (by decide) (by decide) (by decide) (by decide) (by decide)
  rw [Cy.b_n3.1, Cy.b_n3.2.1, Cy.b_n3.2.2] at cN
  have cM := v_night Ca.W Pn.cls 0 Cy.w4 Pn.tens (by decide) (by decide) (by decide) (by decide) (by decide)
  rw [Cy.b_n4.1, Cy.b_n4.2.1, Cy.b_n4.2.2] at cM
  have cT := v_cyTidy Cy.w5 (by decide)
  rw [Cy.b_ty.1, Cy.b_ty.2, Cy.b_w5] at cT
  have cE := v_cyDeliver Cy.w1 8 1 (by decide)
  rw [Cy.b_dn, Cy.dvW_no (by rw [Cy.b_dn]; decide)] at cE
  have cS := v_sameposts Cy.su0 Cy.su0 (by decide)
  rw [show decide (Cy.su0 = Cy.su0) = true from decide_eq_true rfl] at cS
  have cC := v_cyCheck Cy.zw (by decide)
  rw [Cy.b_wz] at cC
  have cR := v_cyRules ⟨0, []⟩ [] 0 (by decide) (by decide)
  rw [Cy.b_rz] at cR
  refine V.Fn.mk_ V.Tok V.mixed Tryz.func4 rfl Tryz.ntmps4 (by kernel_rfl) rfl rfl ?_
  repeat' ((conv => whnf); first | (refine V.NDraw.any (by kernel_rfl) ?_) | (refine V.NIf.yes ?_ ?_; · (decide; done)) | (refine V.NIf.no ?_ ?_; · (decide; done)) | refine V.NCond.mk ?_ | refine V.NPick.l ?_ | refine V.NIf.not_ ?_ | refine V.NIf.dec_ ?_ | refine V.a4 ?_ | refine V.a5 ?_ | refine V.NIf.mk (fun _ => ?_) (fun _ => ?_) | refine V.a7 ?_ | refine V.a8 ?_ | refine V.a9 ?_ | refine V.NBoth.mk ?_ ?_ | refine V.b1 ?_ | refine V.b2 ?_ | refine V.NTF.dec ?_ | refine V.b3 ?_ | refine V.b4 ?_ | (first | refine V.Fn.k0 (v_some) rfl ?_ | refine V.Fn.q0 (v_some) rfl ?_ | refine V.Fn.a0 (v_some) rfl ?_) | (refine V.NCall.nilf (f := 10) 0 1 10 _ rfl rfl ?_) | (refine V.NCall.nilf (f := 10) 0 2 3 _ rfl rfl ?_) | ((first | refine V.FnR.k_ (cA) [1, 2] rfl ?_ ?_ | refine V.FnR.a_ (cA) [1, 2] rfl ?_ ?_); · exact V.D_) | ((first | refine V.FnR.k_ (cD) [3, 4] rfl ?_ ?_ | refine V.FnR.a_ (cD) [3, 4] rfl ?_ ?_); · exact V.D_) | (first | refine V.FnR.k0 (v_someRules) rfl ?_ | refine V.FnR.a0 (v_someRules) rfl ?_) | (first | refine V.FnR.k0 (v_tenEach) rfl ?_ | refine V.FnR.a0 (v_tenEach) rfl ?_) | ((first | refine V.FnR.k_ (cN) [9, 10, 6, 7, 11] rfl ?_ ?_ | refine V.FnR.a_ (cN) [9, 10, 6, 7, 11] rfl ?_ ?_); · exact V.D_) | ((first | refine V.FnR.k_ (cN) [9, 10, 6, 7, 12] rfl ?_ ?_ | refine V.FnR.a_ (cN) [9, 10, 6, 7, 12] rfl ?_ ?_); · exact V.D_) | ((first | refine V.FnR.k_ (cN) [10, 11, 6, 7, 9] rfl ?_ ?_ | refine V.FnR.a_ (cN) [10, 11, 6, 7, 9] rfl ?_ ?_); · exact V.D_) | ((first | refine V.FnR.k_ (cN) [11, 12, 6, 7, 9] rfl ?_ ?_ | refine V.FnR.a_ (cN) [11, 12, 6, 7, 9] rfl ?_ ?_); · exact V.D_) | ((first | refine V.FnR.k_ (cN) [10, 11, 6, 7, 12] rfl ?_ ?_ | refine V.FnR.a_ (cN) [10, 11, 6, 7, 12] rfl ?_ ?_); · exact V.D_) | ((first | refine V.FnR.k_ (cN) [11, 12, 6, 7, 10] rfl ?_ ?_ | refine V.FnR.a_ (cN) [11, 12, 6, 7, 10] rfl ?_ ?_); · exact V.D_) | ((first | refine V.FnR.k_ (cM) [16, 17, 12, 13, 18] rfl ?_ ?_ | refine V.FnR.a_ (cM) [16, 17, 12, 13, 18] rfl ?_ ?_); · exact V.D_) | ((first | refine V.FnR.k_ (cM) [16, 17, 12, 13, 19] rfl ?_ ?_ | refine V.FnR.a_ (cM) [16, 17, 12, 13, 19] rfl ?_ ?_); · exact V.D_) | ((first | refine V.FnR.k_ (cM) [17, 18, 12, 13, 16] rfl ?_ ?_ | refine V.FnR.a_ (cM) [17, 18, 12, 13, 16] rfl ?_ ?_); · exact V.D_) | ((first | refine V.FnR.k_ (cM) [18, 19, 12, 13, 16] rfl ?_ ?_ | refine V.FnR.a_ (cM) [18, 19, 12, 13, 16] rfl ?_ ?_); · exact V.D_) | ((first | refine V.FnR.k_ (cM) [17, 18, 12, 13, 19] rfl ?_ ?_ | refine V.FnR.a_ (cM) [17, 18, 12, 13, 19] rfl ?_ ?_); · exact V.D_) | ((first | refine V.FnR.k_ (cM) [18, 19, 12, 13, 17] rfl ?_ ?_ | refine V.FnR.a_ (cM) [18, 19, 12, 13, 17] rfl ?_ ?_); · exact V.D_) | ((first | refine V.FnR.k_ (cM) [16, 17, 13, 14, 18] rfl ?_ ?_ | refine V.FnR.a_ (cM) [16, 17, 13, 14, 18] rfl ?_ ?_); · exact V.D_) | ((first | refine V.FnR.k_ (cM) [16, 17, 13, 14, 19] rfl ?_ ?_ | refine V.FnR.a_ (cM) [16, 17, 13, 14, 19] rfl ?_ ?_); · exact V.D_) | ((first | refine V.FnR.k_ (cM) [17, 18, 13, 14, 16] rfl ?_ ?_ | refine V.FnR.a_ (cM) [17, 18, 13, 14, 16] rfl ?_ ?_); · exact V.D_) | ((first | refine V.FnR.k_ (cM) [18, 19, 13, 14, 16] rfl ?_ ?_ | refine V.FnR.a_ (cM) [18, 19, 13, 14, 16] rfl ?_ ?_); · exact V.D_) | ((first | refine V.FnR.k_ (cM) [17, 18, 13, 14, 19] rfl ?_ ?_ | refine V.FnR.a_ (cM) [17, 18, 13, 14, 19] rfl ?_ ?_); · exact V.D_) | ((first | refine V.FnR.k_ (cM) [18, 19, 13, 14, 17] rfl ?_ ?_ | refine V.FnR.a_ (cM) [18, 19, 13, 14, 17] rfl ?_ ?_); · exact V.D_) | ((first | refine V.FnR.k_ (cT) [19, 20] rfl ?_ ?_ | refine V.FnR.a_ (cT) [19, 20] rfl ?_ ?_); · exact V.D_) | ((first | refine V.FnR.k_ (cT) [20, 21] rfl ?_ ?_ | refine V.FnR.a_ (cT) [20, 21] rfl ?_ ?_); · exact V.D_) | ((first | refine V.FnR.k_ (cE) [3, 4] rfl ?_ ?_ | refine V.FnR.a_ (cE) [3, 4] rfl ?_ ?_); · exact V.D_) | (refine NIdx.mk ⟨0, rfl, Nat.zero_lt_succ _, ?_⟩) | (refine NIdx.mk ⟨3, rfl, by decide, ?_⟩) | (refine V.NLt.mk (by decide) ?_) | ((first | refine V.Fn.k (cS) [14, 30] rfl ?_ ?_ | refine V.Fn.q (cS) [14, 30] rfl ?_ ?_ | refine V.Fn.a (cS) [14, 30] rfl ?_ ?_); · exact V.D_) | ((first | refine V.Fn.k (cS) [14, 31] rfl ?_ ?_ | refine V.Fn.q (cS) [14, 31] rfl ?_ ?_ | refine V.Fn.a (cS) [14, 31] rfl ?_ ?_); · exact V.D_) | ((first | refine V.Fn.k (cS) [14, 32] rfl ?_ ?_ | refine V.Fn.q (cS) [14, 32] rfl ?_ ?_ | refine V.Fn.a (cS) [14, 32] rfl ?_ ?_); · exact V.D_) | ((first | refine V.Fn.k (cS) [14, 33] rfl ?_ ?_ | refine V.Fn.q (cS) [14, 33] rfl ?_ ?_ | refine V.Fn.a (cS) [14, 33] rfl ?_ ?_); · exact V.D_) | ((first | refine V.Fn.k (cS) [13, 30] rfl ?_ ?_ | refine V.Fn.q (cS) [13, 30] rfl ?_ ?_ | refine V.Fn.a (cS) [13, 30] rfl ?_ ?_); · exact V.D_) | ((first | refine V.Fn.k (cS) [13, 31] rfl ?_ ?_ | refine V.Fn.q (cS) [13, 31] rfl ?_ ?_ | refine V.Fn.a (cS) [13, 31] rfl ?_ ?_); · exact V.D_) | ((first | refine V.Fn.k (cS) [13, 32] rfl ?_ ?_ | refine V.Fn.q (cS) [13, 32] rfl ?_ ?_ | refine V.Fn.a (cS) [13, 32] rfl ?_ ?_); · exact V.D_) | ((first | refine V.Fn.k (cS) [15, 30] rfl ?_ ?_ | refine V.Fn.q (cS) [15, 30] rfl ?_ ?_ | refine V.Fn.a (cS) [15, 30] rfl ?_ ?_); · exact V.D_) | ((first | refine V.Fn.k (cS) [15, 31] rfl ?_ ?_ | refine V.Fn.q (cS) [15, 31] rfl ?_ ?_ | refine V.Fn.a (cS) [15, 31] rfl ?_ ?_); · exact V.D_) | ((first | refine V.Fn.k (cS) [15, 32] rfl ?_ ?_ | refine V.Fn.q (cS) [15, 32] rfl ?_ ?_ | refine V.Fn.a (cS) [15, 32] rfl ?_ ?_); · exact V.D_) | ((first | refine V.Fn.k (cS) [15, 33] rfl ?_ ?_ | refine V.Fn.q (cS) [15, 33] rfl ?_ ?_ | refine V.Fn.a (cS) [15, 33] rfl ?_ ?_); · exact V.D_) | (refine V.NCall.nilf (f := 16) 0 1 10 _ rfl rfl ?_) | (refine V.NCall.nilf (f := 16) 0 2 3 _ rfl rfl ?_) | (refine V.NCall.nilf (f := 17) 0 1 1 _ rfl rfl ?_) | (refine V.NCall.nilf (f := 17) 0 2 4 _ rfl rfl ?_) | ((first | refine V.Fn.k (cC) [30, 31] rfl ?_ ?_ | refine V.Fn.q (cC) [30, 31] rfl ?_ ?_ | refine V.Fn.a (cC) [30, 31] rfl ?_ ?_); · exact V.D_) | ((first | refine V.Fn.k (cC) [31, 32] rfl ?_ ?_ | refine V.Fn.q (cC) [31, 32] rfl ?_ ?_ | refine V.Fn.a (cC) [31, 32] rfl ?_ ?_); · exact V.D_) | ((first | refine V.Fn.k (cC) [32, 33] rfl ?_ ?_ | refine V.Fn.q (cC) [32, 33] rfl ?_ ?_ | refine V.Fn.a (cC) [32, 33] rfl ?_ ?_); · exact V.D_) | ((first | refine V.Fn.k (cC) [33, 34] rfl ?_ ?_ | refine V.Fn.q (cC) [33, 34] rfl ?_ ?_ | refine V.Fn.a (cC) [33, 34] rfl ?_ ?_); · exact V.D_) | ((first | refine V.Fn.k (cC) [34, 35] rfl ?_ ?_ | refine V.Fn.q (cC) [34, 35] rfl ?_ ?_ | refine V.Fn.a (cC) [34, 35] rfl ?_ ?_); · exact V.D_) | ((first | refine V.Fn.k (cC) [35, 36] rfl ?_ ?_ | refine V.Fn.q (cC) [35, 36] rfl ?_ ?_ | refine V.Fn.a (cC) [35, 36] rfl ?_ ?_); · exact V.D_) | ((first | refine V.Fn.k (cR) [32, 33] rfl ?_ ?_ | refine V.Fn.q (cR) [32, 33] rfl ?_ ?_ | refine V.Fn.a (cR) [32, 33] rfl ?_ ?_); · exact V.D_) | ((first | refine V.Fn.k (cR) [33, 34] rfl ?_ ?_ | refine V.Fn.q (cR) [33, 34] rfl ?_ ?_ | refine V.Fn.a (cR) [33, 34] rfl ?_ ?_); · exact V.D_) | ((first | refine V.Fn.k (cR) [34, 35] rfl ?_ ?_ | refine V.Fn.q (cR) [34, 35] rfl ?_ ?_ | refine V.Fn.a (cR) [34, 35] rfl ?_ ?_); · exact V.D_) | ((first | refine V.Fn.k (cR) [35, 36] rfl ?_ ?_ | refine V.Fn.q (cR) [35, 36] rfl ?_ ?_ | refine V.Fn.a (cR) [35, 36] rfl ?_ ?_); · exact V.D_) | ((first | refine V.Fn.k (cR) [36, 37] rfl ?_ ?_ | refine V.Fn.q (cR) [36, 37] rfl ?_ ?_ | refine V.Fn.a (cR) [36, 37] rfl ?_ ?_); · exact V.D_) | ((first | refine V.Fn.k (cR) [37, 38] rfl ?_ ?_ | refine V.Fn.q (cR) [37, 38] rfl ?_ ?_ | refine V.Fn.a (cR) [37, 38] rfl ?_ ?_); · exact V.D_) | ((first | refine V.Fn.k (cR) [38, 39] rfl ?_ ?_ | refine V.Fn.q (cR) [38, 39] rfl ?_ ?_ | refine V.Fn.a (cR) [38, 39] rfl ?_ ?_); · exact V.D_) | (refine V.NDraw.any (by kernel_rfl) ?_) | fail)
  all_goals (conv => whnf)
  all_goals first
    | exact ⟨true, rfl, iff_of_true rfl rfl⟩
    | exact ⟨true, rfl, iff_of_true (by decide) rfl⟩
    | trace_state
end Go.Proofs.YtpanlcnoopmchaaGreatDoor

namespace Go.Proofs.YtpanlcnoopmchaaGreatDoor
open Go Go.RowKit Go.ChangeShapes Go.WideShapes Go.Deep V
theorem intCells : Tryz.prog.cellsOf 3 = 1 := by kernel_rfl
theorem open_il {H : Type} {enc : TypeId × Value → H} {W : World} {base : Nat} {spare : Nat → Bool} {held : Bool} {r : Reach} {b0 : Nat} {v : Value} {d : DataW H} {p : List MemPlace} (hv : Value.okWide Tryz.prog W r b0 22 v) (h : DataW.Trod enc Tryz.prog W base spare held 22 v d p) :
    ∃ l : List Int, ArrIs W v 1 l.length (ga e1 l) ∧ ∀ f ∈ l, (Lit.int .i64 f).wf = true :=
  open_ints_ Tryz.underlying22 Tryz.underlying3 intCells hv h
end Go.Proofs.YtpanlcnoopmchaaGreatDoor

namespace Go.Proofs.YtpanlcnoopmchaaGreatDoor
open Go Go.RowKit Go.ChangeShapes Go.WideShapes Go.Deep V
namespace V
section
variable {H : Type} {enc : TypeId × Value → H} {P : Program} {w : World} {base : Nat} {spare : Nat → Bool} {held : Bool}
theorem list_trod {α : Type} [Inhabited α] {en : α → List Value} {Wf : α → Prop} {t e s fuel : Nat} {cs : List Value} {x : DataW H × List MemPlace} (hu : P.underlying t = some (.slice e)) (hs : P.cellsOf e = s) (hs0 : 0 < s)
    (hel : ∀ fuel cs x, DataW.trod enc P w base spare held fuel e cs = some x → ∃ f : α, cs = en f ∧ Wf f) (hf : DataW.trod enc P w base spare held fuel t cs = some x) :
    ∃ v, cs = [v] ∧ ∃ l : List α, ArrIs w v s l.length (ga en l) ∧ ∀ f ∈ l, Wf f := by
  rcases Go.Deep.open_slice hu hf with ⟨hcs, _⟩ | ⟨a, len', cap', m, n, D, Pl, hcs, _, hl, hm, hmm, _, hi⟩
  · exact ⟨_, hcs, [], ⟨none, 0, rfl, by simp, by simp, fun k hk => absurd hk (by simp)⟩, by simp⟩
  · refine ⟨_, hcs, ?_⟩
    have hml : len' ≤ m := by rw [hmm]; split <;> omega
    have all : ∀ i, i < len' → ∃ f : α, (en f).length = s ∧ (∀ j u, (en f)[j]? = some u → w.cell? (a.add (i * s + j)) = some u) ∧ Wf f := by
      intro i hi'
      obtain ⟨cs', hc, ht'⟩ := hi i (by omega)
      rw [hs] at hc
      obtain ⟨f, e, wf⟩ := hel _ _ _ ht'
      obtain ⟨_, hcl, hat⟩ := World.cells?_some hc
      refine ⟨f, by rw [← e]; exact hcl, fun j u hu => ?_, wf⟩
      rw [← e] at hu
      have hj : j < s := by have := (List.getElem?_eq_some_iff.1 hu).1; omega
      have h1 := hat j hj
      rw [add_of_add] at h1
      rw [h1]; exact hu
    obtain ⟨l, hl2, hp⟩ := list_of len' all
    refine ⟨l, ⟨some a, cap', by rw [hl2], by unfold maxLen at hm; omega, by omega, fun k hk => ?_⟩, fun f hf' => ?_⟩
    · obtain ⟨e1, e2, _⟩ := hp k hk
      rw [ga_at hk]
      have h0 : (en l[k])[0]? = some ((en l[k])[0]'(by omega)) := List.getElem?_eq_getElem _
      have := cell_lt (e2 0 _ h0)
      rw [block_of_add] at this
      exact ⟨a, rfl, this, e1, e2⟩
    · obtain ⟨i, hi', rfl⟩ := List.getElem_of_mem hf'
      exact (hp i hi').2.2
end
end V
noncomputable def clFields : Array Field := (match Tryz.prog.underlying 24 with | some (.struct fs) => fs | _ => #[])
theorem clStruct : Tryz.prog.underlying 24 = some (.struct clFields) := by kernel_rfl
theorem clCells : Tryz.prog.cellsOf 24 = 2 := by kernel_rfl
theorem ilCells : Tryz.prog.cellsOf 22 = 1 := by kernel_rfl
theorem cl0 : (clFields[0]?).map (fun f => (f.type, f.offset)) = some (3, 0) := by kernel_rfl
theorem cl1 : (clFields[1]?).map (fun f => (f.type, f.offset)) = some (22, 1) := by kernel_rfl
theorem clSize : clFields.size = 2 := by kernel_rfl
def WfCl (c : Cl) : Prop := (Lit.int .i64 c.we).wf = true ∧ ∀ n ∈ c.hs, (Lit.int .i64 n).wf = true
theorem cl_of {H : Type} {enc : TypeId × Value → H} {w : World} {base : Nat} {spare : Nat → Bool} {held : Bool} {fuel : Nat} {cs : List Value} {x : DataW H × List MemPlace} (h : DataW.trod enc Tryz.prog w base spare held fuel 24 cs = some x) :
    ∃ (c : Cl) (v : Value), cs = [.int .i64 c.we, v] ∧ ArrIs w v 1 c.hs.length (ga e1 c.hs) ∧ WfCl c := by
  obtain ⟨xs, n, _, _, hl, hlen, hg⟩ := DataW.trod_struct clStruct h
  rw [clCells] at hl
  rw [clSize] at hlen
  match cs, hl with
  | [a, b], _ =>
    obtain ⟨f0, h0, e0⟩ := Option.map_eq_some_iff.1 cl0
    obtain ⟨f1, h1, e1'⟩ := Option.map_eq_some_iff.1 cl1
    injection e0 with t0 o0
    injection e1' with t1 o1
    have g0 := hg 0 f0 h0
    have g1 := hg 1 f1 h1
    rw [o0, t0, intCells, List.getElem?_eq_getElem (by omega)] at g0
    rw [o1, t1, ilCells, List.getElem?_eq_getElem (by omega)] at g1
    obtain ⟨m, e2, _, wf⟩ := DataW.trod_int Tryz.underlying3 g0
    obtain ⟨v, e3, l, hl, wl⟩ := V.list_trod (en := e1) (Wf := fun n => (Lit.int .i64 n).wf = true) Tryz.underlying22 intCells (by omega) (fun fuel cs x hx => by
      obtain ⟨m, e2, _, wf⟩ := DataW.trod_int Tryz.underlying3 hx
      exact ⟨m, e2, wf⟩) g1
    have e2 : a = .int .i64 m := by simpa using e2
    obtain rfl : b = v := by
      have e3 : [b] = [v] := e3
      injection e3
    subst e2
    exact ⟨⟨m, l⟩, _, rfl, hl, wf, wl⟩
end Go.Proofs.YtpanlcnoopmchaaGreatDoor

namespace Go.Proofs.YtpanlcnoopmchaaGreatDoor
open Go.RowKit Go.ChangeShapes Go.WideShapes Go.Deep V
noncomputable def failFields : Array Field := (match Tryz.prog.underlying 41 with | some (.struct fs) => fs | _ => #[])
theorem failStruct : Tryz.prog.underlying 41 = some (.struct failFields) := by kernel_rfl
theorem failOne : oneCellFields Tryz.prog failFields = true := by kernel_rfl
theorem failSize : failFields.size = 10 := by kernel_rfl
theorem failCells : Tryz.prog.cellsOf 41 = 10 := by kernel_rfl
theorem failInts : (List.range 10).all (fun j => (failFields[j]?).all (fun f => decide (f.type = 3))) = true := by kernel_rfl
theorem failInt (j : Nat) (f : Field) (h : failFields[j]? = some f) : Tryz.prog.underlying f.type = some (.int .i64) := by
  have hj : j < 10 := by have := (Array.getElem?_eq_some_iff.1 h).1; rw [failSize] at this; exact this
  have := List.all_eq_true.1 failInts j (List.mem_range.2 hj)
  rw [h] at this
  have e : f.type = 3 := by simpa using this
  rw [e]
  exact Tryz.underlying3
def WfF (f : Fl) : Prop := ∀ n ∈ [f.id, f.fr, f.to, f.cl, f.pa, f.day, f.un, f.de, f.bo, f.pd], (Lit.int .i64 n).wf = true
theorem fl_of {H : Type} {enc : TypeId × Value → H} {w : World} {base : Nat} {spare : Nat → Bool} {held : Bool} {fuel : Nat} {cs : List Value} {x : DataW H × List MemPlace} (h : DataW.trod enc Tryz.prog w base spare held fuel 41 cs = some x) :
    ∃ f : Fl, cs = (#[.int .i64 f.id, .int .i64 f.fr, .int .i64 f.to, .int .i64 f.cl, .int .i64 f.pa, .int .i64 f.day, .int .i64 f.un, .int .i64 f.de, .int .i64 f.bo, .int .i64 f.pd] : Array Value).toList ∧ WfF f := by
  obtain ⟨ns, e, hl, wf⟩ := ints_struct failStruct failOne (failCells.trans failSize.symm) failInt h
  rw [failSize] at hl
  match ns, hl with
  | [a, b, c, d, e', f, g, h', i, j], _ => exact ⟨⟨a, b, c, d, e', f, g, h', i, j⟩, by simpa using e, wf⟩
end Go.Proofs.YtpanlcnoopmchaaGreatDoor

namespace Go.Proofs.YtpanlcnoopmchaaGreatDoor
open Go Go.RowKit Go.ChangeShapes Go.WideShapes Go.Deep V
noncomputable def poFields : Array Field := (match Tryz.prog.underlying 52 with | some (.struct fs) => fs | _ => #[])
theorem poStruct : Tryz.prog.underlying 52 = some (.struct poFields) := by kernel_rfl
theorem poOne : oneCellFields Tryz.prog poFields = true := by kernel_rfl
theorem poSize : poFields.size = 3 := by kernel_rfl
theorem poCells : Tryz.prog.cellsOf 52 = 3 := by kernel_rfl
theorem poInts : (List.range 3).all (fun j => (poFields[j]?).all (fun f => decide (f.type = 3))) = true := by kernel_rfl
theorem poInt (j : Nat) (f : Field) (h : poFields[j]? = some f) : Tryz.prog.underlying f.type = some (.int .i64) := by
  have hj : j < 3 := by have := (Array.getElem?_eq_some_iff.1 h).1; rw [poSize] at this; exact this
  have := List.all_eq_true.1 poInts j (List.mem_range.2 hj)
  rw [h] at this
  have e : f.type = 3 := by simpa using this
  rw [e]
  exact Tryz.underlying3
def WfPo (d : Po) : Prop := ∀ n ∈ [d.ac, d.ut, d.am], (Lit.int .i64 n).wf = true
theorem po_of {H : Type} {enc : TypeId × Value → H} {w : World} {base : Nat} {spare : Nat → Bool} {held : Bool} {fuel : Nat} {cs : List Value} {x : DataW H × List MemPlace} (h : DataW.trod enc Tryz.prog w base spare held fuel 52 cs = some x) :
    ∃ f : Po, cs = encP f ∧ WfPo f := by
  obtain ⟨ns, e, hl, wf⟩ := ints_struct poStruct poOne (poCells.trans poSize.symm) poInt h
  rw [poSize] at hl
  match ns, hl with
  | [a0, a1, a2], _ => exact ⟨⟨a0, a1, a2⟩, by simpa [encP] using e, wf⟩
end Go.Proofs.YtpanlcnoopmchaaGreatDoor

namespace Go.Proofs.YtpanlcnoopmchaaGreatDoor
open Go Go.RowKit Go.ChangeShapes Go.WideShapes Go.Deep V
noncomputable def tmFields : Array Field := (match Tryz.prog.underlying 99 with | some (.struct fs) => fs | _ => #[])
theorem tmStruct : Tryz.prog.underlying 99 = some (.struct tmFields) := by kernel_rfl
theorem tmOne : oneCellFields Tryz.prog tmFields = true := by kernel_rfl
theorem tmSize : tmFields.size = 4 := by kernel_rfl
theorem tmCells : Tryz.prog.cellsOf 99 = 4 := by kernel_rfl
theorem tmInts : (List.range 4).all (fun j => (tmFields[j]?).all (fun f => decide (f.type = 3))) = true := by kernel_rfl
theorem tmInt (j : Nat) (f : Field) (h : tmFields[j]? = some f) : Tryz.prog.underlying f.type = some (.int .i64) := by
  have hj : j < 4 := by have := (Array.getElem?_eq_some_iff.1 h).1; rw [tmSize] at this; exact this
  have := List.all_eq_true.1 tmInts j (List.mem_range.2 hj)
  rw [h] at this
  have e : f.type = 3 := by simpa using this
  rw [e]
  exact Tryz.underlying3
def WfTm (d : Tm) : Prop := ∀ n ∈ [d.ex, d.bu, d.de, d.ra], (Lit.int .i64 n).wf = true
theorem tm_of {H : Type} {enc : TypeId × Value → H} {w : World} {base : Nat} {spare : Nat → Bool} {held : Bool} {fuel : Nat} {cs : List Value} {x : DataW H × List MemPlace} (h : DataW.trod enc Tryz.prog w base spare held fuel 99 cs = some x) :
    ∃ f : Tm, cs = encTm f ∧ WfTm f := by
  obtain ⟨ns, e, hl, wf⟩ := ints_struct tmStruct tmOne (tmCells.trans tmSize.symm) tmInt h
  rw [tmSize] at hl
  match ns, hl with
  | [a0, a1, a2, a3], _ => exact ⟨⟨a0, a1, a2, a3⟩, by simpa [encTm] using e, wf⟩
end Go.Proofs.YtpanlcnoopmchaaGreatDoor

namespace Go.Proofs.YtpanlcnoopmchaaGreatDoor
open Go Go.RowKit Go.ChangeShapes Go.WideShapes Go.Deep V
noncomputable def wdFields : Array Field := (match Tryz.prog.underlying 31 with | some (.struct fs) => fs | _ => #[])
theorem wdStruct : Tryz.prog.underlying 31 = some (.struct wdFields) := by kernel_rfl
theorem wdCells : Tryz.prog.cellsOf 31 = 3 := by kernel_rfl
theorem flsCells : Tryz.prog.cellsOf 28 = 1 := by kernel_rfl
theorem posCells : Tryz.prog.cellsOf 29 = 1 := by kernel_rfl
theorem wd0 : (wdFields[0]?).map (fun f => (f.type, f.offset)) = some (3, 0) := by kernel_rfl
theorem wd1 : (wdFields[1]?).map (fun f => (f.type, f.offset)) = some (28, 1) := by kernel_rfl
theorem wd2 : (wdFields[2]?).map (fun f => (f.type, f.offset)) = some (29, 2) := by kernel_rfl
theorem wdSize : wdFields.size = 3 := by kernel_rfl
def WfWd (w : Wd) : Prop := (Lit.int .i64 w.td).wf = true ∧ (∀ f ∈ w.fs, WfF f) ∧ ∀ f ∈ w.bk, WfPo f
theorem wd_of {H : Type} {enc : TypeId × Value → H} {w : World} {base : Nat} {spare : Nat → Bool} {held : Bool} {fuel : Nat} {cs : List Value} {x : DataW H × List MemPlace} (h : DataW.trod enc Tryz.prog w base spare held fuel 31 cs = some x) :
    ∃ (c : Wd) (v u : Value), cs = [.int .i64 c.td, v, u] ∧ ArrIs w v 10 c.fs.length (ga encF c.fs) ∧ ArrIs w u 3 c.bk.length (ga encP c.bk) ∧ WfWd c := by
  obtain ⟨xs, n, _, _, hl, hlen, hg⟩ := DataW.trod_struct wdStruct h
  rw [wdCells] at hl
  rw [wdSize] at hlen
  match cs, hl with
  | [a, b, d], _ =>
    obtain ⟨f0, h0, e0⟩ := Option.map_eq_some_iff.1 wd0
    obtain ⟨f1, h1, e1'⟩ := Option.map_eq_some_iff.1 wd1
    obtain ⟨f2, h2, e2'⟩ := Option.map_eq_some_iff.1 wd2
    injection e0 with t0 o0
    injection e1' with t1 o1
    injection e2' with t2 o2
    have g0 := hg 0 f0 h0
    have g1 := hg 1 f1 h1
    have g2 := hg 2 f2 h2
    rw [o0, t0, intCells, List.getElem?_eq_getElem (by omega)] at g0
    rw [o1, t1, flsCells, List.getElem?_eq_getElem (by omega)] at g1
    rw [o2, t2, posCells, List.getElem?_eq_getElem (by omega)] at g2
    obtain ⟨m, e2, _, wf⟩ := DataW.trod_int Tryz.underlying3 g0
    obtain ⟨v, e3, l, hl, wl⟩ := V.list_trod (en := encF) (Wf := WfF) Tryz.underlying28 failCells (by omega) (fun fuel cs x hx => fl_of hx) g1
    obtain ⟨u, e4, k, hk, wk⟩ := V.list_trod (en := encP) (Wf := WfPo) Tryz.underlying29 poCells (by omega) (fun fuel cs x hx => po_of hx) g2
    have e2 : a = .int .i64 m := by simpa using e2
    obtain rfl : b = v := by
      have e3 : [b] = [v] := e3
      injection e3
    obtain rfl : d = u := by
      have e4 : [d] = [u] := e4
      injection e4
    subst e2
    exact ⟨⟨m, l, k⟩, _, _, rfl, hl, hk, wf, wl, wk⟩
theorem open_wd {H : Type} {enc : TypeId × Value → H} {W : World} {base : Nat} {spare : Nat → Bool} {held : Bool} {r : Reach} {b0 : Nat} {v : Value} {d : DataW H} {p : List MemPlace} (hv : Value.okWide Tryz.prog W r b0 31 v) (h : DataW.Trod enc Tryz.prog W base spare held 31 v d p) :
    ∃ (c : Wd) (u u' : Value), v = .agg #[.int .i64 c.td, u, u'] ∧ ArrIs W u 10 c.fs.length (ga encF c.fs) ∧ ArrIs W u' 3 c.bk.length (ga encP c.bk) ∧ WfWd c := by
  obtain ⟨cs, rfl, _⟩ := okWide_struct wdStruct hv
  obtain ⟨fuel, hf⟩ := h
  obtain ⟨c, u, u', e, h1, h2, wf⟩ := wd_of hf
  refine ⟨c, u, u', ?_, h1, h2, wf⟩
  obtain ⟨l⟩ := cs
  simp only [Value.cells] at e
  subst e
  rfl
noncomputable def ruFields : Array Field := (match Tryz.prog.underlying 27 with | some (.struct fs) => fs | _ => #[])
theorem ruStruct : Tryz.prog.underlying 27 = some (.struct ruFields) := by kernel_rfl
theorem ruCells : Tryz.prog.cellsOf 27 = 4 := by kernel_rfl
theorem tmsCells : Tryz.prog.cellsOf 25 = 1 := by kernel_rfl
theorem ru0 : (ruFields[0]?).map (fun f => (f.type, f.offset)) = some (24, 0) := by kernel_rfl
theorem ru1 : (ruFields[1]?).map (fun f => (f.type, f.offset)) = some (25, 2) := by kernel_rfl
theorem ru2 : (ruFields[2]?).map (fun f => (f.type, f.offset)) = some (3, 3) := by kernel_rfl
theorem ruSize : ruFields.size = 3 := by kernel_rfl
structure Ru0 where
  c : Cl
  ts : List Tm
  ex : Int
def WfRu (d : Ru0) : Prop := WfCl d.c ∧ (∀ f ∈ d.ts, WfTm f) ∧ (Lit.int .i64 d.ex).wf = true
theorem ru_of {H : Type} {enc : TypeId × Value → H} {w : World} {base : Nat} {spare : Nat → Bool} {held : Bool} {fuel : Nat} {cs : List Value} {x : DataW H × List MemPlace} (h : DataW.trod enc Tryz.prog w base spare held fuel 27 cs = some x) :
    ∃ (d : Ru0) (v u : Value), cs = [.int .i64 d.c.we, v, u, .int .i64 d.ex] ∧ ArrIs w v 1 d.c.hs.length (ga e1 d.c.hs) ∧ ArrIs w u 4 d.ts.length (ga encTm d.ts) ∧ WfRu d := by
  obtain ⟨xs, n, _, _, hl, hlen, hg⟩ := DataW.trod_struct ruStruct h
  rw [ruCells] at hl
  rw [ruSize] at hlen
  match cs, hl with
  | [a, a', b, d], _ =>
    obtain ⟨f0, h0, e0⟩ := Option.map_eq_some_iff.1 ru0
    obtain ⟨f1, h1, e1'⟩ := Option.map_eq_some_iff.1 ru1
    obtain ⟨f2, h2, e2'⟩ := Option.map_eq_some_iff.1 ru2
    injection e0 with t0 o0
    injection e1' with t1 o1
    injection e2' with t2 o2
    have g0 := hg 0 f0 h0
    have g1 := hg 1 f1 h1
    have g2 := hg 2 f2 h2
    rw [o0, t0, clCells, List.getElem?_eq_getElem (by omega)] at g0
    rw [o1, t1, tmsCells, List.getElem?_eq_getElem (by omega)] at g1
    rw [o2, t2, intCells, List.getElem?_eq_getElem (by omega)] at g2
    obtain ⟨c, v, e2, hl, wl⟩ := cl_of g0
    obtain ⟨u, e3, k, hk, wk⟩ := V.list_trod (en := encTm) (Wf := WfTm) Tryz.underlying25 tmCells (by omega) (fun fuel cs x hx => tm_of hx) g1
    obtain ⟨m, e4, _, wf⟩ := DataW.trod_int Tryz.underlying3 g2
    have e2 : [a, a'] = [.int .i64 c.we, v] := e2
    obtain rfl : b = u := by
      have e3 : [b] = [u] := e3
      injection e3
    have e4 : d = .int .i64 m := by
      have e4 : [d] = [.int .i64 m] := e4
      injection e4
    injection e2 with e5 e6
    injection e6 with e6 _
    subst e4 e5 e6
    exact ⟨⟨c, k, m⟩, _, _, rfl, hl, hk, wl, wk, wf⟩
theorem open_ru {H : Type} {enc : TypeId × Value → H} {W : World} {base : Nat} {spare : Nat → Bool} {held : Bool} {r : Reach} {b0 : Nat} {v : Value} {d : DataW H} {p : List MemPlace} (hv : Value.okWide Tryz.prog W r b0 27 v) (h : DataW.Trod enc Tryz.prog W base spare held 27 v d p) :
    ∃ (c : Ru0) (u u' : Value), v = .agg #[.int .i64 c.c.we, u, u', .int .i64 c.ex] ∧ ArrIs W u 1 c.c.hs.length (ga e1 c.c.hs) ∧ ArrIs W u' 4 c.ts.length (ga encTm c.ts) ∧ WfRu c := by
  obtain ⟨cs, rfl, _⟩ := okWide_struct ruStruct hv
  obtain ⟨fuel, hf⟩ := h
  obtain ⟨c, u, u', e, h1, h2, wf⟩ := ru_of hf
  refine ⟨c, u, u', ?_, h1, h2, wf⟩
  obtain ⟨l⟩ := cs
  simp only [Value.cells] at e
  subst e
  rfl
end Go.Proofs.YtpanlcnoopmchaaGreatDoor

namespace Go.Proofs.YtpanlcnoopmchaaGreatDoor.Cy
open Go Go.RowKit
end Go.Proofs.YtpanlcnoopmchaaGreatDoor.Cy

namespace Go.Proofs.YtpanlcnoopmchaaGreatDoor.Cy
open Go Go.RowKit
end Go.Proofs.YtpanlcnoopmchaaGreatDoor.Cy

namespace Go.Proofs.YtpanlcnoopmchaaGreatDoor
namespace Bk
theorem cnt_one (a : Nat) : ∀ n, (List.range n).countP (fun k => decide (k = a)) ≤ 1
  | 0 => by simp
  | n + 1 => by
    rw [List.range_succ, List.countP_append]
    have ih := cnt_one a n
    by_cases h : n = a
    · have z : (List.range n).countP (fun k => decide (k = a)) = 0 := List.countP_eq_zero.2 fun k hk => by have := List.mem_range.1 hk; simp; omega
      rw [z]; simp [h]
    · simp [h]; omega
end Bk
namespace Cp
theorem tot_nil (k : Nat) : Bk.tot [] k = 0 := Bk.tot_none fun p hp => by simp at hp
theorem paid {f : Fl} (h : F.Ok f) : F.chk (F.addPd f (F.left f)) = 0 ∧ F.left (F.addPd f (F.left f)) = 0 ∧ F.opn (F.addPd f (F.left f)) = 0 := by
  have b := F.ok_bounds h
  obtain ⟨k, n, ⟨⟨p1, p2⟩, ⟨p3, p4⟩, p5, p6⟩, d⟩ := id h
  have l : F.left (F.addPd f (F.left f)) = 0 := by
    show f.un - f.de - f.bo - (f.pd + F.left f) = 0
    unfold F.left; omega
  have e : F.left f = f.un - f.de - f.bo - f.pd := rfl
  have c : F.chk (F.addPd f (F.left f)) = 0 := F.chk_of ⟨k, n, ⟨⟨p1, p2⟩, ⟨p3, p4⟩, by show 0 ≤ f.pd + F.left f; omega, by show f.pd + F.left f ≤ f.un; omega⟩, by show f.de + f.bo + (f.pd + F.left f) ≤ f.un; omega⟩
  exact ⟨c, l, (F.opn_yes c).trans l⟩
end Cp
end Go.Proofs.YtpanlcnoopmchaaGreatDoor

namespace Go.Proofs.YtpanlcnoopmchaaGreatDoor.Cy
open Go Go.RowKit
noncomputable def fz (c : Cl) (t : List Tm) (x : Int) (pr : List Int) (td : Int) (f : Fl) : Fl := if Ag.stg c (Pn.cl t f) f td = 4 then Cp.pF f (P.pr pr f.pa) x else f
noncomputable def fp (c : Cl) (t : List Tm) (x : Int) (pr : List Int) (td : Int) (f : Fl) : List Po := if Ag.stg c (Pn.cl t f) f td = 4 then Cp.pL f (P.pr pr f.pa) x else []
noncomputable def fps (c : Cl) (t : List Tm) (x : Int) (pr : List Int) (td : Int) (l : List Fl) : List Po := l.flatMap (fp c t x pr td)
section
variable {c : Cl} {t : List Tm} {x : Int} {pr : List Int} {td : Int}
structure One (c : Cl) (t : List Tm) (x : Int) (pr : List Int) (td : Int) (s s' : St) (f : Fl) : Prop where
  e : s.e = 0
  out : s'.out = s.out ++ [fz c t x pr td f]
  ps : s'.ps = s.ps ++ fp c t x pr td f
  bk : (fp c t x pr td f = [] ∧ s'.bk = s.bk) ∨ (Bk.pE s.bk (fp c t x pr td f) = 0 ∧ s'.bk = Bk.pL s.bk (fp c t x pr td f))
  pay : Ag.stg c (Pn.cl t f) f td = 4 → Cp.pE f (P.pr pr f.pa) x = 0
theorem One.rt {s s' : St} {f : Fl} (h : One c t x pr td s s' f) : ∀ p ∈ fp c t x pr td f, Bk.Right p := by
  rcases h.bk with ⟨b1, _⟩ | ⟨b1, _⟩
  · rw [b1]; intro p hp; simp at hp
  · exact (Bk.pE_0.1 b1).r
theorem one_is {s : St} {f : Fl} (h : (one c t x pr td s f).e = 0) : One c t x pr td s (one c t x pr td s f) f := by
  by_cases e : s.e = 0
  · by_cases g : Ag.stg c (Pn.cl t f) f td = 4
    · have z1 : fz c t x pr td f = Cp.pF f (P.pr pr f.pa) x := if_pos g
      have z2 : fp c t x pr td f = Cp.pL f (P.pr pr f.pa) x := if_pos g
      by_cases p : Cp.pE f (P.pr pr f.pa) x = 0
      · by_cases l : (Cp.pL f (P.pr pr f.pa) x).length = 0
        · rw [one_3 e g p l]
          have l0 : Cp.pL f (P.pr pr f.pa) x = [] := List.eq_nil_of_length_eq_zero l
          exact ⟨e, by rw [z1], by rw [z2, l0]; simp, .inl ⟨by rw [z2, l0], rfl⟩, fun _ => p⟩
        · by_cases b : Bk.pE s.bk (Cp.pL f (P.pr pr f.pa) x) = 0
          · rw [one_5 e g p l b]
            exact ⟨e, by rw [z1], by rw [z2], .inr ⟨by rw [z2]; exact b, by rw [z2]⟩, fun _ => p⟩
          · rw [one_4 e g p l b] at h
            exact absurd h b
      · rw [one_2 e g p] at h
        exact absurd h p
    · have z1 : fz c t x pr td f = f := if_neg g
      have z2 : fp c t x pr td f = [] := if_neg g
      rw [one_1 e g]
      exact ⟨e, by rw [z1], by rw [z2]; simp, .inl ⟨z2, rfl⟩, fun q => absurd q g⟩
  · rw [one_0 e] at h
    exact absurd h e
structure Run (c : Cl) (t : List Tm) (x : Int) (pr : List Int) (td : Int) (s s' : St) (l : List Fl) : Prop where
  e : s.e = 0
  out : s'.out = s.out ++ l.map (fz c t x pr td)
  ps : s'.ps = s.ps ++ fps c t x pr td l
  bk : Bk.lines s.bk = 0 → Bk.lines s'.bk = 0 ∧ ∀ k, k < 2121 → Bk.tot s'.bk k = Bk.tot s.bk k + Bk.tot (fps c t x pr td l) k
  pay : ∀ f ∈ l, Ag.stg c (Pn.cl t f) f td = 4 → Cp.pE f (P.pr pr f.pa) x = 0
  rt : ∀ p ∈ fps c t x pr td l, Bk.Right p
theorem run_is : ∀ {l : List Fl} {s : St}, (run c t x pr td s l).e = 0 → Run c t x pr td s (run c t x pr td s l) l
  | [], s, h => ⟨h, by simp [run], by simp [run, fps], fun q => ⟨q, fun k _ => by rw [show fps c t x pr td [] = [] from rfl, Cp.tot_nil]; exact (Int.add_zero _).symm⟩, fun f hf => by simp at hf, fun p hp => by simp [fps] at hp⟩
  | f :: r, s, h => by
    have e : run c t x pr td s (f :: r) = run c t x pr td (one c t x pr td s f) r := rfl
    rw [e] at h ⊢
    have R := run_is h
    have O := one_is R.e
    have pe : fps c t x pr td (f :: r) = fp c t x pr td f ++ fps c t x pr td r := by unfold fps; rw [List.flatMap_cons]
    refine ⟨O.e, ?_, ?_, fun q => ?_, fun g hg => ?_, fun p hp => ?_⟩
    · rw [R.out, O.out, List.map_cons, List.append_assoc]; rfl
    · rw [R.ps, O.ps, pe, List.append_assoc]
    · rcases O.bk with ⟨b1, b2⟩ | ⟨b1, b2⟩
      · obtain ⟨r1, r2⟩ := R.bk (by rw [b2]; exact q)
        refine ⟨r1, fun k hk => ?_⟩
        rw [r2 k hk, b2, pe, b1]
        rfl
      · have P := Bk.pE_0.1 b1
        obtain ⟨r1, r2⟩ := R.bk (by rw [b2]; exact Bk.po_ok P)
        refine ⟨r1, fun k hk => ?_⟩
        rw [r2 k hk, b2, Bk.po_tot P hk, pe, Bk.tot_app]
        omega
    · rcases List.mem_cons.1 hg with rfl | hg
      · exact O.pay
      · exact R.pay g hg
    · rw [pe, List.mem_append] at hp
      exact hp.elim (O.rt p) (R.rt p)
theorem fz_ids (l : List Fl) (h : ∀ f ∈ l, Ag.stg c (Pn.cl t f) f td = 4 → Cp.pE f (P.pr pr f.pa) x = 0) : (l.map (fz c t x pr td)).map (·.id) = l.map (·.id) := by
  rw [List.map_map]
  refine List.map_congr_left fun f hf => ?_
  show (fz c t x pr td f).id = f.id
  unfold fz
  split
  · rename_i g
    unfold Cp.pF
    rw [if_pos (h f hf g)]
    rfl
  · rfl
theorem fz_is {f : Fl} (o : F.Ok f) (h : Ag.stg c (Pn.cl t f) f td = 4 → Cp.pE f (P.pr pr f.pa) x = 0) : F.Ok (fz c t x pr td f) ∧ (fz c t x pr td f).day = f.day ∧ (fz c t x pr td f).cl = f.cl ∧
    (Ag.stg c (Pn.cl t f) f td = 4 → F.left (fz c t x pr td f) = 0 ∧ f.pd < (fz c t x pr td f).pd) ∧ (¬ Ag.stg c (Pn.cl t f) f td = 4 → fz c t x pr td f = f) := by
  by_cases g : Ag.stg c (Pn.cl t f) f td = 4
  · have e : fz c t x pr td f = F.addPd f (F.left f) := by unfold fz; rw [if_pos g]; exact if_pos (h g)
    have l1 : F.less f 1 = 0 := by
      have := h g
      unfold Cp.pE at this
      split at this
      · exact absurd this (by assumption)
      · omega
    obtain ⟨p1, p2, p3⟩ := F.paid_ok l1
    rw [e]
    exact ⟨p1, rfl, rfl, fun _ => ⟨p2, by show f.pd < f.pd + F.left f; omega⟩, fun q => absurd g q⟩
  · have e : fz c t x pr td f = f := if_neg g
    rw [e]
    exact ⟨o, rfl, rfl, fun q => absurd q g, fun _ => rfl⟩
end
structure Nt (c : Cl) (t : List Tm) (x : Int) (w : Wd) (pr : List Int) : Prop where
  rk : rE c t x = 0
  wk : wE w = 0
  pk : P.chks pr = 0
  ok : wE (nW c t x w pr) = 0
  td : (nW c t x w pr).td = Ca.stp c w.td 1
  fs : (nW c t x w pr).fs = w.fs.map (fz c t x pr w.td)
  ps : nP c t x w pr = Pn.suL (du c t w pr) ++ fps c t x pr w.td w.fs
  bk : ∀ k, k < 2121 → Bk.tot (nW c t x w pr).bk k = Bk.tot w.bk k + Bk.tot (nP c t x w pr) k
  st : ∀ f ∈ w.fs, Ag.sE c (Pn.cl t f) f w.td = 0
  fo : ∀ f ∈ w.fs, F.Ok f
  pay : ∀ f ∈ w.fs, Ag.stg c (Pn.cl t f) f w.td = 4 → Cp.pE f (P.pr pr f.pa) x = 0
  dw : Ca.Day w.td
  up : Ca.Up c w.td 1 (nW c t x w pr).td
  dn : Ca.Day (nW c t x w pr).td
  rt : ∀ p ∈ nP c t x w pr, Bk.Right p
theorem nt {c : Cl} {t : List Tm} {x : Int} {w : Wd} {pr : List Int} (h : nE c t x w pr = 0) : Nt c t x w pr := by
  have e1 : (s1 c t x w pr).e = 0 := by
    apply Classical.byContradiction
    intro q
    exact q (((n_err q).1).symm.trans h)
  have ec : Ca.sE c w.td 1 = 0 := by
    apply Classical.byContradiction
    intro q
    exact q (((n_end e1 q).1).symm.trans h)
  obtain ⟨_, nw, np⟩ := n_yes e1 ec
  have R : Run c t x pr w.td (s0 c t x w pr) (s1 c t x w pr) w.fs := run_is e1
  obtain ⟨b0, p0, e0⟩ := s0_ok R.e
  obtain ⟨r0, w0, k0, o0, y0⟩ := nB_ok b0
  obtain ⟨n1, n2, n3, n4, n5, n6, n7⟩ := night_ok R.e
  obtain ⟨d0, f0, l0⟩ := wE_ok w0
  obtain ⟨_, yf, _⟩ := Pn.y_ok y0
  obtain ⟨c1, c2, c3, c4, c5⟩ := Ca.sE_ok ec
  obtain ⟨k1, k2, k3⟩ := K.checks_all f0
  have u := (Ca.stp_is c2 c5.1).1 (by decide)
  have B : Bk.lines (s0 c t x w pr).bk = 0 ∧ ∀ k, k < 2121 → Bk.tot (s0 c t x w pr).bk k = Bk.tot w.bk k + Bk.tot (Pn.suL (du c t w pr)) k := by
    rw [n6]
    unfold psB
    by_cases z : (Pn.suL (du c t w pr)).length = 0
    · rw [if_pos z, List.eq_nil_of_length_eq_zero z]
      exact ⟨l0, fun k _ => by rw [Cp.tot_nil]; omega⟩
    · rw [if_neg z]
      have P := Bk.pE_0.1 (n3 z).2
      exact ⟨Bk.po_ok P, fun k hk => Bk.po_tot P hk⟩
  obtain ⟨B1, B2⟩ := R.bk B.1
  have ofs : (s1 c t x w pr).out = w.fs.map (fz c t x pr w.td) := by rw [R.out, n5]; rfl
  have ops : (s1 c t x w pr).ps = Pn.suL (du c t w pr) ++ fps c t x pr w.td w.fs := by rw [R.ps, n7]
  have td : (nW c t x w pr).td = Ca.stp c w.td 1 := by rw [nw]; exact c4
  have fs : (nW c t x w pr).fs = w.fs.map (fz c t x pr w.td) := by rw [nw]; exact ofs
  refine ⟨r0, w0, k0, ?_, td, fs, np.trans ops, ?_, yf, k2, R.pay, c2, by rw [td]; exact u, by rw [td]; exact c5, ?_⟩
  · refine wE_of ?_ ?_ ?_
    · rw [td]
      rcases Ca.dchk (Ca.stp c w.td 1) with q | q
      · exact q.1
      · exact absurd c5 q.2
    · rw [fs]
      refine K.checks_of (by rw [List.length_map]; exact k1) (fun f hf => ?_) ?_
      · obtain ⟨g, hg, rfl⟩ := List.mem_map.1 hf
        exact (fz_is (k2 g hg) (R.pay g hg)).1
      · rw [fz_ids w.fs R.pay]; exact k3
    · rw [nw]; exact B1
  · intro k hk
    rw [np, ops, Bk.tot_app, nw]
    show Bk.tot (s1 c t x w pr).bk k = _
    rw [B2 k hk, B.2 k hk]
    omega
  · intro p hp
    rw [np, ops, List.mem_append] at hp
    rcases hp with hp | hp
    · by_cases z : (Pn.suL (du c t w pr)).length = 0
      · rw [List.eq_nil_of_length_eq_zero z] at hp; simp at hp
      · exact (Bk.pE_0.1 (n3 z).2).r p hp
    · exact R.rt p hp
theorem nW_at {c : Cl} {t : List Tm} {x : Int} {w : Wd} {pr : List Int} (h : nE c t x w pr = 0) : (nW c t x w pr).fs.length = w.fs.length ∧ ∀ i : Nat, i < w.fs.length → (nW c t x w pr).fs.getD i default = fz c t x pr w.td (w.fs.getD i default) := by
  have e := (nt h).fs
  refine ⟨by rw [e, List.length_map], fun i hi => ?_⟩
  rw [e, getD_at (by rw [List.length_map]; exact hi), List.getElem_map, getD_at hi]
theorem zw_of {c : Cl} {t : List Tm} {x : Int} {w : Wd} {pr : List Int} (h : ¬ nE c t x w pr = 0) : nW c t x w pr = zw ∧ nP c t x w pr = [] := ⟨if_neg h, if_neg h⟩
def mor (l : List Po) (a u : Int) : List Int := (l.filter fun p => decide (p.ac = a ∧ p.ut = u)).map (·.am)
structure Ev1 (c : Cl) (t : List Tm) (x : Int) (w : Wd) (pr : List Int) (a u : Int) : Prop where
  e : Bk.bE (nW c t x w pr).bk a u = Bk.bE w.bk a u
  j : ∀ z ∈ mor (nP c t x w pr) a u ++ [Bk.bV w.bk a u], M.Amt z
  s : Bk.bE w.bk a u = 0 → M.sum (mor (nP c t x w pr) a u ++ [Bk.bV w.bk a u]) = Bk.bV (nW c t x w pr).bk a u ∧ M.Amt (Bk.bV (nW c t x w pr).bk a u)
section
variable {c : Cl} {t : List Tm} {x : Int} {pr : List Int} {td : Int}
end
end Go.Proofs.YtpanlcnoopmchaaGreatDoor.Cy

namespace Go.Proofs.YtpanlcnoopmchaaGreatDoor.Cy
open Go Go.RowKit
structure RJ (c : Cl) (t : List Tm) (x : Int) (pr : List Int) (td : Int) (s : St) (fs : List Fl) (k : Nat) (out : List Fl) (b p : List Po) : Prop where
  le : k ≤ fs.length
  r : run c t x pr td s (fs.take k) = ⟨out, b, p, 0⟩
  ol : out.length = k
  bl : b.length ≤ 2121
  pl : p.length ≤ s.ps.length + 2 * k
section
variable {c : Cl} {t : List Tm} {x : Int} {pr : List Int} {td : Int} {s : St} {fs out : List Fl} {k : Nat} {b p : List Po}
theorem RJ.start (hb : s.bk.length ≤ 2121) (ho : s.out = []) (he : s.e = 0) : RJ c t x pr td s fs 0 [] s.bk s.ps :=
  ⟨Nat.zero_le _, by cases s; simp_all [run], rfl, hb, by omega⟩
theorem RJ.s1 (h : RJ c t x pr td s fs k out b p) (hk : k < fs.length) (g : ¬ Ag.stg c (Pn.cl t (fs.getD k default)) (fs.getD k default) td = 4) : RJ c t x pr td s fs (k + 1) (out ++ [fs.getD k default]) b p :=
  ⟨hk, by rw [run_snoc hk, h.r, one_1 rfl g], by rw [List.length_append, h.ol]; rfl, h.bl, by have := h.pl; omega⟩
theorem RJ.bad (h : RJ c t x pr td s fs k out b p) (hk : k < fs.length) (e : ¬ (one c t x pr td ⟨out, b, p, 0⟩ (fs.getD k default)).e = 0) : (run c t x pr td s fs).e = (one c t x pr td ⟨out, b, p, 0⟩ (fs.getD k default)).e := by
  have q : run c t x pr td s (fs.take (k + 1)) = one c t x pr td ⟨out, b, p, 0⟩ (fs.getD k default) := by rw [run_snoc hk, h.r]
  rw [run_split c t x pr td s fs (k + 1), run_e (by rw [q]; exact e), q]
theorem RJ.s2 (h : RJ c t x pr td s fs k out b p) (hk : k < fs.length) (g : Ag.stg c (Pn.cl t (fs.getD k default)) (fs.getD k default) td = 4) (q : ¬ Cp.pE (fs.getD k default) (P.pr pr (fs.getD k default).pa) x = 0) :
    (run c t x pr td s fs).e = Cp.pE (fs.getD k default) (P.pr pr (fs.getD k default).pa) x := by
  have e := one_2 (s := ⟨out, b, p, 0⟩) rfl g q
  rw [h.bad hk (by rw [e]; exact q), e]
theorem RJ.s3 (h : RJ c t x pr td s fs k out b p) (hk : k < fs.length) (g : Ag.stg c (Pn.cl t (fs.getD k default)) (fs.getD k default) td = 4) (q : Cp.pE (fs.getD k default) (P.pr pr (fs.getD k default).pa) x = 0)
    (z : (Cp.pL (fs.getD k default) (P.pr pr (fs.getD k default).pa) x).length = 0) : RJ c t x pr td s fs (k + 1) (out ++ [Cp.pF (fs.getD k default) (P.pr pr (fs.getD k default).pa) x]) b p :=
  ⟨hk, by rw [run_snoc hk, h.r, one_3 rfl g q z], by rw [List.length_append, h.ol]; rfl, h.bl, by have := h.pl; omega⟩
theorem RJ.s4 (h : RJ c t x pr td s fs k out b p) (hk : k < fs.length) (g : Ag.stg c (Pn.cl t (fs.getD k default)) (fs.getD k default) td = 4) (q : Cp.pE (fs.getD k default) (P.pr pr (fs.getD k default).pa) x = 0)
    (z : ¬ (Cp.pL (fs.getD k default) (P.pr pr (fs.getD k default).pa) x).length = 0) (y : ¬ Bk.pE b (Cp.pL (fs.getD k default) (P.pr pr (fs.getD k default).pa) x) = 0) :
    (run c t x pr td s fs).e = Bk.pE b (Cp.pL (fs.getD k default) (P.pr pr (fs.getD k default).pa) x) := by
  have e := one_4 (s := ⟨out, b, p, 0⟩) rfl g q z y
  rw [h.bad hk (by rw [e]; exact y), e]
theorem RJ.s5 (h : RJ c t x pr td s fs k out b p) (hk : k < fs.length) (g : Ag.stg c (Pn.cl t (fs.getD k default)) (fs.getD k default) td = 4) (q : Cp.pE (fs.getD k default) (P.pr pr (fs.getD k default).pa) x = 0)
    (z : ¬ (Cp.pL (fs.getD k default) (P.pr pr (fs.getD k default).pa) x).length = 0) (y : Bk.pE b (Cp.pL (fs.getD k default) (P.pr pr (fs.getD k default).pa) x) = 0) :
    RJ c t x pr td s fs (k + 1) (out ++ [Cp.pF (fs.getD k default) (P.pr pr (fs.getD k default).pa) x]) (Bk.pL b (Cp.pL (fs.getD k default) (P.pr pr (fs.getD k default).pa) x)) (p ++ Cp.pL (fs.getD k default) (P.pr pr (fs.getD k default).pa) x) := by
  have l2 := pL_len (fs.getD k default) (P.pr pr (fs.getD k default).pa) x
  exact ⟨hk, by rw [run_snoc hk, h.r, one_5 rfl g q z y], by rw [List.length_append, h.ol]; rfl, by have := (Bk.po_lines (Bk.pE_0.1 y)).le; omega, by have := h.pl; rw [List.length_append]; omega⟩
theorem RJ.fin (h : RJ c t x pr td s fs fs.length out b p) : run c t x pr td s fs = ⟨out, b, p, 0⟩ := by
  have e := h.r
  rw [List.take_length] at e
  exact e
end
end Go.Proofs.YtpanlcnoopmchaaGreatDoor.Cy

namespace Go.Proofs.YtpanlcnoopmchaaGreatDoor.Cy
open Go Go.RowKit
theorem stp_on {c : Cl} {n : Int} (hn : Ca.Day n) {k : Nat} (h : 0 ≤ Ca.stp c n k) (h1 : 0 ≤ Ca.stp c (Ca.stp c n k) 1) : Ca.stp c n ((k + 1 : Nat) : Int) = Ca.stp c (Ca.stp c n k) 1 := by
  obtain ⟨a1, a2, a3⟩ := Ca.stp_up hn (by omega) h
  have u := (Ca.stp_is a2 h1).1 (by decide)
  rw [Ca.stp_p (by omega : (0 : Int) < ((k + 1 : Nat) : Int))]
  refine Ca.stU_is ⟨?_, u.2.1, u.2.2.1, ?_⟩
  · have := u.1; omega
  · rw [Ca.cnt_add (b := Ca.stp c n k) a1 (by have := u.1; omega), a3, u.2.2.2]
    omega
structure RwJ (c : Cl) (w : Wd) (k : Nat) (X : Wd) : Prop where
  fl : X.fs.length = w.fs.length
  td : 1 ≤ k → Ca.chk c = 0 ∧ Ca.Day w.td ∧ 0 ≤ Ca.stp c w.td k ∧ X.td = Ca.stp c w.td k ∧ wE X = 0
theorem RwJ.start (c : Cl) (w : Wd) : RwJ c w 0 w := ⟨rfl, fun h => by omega⟩
theorem RwJ.zero {c : Cl} {w X : Wd} (h : RwJ c w 0 X) (e : X = w) : X.td = w.td := by rw [e]
theorem RwJ.next {c : Cl} {t : List Tm} {x : Int} {w X : Wd} {pr : List Int} {k : Nat} (h : RwJ c w k X) (z : k = 0 → X = w) (e : nE c t x X pr = 0) : RwJ c w (k + 1) (nW c t x X pr) := by
  have N := nt e
  refine ⟨by rw [(nW_at e).1]; exact h.fl, fun _ => ?_⟩
  have kc := (rE_ok N.rk).1
  have dn := N.dn
  rw [N.td] at dn
  by_cases k0 : k = 0
  · have := z k0
    subst this
    subst k0
    refine ⟨kc, N.dw, ?_, N.td, N.ok⟩
    exact dn.1
  · obtain ⟨a1, a2, a3, a4, a5⟩ := h.td (by omega)
    have q := stp_on (c := c) a2 a3 (by rw [← a4]; exact dn.1)
    refine ⟨kc, a2, ?_, ?_, N.ok⟩
    · rw [q, ← a4]; exact dn.1
    · rw [q, ← a4]; exact N.td
theorem RwJ.fin {c : Cl} {w X : Wd} {k : Nat} (h : RwJ c w k X) (hk : 1 ≤ k ∧ k ≤ 5) : Ca.sE c w.td k = 0 ∧ Ca.sV c w.td k = X.td := by
  obtain ⟨a1, a2, a3, a4, a5⟩ := h.td hk.1
  have := Ca.sE_of a1 a2 (by omega : (-500 : Int) ≤ (k : Int) ∧ (k : Int) ≤ 500) a3
  exact ⟨this.1, by rw [this.2, a4]⟩
end Go.Proofs.YtpanlcnoopmchaaGreatDoor.Cy

namespace Go.Proofs.YtpanlcnoopmchaaGreatDoor
open Go Go.RowKit V
theorem v_caCheckNil : V.Fn Tryz.prog 23 [] [.agg [.val (.int .i64 127), .val (.slice none 0 0)]] (.int .i64 3) :=
  V.Fn.nilv (os := []) (s := 1) (g := ga e1 []) (v_caCheck ⟨127, []⟩ (by decide)) rfl
theorem v_calBegun : V.Fn Tryz.prog 5 [dt] [] (.bool true) := by
  have c1 := v_caIs Ca.W 739936 (by decide)
  rw [Ca.w1.1, Ca.w1.2] at c1
  have c2 := v_caNext Ca.W 739936 (by decide)
  rw [Ca.w2.1, Ca.w2.2] at c2
  have c3 := v_caStep Ca.W 739935 4 (by decide)
  rw [Ca.w3.1, Ca.w3.2] at c3
  have c4 := v_caStep Ca.W 739937 (-2) (by decide)
  rw [Ca.w4.1, Ca.w4.2] at c4
  have c5 := v_caCount Ca.W 739935 739942 (by decide)
  rw [Ca.w5.1, Ca.w5.2] at c5
  have c6 := v_caFit Ca.W 739949 (by decide)
  rw [Ca.w6.1, Ca.w6.2] at c6
  have c8 := v_caCheck ⟨0, [2, 1]⟩ (by decide)
  rw [Ca.w8] at c8
  refine V.Fn.mk_ V.Tok V.mixed Tryz.func5 rfl Tryz.ntmps5 (by kernel_rfl) rfl rfl ?_
  repeat' ((conv => whnf); first | (refine V.NIf.yes ?_ ?_; · (decide; done)) | (refine V.NIf.no ?_ ?_; · (decide; done)) | refine V.NCond.mk ?_ | refine V.NPick.l ?_ | refine V.NIf.not_ ?_ | refine V.NIf.dec_ ?_ | refine V.a4 ?_ | refine V.a5 ?_ | refine V.NIf.mk (fun _ => ?_) (fun _ => ?_) | refine V.a7 ?_ | refine V.a8 ?_ | refine V.a9 ?_ | refine V.NBoth.mk ?_ ?_ | refine V.b1 ?_ | refine V.b2 ?_ | refine V.NTF.dec ?_ | refine V.b3 ?_ | refine V.b4 ?_ | (refine V.NCall.inl (f := 19) V.Tok V.mixed Tryz.func19 rfl Tryz.ntmps19 (by kernel_rfl) rfl ?_) | ((first | refine V.Fn.k (c1) [2] rfl ?_ ?_ | refine V.Fn.q (c1) [2] rfl ?_ ?_ | refine V.Fn.a (c1) [2] rfl ?_ ?_); · exact V.D_) | ((first | refine V.Fn.k (c2) [4] rfl ?_ ?_ | refine V.Fn.q (c2) [4] rfl ?_ ?_ | refine V.Fn.a (c2) [4] rfl ?_ ?_); · exact V.D_) | ((first | refine V.Fn.k (c3) [6] rfl ?_ ?_ | refine V.Fn.q (c3) [6] rfl ?_ ?_ | refine V.Fn.a (c3) [6] rfl ?_ ?_); · exact V.D_) | ((first | refine V.Fn.k (c4) [8] rfl ?_ ?_ | refine V.Fn.q (c4) [8] rfl ?_ ?_ | refine V.Fn.a (c4) [8] rfl ?_ ?_); · exact V.D_) | ((first | refine V.Fn.k (c5) [10] rfl ?_ ?_ | refine V.Fn.q (c5) [10] rfl ?_ ?_ | refine V.Fn.a (c5) [10] rfl ?_ ?_); · exact V.D_) | ((first | refine V.Fn.k (c6) [12, 0] rfl ?_ ?_ | refine V.Fn.q (c6) [12, 0] rfl ?_ ?_ | refine V.Fn.a (c6) [12, 0] rfl ?_ ?_); · exact V.D_) | ((first | refine V.Fn.k (c8) [13] rfl ?_ ?_ | refine V.Fn.q (c8) [13] rfl ?_ ?_ | refine V.Fn.a (c8) [13] rfl ?_ ?_); · exact V.D_) | (first | refine V.Fn.k0 (v_caCheckNil) rfl ?_ | refine V.Fn.q0 (v_caCheckNil) rfl ?_ | refine V.Fn.a0 (v_caCheckNil) rfl ?_) | (refine V.NDraw.any (by kernel_rfl) ?_) | fail)
  (conv => whnf)
  exact ⟨true, rfl, iff_of_true rfl rfl⟩
end Go.Proofs.YtpanlcnoopmchaaGreatDoor

namespace Go.Proofs.YtpanlcnoopmchaaGreatDoor
open Go.ChangeShapes Go.WideShapes Go.ChangeAt Go.RowKit
def laidList : List (String × DataW Unit) := [("demurrage/date.long", Rows.laid_demurrage_date_long)]
theorem gLong : Tryz.prog.globalNamed "demurrage/date.long" = some 0 := by kernel_rfl
theorem tLong : (Tryz.prog.globals[0]?).map (·.type) = some 162 := by kernel_rfl
theorem cLong : Tryz.prog.cellsOf 162 = 12 := by kernel_rfl
theorem cInt : Tryz.prog.cellsOf 3 = 1 := by kernel_rfl
theorem door_met (os : Os) (args : Array Value) : laidMetH Tryz.prog laidList ((World.doorLaid Tryz.prog 400 os).forCall (fun _ _ => 0) ⟨#[], args, []⟩).memory :=
  laidMetH_of_parts3 (fuel := 8) (laidMet_of_run' 8 (by kernel_rfl) (by kernel_rfl)) (by kernel_rfl) (by kernel_rfl)
theorem long_of_laid {W : World} (h : laidMetH Tryz.prog laidList W) : LongIs W := by
  rw [MakeChecks.laidMetH_plain _ _ _ (by kernel_rfl)] at h
  obtain ⟨ps, ⟨g0, t0, cs0, f0, p0, q0, hg0, ht0, hv0, hd0, _, _⟩, _, _⟩ := h
  obtain rfl := Option.some.inj (gLong.symm.trans hg0)
  obtain rfl := Option.some.inj (tLong.symm.trans ht0)
  have hcs := Lib.cells_of_tab (k := .i64) (zs := [31, 28, 31, 30, 31, 30, 31, 31, 30, 31, 30, 31]) Tryz.underlying162 Tryz.underlying3 cInt cLong hd0
  intro m h1 h2
  have hc := World.var?_cell hg0 hv0 (m.toNat - 1)
  have e : cs0 = (([31, 28, 31, 30, 31, 30, 31, 31, 30, 31, 30, 31] : List Int).map fun z => Value.int .i64 z).toArray := by
    rw [← hcs]
  rw [e] at hc
  have hm : m = 1 ∨ m = 2 ∨ m = 3 ∨ m = 4 ∨ m = 5 ∨ m = 6 ∨ m = 7 ∨ m = 8 ∨ m = 9 ∨ m = 10 ∨ m = 11 ∨ m = 12 := by omega
  rcases hm with rfl | rfl | rfl | rfl | rfl | rfl | rfl | rfl | rfl | rfl | rfl | rfl <;> exact hc
end Go.Proofs.YtpanlcnoopmchaaGreatDoor

namespace Go.Proofs.YtpanlcnoopmchaaGreatDoor
open Go Go.RowKit Go.ChangeShapes Go.WideShapes V
section
variable {H : Type} {enc : TypeId × Value → H} {P : Program} {W : World} {base : Nat} {spare : Nat → Bool} {held : Bool}
theorem open_len {t e s n : Nat} {get : Nat → List Value} {r : Reach} {b0 : Nat} {v : Value} {d : DataW H} {p : List MemPlace} (hu : P.underlying t = some (.slice e)) (h : DataW.Trod enc P W base spare held t v d p) (hl : ArrIs W v s n get) :
    n = 0 ∨ ∃ el sp, d = .slice el sp ∧ n ≤ el.length + sp.length := by
  obtain ⟨A, c, rfl, _⟩ := hl
  obtain ⟨fuel, hf⟩ := h
  rcases Go.Deep.open_slice hu hf with ⟨hcs, _⟩ | ⟨a, len', cap', m, k, D, Pl, hcs, _, hl, hm, hmm, hx, hi⟩
  · have e : (Value.slice A n c) = .slice none 0 0 := by simpa [Value.cells] using hcs
    injection e with e1 e2 e3
    exact .inl e2
  · have e : (Value.slice A n c) = .slice (some a) len' cap' := by simpa [Value.cells] using hcs
    injection e with e1 e2 e3
    subst e2
    injection hx with h1 h2
    exact .inr ⟨_, _, h1, by simp⟩
end
end Go.Proofs.YtpanlcnoopmchaaGreatDoor

namespace Go.Proofs.YtpanlcnoopmchaaGreatDoor
open Go Go.RowKit Go.ChangeShapes Go.WideShapes V
section
variable {H : Type} {enc : TypeId × Value → H} {P : Program} {W : World} {base : Nat} {spare : Nat → Bool} {held : Bool}
theorem len_field {ts : List TypeId} {ds : List (DataW H)} (hsz : (DataW.weightsEach P ts ds).all (· ≤ reachBytes) = true) {j t e s n B i ft o : Nat} {get : Nat → List Value} {v u : Value} {d : DataW H} {p : List MemPlace} {fs : Array Field} (ht : ts[j]? = some t) (hd : ds[j]? = some d)
    (h : DataW.Trod enc P W base spare held t v d p) (hs : P.underlying t = some (.struct fs)) (hf : (fs[i]?).map (fun f => (f.type, f.offset)) = some (ft, o)) (hc : P.cellsOf ft = 1) (hcs : (v.cells.toList.drop o).take 1 = [u])
    (hu : P.underlying ft = some (.slice e)) (hB : P.bytesOf e = B) (hl : ArrIs W u s n get) : n * B ≤ 140737488351232 := by
  obtain ⟨fuel, hr⟩ := h
  obtain ⟨xs, m, _, hx, _, hlen, hg⟩ := DataW.trod_struct hs hr
  obtain ⟨f, hfi, he⟩ := Option.map_eq_some_iff.1 hf
  injection he with e1 e2
  have g := hg i f hfi
  rw [e1, e2, hc, hcs] at g
  have hi : i < fs.size := by
    rcases Nat.lt_or_ge i fs.size with q | q
    · exact q
    · rw [Array.getElem?_eq_none q] at hfi; cases hfi
  rw [List.getElem?_eq_getElem (by omega)] at g
  injection hx with d1 d2
  have hp : (xs.map (·.1))[i]? = some (xs[i]'(by omega)).1 := by
    rw [List.getElem?_map, List.getElem?_eq_getElem (by omega)]; rfl
  have hti : (fs.toList.map (·.type))[i]? = some ft := by
    rw [List.getElem?_map, Array.getElem?_toList, hfi, ← e1]; rfl
  obtain ⟨A, c, rfl, hA⟩ := hl
  have tr : DataW.Trod enc P W base spare held ft (.slice A n c) (xs[i]'(by omega)).1 (xs[i]'(by omega)).2 := ⟨m, g⟩
  rcases open_len (r := .any) (b0 := 0) hu tr ⟨A, c, rfl, hA⟩ with rfl | ⟨el, sp, hq, hn⟩
  · rw [Nat.zero_mul]; omega
  · rw [hq] at hp
    have w1 : (el.length + sp.length) * P.bytesOf e ∈ DataW.weights P ft (.slice el sp) := by simp [DataW.weights, hu]
    have w2 := DataW.weights_mem_each (P := P) hti hp _ w1
    have w3 : (el.length + sp.length) * P.bytesOf e ∈ DataW.weights P t d := by
      rw [d1]
      simp only [DataW.weights, hs]
      exact w2
    have w4 := List.all_eq_true.1 hsz _ (DataW.weights_mem_each ht hd _ w3)
    have w5 : (el.length + sp.length) * P.bytesOf e ≤ reachBytes := by simpa using w4
    rw [hB] at w5
    have : n * B ≤ (el.length + sp.length) * B := Nat.mul_le_mul_right _ hn
    simp only [reachBytes] at w5
    omega
end
end Go.Proofs.YtpanlcnoopmchaaGreatDoor
