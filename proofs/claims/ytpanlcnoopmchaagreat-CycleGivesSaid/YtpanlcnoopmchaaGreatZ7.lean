/- Shared texts, one behind the other: VCy8, VCy9, VNil2, VPen3, VAgeB, VPenB, PenPl2, CyPl3, VPenC, VCyB, VOpenI, VOpenC, VOpenF, VOpenPo, VOpenTm, VOpenW, CyPl4, CyPl5, CompPl2, CyPl6, BookPl4, VLe, VBook12 -/
import Derived.Test.YtpanlcnoopmchaaGreatZ1
import Derived.Test.YtpanlcnoopmchaaGreatZ2
import Derived.Test.YtpanlcnoopmchaaGreatZ3
import Derived.Test.YtpanlcnoopmchaaGreatZ4
import Derived.Test.YtpanlcnoopmchaaGreatZ5
import Derived.Test.YtpanlcnoopmchaaGreatZ6

/- Worlds: the walk of a night that ends in an error. -/
namespace Go.Proofs.YtpanlcnoopmchaaGreat
open Go Go.RowKit V
set_option maxRecDepth 100000
set_option linter.unusedVariables false
set_option maxHeartbeats 8000000 in
theorem v_night_e (c : Cl) (t : List Tm) (x : Int) (w : Wd) (pr : List Int) (hc : c.hs.length ≤ 9223372036854775807) (ht : t.length ≤ 9223372036854775807) (hb : w.bk.length ≤ 9223372036854775807) (hp : pr.length ≤ 9223372036854775807)
    (hf1 : w.fs.length ≤ 1759218604390) (hb1 : w.bk.length ≤ 5864062014634) (h0 : ¬ (Cy.s0 c t x w pr).e = 0) :
    V.FnR Tryz.prog 11 (nightO c t w pr) [ruV c x, .agg [.val (.int .i64 w.td), .ref 2, .ref 3], .one (.ref 4)] (.tup [.agg [.val (.int .i64 (Cy.nW c t x w pr).td), .ref 5, .ref 6], .one (.ref 7), .one (.val (.int .i64 (Cy.nE c t x w pr)))]) [.row 42 10 (Cy.nW c t x w pr).fs.length (ga encF (Cy.nW c t x w pr).fs), .row 65 3 (Cy.nW c t x w pr).bk.length (ga encP (Cy.nW c t x w pr).bk), .row 65 3 (Cy.nP c t x w pr).length (ga encP (Cy.nP c t x w pr))] := by
  obtain ⟨r1, r2, r3⟩ := Cy.n_bad h0
  rw [r1, r2, r3]
  have cR := v_cyRules c t x hc ht
  have cW := v_cyCheck w hb
  have cP := v_prices pr hp
  have cI := v_caIs c w.td hc
  have cD := v_day c t w.fs pr w.td hc ht hp
  rw [show Pn.yL c t w.fs pr w.td = Cy.du c t w pr from rfl] at cD
  have cS := v_psum (Cy.du c t w pr) (by have := Pn.yL_len c t w.fs pr w.td; unfold Cy.du; omega)
  have sl : (Pn.suL (Cy.du c t w pr)).length ≤ 31 := by
    unfold Pn.suL
    split
    all_goals first | exact Pn.pos_len _ _ | exact Nat.zero_le _
  have cB := v_bkPost w.bk (Pn.suL (Cy.du c t w pr)) hb (by omega)
  have e1 := Cy.e_1 (c := c) (t := t) (x := x) (w := w) (pr := pr)
  have e2 := Cy.e_2 (c := c) (t := t) (x := x) (w := w) (pr := pr)
  have e3 := Cy.e_3 (c := c) (t := t) (x := x) (w := w) (pr := pr)
  have e4 := Cy.e_4 (c := c) (t := t) (x := x) (w := w) (pr := pr)
  have e5 := Cy.e_5 (c := c) (t := t) (x := x) (w := w) (pr := pr)
  have e6 := Cy.e_6 (c := c) (t := t) (x := x) (w := w) (pr := pr)
  have e7 := Cy.e_7 (c := c) (t := t) (x := x) (w := w) (pr := pr)
  have e8 := Cy.e_8 (c := c) (t := t) (x := x) (w := w) (pr := pr)
  generalize Pn.suE (Cy.du c t w pr) = SE at *
  generalize Pn.suL (Cy.du c t w pr) = S at *
  generalize Cy.du c t w pr = D at *
  generalize Bk.pE w.bk S = BE at *
  generalize Bk.pL w.bk S = B1 at *
  generalize Pn.yD c t w.fs pr w.td = YD at *
  generalize Cy.rE c t x = RE at *
  generalize Cy.wE w = WE at *
  generalize P.chks pr = CE at *
  generalize Ca.isV c w.td = IV at *
  generalize (Cy.s0 c t x w pr).e = E0 at *
  by_cases hse : SE = 0
  all_goals (
    refine V.FnR.mk_ V.Tok V.mixed Tryz.func11 rfl Tryz.ntmps11 (by kernel_rfl) rfl rfl rfl rfl ?_
    repeat' ((conv => whnf); first | (refine V.NDraw.any (by kernel_rfl) ?_) | (refine V.NIf.yes ?_ ?_; · (assumption; done)) | (refine V.NIf.no ?_ ?_; · (assumption; done)) | (refine V.NIf.yes ?_ ?_; · (decide; done)) | (refine V.NIf.no ?_ ?_; · (decide; done)) | refine V.NCond.mk ?_ | refine V.NPick.l ?_ | refine V.NIf.not_ ?_ | refine V.NIf.dec_ ?_ | refine V.a4 ?_ | refine V.a5 ?_ | refine V.NIf.mk (fun _ => ?_) (fun _ => ?_) | refine V.a7 ?_ | refine V.a8 ?_ | refine V.a9 ?_ | refine V.NBoth.mk ?_ ?_ | refine V.b1 ?_ | refine V.b2 ?_ | refine V.NTF.dec ?_ | refine V.b3 ?_ | refine V.b4 ?_ | ((first | refine V.FnR.k_ (v_cyOwn w hf1 hb1) [2, 3] rfl ?_ ?_ | refine V.FnR.a_ (v_cyOwn w hf1 hb1) [2, 3] rfl ?_ ?_); · exact V.D_) | ((first | refine V.Fn.k (cR) [0, 1] rfl ?_ ?_ | refine V.Fn.q (cR) [0, 1] rfl ?_ ?_ | refine V.Fn.a (cR) [0, 1] rfl ?_ ?_); · exact V.D_) | ((first | refine V.Fn.k (cW) [2, 3] rfl ?_ ?_ | refine V.Fn.q (cW) [2, 3] rfl ?_ ?_ | refine V.Fn.a (cW) [2, 3] rfl ?_ ?_); · exact V.D_) | ((first | refine V.Fn.k (cP) [4] rfl ?_ ?_ | refine V.Fn.q (cP) [4] rfl ?_ ?_ | refine V.Fn.a (cP) [4] rfl ?_ ?_); · exact V.D_) | ((first | refine V.Fn.k (cI) [0] rfl ?_ ?_ | refine V.Fn.q (cI) [0] rfl ?_ ?_ | refine V.Fn.a (cI) [0] rfl ?_ ?_); · exact V.D_) | (refine V.NCall.inl (f := 38) V.Tok V.mixed Tryz.func38 rfl Tryz.ntmps38 (by kernel_rfl) rfl ?_) | (refine V.NCall.inl (f := 41) V.Tok V.mixed Tryz.func41 rfl Tryz.ntmps41 (by kernel_rfl) rfl ?_) | (refine V.NCall.inl (f := 67) V.Tok V.mixed Tryz.func67 rfl Tryz.ntmps67 (by kernel_rfl) rfl ?_) | ((first | refine V.FnR.k_ (cD) [0, 1, 9, 4] rfl ?_ ?_ | refine V.FnR.a_ (cD) [0, 1, 9, 4] rfl ?_ ?_); · exact V.D_) | ((first | refine V.FnR.k_ (cS) [12] rfl ?_ ?_ | refine V.FnR.a_ (cS) [12] rfl ?_ ?_); · exact V.D_) | ((first | refine V.FnR.k_ (cB) [10, 13] rfl ?_ ?_ | refine V.FnR.a_ (cB) [10, 13] rfl ?_ ?_); · exact V.D_) | (refine NOne.mk ?_ ?_; · (intro k hk; rfl)) | (refine NApp.all_ (by first | omega | (simp; omega)) (by omega) ?_) | (refine V.NDraw.any (by kernel_rfl) ?_) | fail)
    all_goals (conv => whnf)
    all_goals clear cR cW cP cI cD cS cB
    all_goals first
      | exact absurd (e8 (by assumption) (by assumption) (by assumption) (by assumption) (by assumption) (by omega) (by omega)) h0
      | rw [e1 (by assumption)]
      | rw [e2 (by assumption) (by assumption)]
      | rw [e3 (by assumption) (by assumption) (by assumption)]
      | rw [e4 (by assumption) (by assumption) (by assumption) (by assumption)]
      | rw [e5 (by assumption) (by assumption) (by assumption) (by assumption) (by assumption)]
      | rw [e6 (by assumption) (by assumption) (by assumption) (by assumption) (by assumption) (by assumption) (by assumption)]
      | rw [e7 (by assumption) (by assumption) (by assumption) (by assumption) (by assumption) (by omega) (by omega) (by assumption)]
      | trace_state
    all_goals clear e1 e2 e3 e4 e5 e6 e7 e8 h0
    all_goals (
      refine V.NLoop.auto (fun (k : Nat) => [(62, .one (.val (.int .i64 k)))]) (fun (k : Nat) => []) [] [] (fun (k : Nat) => w.fs.length - k) (fun (k : Nat) => k ≤ w.fs.length) 0 (Nat.zero_le _) V.S_ V.S_ (fun _ => ⟨rfl, rfl⟩) ?_; (conv => whnf); refine ⟨⟨rfl, rfl⟩, ?_⟩
      rintro k hk
      by_cases hlt : k < w.fs.length
      · repeat' ((conv => whnf); first | (refine V.NIf.no ?_ ?_; · (assumption; done)) | (refine V.NIf.no ?_ ?_; · (decide; done)) | refine V.NCond.mk ?_ | refine V.NPick.l ?_ | refine V.NIf.not_ ?_ | refine V.NIf.dec_ ?_ | refine V.a4 ?_ | refine V.a5 ?_ | refine V.NIf.mk (fun _ => ?_) (fun _ => ?_) | refine V.a7 ?_ | refine V.a8 ?_ | refine V.a9 ?_ | refine V.NBoth.mk ?_ ?_ | refine V.b1 ?_ | refine V.b2 ?_ | refine V.NTF.dec ?_ | refine V.b3 ?_ | refine V.b4 ?_ | (refine V.NDraw.any (by kernel_rfl) ?_) | fail)
        all_goals (conv => whnf)
        all_goals first
          | exact V.NBack.at_ (k + 1) [] (by omega) (by omega) V.S_ rfl V.S_ V.S_ V.S_
          | trace_state
      · obtain rfl : k = w.fs.length := by omega
        repeat' ((conv => whnf); first | (refine V.NIf.no ?_ ?_; · (assumption; done)) | (refine V.NIf.no ?_ ?_; · (decide; done)) | refine V.NCond.mk ?_ | refine V.NPick.l ?_ | refine V.NIf.not_ ?_ | refine V.NIf.dec_ ?_ | refine V.a4 ?_ | refine V.a5 ?_ | refine V.NIf.mk (fun _ => ?_) (fun _ => ?_) | refine V.a7 ?_ | refine V.a8 ?_ | refine V.a9 ?_ | refine V.NBoth.mk ?_ ?_ | refine V.b1 ?_ | refine V.b2 ?_ | refine V.NTF.dec ?_ | refine V.b3 ?_ | refine V.b4 ?_ | (refine V.NCall.inl (f := 44) V.Tok V.mixed Tryz.func44 rfl Tryz.ntmps44 (by kernel_rfl) rfl ?_) | (refine V.NDraw.any (by kernel_rfl) ?_) | fail)
        all_goals (conv => whnf)
        all_goals first
          | exact V.er000
          | trace_state))
end Go.Proofs.YtpanlcnoopmchaaGreat

/- Worlds: a night, whole. -/
namespace Go.Proofs.YtpanlcnoopmchaaGreat
open Go Go.RowKit V
set_option maxRecDepth 100000
set_option linter.unusedVariables false
theorem v_night (c : Cl) (t : List Tm) (x : Int) (w : Wd) (pr : List Int) (hc : c.hs.length ≤ 9223372036854775807) (ht : t.length ≤ 9223372036854775807) (hp : pr.length ≤ 9223372036854775807) (hf1 : w.fs.length ≤ 1759218604390) (hb1 : w.bk.length ≤ 5864062014634) :
    V.FnR Tryz.prog 11 (nightO c t w pr) [ruV c x, .agg [.val (.int .i64 w.td), .ref 2, .ref 3], .one (.ref 4)] (.tup [.agg [.val (.int .i64 (Cy.nW c t x w pr).td), .ref 5, .ref 6], .one (.ref 7), .one (.val (.int .i64 (Cy.nE c t x w pr)))]) [.row 42 10 (Cy.nW c t x w pr).fs.length (ga encF (Cy.nW c t x w pr).fs), .row 65 3 (Cy.nW c t x w pr).bk.length (ga encP (Cy.nW c t x w pr).bk), .row 65 3 (Cy.nP c t x w pr).length (ga encP (Cy.nP c t x w pr))] := by
  by_cases h0 : (Cy.s0 c t x w pr).e = 0
  · by_cases hS : (Pn.suL (Cy.du c t w pr)).length = 0
    · exact v_night_a c t x w pr hc ht (by omega) hp h0 hS
    · exact v_night_b c t x w pr hc ht (by omega) hp h0 hS
  · exact v_night_e c t x w pr hc ht (by omega) hp hf1 hb1 h0
end Go.Proofs.YtpanlcnoopmchaaGreat

/- A call that is handed nil in a struct's field. -/
namespace Go.Proofs.YtpanlcnoopmchaaGreat.V
open Go Go.RowKit
set_option linter.unusedVariables false
theorem Ats.nilf {ρ : Rho} {nx : Nat} (hx : ρ nx = none) : ∀ {l : List At} {cs : List Value} {i : Nat}, l[i]? = some (.val (.slice none 0 0)) → Ats ρ l cs → Ats (upd ρ nx (.slice none 0 0)) (l.set i (.ref nx)) cs
  | [], _, i, h, _ => by simp at h
  | a :: l, _, 0, h, ⟨u, r, e, ha, hr⟩ => by
    have ea : a = .val (.slice none 0 0) := by simpa using h
    subst ea
    have eu : u = .slice none 0 0 := ha
    subst eu
    exact ⟨_, r, e, ⟨upd_same _ _ _, rfl⟩, hr.ext (ext_upd hx)⟩
  | a :: l, _, i + 1, h, ⟨u, r, e, ha, hr⟩ => ⟨u, r, e, At.is_ext (ext_upd hx) ha, Ats.nilf hx (by simpa using h) hr⟩
theorem Svs.nilf {ρ : Rho} {nx : Nat} (hx : ρ nx = none) {c : List At} {i : Nat} (hi : c[i]? = some (.val (.slice none 0 0))) : ∀ {args : List SV} {xs : List Value} {j : Nat}, args[j]? = some (.agg c) → Svs ρ args xs → Svs (upd ρ nx (.slice none 0 0)) (args.set j (.agg (c.set i (.ref nx)))) xs
  | [], _, j, h, _ => by simp at h
  | a :: l, _, 0, h, ⟨u, r, e, ha, hr⟩ => by
    have ea : a = .agg c := by simpa using h
    subst ea
    obtain ⟨cs, hc, ex⟩ := ha
    exact ⟨u, r, e, ⟨cs, Ats.nilf hx hi hc, ex⟩, Svs.ext (ext_upd hx) hr⟩
  | a :: l, _, j + 1, h, ⟨u, r, e, ha, hr⟩ => ⟨u, r, e, SV.is1_ext (ext_upd hx) ha, Svs.nilf hx hi (by simpa using h) hr⟩
theorem NCall.nilf {P : Program} {f : FuncId} {args : List SV} {obs : Obs} {nx : Nat} {K : SV → Obs → Nat → Prop} (j i s : Nat) (c : List At) (e : args[j]? = some (.agg c)) (hi : c[i]? = some (.val (.slice none 0 0))) (h : NCall P f (args.set j (.agg (c.set i (.ref nx)))) ((nx, .arr s 0 fun _ => []) :: obs) (nx + 1) K) : NCall P f args obs nx K := by
  refine ⟨h.b, fun B ρ w xs hC ha => ?_⟩
  have hx := hC.new nx (Nat.le_refl _)
  have hC' := hC.more (v := .slice none 0 0) (o := .arr s 0 fun _ => []) (Below.refl _ _) ⟨_, upd_same _ _ _, none, 0, rfl, by omega, by omega, fun k hk => by omega⟩ (fun b hf => by simp [foot] at hf)
  refine (h.h B _ w xs hC' (Svs.nilf hx hi e ha)).mono ?_
  rintro e w' ⟨v, obs', nx', ρ', x, hK, hE, r⟩
  exact ⟨v, obs', nx', ρ', x, hK, fun i y hy => hE i y (by have : i ≠ nx := fun q => (by rw [q, hx] at hy; cases hy); simpa [upd, this] using hy), r⟩
end Go.Proofs.YtpanlcnoopmchaaGreat.V

/- What a day costs, by the document: the walk. -/
namespace Go.Proofs.YtpanlcnoopmchaaGreat
open Go Go.RowKit V
set_option maxRecDepth 100000
set_option linter.unusedVariables false
end Go.Proofs.YtpanlcnoopmchaaGreat

/- What must be in any case, of ages. -/
namespace Go.Proofs.YtpanlcnoopmchaaGreat
open Go Go.RowKit V
set_option maxRecDepth 100000
set_option linter.unusedVariables false
theorem v_someTerms : V.Fn Tryz.prog 80 [] [] (.agg #[.int .i64 4, .int .i64 7, .int .i64 2, .int .i64 100]) := by
  refine V.Fn.mk_ V.Tok V.mixed Tryz.func80 rfl Tryz.ntmps80 (by kernel_rfl) rfl rfl ?_
  repeat' ((conv => whnf); first | refine V.NCond.mk ?_ | refine V.NPick.l ?_ | refine V.NIf.not_ ?_ | refine V.NIf.dec_ ?_ | refine V.a4 ?_ | refine V.a5 ?_ | refine V.NIf.mk (fun _ => ?_) (fun _ => ?_) | refine V.a7 ?_ | refine V.a8 ?_ | refine V.a9 ?_ | refine V.NBoth.mk ?_ ?_ | refine V.b1 ?_ | refine V.b2 ?_ | refine V.NTF.dec ?_ | refine V.b3 ?_ | refine V.b4 ?_ | (refine V.NDraw.any (by kernel_rfl) ?_) | fail)
  all_goals (conv => whnf)
  all_goals exact ⟨rfl, rfl, rfl, rfl, trivial⟩
end Go.Proofs.YtpanlcnoopmchaaGreat

/- What must be in any case, of penalties. -/
namespace Go.Proofs.YtpanlcnoopmchaaGreat
open Go Go.RowKit V
set_option maxRecDepth 100000
set_option linter.unusedVariables false
def tm0 : Tm := ⟨4, 7, 2, 100⟩
namespace Pn
def cls : List Tm := List.replicate 6 tm0
def tens : List Int := List.replicate 20 100000
theorem rep_at {α : Type} (x d : α) {n j : Nat} (h : j < n) : (List.replicate n x).getD j d = x := by simp [List.getD, h]
end Pn
theorem v_classes : V.FnR Tryz.prog 114 [] [] (.one (.ref 0)) [.row 60 4 6 (ga encTm Pn.cls)] := by
  refine V.FnR.mk_ V.Tok V.mixed Tryz.func114 rfl Tryz.ntmps114 (by kernel_rfl) rfl rfl rfl rfl ?_
  repeat' ((conv => whnf); first | refine V.NCond.mk ?_ | refine V.NPick.l ?_ | refine V.NIf.not_ ?_ | refine V.NIf.dec_ ?_ | refine V.a4 ?_ | refine V.a5 ?_ | refine V.NIf.mk (fun _ => ?_) (fun _ => ?_) | refine V.a7 ?_ | refine V.a8 ?_ | refine V.a9 ?_ | refine V.NBoth.mk ?_ ?_ | refine V.b1 ?_ | refine V.b2 ?_ | refine V.NTF.dec ?_ | refine V.b3 ?_ | refine V.b4 ?_ | (refine NMake.mk ⟨6, 6, rfl, rfl, by omega, by omega, by first | omega | decide | (simp; done) | (simp; omega), ?_⟩) | (refine V.NDraw.any (by kernel_rfl) ?_) | fail)
  all_goals (conv => whnf)
  refine V.NLoop.auto (fun (k : Nat) => [(2, .one (.val (.int .i64 k))), (1, .one (.ref 1))]) (fun (k : Nat) => [(1, .row 60 4 6 fun j => encTm (if j < k then tm0 else (⟨0, 0, 0, 0⟩ : Tm)))]) [] [] (fun (k : Nat) => 6 - k) (fun (k : Nat) => k ≤ 6) 0 (Nat.zero_le _) V.S_ (by (conv => whnf); exact ⟨⟨rfl, rfl, rfl, fun j hj => (congrArg encTm (show (if j < 0 then tm0 else (⟨0, 0, 0, 0⟩ : Tm)) = ⟨0, 0, 0, 0⟩ from if_neg (Nat.not_lt_zero j))).symm⟩, trivial⟩) (fun _ => ⟨rfl, rfl⟩) ?_; (conv => whnf); refine ⟨⟨rfl, rfl⟩, ?_⟩
  rintro k hk
  by_cases hlt : k < 6
  · repeat' ((conv => whnf); first | refine V.NCond.mk ?_ | refine V.NPick.l ?_ | refine V.NIf.not_ ?_ | refine V.NIf.dec_ ?_ | refine V.a4 ?_ | refine V.a5 ?_ | refine V.NIf.mk (fun _ => ?_) (fun _ => ?_) | refine V.a7 ?_ | refine V.a8 ?_ | refine V.a9 ?_ | refine V.NBoth.mk ?_ ?_ | refine V.b1 ?_ | refine V.b2 ?_ | refine V.NTF.dec ?_ | refine V.b3 ?_ | refine V.b4 ?_ | (first | refine V.Fn.k0 (v_someTerms) rfl ?_ | refine V.Fn.q0 (v_someTerms) rfl ?_ | refine V.Fn.a0 (v_someTerms) rfl ?_) | (refine NIdx.mk ⟨k, rfl, by omega, ?_⟩) | (refine NPut.mk ⟨fun j => encTm (if j < k + 1 then tm0 else (⟨0, 0, 0, 0⟩ : Tm)), ?_, ?_⟩) | (refine V.NDraw.any (by kernel_rfl) ?_) | fail)
    all_goals (conv => whnf)
    · intro j hj
      by_cases e : j = k
      · rw [if_pos e]; exact congrArg encTm (if_pos (by omega))
      · rw [if_neg e]
        by_cases e2 : j < k
        · exact congrArg encTm ((if_pos (by omega)).trans (if_pos e2).symm)
        · exact congrArg encTm ((if_neg (by omega)).trans (if_neg e2).symm)
    · exact V.NBack.at_ (k + 1) [] (by omega) (by omega) V.S_ rfl ⟨⟨rfl, rfl, rfl, fun _ _ => rfl⟩, trivial⟩ V.S_ V.S_
  obtain rfl : k = 6 := by omega
  repeat' ((conv => whnf); first | refine V.NCond.mk ?_ | refine V.NPick.l ?_ | refine V.NIf.not_ ?_ | refine V.NIf.dec_ ?_ | refine V.a4 ?_ | refine V.a5 ?_ | refine V.NIf.mk (fun _ => ?_) (fun _ => ?_) | refine V.a7 ?_ | refine V.a8 ?_ | refine V.a9 ?_ | refine V.NBoth.mk ?_ ?_ | refine V.b1 ?_ | refine V.b2 ?_ | refine V.NTF.dec ?_ | refine V.b3 ?_ | refine V.b4 ?_ | (refine V.NDraw.any (by kernel_rfl) ?_) | fail)
  all_goals (conv => whnf)
  exact NRet.mk_ [some 1] rfl rfl ⟨⟨rfl, rfl, rfl, fun j hj => congrArg encTm ((if_pos hj).trans (Pn.rep_at tm0 default hj).symm)⟩, trivial⟩
theorem v_tenEach : V.FnR Tryz.prog 55 [] [] (.one (.ref 0)) [.row 3 1 20 (ga e1 Pn.tens)] := by
  refine V.FnR.mk_ V.Tok V.mixed Tryz.func55 rfl Tryz.ntmps55 (by kernel_rfl) rfl rfl rfl rfl ?_
  repeat' ((conv => whnf); first | refine V.NCond.mk ?_ | refine V.NPick.l ?_ | refine V.NIf.not_ ?_ | refine V.NIf.dec_ ?_ | refine V.a4 ?_ | refine V.a5 ?_ | refine V.NIf.mk (fun _ => ?_) (fun _ => ?_) | refine V.a7 ?_ | refine V.a8 ?_ | refine V.a9 ?_ | refine V.NBoth.mk ?_ ?_ | refine V.b1 ?_ | refine V.b2 ?_ | refine V.NTF.dec ?_ | refine V.b3 ?_ | refine V.b4 ?_ | (refine NMake.mk ⟨20, 20, rfl, rfl, by omega, by omega, by first | omega | decide | (simp; done) | (simp; omega), ?_⟩) | (refine V.NDraw.any (by kernel_rfl) ?_) | fail)
  all_goals (conv => whnf)
  refine V.NLoop.auto (fun (k : Nat) => [(2, .one (.val (.int .i64 k))), (1, .one (.ref 1))]) (fun (k : Nat) => [(1, .row 3 1 20 fun j => e1 (if j < k then 100000 else 0))]) [] [] (fun (k : Nat) => 20 - k) (fun (k : Nat) => k ≤ 20) 0 (Nat.zero_le _) V.S_ (by (conv => whnf); exact ⟨⟨rfl, rfl, rfl, fun j hj => (congrArg e1 (if_neg (Nat.not_lt_zero j))).symm⟩, trivial⟩) (fun _ => ⟨rfl, rfl⟩) ?_; (conv => whnf); refine ⟨⟨rfl, rfl⟩, ?_⟩
  rintro k hk
  by_cases hlt : k < 20
  · repeat' ((conv => whnf); first | refine V.NCond.mk ?_ | refine V.NPick.l ?_ | refine V.NIf.not_ ?_ | refine V.NIf.dec_ ?_ | refine V.a4 ?_ | refine V.a5 ?_ | refine V.NIf.mk (fun _ => ?_) (fun _ => ?_) | refine V.a7 ?_ | refine V.a8 ?_ | refine V.a9 ?_ | refine V.NBoth.mk ?_ ?_ | refine V.b1 ?_ | refine V.b2 ?_ | refine V.NTF.dec ?_ | refine V.b3 ?_ | refine V.b4 ?_ | (refine NIdx.mk ⟨k, rfl, by omega, ?_⟩) | (refine NPut.mk ⟨fun j => e1 (if j < k + 1 then 100000 else 0), ?_, ?_⟩) | (refine V.NDraw.any (by kernel_rfl) ?_) | fail)
    all_goals (conv => whnf)
    · intro j hj
      by_cases e : j = k
      · rw [if_pos e]; exact congrArg e1 (if_pos (by omega))
      · rw [if_neg e]
        by_cases e2 : j < k
        · exact congrArg e1 ((if_pos (by omega)).trans (if_pos e2).symm)
        · exact congrArg e1 ((if_neg (by omega)).trans (if_neg e2).symm)
    · exact V.NBack.at_ (k + 1) [] (by omega) (by omega) V.S_ rfl ⟨⟨rfl, rfl, rfl, fun _ _ => rfl⟩, trivial⟩ V.S_ V.S_
  obtain rfl : k = 20 := by omega
  repeat' ((conv => whnf); first | refine V.NCond.mk ?_ | refine V.NPick.l ?_ | refine V.NIf.not_ ?_ | refine V.NIf.dec_ ?_ | refine V.a4 ?_ | refine V.a5 ?_ | refine V.NIf.mk (fun _ => ?_) (fun _ => ?_) | refine V.a7 ?_ | refine V.a8 ?_ | refine V.a9 ?_ | refine V.NBoth.mk ?_ ?_ | refine V.b1 ?_ | refine V.b2 ?_ | refine V.NTF.dec ?_ | refine V.b3 ?_ | refine V.b4 ?_ | (refine V.NDraw.any (by kernel_rfl) ?_) | fail)
  all_goals (conv => whnf)
  exact NRet.mk_ [some 1] rfl rfl ⟨⟨rfl, rfl, rfl, fun j hj => congrArg e1 ((if_pos hj).trans (Pn.rep_at 100000 default hj).symm)⟩, trivial⟩
end Go.Proofs.YtpanlcnoopmchaaGreat

/- Plain facts on what lateness costs: a day and a sum that are looked at in any case. -/
namespace Go.Proofs.YtpanlcnoopmchaaGreat
set_option linter.unusedVariables false
set_option maxRecDepth 100000
namespace Pn
def f1 : Fl := ⟨7, 1, 2, 0, 3, 739935, 3000, 0, 0, 0⟩
def d1 : List Du := [⟨1, 2, 3⟩]
theorem t_cls : tE cls = 0 := tE_of (by decide) fun x hx => by rw [List.eq_of_mem_replicate hx]; decide
theorem p_tens : P.chks tens = 0 := P.chks_of (by decide) fun p hp => by rw [List.eq_of_mem_replicate hp]; decide
theorem w_chk : Ca.chk Ca.W = 0 := by decide
theorem o_yes : oE Ca.W 739937 = 0 := oE_yes w_chk ⟨by decide, by decide⟩
end Pn
end Go.Proofs.YtpanlcnoopmchaaGreat

/- Plain facts on worlds: the nights that are looked at in any case. -/
namespace Go.Proofs.YtpanlcnoopmchaaGreat
set_option linter.unusedVariables false
set_option maxRecDepth 100000
namespace Cy
open Pn (f1 cls tens)
def w0 : Wd := ⟨739935, [], []⟩
def w1 : Wd := ⟨739935, [f1], []⟩
def f2 : Fl := ⟨7, 1, 2, 0, 3, 739935, 3000, 1000, 0, 0⟩
def f3 : Fl := ⟨7, 1, 2, 0, 3, 739935, 3000, 1000, 0, 2000⟩
def k2 : List Po := [⟨1, 3, -1000⟩, ⟨2, 3, 1000⟩]
def k3 : List Po := [⟨1, 0, -2⟩, ⟨1, 3, -1000⟩, ⟨2, 0, 2⟩, ⟨2, 3, 1000⟩]
def k4 : List Po := [⟨1, 0, -4⟩, ⟨1, 3, -1000⟩, ⟨2, 0, 4⟩, ⟨2, 3, 1000⟩]
def k5 : List Po := [⟨1, 0, -20004⟩, ⟨1, 3, -1000⟩, ⟨2, 0, 20004⟩, ⟨2, 3, 1000⟩]
def w3 : Wd := ⟨739937, [f2], k2⟩
def w4 : Wd := ⟨739956, [f2], k3⟩
def w5 : Wd := ⟨739957, [f3], k5⟩
def du0 : List Du := [⟨1, 2, 2⟩]
def su0 : List Po := [⟨1, 0, -2⟩, ⟨2, 0, 2⟩]
theorem b_add : adE w0 f1 = 0 := by kernel_rfl
theorem b_addW : adW w0 f1 = w1 := adW_yes b_add
theorem b_dv : dvE w1 7 1000 = 0 := by kernel_rfl
theorem b_dvK : Bk.pL [] (Cp.mvd 1 2 3 1000) = k2 := by kernel_rfl
theorem b_dvW : dvW w1 7 1000 = ⟨739935, [f2], k2⟩ := (dvW_yes b_dv).trans (wd_ext rfl rfl b_dvK)
theorem b_dn : dvE w1 8 1 = 5 := by kernel_rfl
theorem b_wz : wE zw = 0 := by kernel_rfl
theorem b_rz : rE ⟨0, []⟩ [] 0 = 1 := by kernel_rfl
theorem b_w3 : wE w3 = 0 := by kernel_rfl
theorem b_w4 : wE w4 = 0 := by kernel_rfl
theorem b_w5 : wE w5 = 0 := by kernel_rfl
theorem b_r : rE Ca.W cls 0 = 0 := rE_4 Pn.w_chk Pn.t_cls (by decide)
theorem b_o3 : Ca.op Ca.W 739937 = 1 := by decide
theorem b_o4 : Ca.op Ca.W 739956 = 1 := by decide
theorem b_cl : Pn.cl cls f2 = Ag.A := Pn.rep_at tm0 default (by decide)
theorem b_e3 : Ag.sE Ca.W Ag.A f2 739937 = 0 := Ag.sE_of (by decide) (by decide) (by decide) (by decide) (by exact Ag.a_th)
theorem b_e4 : Ag.sE Ca.W Ag.A f2 739956 = 0 := Ag.sE_of (by decide) (by decide) (by decide) (by decide) (by exact Ag.a_th)
theorem b_s3 : Ag.stg Ca.W Ag.A f2 739937 = 1 := ((Ag.stg_is b_e3).2 (by decide)).2.1 (by decide) (by rw [show f2.day = 739935 from rfl, Ag.a_1]; decide)
theorem b_q : Pn.qF cls tens f2 = 2 := by
  show Pn.cs (F.left f2) (P.pr tens f2.pa) (Pn.cl cls f2).ra = 2
  rw [show F.left f2 = 2000 by decide, show P.pr tens f2.pa = 100000 from Pn.rep_at 100000 default (by decide), b_cl]
  decide
theorem b_s4 : Ag.stg Ca.W Ag.A f2 739956 = 4 := ((Ag.stg_is b_e4).2 (by decide)).2.2.2.2 (by rw [show f2.day = 739935 from rfl, Ag.a_3]; decide)
theorem b_su : Pn.suE du0 = 0 ∧ Pn.suL du0 = su0 := by decide
theorem b_y (n : Int) (h : Ca.Day n) (o : Ca.op Ca.W n = 1) (s : Ag.sE Ca.W Ag.A f2 n = 0) (g : 1 ≤ Ag.stg Ca.W Ag.A f2 n ∧ Ag.stg Ca.W Ag.A f2 n ≤ 4) : Pn.yD Ca.W cls [f2] tens n = 0 ∧ Pn.yL Ca.W cls [f2] tens n = du0 := by
  have e : Pn.eF Ca.W cls n f2 = 0 := by show Ag.sE Ca.W (Pn.cl cls f2) f2 n = 0; rw [b_cl]; exact s
  have y := Pn.y_yes (c := Ca.W) (t := cls) (l := [f2]) (ps := tens) (n := n) (Pn.yE_of ⟨Pn.w_chk, Pn.t_cls, by decide, Pn.p_tens, Pn.oE_yes Pn.w_chk ⟨h, o⟩⟩) (fb_yes fun d hd => by rw [List.mem_singleton] at hd; rw [hd]; exact e)
  refine ⟨y.1, y.2.trans ?_⟩
  show Pn.du1 Ca.W cls tens n f2 ++ [] = du0
  rw [Pn.du1_yes (by rw [b_cl]; exact (Pn.late_iff s).2 g) (by rw [b_q]; decide), b_q]
  rfl
theorem b_s0 (w : Wd) (K : List Po) (hw : wE w = 0) (hf : w.fs = [f2]) (o : Ca.op Ca.W w.td = 1) (s : Ag.sE Ca.W Ag.A f2 w.td = 0) (g : 1 ≤ Ag.stg Ca.W Ag.A f2 w.td ∧ Ag.stg Ca.W Ag.A f2 w.td ≤ 4) (h : Ca.Day w.td) (e : Bk.pE w.bk su0 = 0) (k : Bk.pL w.bk su0 = K) : s0 Ca.W cls 0 w tens = ⟨[], K, su0, 0⟩ := by
  obtain ⟨y1, y2⟩ := b_y w.td h o s g
  have d : du Ca.W cls w tens = du0 := by unfold du; rw [hf]; exact y2
  have n : nB Ca.W cls 0 w tens = 0 := (nB_5 b_r hw Pn.p_tens o).trans (by rw [hf]; exact y1)
  have p : psE w (du Ca.W cls w tens) = 0 := by
    rw [d]
    unfold psE
    rw [b_su.1, b_su.2, if_neg (by decide), if_neg (by decide)]
    exact e
  rw [s0_3 n p, d]
  unfold psB
  rw [b_su.2, if_neg (by decide), k]
theorem b_pE3 : Bk.pE k2 su0 = 0 := by kernel_rfl
theorem b_pL3 : Bk.pL k2 su0 = k3 := by kernel_rfl
theorem b_pE4 : Bk.pE k3 su0 = 0 := by kernel_rfl
theorem b_pL4 : Bk.pL k3 su0 = k4 := by kernel_rfl
theorem b_pay : Cp.pE f2 100000 0 = 0 ∧ Cp.pF f2 100000 0 = f3 ∧ Cp.pL f2 100000 0 = [⟨1, 0, -20000⟩, ⟨2, 0, 20000⟩] := ⟨by decide, by kernel_rfl, by decide⟩
theorem b_pE5 : Bk.pE k4 [⟨1, 0, -20000⟩, ⟨2, 0, 20000⟩] = 0 := by kernel_rfl
theorem b_pL5 : Bk.pL k4 [⟨1, 0, -20000⟩, ⟨2, 0, 20000⟩] = k5 := by kernel_rfl
theorem b_st3 : Ca.sV Ca.W 739937 1 = 739938 ∧ Ca.sE Ca.W 739937 1 = 0 := by
  have s : Ca.stp Ca.W 739937 1 = 739938 := (Ca.stp_p (by decide)).trans (Ca.stU_is (by unfold Ca.Up; decide))
  obtain ⟨a, b⟩ := Ca.sE_of (c := Ca.W) (n := 739937) (m := 1) Ca.w0 (by decide) (by decide) (by rw [s]; decide)
  exact ⟨b.trans s, a⟩
theorem b_st4 : Ca.sV Ca.W 739956 1 = 739957 ∧ Ca.sE Ca.W 739956 1 = 0 := by
  have s : Ca.stp Ca.W 739956 1 = 739957 := (Ca.stp_p (by decide)).trans (Ca.stU_is (by unfold Ca.Up; decide))
  obtain ⟨a, b⟩ := Ca.sE_of (c := Ca.W) (n := 739956) (m := 1) Ca.w0 (by decide) (by decide) (by rw [s]; decide)
  exact ⟨b.trans s, a⟩
theorem b_n3 : nE Ca.W cls 0 w3 tens = 0 ∧ nW Ca.W cls 0 w3 tens = ⟨739938, [f2], k3⟩ ∧ nP Ca.W cls 0 w3 tens = su0 := by
  have a := b_s0 w3 k3 b_w3 rfl b_o3 b_e3 (by rw [show w3.td = 739937 from rfl, b_s3]; decide) (by decide) b_pE3 b_pL3
  have r : s1 Ca.W cls 0 w3 tens = ⟨[f2], k3, su0, 0⟩ := by
    unfold s1
    rw [a]
    show one Ca.W cls 0 tens 739937 ⟨[], k3, su0, 0⟩ f2 = _
    rw [one_1 rfl (by rw [b_cl, b_s3]; decide)]
    rfl
  obtain ⟨x1, x2, x3⟩ := n_yes (c := Ca.W) (t := cls) (x := 0) (w := w3) (pr := tens) (by rw [r]) b_st3.2
  rw [r] at x2 x3
  exact ⟨x1, x2.trans (wd_ext b_st3.1 rfl rfl), x3⟩
theorem b_n4 : nE Ca.W cls 0 w4 tens = 0 ∧ nW Ca.W cls 0 w4 tens = w5 ∧ nP Ca.W cls 0 w4 tens = su0 ++ [⟨1, 0, -20000⟩, ⟨2, 0, 20000⟩] := by
  have a := b_s0 w4 k4 b_w4 rfl b_o4 b_e4 (by rw [show w4.td = 739956 from rfl, b_s4]; decide) (by decide) b_pE4 b_pL4
  have pr3 : P.pr tens f2.pa = 100000 := Pn.rep_at 100000 default (by decide)
  have r : s1 Ca.W cls 0 w4 tens = ⟨[f3], k5, su0 ++ [⟨1, 0, -20000⟩, ⟨2, 0, 20000⟩], 0⟩ := by
    unfold s1
    rw [a]
    show one Ca.W cls 0 tens 739956 ⟨[], k4, su0, 0⟩ f2 = _
    rw [one_5 rfl (by rw [b_cl]; exact b_s4) (by rw [pr3]; exact b_pay.1) (by rw [pr3, b_pay.2.2]; decide) (by rw [pr3, b_pay.2.2]; exact b_pE5), pr3, b_pay.2.1, b_pay.2.2, b_pL5]
    rfl
  obtain ⟨x1, x2, x3⟩ := n_yes (c := Ca.W) (t := cls) (x := 0) (w := w4) (pr := tens) (by rw [r]) b_st4.2
  rw [r] at x2 x3
  exact ⟨x1, x2.trans (wd_ext b_st4.1 rfl rfl), x3⟩
theorem b_ty : tyW w5 = ⟨739957, [], k5⟩ ∧ tyO w5 = [f3] := by
  obtain ⟨a, b⟩ := ty_yes b_w5
  exact ⟨a.trans (wd_ext rfl (by decide) rfl), b.trans (by decide)⟩
end Cy
end Go.Proofs.YtpanlcnoopmchaaGreat

/- What must be in any case, of penalties. -/
namespace Go.Proofs.YtpanlcnoopmchaaGreat
open Go Go.RowKit V
set_option maxRecDepth 100000
set_option linter.unusedVariables false
theorem v_week : V.FnR Tryz.prog 79 [] [] (.agg [.val (.int .i64 96), .ref 0]) [.row 3 1 1 (ga e1 [739936])] := by
  refine V.FnR.mk_ V.Tok V.mixed Tryz.func79 rfl Tryz.ntmps79 (by kernel_rfl) rfl rfl rfl rfl ?_
  repeat' ((conv => whnf); first | refine V.NCond.mk ?_ | refine V.NPick.l ?_ | refine V.NIf.not_ ?_ | refine V.NIf.dec_ ?_ | refine V.a4 ?_ | refine V.a5 ?_ | refine V.NIf.mk (fun _ => ?_) (fun _ => ?_) | refine V.a7 ?_ | refine V.a8 ?_ | refine V.a9 ?_ | refine V.NBoth.mk ?_ ?_ | refine V.b1 ?_ | refine V.b2 ?_ | refine V.NTF.dec ?_ | refine V.b3 ?_ | refine V.b4 ?_ | (refine V.NDraw.any (by kernel_rfl) ?_) | fail)
  all_goals (conv => whnf)
  exact NRet.mk_ [some 1] rfl ⟨rfl, rfl, trivial⟩ ⟨⟨rfl, rfl, rfl, Nat.one_pos, V.S_⟩, trivial⟩
end Go.Proofs.YtpanlcnoopmchaaGreat

/- What must be in any case, of worlds. -/
namespace Go.Proofs.YtpanlcnoopmchaaGreat
open Go Go.RowKit V
set_option maxRecDepth 100000
set_option linter.unusedVariables false
theorem v_someRules : V.FnR Tryz.prog 54 [] [] (.agg [.val (.int .i64 96), .ref 0, .ref 1, .val (.int .i64 0)]) [.row 3 1 1 (ga e1 [739936]), .row 60 4 6 (ga encTm Pn.cls)] := by
  refine V.FnR.mk_ V.Tok V.mixed Tryz.func54 rfl Tryz.ntmps54 (by kernel_rfl) rfl rfl rfl rfl ?_
  repeat' ((conv => whnf); first | refine V.NCond.mk ?_ | refine V.NPick.l ?_ | refine V.NIf.not_ ?_ | refine V.NIf.dec_ ?_ | refine V.a4 ?_ | refine V.a5 ?_ | refine V.NIf.mk (fun _ => ?_) (fun _ => ?_) | refine V.a7 ?_ | refine V.a8 ?_ | refine V.a9 ?_ | refine V.NBoth.mk ?_ ?_ | refine V.b1 ?_ | refine V.b2 ?_ | refine V.NTF.dec ?_ | refine V.b3 ?_ | refine V.b4 ?_ | (first | refine V.FnR.k0 (v_week) rfl ?_ | refine V.FnR.a0 (v_week) rfl ?_) | (first | refine V.FnR.k0 (v_classes) rfl ?_ | refine V.FnR.a0 (v_classes) rfl ?_) | (refine V.NDraw.any (by kernel_rfl) ?_) | fail)
  all_goals (conv => whnf)
  all_goals first
    | exact V.er2 1 2
    | exact V.er2 2 1
    | trace_state
set_option maxHeartbeats 8000000 in
theorem v_cyBegun : V.Fn Tryz.prog 13 [] [] (.bool true) := by
  have cA := v_cyAdd Cy.w0 Pn.f1 (by decide)
  rw [Cy.b_add, Cy.b_addW] at cA
  have cD := v_cyDeliver Cy.w1 7 1000 (by decide)
  rw [Cy.b_dv, Cy.b_dvW] at cD
  have cN := v_night Ca.W Pn.cls 0 Cy.w3 Pn.tens (by decide) (by decide) (by decide) (by decide) (by decide)
  rw [Cy.b_n3.1, Cy.b_n3.2.1, Cy.b_n3.2.2] at cN
  have cM := v_night Ca.W Pn.cls 0 Cy.w4 Pn.tens (by decide) (by decide) (by decide) (by decide) (by decide)
  rw [Cy.b_n4.1, Cy.b_n4.2.1, Cy.b_n4.2.2] at cM
  have cT := v_cyTidy Cy.w5 (by decide)
  rw [Cy.b_ty.1, Cy.b_ty.2, Cy.b_w5] at cT
  have cE := v_cyDeliver Cy.w1 8 1 (by decide)
  rw [Cy.b_dn, Cy.dvW_no (by rw [Cy.b_dn]; decide)] at cE
  have cS := v_sameposts Cy.su0 Cy.su0 (by decide)
  rw [show decide (Cy.su0 = Cy.su0) = true from decide_eq_true rfl] at cS
  have cC := v_cyCheck Cy.zw (by decide)
  rw [Cy.b_wz] at cC
  have cR := v_cyRules ⟨0, []⟩ [] 0 (by decide) (by decide)
  rw [Cy.b_rz] at cR
  refine V.Fn.mk_ V.Tok V.mixed Tryz.func13 rfl Tryz.ntmps13 (by kernel_rfl) rfl rfl ?_
  repeat' ((conv => whnf); first | (refine V.NDraw.any (by kernel_rfl) ?_) | (refine V.NIf.yes ?_ ?_; · (decide; done)) | (refine V.NIf.no ?_ ?_; · (decide; done)) | refine V.NCond.mk ?_ | refine V.NPick.l ?_ | refine V.NIf.not_ ?_ | refine V.NIf.dec_ ?_ | refine V.a4 ?_ | refine V.a5 ?_ | refine V.NIf.mk (fun _ => ?_) (fun _ => ?_) | refine V.a7 ?_ | refine V.a8 ?_ | refine V.a9 ?_ | refine V.NBoth.mk ?_ ?_ | refine V.b1 ?_ | refine V.b2 ?_ | refine V.NTF.dec ?_ | refine V.b3 ?_ | refine V.b4 ?_ | (first | refine V.Fn.k0 (v_some) rfl ?_ | refine V.Fn.q0 (v_some) rfl ?_ | refine V.Fn.a0 (v_some) rfl ?_) | (refine V.NCall.nilf (f := 21) 0 1 10 _ rfl rfl ?_) | (refine V.NCall.nilf (f := 21) 0 2 3 _ rfl rfl ?_) | ((first | refine V.FnR.k_ (cA) [1, 2] rfl ?_ ?_ | refine V.FnR.a_ (cA) [1, 2] rfl ?_ ?_); · exact V.D_) | ((first | refine V.FnR.k_ (cD) [3, 4] rfl ?_ ?_ | refine V.FnR.a_ (cD) [3, 4] rfl ?_ ?_); · exact V.D_) | (first | refine V.FnR.k0 (v_someRules) rfl ?_ | refine V.FnR.a0 (v_someRules) rfl ?_) | (first | refine V.FnR.k0 (v_tenEach) rfl ?_ | refine V.FnR.a0 (v_tenEach) rfl ?_) | ((first | refine V.FnR.k_ (cN) [9, 10, 6, 7, 11] rfl ?_ ?_ | refine V.FnR.a_ (cN) [9, 10, 6, 7, 11] rfl ?_ ?_); · exact V.D_) | ((first | refine V.FnR.k_ (cN) [9, 10, 6, 7, 12] rfl ?_ ?_ | refine V.FnR.a_ (cN) [9, 10, 6, 7, 12] rfl ?_ ?_); · exact V.D_) | ((first | refine V.FnR.k_ (cN) [10, 11, 6, 7, 9] rfl ?_ ?_ | refine V.FnR.a_ (cN) [10, 11, 6, 7, 9] rfl ?_ ?_); · exact V.D_) | ((first | refine V.FnR.k_ (cN) [11, 12, 6, 7, 9] rfl ?_ ?_ | refine V.FnR.a_ (cN) [11, 12, 6, 7, 9] rfl ?_ ?_); · exact V.D_) | ((first | refine V.FnR.k_ (cN) [10, 11, 6, 7, 12] rfl ?_ ?_ | refine V.FnR.a_ (cN) [10, 11, 6, 7, 12] rfl ?_ ?_); · exact V.D_) | ((first | refine V.FnR.k_ (cN) [11, 12, 6, 7, 10] rfl ?_ ?_ | refine V.FnR.a_ (cN) [11, 12, 6, 7, 10] rfl ?_ ?_); · exact V.D_) | ((first | refine V.FnR.k_ (cM) [16, 17, 12, 13, 18] rfl ?_ ?_ | refine V.FnR.a_ (cM) [16, 17, 12, 13, 18] rfl ?_ ?_); · exact V.D_) | ((first | refine V.FnR.k_ (cM) [16, 17, 12, 13, 19] rfl ?_ ?_ | refine V.FnR.a_ (cM) [16, 17, 12, 13, 19] rfl ?_ ?_); · exact V.D_) | ((first | refine V.FnR.k_ (cM) [17, 18, 12, 13, 16] rfl ?_ ?_ | refine V.FnR.a_ (cM) [17, 18, 12, 13, 16] rfl ?_ ?_); · exact V.D_) | ((first | refine V.FnR.k_ (cM) [18, 19, 12, 13, 16] rfl ?_ ?_ | refine V.FnR.a_ (cM) [18, 19, 12, 13, 16] rfl ?_ ?_); · exact V.D_) | ((first | refine V.FnR.k_ (cM) [17, 18, 12, 13, 19] rfl ?_ ?_ | refine V.FnR.a_ (cM) [17, 18, 12, 13, 19] rfl ?_ ?_); · exact V.D_) | ((first | refine V.FnR.k_ (cM) [18, 19, 12, 13, 17] rfl ?_ ?_ | refine V.FnR.a_ (cM) [18, 19, 12, 13, 17] rfl ?_ ?_); · exact V.D_) | ((first | refine V.FnR.k_ (cM) [16, 17, 13, 14, 18] rfl ?_ ?_ | refine V.FnR.a_ (cM) [16, 17, 13, 14, 18] rfl ?_ ?_); · exact V.D_) | ((first | refine V.FnR.k_ (cM) [16, 17, 13, 14, 19] rfl ?_ ?_ | refine V.FnR.a_ (cM) [16, 17, 13, 14, 19] rfl ?_ ?_); · exact V.D_) | ((first | refine V.FnR.k_ (cM) [17, 18, 13, 14, 16] rfl ?_ ?_ | refine V.FnR.a_ (cM) [17, 18, 13, 14, 16] rfl ?_ ?_); · exact V.D_) | ((first | refine V.FnR.k_ (cM) [18, 19, 13, 14, 16] rfl ?_ ?_ | refine V.FnR.a_ (cM) [18, 19, 13, 14, 16] rfl ?_ ?_); · exact V.D_) | ((first | refine V.FnR.k_ (cM) [17, 18, 13, 14, 19] rfl ?_ ?_ | refine V.FnR.a_ (cM) [17, 18, 13, 14, 19] rfl ?_ ?_); · exact V.D_) | ((first | refine V.FnR.k_ (cM) [18, 19, 13, 14, 17] rfl ?_ ?_ | refine V.FnR.a_ (cM) [18, 19, 13, 14, 17] rfl ?_ ?_); · exact V.D_) | ((first | refine V.FnR.k_ (cT) [19, 20] rfl ?_ ?_ | refine V.FnR.a_ (cT) [19, 20] rfl ?_ ?_); · exact V.D_) | ((first | refine V.FnR.k_ (cT) [20, 21] rfl ?_ ?_ | refine V.FnR.a_ (cT) [20, 21] rfl ?_ ?_); · exact V.D_) | ((first | refine V.FnR.k_ (cE) [3, 4] rfl ?_ ?_ | refine V.FnR.a_ (cE) [3, 4] rfl ?_ ?_); · exact V.D_) | (refine NIdx.mk ⟨0, rfl, Nat.zero_lt_succ _, ?_⟩) | (refine NIdx.mk ⟨3, rfl, by decide, ?_⟩) | (refine V.NLt.mk (by decide) ?_) | ((first | refine V.Fn.k (cS) [14, 30] rfl ?_ ?_ | refine V.Fn.q (cS) [14, 30] rfl ?_ ?_ | refine V.Fn.a (cS) [14, 30] rfl ?_ ?_); · exact V.D_) | ((first | refine V.Fn.k (cS) [14, 31] rfl ?_ ?_ | refine V.Fn.q (cS) [14, 31] rfl ?_ ?_ | refine V.Fn.a (cS) [14, 31] rfl ?_ ?_); · exact V.D_) | ((first | refine V.Fn.k (cS) [14, 32] rfl ?_ ?_ | refine V.Fn.q (cS) [14, 32] rfl ?_ ?_ | refine V.Fn.a (cS) [14, 32] rfl ?_ ?_); · exact V.D_) | ((first | refine V.Fn.k (cS) [14, 33] rfl ?_ ?_ | refine V.Fn.q (cS) [14, 33] rfl ?_ ?_ | refine V.Fn.a (cS) [14, 33] rfl ?_ ?_); · exact V.D_) | ((first | refine V.Fn.k (cS) [13, 30] rfl ?_ ?_ | refine V.Fn.q (cS) [13, 30] rfl ?_ ?_ | refine V.Fn.a (cS) [13, 30] rfl ?_ ?_); · exact V.D_) | ((first | refine V.Fn.k (cS) [13, 31] rfl ?_ ?_ | refine V.Fn.q (cS) [13, 31] rfl ?_ ?_ | refine V.Fn.a (cS) [13, 31] rfl ?_ ?_); · exact V.D_) | ((first | refine V.Fn.k (cS) [13, 32] rfl ?_ ?_ | refine V.Fn.q (cS) [13, 32] rfl ?_ ?_ | refine V.Fn.a (cS) [13, 32] rfl ?_ ?_); · exact V.D_) | ((first | refine V.Fn.k (cS) [15, 30] rfl ?_ ?_ | refine V.Fn.q (cS) [15, 30] rfl ?_ ?_ | refine V.Fn.a (cS) [15, 30] rfl ?_ ?_); · exact V.D_) | ((first | refine V.Fn.k (cS) [15, 31] rfl ?_ ?_ | refine V.Fn.q (cS) [15, 31] rfl ?_ ?_ | refine V.Fn.a (cS) [15, 31] rfl ?_ ?_); · exact V.D_) | ((first | refine V.Fn.k (cS) [15, 32] rfl ?_ ?_ | refine V.Fn.q (cS) [15, 32] rfl ?_ ?_ | refine V.Fn.a (cS) [15, 32] rfl ?_ ?_); · exact V.D_) | ((first | refine V.Fn.k (cS) [15, 33] rfl ?_ ?_ | refine V.Fn.q (cS) [15, 33] rfl ?_ ?_ | refine V.Fn.a (cS) [15, 33] rfl ?_ ?_); · exact V.D_) | (refine V.NCall.nilf (f := 16) 0 1 10 _ rfl rfl ?_) | (refine V.NCall.nilf (f := 16) 0 2 3 _ rfl rfl ?_) | (refine V.NCall.nilf (f := 14) 0 1 1 _ rfl rfl ?_) | (refine V.NCall.nilf (f := 14) 0 2 4 _ rfl rfl ?_) | ((first | refine V.Fn.k (cC) [30, 31] rfl ?_ ?_ | refine V.Fn.q (cC) [30, 31] rfl ?_ ?_ | refine V.Fn.a (cC) [30, 31] rfl ?_ ?_); · exact V.D_) | ((first | refine V.Fn.k (cC) [31, 32] rfl ?_ ?_ | refine V.Fn.q (cC) [31, 32] rfl ?_ ?_ | refine V.Fn.a (cC) [31, 32] rfl ?_ ?_); · exact V.D_) | ((first | refine V.Fn.k (cC) [32, 33] rfl ?_ ?_ | refine V.Fn.q (cC) [32, 33] rfl ?_ ?_ | refine V.Fn.a (cC) [32, 33] rfl ?_ ?_); · exact V.D_) | ((first | refine V.Fn.k (cC) [33, 34] rfl ?_ ?_ | refine V.Fn.q (cC) [33, 34] rfl ?_ ?_ | refine V.Fn.a (cC) [33, 34] rfl ?_ ?_); · exact V.D_) | ((first | refine V.Fn.k (cC) [34, 35] rfl ?_ ?_ | refine V.Fn.q (cC) [34, 35] rfl ?_ ?_ | refine V.Fn.a (cC) [34, 35] rfl ?_ ?_); · exact V.D_) | ((first | refine V.Fn.k (cC) [35, 36] rfl ?_ ?_ | refine V.Fn.q (cC) [35, 36] rfl ?_ ?_ | refine V.Fn.a (cC) [35, 36] rfl ?_ ?_); · exact V.D_) | ((first | refine V.Fn.k (cR) [32, 33] rfl ?_ ?_ | refine V.Fn.q (cR) [32, 33] rfl ?_ ?_ | refine V.Fn.a (cR) [32, 33] rfl ?_ ?_); · exact V.D_) | ((first | refine V.Fn.k (cR) [33, 34] rfl ?_ ?_ | refine V.Fn.q (cR) [33, 34] rfl ?_ ?_ | refine V.Fn.a (cR) [33, 34] rfl ?_ ?_); · exact V.D_) | ((first | refine V.Fn.k (cR) [34, 35] rfl ?_ ?_ | refine V.Fn.q (cR) [34, 35] rfl ?_ ?_ | refine V.Fn.a (cR) [34, 35] rfl ?_ ?_); · exact V.D_) | ((first | refine V.Fn.k (cR) [35, 36] rfl ?_ ?_ | refine V.Fn.q (cR) [35, 36] rfl ?_ ?_ | refine V.Fn.a (cR) [35, 36] rfl ?_ ?_); · exact V.D_) | ((first | refine V.Fn.k (cR) [36, 37] rfl ?_ ?_ | refine V.Fn.q (cR) [36, 37] rfl ?_ ?_ | refine V.Fn.a (cR) [36, 37] rfl ?_ ?_); · exact V.D_) | ((first | refine V.Fn.k (cR) [37, 38] rfl ?_ ?_ | refine V.Fn.q (cR) [37, 38] rfl ?_ ?_ | refine V.Fn.a (cR) [37, 38] rfl ?_ ?_); · exact V.D_) | ((first | refine V.Fn.k (cR) [38, 39] rfl ?_ ?_ | refine V.Fn.q (cR) [38, 39] rfl ?_ ?_ | refine V.Fn.a (cR) [38, 39] rfl ?_ ?_); · exact V.D_) | (refine V.NDraw.any (by kernel_rfl) ?_) | fail)
  all_goals (conv => whnf)
  all_goals first
    | exact ⟨true, rfl, iff_of_true rfl rfl⟩
    | exact ⟨true, rfl, iff_of_true (by decide) rfl⟩
    | trace_state
end Go.Proofs.YtpanlcnoopmchaaGreat

/- How a list of numbers is read off an argument. -/
namespace Go.Proofs.YtpanlcnoopmchaaGreat
set_option maxRecDepth 100000
open Go Go.RowKit Go.ChangeShapes Go.WideShapes Go.Deep V
theorem intCells : Tryz.prog.cellsOf 3 = 1 := by kernel_rfl
end Go.Proofs.YtpanlcnoopmchaaGreat

/- How a calendar is read off an argument. -/
namespace Go.Proofs.YtpanlcnoopmchaaGreat
open Go Go.RowKit Go.ChangeShapes Go.WideShapes Go.Deep V
set_option linter.unusedVariables false
set_option maxRecDepth 100000
namespace V
section
variable {H : Type} {enc : TypeId × Value → H} {P : Program} {w : World} {base : Nat} {spare : Nat → Bool} {held : Bool}
/-- a list of data, by its one cell -/
theorem list_trod {α : Type} [Inhabited α] {en : α → List Value} {Wf : α → Prop} {t e s fuel : Nat} {cs : List Value} {x : DataW H × List MemPlace} (hu : P.underlying t = some (.slice e)) (hs : P.cellsOf e = s) (hs0 : 0 < s)
    (hel : ∀ fuel cs x, DataW.trod enc P w base spare held fuel e cs = some x → ∃ f : α, cs = en f ∧ Wf f) (hf : DataW.trod enc P w base spare held fuel t cs = some x) :
    ∃ v, cs = [v] ∧ ∃ l : List α, ArrIs w v s l.length (ga en l) ∧ ∀ f ∈ l, Wf f := by
  rcases Go.Deep.open_slice hu hf with ⟨hcs, _⟩ | ⟨a, len', cap', m, n, D, Pl, hcs, _, hl, hm, hmm, _, hi⟩
  · exact ⟨_, hcs, [], ⟨none, 0, rfl, by simp, by simp, fun k hk => absurd hk (by simp)⟩, by simp⟩
  · refine ⟨_, hcs, ?_⟩
    have hml : len' ≤ m := by rw [hmm]; split <;> omega
    have all : ∀ i, i < len' → ∃ f : α, (en f).length = s ∧ (∀ j u, (en f)[j]? = some u → w.cell? (a.add (i * s + j)) = some u) ∧ Wf f := by
      intro i hi'
      obtain ⟨cs', hc, ht'⟩ := hi i (by omega)
      rw [hs] at hc
      obtain ⟨f, e, wf⟩ := hel _ _ _ ht'
      obtain ⟨_, hcl, hat⟩ := World.cells?_some hc
      refine ⟨f, by rw [← e]; exact hcl, fun j u hu => ?_, wf⟩
      rw [← e] at hu
      have hj : j < s := by have := (List.getElem?_eq_some_iff.1 hu).1; omega
      have h1 := hat j hj
      rw [add_of_add] at h1
      rw [h1]; exact hu
    obtain ⟨l, hl2, hp⟩ := list_of len' all
    refine ⟨l, ⟨some a, cap', by rw [hl2], by unfold maxLen at hm; omega, by omega, fun k hk => ?_⟩, fun f hf' => ?_⟩
    · obtain ⟨e1, e2, _⟩ := hp k hk
      rw [ga_at hk]
      have h0 : (en l[k])[0]? = some ((en l[k])[0]'(by omega)) := List.getElem?_eq_getElem _
      have := cell_lt (e2 0 _ h0)
      rw [block_of_add] at this
      exact ⟨a, rfl, this, e1, e2⟩
    · obtain ⟨i, hi', rfl⟩ := List.getElem_of_mem hf'
      exact (hp i hi').2.2
end
end V
end Go.Proofs.YtpanlcnoopmchaaGreat

/- How a fail, and a list of fails, are read off the arguments. -/
namespace Go.Proofs.YtpanlcnoopmchaaGreat
set_option maxRecDepth 100000
open Go.RowKit Go.ChangeShapes Go.WideShapes Go.Deep V

noncomputable def failFields : Array Field := (match Tryz.prog.underlying 42 with | some (.struct fs) => fs | _ => #[])
theorem failStruct : Tryz.prog.underlying 42 = some (.struct failFields) := by kernel_rfl
theorem failOne : oneCellFields Tryz.prog failFields = true := by kernel_rfl
theorem failSize : failFields.size = 10 := by kernel_rfl
theorem failCells : Tryz.prog.cellsOf 42 = 10 := by kernel_rfl
theorem failInts : (List.range 10).all (fun j => (failFields[j]?).all (fun f => decide (f.type = 3))) = true := by kernel_rfl
theorem failInt (j : Nat) (f : Field) (h : failFields[j]? = some f) : Tryz.prog.underlying f.type = some (.int .i64) := by
  have hj : j < 10 := by have := (Array.getElem?_eq_some_iff.1 h).1; rw [failSize] at this; exact this
  have := List.all_eq_true.1 failInts j (List.mem_range.2 hj)
  rw [h] at this
  have e : f.type = 3 := by simpa using this
  rw [e]
  exact Tryz.underlying3
def WfF (f : Fl) : Prop := ∀ n ∈ [f.id, f.fr, f.to, f.cl, f.pa, f.day, f.un, f.de, f.bo, f.pd], (Lit.int .i64 n).wf = true
theorem fl_of {H : Type} {enc : TypeId × Value → H} {w : World} {base : Nat} {spare : Nat → Bool} {held : Bool} {fuel : Nat} {cs : List Value} {x : DataW H × List MemPlace} (h : DataW.trod enc Tryz.prog w base spare held fuel 42 cs = some x) :
    ∃ f : Fl, cs = (#[.int .i64 f.id, .int .i64 f.fr, .int .i64 f.to, .int .i64 f.cl, .int .i64 f.pa, .int .i64 f.day, .int .i64 f.un, .int .i64 f.de, .int .i64 f.bo, .int .i64 f.pd] : Array Value).toList ∧ WfF f := by
  obtain ⟨ns, e, hl, wf⟩ := ints_struct failStruct failOne (failCells.trans failSize.symm) failInt h
  rw [failSize] at hl
  match ns, hl with
  | [a, b, c, d, e', f, g, h', i, j], _ => exact ⟨⟨a, b, c, d, e', f, g, h', i, j⟩, by simpa using e, wf⟩
theorem open_fl {H : Type} {enc : TypeId × Value → H} {W : World} {base : Nat} {spare : Nat → Bool} {held : Bool} {r : Reach} {b0 : Nat} {v : Value} {d : DataW H} {p : List MemPlace} (hv : Value.okWide Tryz.prog W r b0 42 v) (h : DataW.Trod enc Tryz.prog W base spare held 42 v d p) :
    ∃ f : Fl, v = .agg #[.int .i64 f.id, .int .i64 f.fr, .int .i64 f.to, .int .i64 f.cl, .int .i64 f.pa, .int .i64 f.day, .int .i64 f.un, .int .i64 f.de, .int .i64 f.bo, .int .i64 f.pd] ∧ WfF f := by
  obtain ⟨cs, rfl, _⟩ := okWide_struct failStruct hv
  obtain ⟨fuel, hf⟩ := h
  obtain ⟨f, e, wf⟩ := fl_of hf
  refine ⟨f, ?_, wf⟩
  obtain ⟨l⟩ := cs
  simp only [Value.cells] at e
  subst e
  rfl
end Go.Proofs.YtpanlcnoopmchaaGreat

/- How a struct api.Posting, and a list of such, are read off an argument. -/
namespace Go.Proofs.YtpanlcnoopmchaaGreat
open Go Go.RowKit Go.ChangeShapes Go.WideShapes Go.Deep V
set_option linter.unusedVariables false
set_option maxRecDepth 100000
noncomputable def poFields : Array Field := (match Tryz.prog.underlying 65 with | some (.struct fs) => fs | _ => #[])
theorem poStruct : Tryz.prog.underlying 65 = some (.struct poFields) := by kernel_rfl
theorem poOne : oneCellFields Tryz.prog poFields = true := by kernel_rfl
theorem poSize : poFields.size = 3 := by kernel_rfl
theorem poCells : Tryz.prog.cellsOf 65 = 3 := by kernel_rfl
theorem poInts : (List.range 3).all (fun j => (poFields[j]?).all (fun f => decide (f.type = 3))) = true := by kernel_rfl
theorem poInt (j : Nat) (f : Field) (h : poFields[j]? = some f) : Tryz.prog.underlying f.type = some (.int .i64) := by
  have hj : j < 3 := by have := (Array.getElem?_eq_some_iff.1 h).1; rw [poSize] at this; exact this
  have := List.all_eq_true.1 poInts j (List.mem_range.2 hj)
  rw [h] at this
  have e : f.type = 3 := by simpa using this
  rw [e]
  exact Tryz.underlying3
def WfPo (d : Po) : Prop := ∀ n ∈ [d.ac, d.ut, d.am], (Lit.int .i64 n).wf = true
theorem po_of {H : Type} {enc : TypeId × Value → H} {w : World} {base : Nat} {spare : Nat → Bool} {held : Bool} {fuel : Nat} {cs : List Value} {x : DataW H × List MemPlace} (h : DataW.trod enc Tryz.prog w base spare held fuel 65 cs = some x) :
    ∃ f : Po, cs = encP f ∧ WfPo f := by
  obtain ⟨ns, e, hl, wf⟩ := ints_struct poStruct poOne (poCells.trans poSize.symm) poInt h
  rw [poSize] at hl
  match ns, hl with
  | [a0, a1, a2], _ => exact ⟨⟨a0, a1, a2⟩, by simpa [encP] using e, wf⟩
end Go.Proofs.YtpanlcnoopmchaaGreat

/- How a struct api.Terms, and a list of such, are read off an argument. -/
namespace Go.Proofs.YtpanlcnoopmchaaGreat
open Go Go.RowKit Go.ChangeShapes Go.WideShapes Go.Deep V
set_option linter.unusedVariables false
set_option maxRecDepth 100000
end Go.Proofs.YtpanlcnoopmchaaGreat

/- How a world, and the rules of one, are read off an argument. -/
namespace Go.Proofs.YtpanlcnoopmchaaGreat
open Go Go.RowKit Go.ChangeShapes Go.WideShapes Go.Deep V
set_option linter.unusedVariables false
set_option maxRecDepth 100000
noncomputable def wdFields : Array Field := (match Tryz.prog.underlying 31 with | some (.struct fs) => fs | _ => #[])
theorem wdStruct : Tryz.prog.underlying 31 = some (.struct wdFields) := by kernel_rfl
theorem wdCells : Tryz.prog.cellsOf 31 = 3 := by kernel_rfl
theorem flsCells : Tryz.prog.cellsOf 28 = 1 := by kernel_rfl
theorem posCells : Tryz.prog.cellsOf 29 = 1 := by kernel_rfl
theorem wd0 : (wdFields[0]?).map (fun f => (f.type, f.offset)) = some (3, 0) := by kernel_rfl
theorem wd1 : (wdFields[1]?).map (fun f => (f.type, f.offset)) = some (28, 1) := by kernel_rfl
theorem wd2 : (wdFields[2]?).map (fun f => (f.type, f.offset)) = some (29, 2) := by kernel_rfl
theorem wdSize : wdFields.size = 3 := by kernel_rfl
def WfWd (w : Wd) : Prop := (Lit.int .i64 w.td).wf = true ∧ (∀ f ∈ w.fs, WfF f) ∧ ∀ f ∈ w.bk, WfPo f
theorem wd_of {H : Type} {enc : TypeId × Value → H} {w : World} {base : Nat} {spare : Nat → Bool} {held : Bool} {fuel : Nat} {cs : List Value} {x : DataW H × List MemPlace} (h : DataW.trod enc Tryz.prog w base spare held fuel 31 cs = some x) :
    ∃ (c : Wd) (v u : Value), cs = [.int .i64 c.td, v, u] ∧ ArrIs w v 10 c.fs.length (ga encF c.fs) ∧ ArrIs w u 3 c.bk.length (ga encP c.bk) ∧ WfWd c := by
  obtain ⟨xs, n, _, _, hl, hlen, hg⟩ := DataW.trod_struct wdStruct h
  rw [wdCells] at hl
  rw [wdSize] at hlen
  match cs, hl with
  | [a, b, d], _ =>
    obtain ⟨f0, h0, e0⟩ := Option.map_eq_some_iff.1 wd0
    obtain ⟨f1, h1, e1'⟩ := Option.map_eq_some_iff.1 wd1
    obtain ⟨f2, h2, e2'⟩ := Option.map_eq_some_iff.1 wd2
    injection e0 with t0 o0
    injection e1' with t1 o1
    injection e2' with t2 o2
    have g0 := hg 0 f0 h0
    have g1 := hg 1 f1 h1
    have g2 := hg 2 f2 h2
    rw [o0, t0, intCells, List.getElem?_eq_getElem (by omega)] at g0
    rw [o1, t1, flsCells, List.getElem?_eq_getElem (by omega)] at g1
    rw [o2, t2, posCells, List.getElem?_eq_getElem (by omega)] at g2
    obtain ⟨m, e2, _, wf⟩ := DataW.trod_int Tryz.underlying3 g0
    obtain ⟨v, e3, l, hl, wl⟩ := V.list_trod (en := encF) (Wf := WfF) Tryz.underlying28 failCells (by omega) (fun fuel cs x hx => fl_of hx) g1
    obtain ⟨u, e4, k, hk, wk⟩ := V.list_trod (en := encP) (Wf := WfPo) Tryz.underlying29 poCells (by omega) (fun fuel cs x hx => po_of hx) g2
    have e2 : a = .int .i64 m := by simpa using e2
    obtain rfl : b = v := by
      have e3 : [b] = [v] := e3
      injection e3
    obtain rfl : d = u := by
      have e4 : [d] = [u] := e4
      injection e4
    subst e2
    exact ⟨⟨m, l, k⟩, _, _, rfl, hl, hk, wf, wl, wk⟩
theorem open_wd {H : Type} {enc : TypeId × Value → H} {W : World} {base : Nat} {spare : Nat → Bool} {held : Bool} {r : Reach} {b0 : Nat} {v : Value} {d : DataW H} {p : List MemPlace} (hv : Value.okWide Tryz.prog W r b0 31 v) (h : DataW.Trod enc Tryz.prog W base spare held 31 v d p) :
    ∃ (c : Wd) (u u' : Value), v = .agg #[.int .i64 c.td, u, u'] ∧ ArrIs W u 10 c.fs.length (ga encF c.fs) ∧ ArrIs W u' 3 c.bk.length (ga encP c.bk) ∧ WfWd c := by
  obtain ⟨cs, rfl, _⟩ := okWide_struct wdStruct hv
  obtain ⟨fuel, hf⟩ := h
  obtain ⟨c, u, u', e, h1, h2, wf⟩ := wd_of hf
  refine ⟨c, u, u', ?_, h1, h2, wf⟩
  obtain ⟨l⟩ := cs
  simp only [Value.cells] at e
  subst e
  rfl
structure Ru0 where
  c : Cl
  ts : List Tm
  ex : Int
end Go.Proofs.YtpanlcnoopmchaaGreat

/- Tidying: what is left is a world again, tidy already, and takes a fail at its end. -/
namespace Go.Proofs.YtpanlcnoopmchaaGreat.Cy
open Go Go.RowKit
set_option linter.unusedVariables false
theorem opn_checks {l : List Fl} (h : F.checks l = 0) : F.checks (opn l) = 0 := by
  obtain ⟨a, b, c⟩ := K.checks_all h
  have := opn_len l
  refine K.checks_of (by omega) (fun f hf => b f (List.mem_filter.1 hf).1) ?_
  exact List.Nodup.sublist (List.Sublist.map _ List.filter_sublist) c
theorem opn_opn (l : List Fl) : opn (opn l) = opn l ∧ ovr (opn l) = [] :=
  opn_all fun f hf => by simpa using (List.mem_filter.1 hf).2
theorem opn_ovr : ∀ l : List Fl, (opn l).length + (ovr l).length = l.length
  | [] => rfl
  | f :: r => by
    have ih := opn_ovr r
    unfold opn ovr at ih ⊢
    by_cases h : 0 < F.left f
    · rw [List.filter_cons_of_pos (by simpa using h), List.filter_cons_of_neg (by simpa using h)]
      simp only [List.length_cons]; omega
    · rw [List.filter_cons_of_neg (by simpa using h), List.filter_cons_of_pos (by simpa using h)]
      simp only [List.length_cons]; omega
theorem ty_again {w : Wd} (h : wE w = 0) : wE ⟨w.td, opn w.fs, w.bk⟩ = 0 ∧ tyW ⟨w.td, opn w.fs, w.bk⟩ = ⟨w.td, opn w.fs, w.bk⟩ ∧ tyO ⟨w.td, opn w.fs, w.bk⟩ = [] := by
  obtain ⟨a, b, c⟩ := wE_ok h
  have e : wE ⟨w.td, opn w.fs, w.bk⟩ = 0 := wE_of a (opn_checks b) c
  obtain ⟨x, y⟩ := ty_yes e
  obtain ⟨o1, o2⟩ := opn_opn w.fs
  exact ⟨e, by rw [x]; simp only [o1], by rw [y]; exact o2⟩
theorem fnd_last {l : List Fl} {f : Fl} (h : F.checks (l ++ [f]) = 0) : F.fndV f.id (l ++ [f]) = l.length ∧ F.fndE f.id (l ++ [f]) = 0 := by
  obtain ⟨_, _, c⟩ := K.checks_all h
  have e := F.idx_at (l := l ++ [f]) (i := l.length) (k := 0) (by simp) c
  rw [List.getElem_append_right (by omega)] at e
  simp only [Nat.sub_self, List.getElem_cons_zero, Nat.zero_add] at e
  have := F.fnd_3 (id := f.id) h (by omega)
  exact ⟨by rw [this.1, e], this.2⟩
theorem dv_len (w : Wd) (id u : Int) : (dvW w id u).fs.length ≤ 60 ∧ (dvW w id u).bk.length ≤ 400 := by
  by_cases h : dvE w id u = 0
  · obtain ⟨a, _, _, b⟩ := dv_ok h
    have := (wE_len a).1
    rw [dvW_yes h]
    refine ⟨by simp only [List.length_set]; exact this, ?_⟩
    simp only
    unfold Bk.pL
    rw [if_pos b]
    exact (Bk.pE_0.1 b).m
  · rw [dvW_no h]
    exact ⟨by decide, by decide⟩
theorem ad_len (w : Wd) (f : Fl) : (adW w f).fs.length ≤ 61 ∧ (adW w f).bk.length ≤ 400 := by
  by_cases h : adE w f = 0
  · have a := wE_len (ad_ok h).1
    rw [adW_yes h]
    refine ⟨by simp; omega, a.2⟩
  · rw [adW_no h]
    exact ⟨by decide, by decide⟩
theorem ty_len (w : Wd) : (tyW w).fs.length ≤ 60 ∧ (tyW w).bk.length ≤ 400 ∧ (tyO w).length ≤ 60 := by
  by_cases h : wE w = 0
  · have a := wE_len h
    have b := opn_len w.fs
    have c := ovr_len w.fs
    rw [(ty_yes h).1, (ty_yes h).2]
    exact ⟨by simp only; omega, a.2, by omega⟩
  · rw [(ty_no h).1, (ty_no h).2]
    exact ⟨by decide, by decide, by decide⟩
end Go.Proofs.YtpanlcnoopmchaaGreat.Cy

/- Delivering: the book, the fail delivered, and delivering twice. -/
namespace Go.Proofs.YtpanlcnoopmchaaGreat.Cy
open Go Go.RowKit
set_option linter.unusedVariables false
theorem mvd_tot (fr to pa u : Int) (k : Nat) : Bk.tot (Cp.mvd fr to pa u) k = (if Bk.kk fr pa = k then -u else 0) + (if Bk.kk to pa = k then u else 0) := by
  have one : ∀ p : Po, Bk.tot [p] k = if Bk.key p = k then p.am else 0 := fun p => by
    unfold Bk.tot Bk.amk
    by_cases e : Bk.key p = k
    · simp [e, M.sum]
    · simp [e, M.sum]
  show Bk.tot ([_] ++ [_]) k = _
  rw [Bk.tot_app, one, one]
  rfl
theorem idx_id : ∀ {id : Int} {l : List Fl} {k : Nat}, ¬ F.idx id l k < 0 → ∃ (i : Nat) (hi : i < l.length), F.idx id l k = ((k + i : Nat) : Int) ∧ l[i].id = id
  | _, [], _, h => absurd (show (-1 : Int) < 0 by decide) h
  | id, x :: r, k, h => by
    unfold F.idx at h ⊢
    by_cases a : x.id = id
    · exact ⟨0, by simp, by rw [if_pos a]; simp, a⟩
    · rw [if_neg a] at h ⊢
      obtain ⟨i, hi, e, p⟩ := idx_id h
      exact ⟨i + 1, by simpa using hi, by rw [e]; omega, by simpa using p⟩
theorem idx_congr {id : Int} : ∀ {l m : List Fl} {k : Nat}, l.map (·.id) = m.map (·.id) → F.idx id l k = F.idx id m k
  | [], [], _, _ => rfl
  | x :: r, y :: s, k, h => by
    simp only [List.map_cons, List.cons.injEq] at h
    unfold F.idx
    rw [h.1, idx_congr h.2]
theorem set_ids {l : List Fl} {i : Nat} (hi : i < l.length) {f : Fl} (h : f.id = (l.getD i default).id) : (l.set i f).map (·.id) = l.map (·.id) := by
  rw [List.map_set, h, getD_at hi]
  have : (l.map (·.id))[i]'(by simpa using hi) = l[i].id := by simp
  rw [← this]
  exact List.set_getElem_self _
/-- the fail that is delivered -/
theorem gv {w : Wd} {id u : Int} (h : dvE w id u = 0) : at_ w id < w.fs.length ∧ F.fndV id w.fs = (at_ w id : Nat) ∧ F.fndE id w.fs = 0 ∧ (fl w id).id = id := by
  obtain ⟨hw, hf, hl, hp⟩ := dv_ok h
  have hc := (wE_ok hw).2.1
  by_cases k : F.idx id w.fs 0 < 0
  · have := (F.fnd_2 hc k).2; omega
  · obtain ⟨i, hi, e, p⟩ := idx_id k
    have a : at_ w id = i := by unfold at_; rw [e]; simp
    refine ⟨by omega, ?_, hf, ?_⟩
    · rw [(F.fnd_3 hc k).1, a, e]; simp
    · unfold fl; rw [a, getD_at hi]; exact p
/-- delivered once: the world and the fail -/
theorem gv_fl {w : Wd} {id u : Int} (h : dvE w id u = 0) : (dvW w id u).fs = w.fs.set (at_ w id) (F.addDe (fl w id) u) ∧ (dvW w id u).bk = Bk.pL w.bk (Cp.mvd (fl w id).fr (fl w id).to (fl w id).pa u) ∧ (dvW w id u).td = w.td ∧ at_ (dvW w id u) id = at_ w id ∧ fl (dvW w id u) id = F.addDe (fl w id) u := by
  obtain ⟨hi, _, _, _⟩ := gv h
  have e := dvW_yes h
  have a : at_ (dvW w id u) id = at_ w id := by
    have c := idx_congr (id := id) (k := 0) (set_ids (f := F.addDe (fl w id) u) hi rfl)
    rw [e]
    exact congrArg Int.toNat c
  refine ⟨by rw [e], by rw [e], by rw [e], a, ?_⟩
  show (dvW w id u).fs.getD (at_ (dvW w id u) id) default = _
  rw [a, e]
  simp only
  rw [getD_at (by rw [List.length_set]; exact hi), List.getElem_set_self]
theorem gv_opn {w : Wd} {id u : Int} (h : dvE w id u = 0) : F.chk (fl w id) = 0 ∧ F.chk (F.addDe (fl w id) u) = 0 ∧ F.opn (F.addDe (fl w id) u) = F.opn (fl w id) - u := by
  obtain ⟨_, _, hl, _⟩ := dv_ok h
  obtain ⟨a, b⟩ := F.deliver_ok hl
  have c := F.chk_of a
  have d := F.chk_of (F.less_ok hl).1
  refine ⟨d, c, ?_⟩
  unfold F.opn
  rw [if_pos d, if_pos c, b]
theorem gv_bal {w : Wd} {id u : Int} (h : dvE w id u = 0) : Bk.bE w.bk (fl w id).to (fl w id).pa = 0 ∧ Bk.bE (dvW w id u).bk (fl w id).to (fl w id).pa = 0 ∧ Bk.bV (dvW w id u).bk (fl w id).to (fl w id).pa = Bk.bV w.bk (fl w id).to (fl w id).pa + u := by
  obtain ⟨_, _, hl, hp⟩ := dv_ok h
  have P := Bk.pE_0.1 hp
  have ne : (fl w id).fr ≠ (fl w id).to := (F.less_ok hl).1.2.1
  have r1 := P.r ⟨(fl w id).fr, (fl w id).pa, -u⟩ (by simp [Cp.mvd])
  have r2 := P.r ⟨(fl w id).to, (fl w id).pa, u⟩ (by simp [Cp.mvd])
  have k1 : Bk.Kn (fl w id).fr (fl w id).pa := r1.1
  have k2 : Bk.Kn (fl w id).to (fl w id).pa := r2.1
  obtain ⟨b1, e1⟩ := Bk.kk_r k1
  obtain ⟨b2, e2⟩ := Bk.kk_r k2
  rw [(gv_fl h).2.1]
  refine ⟨?_, ?_, ?_⟩
  · rw [Bk.bE_is (Bk.lines_is P.bo P.be), if_pos k2]
  · rw [Bk.bE_is (Bk.lines_is (Bk.po_lines P) (Bk.po_even P)), if_pos k2]
  · rw [Bk.bV_is (Bk.po_lines P) (Bk.po_even P) k2, Bk.bV_is P.bo P.be k2, Bk.po_tot P b2, mvd_tot, if_pos rfl, if_neg (by omega)]
    omega
end Go.Proofs.YtpanlcnoopmchaaGreat.Cy

/- Plain facts on money for papers: what is paid can be posted. -/
namespace Go.Proofs.YtpanlcnoopmchaaGreat
set_option linter.unusedVariables false
set_option linter.unusedSimpArgs false
namespace Bk
theorem cnt_one (a : Nat) : ∀ n, (List.range n).countP (fun k => decide (k = a)) ≤ 1
  | 0 => by simp
  | n + 1 => by
    rw [List.range_succ, List.countP_append]
    have ih := cnt_one a n
    by_cases h : n = a
    · have z : (List.range n).countP (fun k => decide (k = a)) = 0 := List.countP_eq_zero.2 fun k hk => by have := List.mem_range.1 hk; simp; omega
      rw [z]; simp [h]
    · simp [h]; omega
end Bk
namespace Cp
theorem mvd_right {a b c d : Int} (ha : 0 ≤ a ∧ a ≤ 100) (hb : 0 ≤ b ∧ b ≤ 100) (hc : 0 ≤ c ∧ c ≤ 20) (hd : 1 ≤ d ∧ d ≤ 1152921504606846976) : ∀ p ∈ mvd a b c d, Bk.Right p := fun p hp => by
  unfold mvd at hp
  simp only [List.mem_cons, List.not_mem_nil, or_false] at hp
  rcases hp with rfl | rfl
  · exact ⟨⟨ha, hc⟩, by unfold M.Amt; dsimp only; omega, by dsimp only; omega⟩
  · exact ⟨⟨hb, hc⟩, by unfold M.Amt; dsimp only; omega, by dsimp only; omega⟩
theorem mvd_even {a b c d : Int} : Bk.even (mvd a b c d) = true := (Bk.even_iff _).2 fun u hu => by
  unfold mvd Bk.amu
  by_cases h : c = (u : Int)
  · simp [h, M.sum]
    omega
  · simp [h, M.sum]
theorem mvd_tot {a b c d : Int} (ha : 0 ≤ a ∧ a ≤ 100) (hb : 0 ≤ b ∧ b ≤ 100) (hc : 0 ≤ c ∧ c ≤ 20) (hd : 1 ≤ d ∧ d ≤ 1152921504606846976) (hab : a ≠ b) : Bk.tot (mvd a b c d) (Bk.kk a c) = -d ∧ Bk.tot (mvd a b c d) (Bk.kk b c) = d ∧ ∀ k, M.Amt (Bk.tot (mvd a b c d) k) := by
  have r := mvd_right ha hb hc hd
  have r1 := r ⟨a, c, -d⟩ (by simp [mvd])
  have r2 := r ⟨b, c, d⟩ (by simp [mvd])
  have k1 : Bk.key ⟨a, c, -d⟩ = Bk.kk a c := (Bk.kk_key ⟨ha, hc⟩ r1).2 ⟨rfl, rfl⟩
  have k2 : Bk.key ⟨b, c, d⟩ = Bk.kk b c := (Bk.kk_key ⟨hb, hc⟩ r2).2 ⟨rfl, rfl⟩
  have ne : Bk.key ⟨a, c, -d⟩ ≠ Bk.key ⟨b, c, d⟩ := fun z => hab ((Bk.key_eq r1 r2).1 z).1
  have pw : (mvd a b c d).Pairwise fun p q => Bk.key p ≠ Bk.key q := by
    unfold mvd
    simp [ne]
  have t1 := Bk.tot_in pw (p := ⟨a, c, -d⟩) (by simp [mvd])
  have t2 := Bk.tot_in pw (p := ⟨b, c, d⟩) (by simp [mvd])
  rw [k1] at t1
  rw [k2] at t2
  refine ⟨t1, t2, fun k => ?_⟩
  by_cases e1 : k = Bk.kk a c
  · rw [e1, t1]; unfold M.Amt; dsimp only; omega
  · by_cases e2 : k = Bk.kk b c
    · rw [e2, t2]; unfold M.Amt; dsimp only; omega
    · rw [Bk.tot_none fun p hp => ?_]
      · unfold M.Amt; omega
      · unfold mvd at hp
        simp only [List.mem_cons, List.not_mem_nil, or_false] at hp
        rcases hp with rfl | rfl
        · rw [k1]; exact fun z => e1 z.symm
        · rw [k2]; exact fun z => e2 z.symm
theorem paid {f : Fl} (h : F.Ok f) : F.chk (F.addPd f (F.left f)) = 0 ∧ F.left (F.addPd f (F.left f)) = 0 ∧ F.opn (F.addPd f (F.left f)) = 0 := by
  have b := F.ok_bounds h
  obtain ⟨k, n, ⟨⟨p1, p2⟩, ⟨p3, p4⟩, p5, p6⟩, d⟩ := id h
  have l : F.left (F.addPd f (F.left f)) = 0 := by
    show f.un - f.de - f.bo - (f.pd + F.left f) = 0
    unfold F.left; omega
  have e : F.left f = f.un - f.de - f.bo - f.pd := rfl
  have c : F.chk (F.addPd f (F.left f)) = 0 := F.chk_of ⟨k, n, ⟨⟨p1, p2⟩, ⟨p3, p4⟩, by show 0 ≤ f.pd + F.left f; omega, by show f.pd + F.left f ≤ f.un; omega⟩, by show f.de + f.bo + (f.pd + F.left f) ≤ f.un; omega⟩
  exact ⟨c, l, (F.opn_yes c).trans l⟩
end Cp
end Go.Proofs.YtpanlcnoopmchaaGreat

/- Delivering twice is delivering the sum. -/
namespace Go.Proofs.YtpanlcnoopmchaaGreat.Cy
open Go Go.RowKit
set_option linter.unusedVariables false
theorem post_two {bk : List Po} {fr to pa a b : Int} (P : Bk.Posted bk (Cp.mvd fr to pa a)) (Q : Bk.Posted (Bk.pL bk (Cp.mvd fr to pa a)) (Cp.mvd fr to pa b)) (h0 : 0 < a + b) (h1 : a + b ≤ 1073741824) : Bk.pE bk (Cp.mvd fr to pa (a + b)) = 0 ∧ Bk.pL bk (Cp.mvd fr to pa (a + b)) = Bk.pL (Bk.pL bk (Cp.mvd fr to pa a)) (Cp.mvd fr to pa b) := by
  have e : ∀ k, k < 2121 → Bk.tot (bk ++ Cp.mvd fr to pa (a + b)) k = Bk.tot (Bk.pL (Bk.pL bk (Cp.mvd fr to pa a)) (Cp.mvd fr to pa b)) k := fun k hk => by
    rw [Bk.po_tot Q hk, Bk.po_tot P hk, Bk.tot_app, mvd_tot, mvd_tot, mvd_tot]
    split <;> split <;> omega
  have o : Bk.out (Bk.tot (bk ++ Cp.mvd fr to pa (a + b))) 2121 = Bk.pL (Bk.pL bk (Cp.mvd fr to pa a)) (Cp.mvd fr to pa b) := by
    have : ∀ n, n ≤ 2121 → Bk.out (Bk.tot (bk ++ Cp.mvd fr to pa (a + b))) n = Bk.out (Bk.tot (Bk.pL (Bk.pL bk (Cp.mvd fr to pa a)) (Cp.mvd fr to pa b))) n := fun n => by
      induction n with
      | zero => intro _; rfl
      | succ n ih => intro hn; rw [Bk.out_succ, Bk.out_succ, ih (by omega), e n (by omega)]
    rw [this 2121 (Nat.le_refl _), ← Bk.is_out (Bk.po_lines Q)]
  have r1 := P.r ⟨fr, pa, -a⟩ (by simp [Cp.mvd])
  have r2 := P.r ⟨to, pa, a⟩ (by simp [Cp.mvd])
  have R : Bk.Posted bk (Cp.mvd fr to pa (a + b)) := ⟨P.bo, P.be, ⟨Nat.succ_pos _, (by decide : (2 : Nat) ≤ 60)⟩, fun p hp => by
    have hp : p = ⟨fr, pa, -(a + b)⟩ ∨ p = ⟨to, pa, a + b⟩ := by simpa [Cp.mvd] using hp
    rcases hp with rfl | rfl
    · exact ⟨r1.1, ⟨by show -1152921504606846976 ≤ -(a + b); omega, by show -(a + b) ≤ 1152921504606846976; omega⟩, by show -(a + b) ≠ 0; omega⟩
    · exact ⟨r2.1, ⟨by show -1152921504606846976 ≤ a + b; omega, by show a + b ≤ 1152921504606846976; omega⟩, by show a + b ≠ 0; omega⟩, Cp.mvd_even, fun k hk => by rw [e k hk]; exact Bk.tot_amt (Bk.po_lines Q) k, by rw [o]; exact (Bk.po_lines Q).le⟩
  exact ⟨Bk.pE_0.2 R, by rw [Bk.po_pL R, o]⟩
theorem gv_two {w : Wd} {id a b : Int} (h : dvE w id a = 0) (k : dvE (dvW w id a) id b = 0) : dvE w id (a + b) = 0 ∧ dvW w id (a + b) = dvW (dvW w id a) id b := by
  obtain ⟨hw, hf, hl, hp⟩ := dv_ok h
  obtain ⟨kw, kf, kl, kp⟩ := dv_ok k
  obtain ⟨f1, f2, f3, f4, f5⟩ := gv_fl h
  obtain ⟨g1, g2, g3, g4, g5⟩ := gv_fl k
  rw [f5] at kl kp g1 g2
  rw [f2] at kp g2
  rw [f1, f4] at g1
  obtain ⟨o1, o2, o3, o4⟩ := F.less_ok hl
  obtain ⟨p1, p2, p3, p4⟩ := F.less_ok kl
  have bd := F.ok_bounds o1
  have ls := (F.deliver_ok hl).2
  have L : F.less (fl w id) (a + b) = 0 := F.less_5 (F.chk_of o1) (by omega) (by omega) (by omega)
  obtain ⟨t1, t2⟩ := post_two (Bk.pE_0.1 hp) (Bk.pE_0.1 kp) (by omega) (by omega)
  have E : dvE w id (a + b) = 0 := by rw [dv_4 hw hf L]; exact t1
  refine ⟨E, ?_⟩
  obtain ⟨u1, u2, u3, _, _⟩ := gv_fl E
  refine wd_ext (by rw [u3, g3, f3]) ?_ ?_
  · rw [u1, g1, List.set_set]
    unfold F.addDe
    simp only [Int.add_assoc]
  · rw [u2, g2, t2]
    rfl
end Go.Proofs.YtpanlcnoopmchaaGreat.Cy

/- Plain facts on books: the ones that must be in any case. -/
namespace Go.Proofs.YtpanlcnoopmchaaGreat
set_option maxRecDepth 100000
set_option linter.unusedVariables false
def l0 : List Po := [⟨2, 0, 5⟩, ⟨1, 0, -8⟩, ⟨3, 0, 3⟩]
def b0 : List Po := [⟨1, 0, -8⟩, ⟨2, 0, 5⟩, ⟨3, 0, 3⟩]
def t0 : List Po := [⟨3, 0, -3⟩, ⟨1, 0, 8⟩, ⟨2, 0, -5⟩]
theorem bg1 : Bk.pE [] l0 = 0 := by kernel_rfl
theorem bg2 : Bk.pL [] l0 = b0 := by kernel_rfl
theorem bg3 : Bk.bE b0 1 0 = 0 ∧ Bk.bV b0 1 0 = -8 := ⟨by kernel_rfl, by kernel_rfl⟩
theorem bg4 : Bk.chk l0 = 0 ∧ Bk.tL l0 = t0 := ⟨by kernel_rfl, by kernel_rfl⟩
theorem bg5 : Bk.pE b0 t0 = 0 ∧ Bk.pL b0 t0 = [] := ⟨by kernel_rfl, by kernel_rfl⟩
theorem bg6 : Bk.tE b0 = 0 ∧ Bk.tV b0 = [8, 0, 0, 0, 0, 0, 0, 0, 0, 0, 0, 0, 0, 0, 0, 0, 0, 0, 0, 0, 0] := ⟨by kernel_rfl, by kernel_rfl⟩
theorem bg7 : Bk.pE b0 (l0.take 2) = 4 ∧ Bk.pL b0 (l0.take 2) = [] := ⟨by kernel_rfl, by kernel_rfl⟩
theorem bg8 : Bk.chk [] = 1 ∧ Bk.lines [] = 0 := ⟨by kernel_rfl, by kernel_rfl⟩
end Go.Proofs.YtpanlcnoopmchaaGreat

/- A call may be seen over fewer, or weaker, objects. -/
namespace Go.Proofs.YtpanlcnoopmchaaGreat.V
open Go Go.RowKit
set_option linter.unusedVariables false
theorem NCall.le {P : Program} {f : FuncId} {args : List SV} {obs : Obs} {nx : Nat} {K : SV → Obs → Nat → Prop} (obs' : Obs) (ho : ObsLe (sgm []) obs obs') (hb : obsB nx obs' = true) (h : NCall P f args obs' nx K) : NCall P f args obs nx K := by
  refine ⟨h.b, fun B ρ w xs hC hxs => ?_⟩
  have c := hC.head ho hb (injB_id nx)
  have e : cut nx (via (sgm []) ρ) = ρ := funext fun i => by
    unfold cut via
    split
    · rfl
    · exact (hC.new i (by omega)).symm
  rw [e] at c
  exact h.h B ρ w xs c hxs
theorem fnd_cons2 {α : Type} {i j : Nat} {x : α} {l : List (Nat × α)} {o : α} (h : fnd ((i, x) :: l) j = some o) : (i = j ∧ o = x) ∨ (i ≠ j ∧ fnd l j = some o) := by
  unfold fnd at h
  cases q : Nat.beq i j
  · rw [q] at h
    exact .inr ⟨fun e => by subst e; simp at q, h⟩
  · rw [q] at h
    exact .inl ⟨Nat.eq_of_beq_eq_true q, (Option.some.inj h).symm⟩
theorem Cls.lit {B nx : Nat} {ρ : Rho} {obs : Obs} {w : World} (hC : Cls B ρ obs nx w) {i : Nat} {t : TypeId} {s n : Nat} {rows : List (List At)} {g : Nat → List Value} (hf : fnd obs i = some (.lit t s rows)) (ht : ObTo id (.lit t s rows) (.arr s n g)) : Cls B ρ ((i, .arr s n g) :: obs) nx w := by
  have nf : ∀ b, foot ρ i (.arr s n g) = some b → foot ρ i (.lit t s rows) = some b := fun b hb => by
    unfold foot at hb ⊢
    cases n with
    | zero => cases hb
    | succ n => exact hb
  refine ⟨hC.le, fun j o h => ?_, fun j k o o' b h1 h2 hne hm hb => ?_, hC.new, Apx.cons hC.apx (fun _ _ _ _ => rfl) fun j u b _ hu hb q => (hC.apx j i u _ b hu hf hb).1 (nf b q)⟩
  · rcases fnd_cons2 h with ⟨rfl, rfl⟩ | ⟨_, h⟩
    · obtain ⟨v, e, hr⟩ := ObTo.ro ht (hC.sat _ _ hf)
      exact ⟨v, e, hr⟩
    · exact hC.sat j o h
  · rcases fnd_cons2 h1 with ⟨rfl, rfl⟩ | ⟨_, h1⟩
    · cases hm
    · rcases fnd_cons2 h2 with ⟨rfl, rfl⟩ | ⟨_, h2⟩
      · exact fun z => hC.apart j _ o _ b h1 hf hne hm hb (nf b z)
      · exact hC.apart j k o o' b h1 h2 hne hm hb
/-- a literal that is only read from here on -/
theorem NCall.lit_ {P : Program} {f : FuncId} {args : List SV} {obs : Obs} {nx : Nat} {K : SV → Obs → Nat → Prop} (i : Nat) {t : TypeId} {s n : Nat} {rows : List (List At)} {g : Nat → List Value} (hf : fnd obs i = some (.lit t s rows)) (ht : ObTo id (.lit t s rows) (.arr s n g)) (h : NCall P f args ((i, .arr s n g) :: obs) nx K) : NCall P f args obs nx K :=
  ⟨h.b, fun B ρ w xs hC hxs => h.h B ρ w xs (hC.lit hf ht) hxs⟩
end Go.Proofs.YtpanlcnoopmchaaGreat.V

/- What the book's law begins with: it is true. -/
namespace Go.Proofs.YtpanlcnoopmchaaGreat
open Go Go.Sort Go.RowKit V
set_option maxRecDepth 100000
set_option linter.unusedVariables false
set_option linter.unusedSimpArgs false
set_option maxHeartbeats 4000000
theorem cut2 (k : Nat) (hk : k < 2) : ga encP l0 (0 + k) = ga encP (l0.take 2) k := by rw [Nat.zero_add, ga_take hk (by decide)]
theorem v_bkBegun : V.Fn Tryz.prog 33 [] [] (.bool true) := by
  have p1 := v_bkPost [] l0 (by decide) (by decide)
  have p2 := v_bkBalance b0 1 0 (by decide)
  have p3 := v_bkTurn l0 (by decide)
  have p4 := v_bkPost b0 t0 (by decide) (by decide)
  have p5 := v_bkTrial b0 (by decide)
  have p6 := v_bkPost b0 (l0.take 2) (by decide) (by decide)
  have p7 := v_bkCheck [] (by decide)
  have p8 := v_bkLines [] (by decide)
  rw [bg1, bg2] at p1
  rw [bg3.1, bg3.2] at p2
  rw [bg4.1, bg4.2] at p3
  rw [bg5.1, bg5.2] at p4
  rw [bg6.1, bg6.2] at p5
  rw [bg7.1, bg7.2] at p6
  rw [bg8.1] at p7
  rw [bg8.2] at p8
  refine V.Fn.mk_ V.Tok V.mixed Tryz.func33 rfl Tryz.ntmps33 (by kernel_rfl) rfl rfl ?_
  have s1 := v_sameposts b0 b0 (by decide)
  have s2 := v_sameposts t0 t0 (by decide)
  rw [show decide (b0 = b0) = true from decide_eq_true rfl] at s1
  rw [show decide (t0 = t0) = true from decide_eq_true rfl] at s2
  repeat' ((conv => whnf); first | (refine V.NIf.yes ?_ ?_; · (decide; done)) | (refine V.NIf.no ?_ ?_; · (decide; done)) | refine V.NCond.mk ?_ | refine V.NPick.l ?_ | refine V.NIf.not_ ?_ | refine V.NIf.dec_ ?_ | refine V.a4 ?_ | refine V.a5 ?_ | refine V.NIf.mk (fun _ => ?_) (fun _ => ?_) | refine V.a7 ?_ | refine V.a8 ?_ | refine V.a9 ?_ | refine V.NBoth.mk ?_ ?_ | refine V.b1 ?_ | refine V.b2 ?_ | refine V.NTF.dec ?_ | refine V.b3 ?_ | refine V.b4 ?_ | (refine NCall.nil_ 0 3 rfl ?_; refine NCall.lit_ (n := 3) (g := ga encP l0) 0 rfl V.S_ ?_) | ((first | refine V.FnR.k_ (p1) [1, 0] rfl ?_ ?_ | refine V.FnR.a_ (p1) [1, 0] rfl ?_ ?_); · exact V.D_) | ((first | refine V.Fn.k (p2) [2] rfl ?_ ?_ | refine V.Fn.q (p2) [2] rfl ?_ ?_ | refine V.Fn.a (p2) [2] rfl ?_ ?_); · exact V.D_) | ((first | refine V.FnR.k_ (p3) [0] rfl ?_ ?_ | refine V.FnR.a_ (p3) [0] rfl ?_ ?_); · exact V.D_) | ((first | refine V.FnR.k_ (p4) [2, 3] rfl ?_ ?_ | refine V.FnR.a_ (p4) [2, 3] rfl ?_ ?_); · exact V.D_) | ((first | refine V.FnR.k_ (p5) [2] rfl ?_ ?_ | refine V.FnR.a_ (p5) [2] rfl ?_ ?_); · exact V.D_) | (refine NCut.mk ⟨0, 2, rfl, rfl, by decide, by decide, ?_⟩) | (refine NIdx.mk ⟨0, rfl, by decide, ?_⟩) | (refine V.NLt.mk (by decide) ?_) | ((refine V.FnR.k_ p6 [2, 6] rfl ?_ ?_); · exact ⟨⟨rfl, rfl, fun k hk => rfl⟩, ⟨rfl, rfl, fun k hk => cut2 k hk⟩, trivial⟩) | (refine NCall.nil_ 0 3 rfl ?_) | ((first | refine V.Fn.k (p7) [10] rfl ?_ ?_ | refine V.Fn.q (p7) [10] rfl ?_ ?_ | refine V.Fn.a (p7) [10] rfl ?_ ?_); · exact V.D_) | ((first | refine V.Fn.k (p8) [11] rfl ?_ ?_ | refine V.Fn.q (p8) [11] rfl ?_ ?_ | refine V.Fn.a (p8) [11] rfl ?_ ?_); · exact V.D_) | ((first | refine V.Fn.k (s1) [2, 8] rfl ?_ ?_ | refine V.Fn.q (s1) [2, 8] rfl ?_ ?_ | refine V.Fn.a (s1) [2, 8] rfl ?_ ?_); · exact V.D_) | ((first | refine V.Fn.k (s2) [3, 9] rfl ?_ ?_ | refine V.Fn.q (s2) [3, 9] rfl ?_ ?_ | refine V.Fn.a (s2) [3, 9] rfl ?_ ?_); · exact V.D_) | (refine V.NDraw.any (by kernel_rfl) ?_) | fail)
  all_goals (conv => whnf)
  exact ⟨true, rfl, iff_of_true rfl rfl⟩
end Go.Proofs.YtpanlcnoopmchaaGreat
