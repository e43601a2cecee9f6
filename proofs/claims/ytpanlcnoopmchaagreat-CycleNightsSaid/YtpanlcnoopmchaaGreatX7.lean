/- Shared texts, one behind the other: VNil2, VPen3, VAgeB, VPenB, PenPl2, CyPl3, VPenC, VCyB, VOpenI, VOpenC, VOpenF, VOpenPo, VOpenTm, VOpenW, CyPl4, CyPl5, CompPl2, CyPl7, CyPl8, VCy10, VCy11, VCy12, VCy13, VSized, VSizedW -/
import Derived.SizedLaws
import Derived.Test.YtpanlcnoopmchaaGreatX1
import Derived.Test.YtpanlcnoopmchaaGreatX2
import Derived.Test.YtpanlcnoopmchaaGreatX3
import Derived.Test.YtpanlcnoopmchaaGreatX4
import Derived.Test.YtpanlcnoopmchaaGreatX5
import Derived.Test.YtpanlcnoopmchaaGreatX6
set_option linter.unusedVariables false
set_option linter.unusedSimpArgs false
set_option maxRecDepth 100000

namespace Go.Proofs.YtpanlcnoopmchaaGreat.V
open Go Go.RowKit
theorem Ats.nilf {ρ : Rho} {nx : Nat} (hx : ρ nx = none) : ∀ {l : List At} {cs : List Value} {i : Nat}, l[i]? = some (.val (.slice none 0 0)) → Ats ρ l cs → Ats (upd ρ nx (.slice none 0 0)) (l.set i (.ref nx)) cs
  | [], _, i, h, _ => by simp at h
  | a :: l, _, 0, h, ⟨u, r, e, ha, hr⟩ => by
    have ea : a = .val (.slice none 0 0) := by simpa using h
    subst ea
    have eu : u = .slice none 0 0 := ha
    subst eu
    exact ⟨_, r, e, ⟨upd_same _ _ _, rfl⟩, hr.ext (ext_upd hx)⟩
  | a :: l, _, i + 1, h, ⟨u, r, e, ha, hr⟩ => ⟨u, r, e, At.is_ext (ext_upd hx) ha, Ats.nilf hx (by simpa using h) hr⟩
theorem Svs.nilf {ρ : Rho} {nx : Nat} (hx : ρ nx = none) {c : List At} {i : Nat} (hi : c[i]? = some (.val (.slice none 0 0))) : ∀ {args : List SV} {xs : List Value} {j : Nat}, args[j]? = some (.agg c) → Svs ρ args xs → Svs (upd ρ nx (.slice none 0 0)) (args.set j (.agg (c.set i (.ref nx)))) xs
  | [], _, j, h, _ => by simp at h
  | a :: l, _, 0, h, ⟨u, r, e, ha, hr⟩ => by
    have ea : a = .agg c := by simpa using h
    subst ea
    obtain ⟨cs, hc, ex⟩ := ha
    exact ⟨u, r, e, ⟨cs, Ats.nilf hx hi hc, ex⟩, Svs.ext (ext_upd hx) hr⟩
  | a :: l, _, j + 1, h, ⟨u, r, e, ha, hr⟩ => ⟨u, r, e, SV.is1_ext (ext_upd hx) ha, Svs.nilf hx hi (by simpa using h) hr⟩
theorem NCall.nilf {P : Program} {f : FuncId} {args : List SV} {obs : Obs} {nx : Nat} {K : SV → Obs → Nat → Prop} (j i s : Nat) (c : List At) (e : args[j]? = some (.agg c)) (hi : c[i]? = some (.val (.slice none 0 0))) (h : NCall P f (args.set j (.agg (c.set i (.ref nx)))) ((nx, .arr s 0 fun _ => []) :: obs) (nx + 1) K) : NCall P f args obs nx K := by
  refine ⟨h.b, fun B ρ w xs hC ha => ?_⟩
  have hx := hC.new nx (Nat.le_refl _)
  have hC' := hC.more (v := .slice none 0 0) (o := .arr s 0 fun _ => []) (Below.refl _ _) ⟨_, upd_same _ _ _, none, 0, rfl, by omega, by omega, fun k hk => by omega⟩ (fun b hf => by simp [foot] at hf)
  refine (h.h B _ w xs hC' (Svs.nilf hx hi e ha)).mono ?_
  rintro e w' ⟨v, obs', nx', ρ', x, hK, hE, r⟩
  exact ⟨v, obs', nx', ρ', x, hK, fun i y hy => hE i y (by have : i ≠ nx := fun q => (by rw [q, hx] at hy; cases hy); simpa [upd, this] using hy), r⟩
end Go.Proofs.YtpanlcnoopmchaaGreat.V

namespace Go.Proofs.YtpanlcnoopmchaaGreat
open Go Go.RowKit V
set_option maxHeartbeats 4000000 in
theorem v_rday (c : Cl) (t : List Tm) (l : List Fl) (ps : List Int) (n : Int) (hc : c.hs.length ≤ 9223372036854775807) (ht : t.length ≤ 9223372036854775807) (hp : ps.length ≤ 9223372036854775807) :
    V.FnR Tryz.prog 47 (penO c t l ps) [.agg [.val (.int .i64 c.we), .ref 0], .one (.ref 1), .one (.ref 2), .one (.ref 3), .one (.val (.int .i64 n))] (.tup [.one (.ref 4), .one (.val (.int .i64 (Pn.yD c t l ps n)))]) [.row 137 3 (Pn.yL c t l ps n).length (ga encD (Pn.yL c t l ps n))] := by
  refine V.FnR.mk_ V.Tok V.mixed Tryz.func47 rfl Tryz.ntmps47 (by kernel_rfl) rfl rfl rfl rfl ?_
  repeat' ((conv => whnf); first | refine V.NCond.mk ?_ | refine V.NPick.l ?_ | refine V.NIf.not_ ?_ | refine V.NIf.dec_ ?_ | refine V.a4 ?_ | refine V.a5 ?_ | refine V.NIf.mk (fun _ => ?_) (fun _ => ?_) | refine V.a7 ?_ | refine V.a8 ?_ | refine V.a9 ?_ | refine V.NBoth.mk ?_ ?_ | refine V.b1 ?_ | refine V.b2 ?_ | refine V.NTF.dec ?_ | refine V.b3 ?_ | refine V.b4 ?_ | ((first | refine V.Fn.k (v_rdayerr c t l ps n hc ht hp) [0, 1, 2, 3] rfl ?_ ?_ | refine V.Fn.q (v_rdayerr c t l ps n hc ht hp) [0, 1, 2, 3] rfl ?_ ?_ | refine V.Fn.a (v_rdayerr c t l ps n hc ht hp) [0, 1, 2, 3] rfl ?_ ?_); · exact V.D_) | (refine V.NDraw.any (by kernel_rfl) ?_) | fail)
  all_goals (conv => whnf)
  rotate_left
  · have y := Pn.y_no (c := c) (t := t) (l := l) (ps := ps) (n := n) (by assumption)
    rw [y.1, y.2]
    (first | exact V.er 0 | exact V.er 1 | exact V.er 2 | exact V.er 3 | exact V.er 4 | exact V.er 5 | exact V.er 6 | exact V.er 7 | exact V.er 8 | exact V.er 9 | exact V.er 10 | exact V.er 11 | exact V.er 12 | exact V.er 13 | exact V.er 14 | exact V.er 15 | exact V.er 16 | exact V.er 17)
  have hR : Pn.Right c t l ps n := Pn.yE_0 (by assumption)
  have l60 := F.checks_len (l := l) (by have := hR.kl; omega)
  refine V.NLoop.auto (fun (k : Nat) => [(14, .one (.val (.int .i64 k))), (13, .one (.ref 6))]) (fun (k : Nat) => [(6, .row 137 3 (Pn.dus c t ps n (l.take k)).length (ga encD (Pn.dus c t ps n (l.take k))))]) [] [] (fun (k : Nat) => l.length - k) (fun (k : Nat) => k ≤ l.length ∧ ∀ f ∈ l.take k, Pn.eF c t n f = 0) 0 ⟨by omega, by simp⟩ V.S_ V.S_ (fun _ => ⟨rfl, rfl⟩) ?_; (conv => whnf); refine ⟨⟨rfl, rfl⟩, ?_⟩
  rintro k ⟨hk, hJ⟩
  by_cases hlt : k < l.length
  · have hf : F.Ok (l.getD k default) := Pn.all_ok hR.kl _ (getD_mem hlt)
    obtain ⟨ht6, htw⟩ := Pn.tE_ok hR.kt
    obtain ⟨hp20, _⟩ := P.chks_ok hR.kp
    have qk := Pn.qF_ok hR.kt hR.kp hf
    have qd := Pn.d_yes qk
    have dl := Pn.dus_len c t ps n (l.take k)
    have ds := Pn.dus_snoc (c := c) (t := t) (ps := ps) (n := n) hlt
    rw [List.length_take] at dl
    obtain ⟨⟨_, _, _, hcl, hpa, _⟩, _⟩ := id hf
    have qv : Pn.dV (F.left (l.getD k default)) (ps.getD ((l.getD k default).pa - 1).toNat default) (t.getD (l.getD k default).cl.toNat default).ra = Pn.qF t ps (l.getD k default) := qd.2
    have qe : Pn.dE (F.left (l.getD k default)) (ps.getD ((l.getD k default).pa - 1).toNat default) (t.getD (l.getD k default).cl.toNat default).ra = 0 := qd.1
    by_cases hs : Ag.sE c (Pn.cl t (l.getD k default)) (l.getD k default) n = 0
    · repeat' ((conv => whnf); first | (refine NApp.one (en := encD) (l := Pn.dus c t ps n (l.take k)) (x := ⟨(l.getD k default).fr, (l.getD k default).to, Pn.dV (F.left (l.getD k default)) (ps.getD ((l.getD k default).pa - 1).toNat default) (t.getD (l.getD k default).cl.toNat default).ra⟩) (by simp; omega) (by simp; omega) ?_) | refine V.NCond.mk ?_ | refine V.NPick.l ?_ | refine V.NIf.not_ ?_ | refine V.NIf.dec_ ?_ | refine V.a4 ?_ | refine V.a5 ?_ | refine V.NIf.mk (fun _ => ?_) (fun _ => ?_) | refine V.a7 ?_ | refine V.a8 ?_ | refine V.a9 ?_ | refine V.NBoth.mk ?_ ?_ | refine V.b1 ?_ | refine V.b2 ?_ | refine V.NTF.dec ?_ | refine V.b3 ?_ | refine V.b4 ?_ | (refine NIdx.mk ⟨_, rfl, by omega, ?_⟩) | (refine NIdx.mk ⟨(l.getD k default).cl.toNat, by omega, by omega, ?_⟩) | (refine NIdx.mk ⟨((l.getD k default).pa - 1).toNat, by omega, by omega, ?_⟩) | ((first | refine V.Fn.k (v_ragErr c (Pn.cl t (l.getD k default)) (l.getD k default) n hc) [0] rfl ?_ ?_ | refine V.Fn.q (v_ragErr c (Pn.cl t (l.getD k default)) (l.getD k default) n hc) [0] rfl ?_ ?_ | refine V.Fn.a (v_ragErr c (Pn.cl t (l.getD k default)) (l.getD k default) n hc) [0] rfl ?_ ?_); · exact V.D_) | ((first | refine V.Fn.k (v_ragStage c (Pn.cl t (l.getD k default)) (l.getD k default) n hs) [0] rfl ?_ ?_ | refine V.Fn.q (v_ragStage c (Pn.cl t (l.getD k default)) (l.getD k default) n hs) [0] rfl ?_ ?_ | refine V.Fn.a (v_ragStage c (Pn.cl t (l.getD k default)) (l.getD k default) n hs) [0] rfl ?_ ?_); · exact V.D_) | (first | refine V.Fn.k0 (v_rfopen (l.getD k default) ⟨hf.1, hf.2.2.1⟩) rfl ?_ | refine V.Fn.q0 (v_rfopen (l.getD k default) ⟨hf.1, hf.2.2.1⟩) rfl ?_ | refine V.Fn.a0 (v_rfopen (l.getD k default) ⟨hf.1, hf.2.2.1⟩) rfl ?_) | (first | refine V.Fn.k0 (v_rdaily _ _ _) rfl ?_ | refine V.Fn.q0 (v_rdaily _ _ _) rfl ?_ | refine V.Fn.a0 (v_rdaily _ _ _) rfl ?_) | (first | refine V.Fn.k0 (v_rbetween _ _ _) rfl ?_ | refine V.Fn.q0 (v_rbetween _ _ _) rfl ?_ | refine V.Fn.a0 (v_rbetween _ _ _) rfl ?_) | (refine V.NDraw.any (by kernel_rfl) ?_) | fail)
      all_goals (conv => whnf)
      · rename_i g1 g2 g3
        exact V.NBack.at_ (k + 1) [(6, 8)] ⟨by omega, all_snoc hlt hJ hs⟩ (by omega) V.S_ rfl ⟨ObLe.as_ (ds.trans (by rw [Pn.du1_yes ((Pn.late_iff hs).2 g2) (by rw [← qv]; exact g3), qv])), trivial⟩ V.S_ V.S_
      · rename_i g1 g2 g3
        exact V.NBack.at_ (k + 1) [] ⟨by omega, all_snoc hlt hJ hs⟩ (by omega) V.S_ rfl ⟨ObLe.as_ (ds.trans (by rw [Pn.du1_no (fun z => g3 (by rw [qv]; exact z.2)), List.append_nil])), trivial⟩ V.S_ V.S_
      · rename_i g1 g2
        exact V.NBack.at_ (k + 1) [] ⟨by omega, all_snoc hlt hJ hs⟩ (by omega) V.S_ rfl ⟨ObLe.as_ (ds.trans (by rw [Pn.du1_no (fun z => g2 ((Pn.late_iff hs).1 z.1)), List.append_nil])), trivial⟩ V.S_ V.S_
    · repeat' ((conv => whnf); first | refine V.NCond.mk ?_ | refine V.NPick.l ?_ | refine V.NIf.not_ ?_ | refine V.NIf.dec_ ?_ | refine V.a4 ?_ | refine V.a5 ?_ | refine V.NIf.mk (fun _ => ?_) (fun _ => ?_) | refine V.a7 ?_ | refine V.a8 ?_ | refine V.a9 ?_ | refine V.NBoth.mk ?_ ?_ | refine V.b1 ?_ | refine V.b2 ?_ | refine V.NTF.dec ?_ | refine V.b3 ?_ | refine V.b4 ?_ | (refine NIdx.mk ⟨_, rfl, by omega, ?_⟩) | (refine NIdx.mk ⟨(l.getD k default).cl.toNat, by omega, by omega, ?_⟩) | ((first | refine V.Fn.k (v_ragErr c (Pn.cl t (l.getD k default)) (l.getD k default) n hc) [0] rfl ?_ ?_ | refine V.Fn.q (v_ragErr c (Pn.cl t (l.getD k default)) (l.getD k default) n hc) [0] rfl ?_ ?_ | refine V.Fn.a (v_ragErr c (Pn.cl t (l.getD k default)) (l.getD k default) n hc) [0] rfl ?_ ?_); · exact V.D_) | (refine V.NDraw.any (by kernel_rfl) ?_) | fail)
      all_goals (conv => whnf)
      have e := fb_get (f := Pn.eF c t n) hlt hJ hs
      have y := Pn.y_bad (c := c) (t := t) (l := l) (ps := ps) (n := n) (Pn.yE_of hR) (by rw [e]; exact hs)
      rw [y.1, y.2, e]
      (first | exact V.er 0 | exact V.er 1 | exact V.er 2 | exact V.er 3 | exact V.er 4 | exact V.er 5 | exact V.er 6 | exact V.er 7 | exact V.er 8 | exact V.er 9 | exact V.er 10 | exact V.er 11 | exact V.er 12 | exact V.er 13 | exact V.er 14 | exact V.er 15 | exact V.er 16 | exact V.er 17)
  obtain rfl : k = l.length := by omega
  have y := Pn.y_yes (c := c) (t := t) (l := l) (ps := ps) (n := n) (Pn.yE_of hR) (fb_end (by omega) hJ)
  rw [y.1, y.2]
  rw [show l.take l.length = l from List.take_length]
  repeat' ((conv => whnf); first | refine V.NCond.mk ?_ | refine V.NPick.l ?_ | refine V.NIf.not_ ?_ | refine V.NIf.dec_ ?_ | refine V.a4 ?_ | refine V.a5 ?_ | refine V.NIf.mk (fun _ => ?_) (fun _ => ?_) | refine V.a7 ?_ | refine V.a8 ?_ | refine V.a9 ?_ | refine V.NBoth.mk ?_ ?_ | refine V.b1 ?_ | refine V.b2 ?_ | refine V.NTF.dec ?_ | refine V.b3 ?_ | refine V.b4 ?_ | (refine V.NDraw.any (by kernel_rfl) ?_) | fail)
  all_goals (conv => whnf)
  (first | exact V.erf 0 | exact V.erf 1 | exact V.erf 2 | exact V.erf 3 | exact V.erf 4 | exact V.erf 5 | exact V.erf 6 | exact V.erf 7 | exact V.erf 8 | exact V.erf 9 | exact V.erf 10 | exact V.erf 11 | exact V.erf 12 | exact V.erf 13 | exact V.erf 14 | exact V.erf 15 | exact V.erf 16 | exact V.erf 17)
end Go.Proofs.YtpanlcnoopmchaaGreat

namespace Go.Proofs.YtpanlcnoopmchaaGreat
open Go Go.RowKit V
theorem v_someTerms : V.Fn Tryz.prog 80 [] [] (.agg #[.int .i64 4, .int .i64 7, .int .i64 2, .int .i64 100]) := by
  refine V.Fn.mk_ V.Tok V.mixed Tryz.func80 rfl Tryz.ntmps80 (by kernel_rfl) rfl rfl ?_
  repeat' ((conv => whnf); first | refine V.NCond.mk ?_ | refine V.NPick.l ?_ | refine V.NIf.not_ ?_ | refine V.NIf.dec_ ?_ | refine V.a4 ?_ | refine V.a5 ?_ | refine V.NIf.mk (fun _ => ?_) (fun _ => ?_) | refine V.a7 ?_ | refine V.a8 ?_ | refine V.a9 ?_ | refine V.NBoth.mk ?_ ?_ | refine V.b1 ?_ | refine V.b2 ?_ | refine V.NTF.dec ?_ | refine V.b3 ?_ | refine V.b4 ?_ | (refine V.NDraw.any (by kernel_rfl) ?_) | fail)
  all_goals (conv => whnf)
  all_goals exact ⟨rfl, rfl, rfl, rfl, trivial⟩
end Go.Proofs.YtpanlcnoopmchaaGreat

namespace Go.Proofs.YtpanlcnoopmchaaGreat
open Go Go.RowKit V
def tm0 : Tm := ⟨4, 7, 2, 100⟩
namespace Pn
def cls : List Tm := List.replicate 6 tm0
def tens : List Int := List.replicate 20 100000
theorem rep_at {α : Type} (x d : α) {n j : Nat} (h : j < n) : (List.replicate n x).getD j d = x := by simp [List.getD, h]
end Pn
theorem v_classes : V.FnR Tryz.prog 114 [] [] (.one (.ref 0)) [.row 60 4 6 (ga encTm Pn.cls)] := by
  refine V.FnR.mk_ V.Tok V.mixed Tryz.func114 rfl Tryz.ntmps114 (by kernel_rfl) rfl rfl rfl rfl ?_
  repeat' ((conv => whnf); first | refine V.NCond.mk ?_ | refine V.NPick.l ?_ | refine V.NIf.not_ ?_ | refine V.NIf.dec_ ?_ | refine V.a4 ?_ | refine V.a5 ?_ | refine V.NIf.mk (fun _ => ?_) (fun _ => ?_) | refine V.a7 ?_ | refine V.a8 ?_ | refine V.a9 ?_ | refine V.NBoth.mk ?_ ?_ | refine V.b1 ?_ | refine V.b2 ?_ | refine V.NTF.dec ?_ | refine V.b3 ?_ | refine V.b4 ?_ | (refine NMake.mk ⟨6, 6, rfl, rfl, by omega, by omega, by first | omega | decide | (simp; done) | (simp; omega), ?_⟩) | (refine V.NDraw.any (by kernel_rfl) ?_) | fail)
  all_goals (conv => whnf)
  refine V.NLoop.auto (fun (k : Nat) => [(2, .one (.val (.int .i64 k))), (1, .one (.ref 1))]) (fun (k : Nat) => [(1, .row 60 4 6 fun j => encTm (if j < k then tm0 else (⟨0, 0, 0, 0⟩ : Tm)))]) [] [] (fun (k : Nat) => 6 - k) (fun (k : Nat) => k ≤ 6) 0 (Nat.zero_le _) V.S_ (by (conv => whnf); exact ⟨⟨rfl, rfl, rfl, fun j hj => (congrArg encTm (show (if j < 0 then tm0 else (⟨0, 0, 0, 0⟩ : Tm)) = ⟨0, 0, 0, 0⟩ from if_neg (Nat.not_lt_zero j))).symm⟩, trivial⟩) (fun _ => ⟨rfl, rfl⟩) ?_; (conv => whnf); refine ⟨⟨rfl, rfl⟩, ?_⟩
  rintro k hk
  by_cases hlt : k < 6
  · repeat' ((conv => whnf); first | refine V.NCond.mk ?_ | refine V.NPick.l ?_ | refine V.NIf.not_ ?_ | refine V.NIf.dec_ ?_ | refine V.a4 ?_ | refine V.a5 ?_ | refine V.NIf.mk (fun _ => ?_) (fun _ => ?_) | refine V.a7 ?_ | refine V.a8 ?_ | refine V.a9 ?_ | refine V.NBoth.mk ?_ ?_ | refine V.b1 ?_ | refine V.b2 ?_ | refine V.NTF.dec ?_ | refine V.b3 ?_ | refine V.b4 ?_ | (first | refine V.Fn.k0 (v_someTerms) rfl ?_ | refine V.Fn.q0 (v_someTerms) rfl ?_ | refine V.Fn.a0 (v_someTerms) rfl ?_) | (refine NIdx.mk ⟨k, rfl, by omega, ?_⟩) | (refine NPut.mk ⟨fun j => encTm (if j < k + 1 then tm0 else (⟨0, 0, 0, 0⟩ : Tm)), ?_, ?_⟩) | (refine V.NDraw.any (by kernel_rfl) ?_) | fail)
    all_goals (conv => whnf)
    · intro j hj
      by_cases e : j = k
      · rw [if_pos e]; exact congrArg encTm (if_pos (by omega))
      · rw [if_neg e]
        by_cases e2 : j < k
        · exact congrArg encTm ((if_pos (by omega)).trans (if_pos e2).symm)
        · exact congrArg encTm ((if_neg (by omega)).trans (if_neg e2).symm)
    · exact V.NBack.at_ (k + 1) [] (by omega) (by omega) V.S_ rfl ⟨⟨rfl, rfl, rfl, fun _ _ => rfl⟩, trivial⟩ V.S_ V.S_
  obtain rfl : k = 6 := by omega
  repeat' ((conv => whnf); first | refine V.NCond.mk ?_ | refine V.NPick.l ?_ | refine V.NIf.not_ ?_ | refine V.NIf.dec_ ?_ | refine V.a4 ?_ | refine V.a5 ?_ | refine V.NIf.mk (fun _ => ?_) (fun _ => ?_) | refine V.a7 ?_ | refine V.a8 ?_ | refine V.a9 ?_ | refine V.NBoth.mk ?_ ?_ | refine V.b1 ?_ | refine V.b2 ?_ | refine V.NTF.dec ?_ | refine V.b3 ?_ | refine V.b4 ?_ | (refine V.NDraw.any (by kernel_rfl) ?_) | fail)
  all_goals (conv => whnf)
  exact NRet.mk_ [some 1] rfl rfl ⟨⟨rfl, rfl, rfl, fun j hj => congrArg encTm ((if_pos hj).trans (Pn.rep_at tm0 default hj).symm)⟩, trivial⟩
theorem v_tenEach : V.FnR Tryz.prog 55 [] [] (.one (.ref 0)) [.row 3 1 20 (ga e1 Pn.tens)] := by
  refine V.FnR.mk_ V.Tok V.mixed Tryz.func55 rfl Tryz.ntmps55 (by kernel_rfl) rfl rfl rfl rfl ?_
  repeat' ((conv => whnf); first | refine V.NCond.mk ?_ | refine V.NPick.l ?_ | refine V.NIf.not_ ?_ | refine V.NIf.dec_ ?_ | refine V.a4 ?_ | refine V.a5 ?_ | refine V.NIf.mk (fun _ => ?_) (fun _ => ?_) | refine V.a7 ?_ | refine V.a8 ?_ | refine V.a9 ?_ | refine V.NBoth.mk ?_ ?_ | refine V.b1 ?_ | refine V.b2 ?_ | refine V.NTF.dec ?_ | refine V.b3 ?_ | refine V.b4 ?_ | (refine NMake.mk ⟨20, 20, rfl, rfl, by omega, by omega, by first | omega | decide | (simp; done) | (simp; omega), ?_⟩) | (refine V.NDraw.any (by kernel_rfl) ?_) | fail)
  all_goals (conv => whnf)
  refine V.NLoop.auto (fun (k : Nat) => [(2, .one (.val (.int .i64 k))), (1, .one (.ref 1))]) (fun (k : Nat) => [(1, .row 3 1 20 fun j => e1 (if j < k then 100000 else 0))]) [] [] (fun (k : Nat) => 20 - k) (fun (k : Nat) => k ≤ 20) 0 (Nat.zero_le _) V.S_ (by (conv => whnf); exact ⟨⟨rfl, rfl, rfl, fun j hj => (congrArg e1 (if_neg (Nat.not_lt_zero j))).symm⟩, trivial⟩) (fun _ => ⟨rfl, rfl⟩) ?_; (conv => whnf); refine ⟨⟨rfl, rfl⟩, ?_⟩
  rintro k hk
  by_cases hlt : k < 20
  · repeat' ((conv => whnf); first | refine V.NCond.mk ?_ | refine V.NPick.l ?_ | refine V.NIf.not_ ?_ | refine V.NIf.dec_ ?_ | refine V.a4 ?_ | refine V.a5 ?_ | refine V.NIf.mk (fun _ => ?_) (fun _ => ?_) | refine V.a7 ?_ | refine V.a8 ?_ | refine V.a9 ?_ | refine V.NBoth.mk ?_ ?_ | refine V.b1 ?_ | refine V.b2 ?_ | refine V.NTF.dec ?_ | refine V.b3 ?_ | refine V.b4 ?_ | (refine NIdx.mk ⟨k, rfl, by omega, ?_⟩) | (refine NPut.mk ⟨fun j => e1 (if j < k + 1 then 100000 else 0), ?_, ?_⟩) | (refine V.NDraw.any (by kernel_rfl) ?_) | fail)
    all_goals (conv => whnf)
    · intro j hj
      by_cases e : j = k
      · rw [if_pos e]; exact congrArg e1 (if_pos (by omega))
      · rw [if_neg e]
        by_cases e2 : j < k
        · exact congrArg e1 ((if_pos (by omega)).trans (if_pos e2).symm)
        · exact congrArg e1 ((if_neg (by omega)).trans (if_neg e2).symm)
    · exact V.NBack.at_ (k + 1) [] (by omega) (by omega) V.S_ rfl ⟨⟨rfl, rfl, rfl, fun _ _ => rfl⟩, trivial⟩ V.S_ V.S_
  obtain rfl : k = 20 := by omega
  repeat' ((conv => whnf); first | refine V.NCond.mk ?_ | refine V.NPick.l ?_ | refine V.NIf.not_ ?_ | refine V.NIf.dec_ ?_ | refine V.a4 ?_ | refine V.a5 ?_ | refine V.NIf.mk (fun _ => ?_) (fun _ => ?_) | refine V.a7 ?_ | refine V.a8 ?_ | refine V.a9 ?_ | refine V.NBoth.mk ?_ ?_ | refine V.b1 ?_ | refine V.b2 ?_ | refine V.NTF.dec ?_ | refine V.b3 ?_ | refine V.b4 ?_ | (refine V.NDraw.any (by kernel_rfl) ?_) | fail)
  all_goals (conv => whnf)
  exact NRet.mk_ [some 1] rfl rfl ⟨⟨rfl, rfl, rfl, fun j hj => congrArg e1 ((if_pos hj).trans (Pn.rep_at 100000 default hj).symm)⟩, trivial⟩
end Go.Proofs.YtpanlcnoopmchaaGreat

namespace Go.Proofs.YtpanlcnoopmchaaGreat
namespace Pn
def f1 : Fl := ⟨7, 1, 2, 0, 3, 739935, 3000, 0, 0, 0⟩
def d1 : List Du := [⟨1, 2, 3⟩]
theorem t_cls : tE cls = 0 := tE_of (by decide) fun x hx => by rw [List.eq_of_mem_replicate hx]; decide
theorem p_tens : P.chks tens = 0 := P.chks_of (by decide) fun p hp => by rw [List.eq_of_mem_replicate hp]; decide
theorem w_chk : Ca.chk Ca.W = 0 := by decide
theorem o_yes : oE Ca.W 739937 = 0 := oE_yes w_chk ⟨by decide, by decide⟩
end Pn
end Go.Proofs.YtpanlcnoopmchaaGreat

namespace Go.Proofs.YtpanlcnoopmchaaGreat
namespace Cy
open Pn (f1 cls tens)
def w0 : Wd := ⟨739935, [], []⟩
def w1 : Wd := ⟨739935, [f1], []⟩
def f2 : Fl := ⟨7, 1, 2, 0, 3, 739935, 3000, 1000, 0, 0⟩
def f3 : Fl := ⟨7, 1, 2, 0, 3, 739935, 3000, 1000, 0, 2000⟩
def k2 : List Po := [⟨1, 3, -1000⟩, ⟨2, 3, 1000⟩]
def k3 : List Po := [⟨1, 0, -2⟩, ⟨1, 3, -1000⟩, ⟨2, 0, 2⟩, ⟨2, 3, 1000⟩]
def k4 : List Po := [⟨1, 0, -4⟩, ⟨1, 3, -1000⟩, ⟨2, 0, 4⟩, ⟨2, 3, 1000⟩]
def k5 : List Po := [⟨1, 0, -20004⟩, ⟨1, 3, -1000⟩, ⟨2, 0, 20004⟩, ⟨2, 3, 1000⟩]
def w3 : Wd := ⟨739937, [f2], k2⟩
def w4 : Wd := ⟨739956, [f2], k3⟩
def w5 : Wd := ⟨739957, [f3], k5⟩
def du0 : List Du := [⟨1, 2, 2⟩]
def su0 : List Po := [⟨1, 0, -2⟩, ⟨2, 0, 2⟩]
theorem b_add : adE w0 f1 = 0 := by kernel_rfl
theorem b_addW : adW w0 f1 = w1 := adW_yes b_add
theorem b_dv : dvE w1 7 1000 = 0 := by kernel_rfl
theorem b_dvK : Bk.pL [] (Cp.mvd 1 2 3 1000) = k2 := by kernel_rfl
theorem b_dvW : dvW w1 7 1000 = ⟨739935, [f2], k2⟩ := (dvW_yes b_dv).trans (wd_ext rfl rfl b_dvK)
theorem b_dn : dvE w1 8 1 = 5 := by kernel_rfl
theorem b_wz : wE zw = 0 := by kernel_rfl
theorem b_rz : rE ⟨0, []⟩ [] 0 = 1 := by kernel_rfl
theorem b_w3 : wE w3 = 0 := by kernel_rfl
theorem b_w4 : wE w4 = 0 := by kernel_rfl
theorem b_w5 : wE w5 = 0 := by kernel_rfl
theorem b_r : rE Ca.W cls 0 = 0 := rE_4 Pn.w_chk Pn.t_cls (by decide)
theorem b_o3 : Ca.op Ca.W 739937 = 1 := by decide
theorem b_o4 : Ca.op Ca.W 739956 = 1 := by decide
theorem b_cl : Pn.cl cls f2 = Ag.A := Pn.rep_at tm0 default (by decide)
theorem b_e3 : Ag.sE Ca.W Ag.A f2 739937 = 0 := Ag.sE_of (by decide) (by decide) (by decide) (by decide) (by exact Ag.a_th)
theorem b_e4 : Ag.sE Ca.W Ag.A f2 739956 = 0 := Ag.sE_of (by decide) (by decide) (by decide) (by decide) (by exact Ag.a_th)
theorem b_s3 : Ag.stg Ca.W Ag.A f2 739937 = 1 := ((Ag.stg_is b_e3).2 (by decide)).2.1 (by decide) (by rw [show f2.day = 739935 from rfl, Ag.a_1]; decide)
theorem b_q : Pn.qF cls tens f2 = 2 := by
  show Pn.cs (F.left f2) (P.pr tens f2.pa) (Pn.cl cls f2).ra = 2
  rw [show F.left f2 = 2000 by decide, show P.pr tens f2.pa = 100000 from Pn.rep_at 100000 default (by decide), b_cl]
  decide
theorem b_s4 : Ag.stg Ca.W Ag.A f2 739956 = 4 := ((Ag.stg_is b_e4).2 (by decide)).2.2.2.2 (by rw [show f2.day = 739935 from rfl, Ag.a_3]; decide)
theorem b_su : Pn.suE du0 = 0 ∧ Pn.suL du0 = su0 := by decide
theorem b_y (n : Int) (h : Ca.Day n) (o : Ca.op Ca.W n = 1) (s : Ag.sE Ca.W Ag.A f2 n = 0) (g : 1 ≤ Ag.stg Ca.W Ag.A f2 n ∧ Ag.stg Ca.W Ag.A f2 n ≤ 4) : Pn.yD Ca.W cls [f2] tens n = 0 ∧ Pn.yL Ca.W cls [f2] tens n = du0 := by
  have e : Pn.eF Ca.W cls n f2 = 0 := by show Ag.sE Ca.W (Pn.cl cls f2) f2 n = 0; rw [b_cl]; exact s
  have y := Pn.y_yes (c := Ca.W) (t := cls) (l := [f2]) (ps := tens) (n := n) (Pn.yE_of ⟨Pn.w_chk, Pn.t_cls, by decide, Pn.p_tens, Pn.oE_yes Pn.w_chk ⟨h, o⟩⟩) (fb_yes fun d hd => by rw [List.mem_singleton] at hd; rw [hd]; exact e)
  refine ⟨y.1, y.2.trans ?_⟩
  show Pn.du1 Ca.W cls tens n f2 ++ [] = du0
  rw [Pn.du1_yes (by rw [b_cl]; exact (Pn.late_iff s).2 g) (by rw [b_q]; decide), b_q]
  rfl
theorem b_s0 (w : Wd) (K : List Po) (hw : wE w = 0) (hf : w.fs = [f2]) (o : Ca.op Ca.W w.td = 1) (s : Ag.sE Ca.W Ag.A f2 w.td = 0) (g : 1 ≤ Ag.stg Ca.W Ag.A f2 w.td ∧ Ag.stg Ca.W Ag.A f2 w.td ≤ 4) (h : Ca.Day w.td) (e : Bk.pE w.bk su0 = 0) (k : Bk.pL w.bk su0 = K) : s0 Ca.W cls 0 w tens = ⟨[], K, su0, 0⟩ := by
  obtain ⟨y1, y2⟩ := b_y w.td h o s g
  have d : du Ca.W cls w tens = du0 := by unfold du; rw [hf]; exact y2
  have n : nB Ca.W cls 0 w tens = 0 := (nB_5 b_r hw Pn.p_tens o).trans (by rw [hf]; exact y1)
  have p : psE w (du Ca.W cls w tens) = 0 := by
    rw [d]
    unfold psE
    rw [b_su.1, b_su.2, if_neg (by decide), if_neg (by decide)]
    exact e
  rw [s0_3 n p, d]
  unfold psB
  rw [b_su.2, if_neg (by decide), k]
theorem b_pE3 : Bk.pE k2 su0 = 0 := by kernel_rfl
theorem b_pL3 : Bk.pL k2 su0 = k3 := by kernel_rfl
theorem b_pE4 : Bk.pE k3 su0 = 0 := by kernel_rfl
theorem b_pL4 : Bk.pL k3 su0 = k4 := by kernel_rfl
theorem b_pay : Cp.pE f2 100000 0 = 0 ∧ Cp.pF f2 100000 0 = f3 ∧ Cp.pL f2 100000 0 = [⟨1, 0, -20000⟩, ⟨2, 0, 20000⟩] := ⟨by decide, by kernel_rfl, by decide⟩
theorem b_pE5 : Bk.pE k4 [⟨1, 0, -20000⟩, ⟨2, 0, 20000⟩] = 0 := by kernel_rfl
theorem b_pL5 : Bk.pL k4 [⟨1, 0, -20000⟩, ⟨2, 0, 20000⟩] = k5 := by kernel_rfl
theorem b_st3 : Ca.sV Ca.W 739937 1 = 739938 ∧ Ca.sE Ca.W 739937 1 = 0 := by
  have s : Ca.stp Ca.W 739937 1 = 739938 := (Ca.stp_p (by decide)).trans (Ca.stU_is (by unfold Ca.Up; decide))
  obtain ⟨a, b⟩ := Ca.sE_of (c := Ca.W) (n := 739937) (m := 1) Ca.w0 (by decide) (by decide) (by rw [s]; decide)
  exact ⟨b.trans s, a⟩
theorem b_st4 : Ca.sV Ca.W 739956 1 = 739957 ∧ Ca.sE Ca.W 739956 1 = 0 := by
  have s : Ca.stp Ca.W 739956 1 = 739957 := (Ca.stp_p (by decide)).trans (Ca.stU_is (by unfold Ca.Up; decide))
  obtain ⟨a, b⟩ := Ca.sE_of (c := Ca.W) (n := 739956) (m := 1) Ca.w0 (by decide) (by decide) (by rw [s]; decide)
  exact ⟨b.trans s, a⟩
theorem b_n3 : nE Ca.W cls 0 w3 tens = 0 ∧ nW Ca.W cls 0 w3 tens = ⟨739938, [f2], k3⟩ ∧ nP Ca.W cls 0 w3 tens = su0 := by
  have a := b_s0 w3 k3 b_w3 rfl b_o3 b_e3 (by rw [show w3.td = 739937 from rfl, b_s3]; decide) (by decide) b_pE3 b_pL3
  have r : s1 Ca.W cls 0 w3 tens = ⟨[f2], k3, su0, 0⟩ := by
    unfold s1
    rw [a]
    show one Ca.W cls 0 tens 739937 ⟨[], k3, su0, 0⟩ f2 = _
    rw [one_1 rfl (by rw [b_cl, b_s3]; decide)]
    rfl
  obtain ⟨x1, x2, x3⟩ := n_yes (c := Ca.W) (t := cls) (x := 0) (w := w3) (pr := tens) (by rw [r]) b_st3.2
  rw [r] at x2 x3
  exact ⟨x1, x2.trans (wd_ext b_st3.1 rfl rfl), x3⟩
theorem b_n4 : nE Ca.W cls 0 w4 tens = 0 ∧ nW Ca.W cls 0 w4 tens = w5 ∧ nP Ca.W cls 0 w4 tens = su0 ++ [⟨1, 0, -20000⟩, ⟨2, 0, 20000⟩] := by
  have a := b_s0 w4 k4 b_w4 rfl b_o4 b_e4 (by rw [show w4.td = 739956 from rfl, b_s4]; decide) (by decide) b_pE4 b_pL4
  have pr3 : P.pr tens f2.pa = 100000 := Pn.rep_at 100000 default (by decide)
  have r : s1 Ca.W cls 0 w4 tens = ⟨[f3], k5, su0 ++ [⟨1, 0, -20000⟩, ⟨2, 0, 20000⟩], 0⟩ := by
    unfold s1
    rw [a]
    show one Ca.W cls 0 tens 739956 ⟨[], k4, su0, 0⟩ f2 = _
    rw [one_5 rfl (by rw [b_cl]; exact b_s4) (by rw [pr3]; exact b_pay.1) (by rw [pr3, b_pay.2.2]; decide) (by rw [pr3, b_pay.2.2]; exact b_pE5), pr3, b_pay.2.1, b_pay.2.2, b_pL5]
    rfl
  obtain ⟨x1, x2, x3⟩ := n_yes (c := Ca.W) (t := cls) (x := 0) (w := w4) (pr := tens) (by rw [r]) b_st4.2
  rw [r] at x2 x3
  exact ⟨x1, x2.trans (wd_ext b_st4.1 rfl rfl), x3⟩
theorem b_ty : tyW w5 = ⟨739957, [], k5⟩ ∧ tyO w5 = [f3] := by
  obtain ⟨a, b⟩ := ty_yes b_w5
  exact ⟨a.trans (wd_ext rfl (by decide) rfl), b.trans (by decide)⟩
end Cy
end Go.Proofs.YtpanlcnoopmchaaGreat

namespace Go.Proofs.YtpanlcnoopmchaaGreat
open Go Go.RowKit V
theorem v_week : V.FnR Tryz.prog 79 [] [] (.agg [.val (.int .i64 96), .ref 0]) [.row 3 1 1 (ga e1 [739936])] := by
  refine V.FnR.mk_ V.Tok V.mixed Tryz.func79 rfl Tryz.ntmps79 (by kernel_rfl) rfl rfl rfl rfl ?_
  repeat' ((conv => whnf); first | refine V.NCond.mk ?_ | refine V.NPick.l ?_ | refine V.NIf.not_ ?_ | refine V.NIf.dec_ ?_ | refine V.a4 ?_ | refine V.a5 ?_ | refine V.NIf.mk (fun _ => ?_) (fun _ => ?_) | refine V.a7 ?_ | refine V.a8 ?_ | refine V.a9 ?_ | refine V.NBoth.mk ?_ ?_ | refine V.b1 ?_ | refine V.b2 ?_ | refine V.NTF.dec ?_ | refine V.b3 ?_ | refine V.b4 ?_ | (refine V.NDraw.any (by kernel_rfl) ?_) | fail)
  all_goals (conv => whnf)
  exact NRet.mk_ [some 1] rfl ⟨rfl, rfl, trivial⟩ ⟨⟨rfl, rfl, rfl, Nat.one_pos, V.S_⟩, trivial⟩
end Go.Proofs.YtpanlcnoopmchaaGreat

namespace Go.Proofs.YtpanlcnoopmchaaGreat
open Go Go.RowKit V
theorem v_someRules : V.FnR Tryz.prog 54 [] [] (.agg [.val (.int .i64 96), .ref 0, .ref 1, .val (.int .i64 0)]) [.row 3 1 1 (ga e1 [739936]), .row 60 4 6 (ga encTm Pn.cls)] := by
  refine V.FnR.mk_ V.Tok V.mixed Tryz.func54 rfl Tryz.ntmps54 (by kernel_rfl) rfl rfl rfl rfl ?_
  repeat' ((conv => whnf); first | refine V.NCond.mk ?_ | refine V.NPick.l ?_ | refine V.NIf.not_ ?_ | refine V.NIf.dec_ ?_ | refine V.a4 ?_ | refine V.a5 ?_ | refine V.NIf.mk (fun _ => ?_) (fun _ => ?_) | refine V.a7 ?_ | refine V.a8 ?_ | refine V.a9 ?_ | refine V.NBoth.mk ?_ ?_ | refine V.b1 ?_ | refine V.b2 ?_ | refine V.NTF.dec ?_ | refine V.b3 ?_ | refine V.b4 ?_ | (first | refine V.FnR.k0 (v_week) rfl ?_ | refine V.FnR.a0 (v_week) rfl ?_) | (first | refine V.FnR.k0 (v_classes) rfl ?_ | refine V.FnR.a0 (v_classes) rfl ?_) | (refine V.NDraw.any (by kernel_rfl) ?_) | fail)
  all_goals (conv => whnf)
  all_goals first
    | exact V.er2 1 2
    | exact V.er2 2 1
    | trace_state
set_option maxHeartbeats 8000000 in
theorem v_cyBegun : V.Fn Tryz.prog 13 [] [] (.bool true) := by
  have cA := v_cyAdd Cy.w0 Pn.f1 (by decide)
  rw [Cy.b_add, Cy.b_addW] at cA
  have cD := v_cyDeliver Cy.w1 7 1000 (by decide)
  rw [Cy.b_dv, Cy.b_dvW] at cD
  have cN := v_night Ca.W Pn.cls 0 Cy.w3 Pn.tens (by decide) (by decide) (by decide) (by decide) (by decide)
  rw [Cy.b_n3.1, Cy.b_n3.2.1, Cy.b_n3.2.2] at cN
  have cM := v_night Ca.W Pn.cls 0 Cy.w4 Pn.tens (by decide) (by decide) (by decide) (by decide) (by decide)
  rw [Cy.b_n4.1, Cy.b_n4.2.1, Cy.b_n4.2.2] at cM
  have cT := v_cyTidy Cy.w5 (by decide)
  rw [Cy.b_ty.1, Cy.b_ty.2, Cy.b_w5] at cT
  have cE := v_cyDeliver Cy.w1 8 1 (by decide)
  rw [Cy.b_dn, Cy.dvW_no (by rw [Cy.b_dn]; decide)] at cE
  have cS := v_sameposts Cy.su0 Cy.su0 (by decide)
  rw [show decide (Cy.su0 = Cy.su0) = true from decide_eq_true rfl] at cS
  have cC := v_cyCheck Cy.zw (by decide)
  rw [Cy.b_wz] at cC
  have cR := v_cyRules ⟨0, []⟩ [] 0 (by decide) (by decide)
  rw [Cy.b_rz] at cR
  refine V.Fn.mk_ V.Tok V.mixed Tryz.func13 rfl Tryz.ntmps13 (by kernel_rfl) rfl rfl ?_
  repeat' ((conv => whnf); first | (refine V.NDraw.any (by kernel_rfl) ?_) | (refine V.NIf.yes ?_ ?_; · (decide; done)) | (refine V.NIf.no ?_ ?_; · (decide; done)) | refine V.NCond.mk ?_ | refine V.NPick.l ?_ | refine V.NIf.not_ ?_ | refine V.NIf.dec_ ?_ | refine V.a4 ?_ | refine V.a5 ?_ | refine V.NIf.mk (fun _ => ?_) (fun _ => ?_) | refine V.a7 ?_ | refine V.a8 ?_ | refine V.a9 ?_ | refine V.NBoth.mk ?_ ?_ | refine V.b1 ?_ | refine V.b2 ?_ | refine V.NTF.dec ?_ | refine V.b3 ?_ | refine V.b4 ?_ | (first | refine V.Fn.k0 (v_some) rfl ?_ | refine V.Fn.q0 (v_some) rfl ?_ | refine V.Fn.a0 (v_some) rfl ?_) | (refine V.NCall.nilf (f := 21) 0 1 10 _ rfl rfl ?_) | (refine V.NCall.nilf (f := 21) 0 2 3 _ rfl rfl ?_) | ((first | refine V.FnR.k_ (cA) [1, 2] rfl ?_ ?_ | refine V.FnR.a_ (cA) [1, 2] rfl ?_ ?_); · exact V.D_) | ((first | refine V.FnR.k_ (cD) [3, 4] rfl ?_ ?_ | refine V.FnR.a_ (cD) [3, 4] rfl ?_ ?_); · exact V.D_) | (first | refine V.FnR.k0 (v_someRules) rfl ?_ | refine V.FnR.a0 (v_someRules) rfl ?_) | (first | refine V.FnR.k0 (v_tenEach) rfl ?_ | refine V.FnR.a0 (v_tenEach) rfl ?_) | ((first | refine V.FnR.k_ (cN) [9, 10, 6, 7, 11] rfl ?_ ?_ | refine V.FnR.a_ (cN) [9, 10, 6, 7, 11] rfl ?_ ?_); · exact V.D_) | ((first | refine V.FnR.k_ (cN) [9, 10, 6, 7, 12] rfl ?_ ?_ | refine V.FnR.a_ (cN) [9, 10, 6, 7, 12] rfl ?_ ?_); · exact V.D_) | ((first | refine V.FnR.k_ (cN) [10, 11, 6, 7, 9] rfl ?_ ?_ | refine V.FnR.a_ (cN) [10, 11, 6, 7, 9] rfl ?_ ?_); · exact V.D_) | ((first | refine V.FnR.k_ (cN) [11, 12, 6, 7, 9] rfl ?_ ?_ | refine V.FnR.a_ (cN) [11, 12, 6, 7, 9] rfl ?_ ?_); · exact V.D_) | ((first | refine V.FnR.k_ (cN) [10, 11, 6, 7, 12] rfl ?_ ?_ | refine V.FnR.a_ (cN) [10, 11, 6, 7, 12] rfl ?_ ?_); · exact V.D_) | ((first | refine V.FnR.k_ (cN) [11, 12, 6, 7, 10] rfl ?_ ?_ | refine V.FnR.a_ (cN) [11, 12, 6, 7, 10] rfl ?_ ?_); · exact V.D_) | ((first | refine V.FnR.k_ (cM) [16, 17, 12, 13, 18] rfl ?_ ?_ | refine V.FnR.a_ (cM) [16, 17, 12, 13, 18] rfl ?_ ?_); · exact V.D_) | ((first | refine V.FnR.k_ (cM) [16, 17, 12, 13, 19] rfl ?_ ?_ | refine V.FnR.a_ (cM) [16, 17, 12, 13, 19] rfl ?_ ?_); · exact V.D_) | ((first | refine V.FnR.k_ (cM) [17, 18, 12, 13, 16] rfl ?_ ?_ | refine V.FnR.a_ (cM) [17, 18, 12, 13, 16] rfl ?_ ?_); · exact V.D_) | ((first | refine V.FnR.k_ (cM) [18, 19, 12, 13, 16] rfl ?_ ?_ | refine V.FnR.a_ (cM) [18, 19, 12, 13, 16] rfl ?_ ?_); · exact V.D_) | ((first | refine V.FnR.k_ (cM) [17, 18, 12, 13, 19] rfl ?_ ?_ | refine V.FnR.a_ (cM) [17, 18, 12, 13, 19] rfl ?_ ?_); · exact V.D_) | ((first | refine V.FnR.k_ (cM) [18, 19, 12, 13, 17] rfl ?_ ?_ | refine V.FnR.a_ (cM) [18, 19, 12, 13, 17] rfl ?_ ?_); · exact V.D_) | ((first | refine V.FnR.k_ (cM) [16, 17, 13, 14, 18] rfl ?_ ?_ | refine V.FnR.a_ (cM) [16, 17, 13, 14, 18] rfl ?_ ?_); · exact V.D_) | ((first | refine V.FnR.k_ (cM) [16, 17, 13, 14, 19] rfl ?_ ?_ | refine V.FnR.a_ (cM) [16, 17, 13, 14, 19] rfl ?_ ?_); · exact V.D_) | ((first | refine V.FnR.k_ (cM) [17, 18, 13, 14, 16] rfl ?_ ?_ | refine V.FnR.a_ (cM) [17, 18, 13, 14, 16] rfl ?_ ?_); · exact V.D_) | ((first | refine V.FnR.k_ (cM) [18, 19, 13, 14, 16] rfl ?_ ?_ | refine V.FnR.a_ (cM) [18, 19, 13, 14, 16] rfl ?_ ?_); · exact V.D_) | ((first | refine V.FnR.k_ (cM) [17, 18, 13, 14, 19] rfl ?_ ?_ | refine V.FnR.a_ (cM) [17, 18, 13, 14, 19] rfl ?_ ?_); · exact V.D_) | ((first | refine V.FnR.k_ (cM) [18, 19, 13, 14, 17] rfl ?_ ?_ | refine V.FnR.a_ (cM) [18, 19, 13, 14, 17] rfl ?_ ?_); · exact V.D_) | ((first | refine V.FnR.k_ (cT) [19, 20] rfl ?_ ?_ | refine V.FnR.a_ (cT) [19, 20] rfl ?_ ?_); · exact V.D_) | ((first | refine V.FnR.k_ (cT) [20, 21] rfl ?_ ?_ | refine V.FnR.a_ (cT) [20, 21] rfl ?_ ?_); · exact V.D_) | ((first | refine V.FnR.k_ (cE) [3, 4] rfl ?_ ?_ | refine V.FnR.a_ (cE) [3, 4] rfl ?_ ?_); · exact V.D_) | (refine NIdx.mk ⟨0, rfl, Nat.zero_lt_succ _, ?_⟩) | (refine NIdx.mk ⟨3, rfl, by decide, ?_⟩) | (refine V.NLt.mk (by decide) ?_) | ((first | refine V.Fn.k (cS) [14, 30] rfl ?_ ?_ | refine V.Fn.q (cS) [14, 30] rfl ?_ ?_ | refine V.Fn.a (cS) [14, 30] rfl ?_ ?_); · exact V.D_) | ((first | refine V.Fn.k (cS) [14, 31] rfl ?_ ?_ | refine V.Fn.q (cS) [14, 31] rfl ?_ ?_ | refine V.Fn.a (cS) [14, 31] rfl ?_ ?_); · exact V.D_) | ((first | refine V.Fn.k (cS) [14, 32] rfl ?_ ?_ | refine V.Fn.q (cS) [14, 32] rfl ?_ ?_ | refine V.Fn.a (cS) [14, 32] rfl ?_ ?_); · exact V.D_) | ((first | refine V.Fn.k (cS) [14, 33] rfl ?_ ?_ | refine V.Fn.q (cS) [14, 33] rfl ?_ ?_ | refine V.Fn.a (cS) [14, 33] rfl ?_ ?_); · exact V.D_) | ((first | refine V.Fn.k (cS) [13, 30] rfl ?_ ?_ | refine V.Fn.q (cS) [13, 30] rfl ?_ ?_ | refine V.Fn.a (cS) [13, 30] rfl ?_ ?_); · exact V.D_) | ((first | refine V.Fn.k (cS) [13, 31] rfl ?_ ?_ | refine V.Fn.q (cS) [13, 31] rfl ?_ ?_ | refine V.Fn.a (cS) [13, 31] rfl ?_ ?_); · exact V.D_) | ((first | refine V.Fn.k (cS) [13, 32] rfl ?_ ?_ | refine V.Fn.q (cS) [13, 32] rfl ?_ ?_ | refine V.Fn.a (cS) [13, 32] rfl ?_ ?_); · exact V.D_) | ((first | refine V.Fn.k (cS) [15, 30] rfl ?_ ?_ | refine V.Fn.q (cS) [15, 30] rfl ?_ ?_ | refine V.Fn.a (cS) [15, 30] rfl ?_ ?_); · exact V.D_) | ((first | refine V.Fn.k (cS) [15, 31] rfl ?_ ?_ | refine V.Fn.q (cS) [15, 31] rfl ?_ ?_ | refine V.Fn.a (cS) [15, 31] rfl ?_ ?_); · exact V.D_) | ((first | refine V.Fn.k (cS) [15, 32] rfl ?_ ?_ | refine V.Fn.q (cS) [15, 32] rfl ?_ ?_ | refine V.Fn.a (cS) [15, 32] rfl ?_ ?_); · exact V.D_) | ((first | refine V.Fn.k (cS) [15, 33] rfl ?_ ?_ | refine V.Fn.q (cS) [15, 33] rfl ?_ ?_ | refine V.Fn.a (cS) [15, 33] rfl ?_ ?_); · exact V.D_) | (refine V.NCall.nilf (f := 16) 0 1 10 _ rfl rfl ?_) | (refine V.NCall.nilf (f := 16) 0 2 3 _ rfl rfl ?_) | (refine V.NCall.nilf (f := 14) 0 1 1 _ rfl rfl ?_) | (refine V.NCall.nilf (f := 14) 0 2 4 _ rfl rfl ?_) | ((first | refine V.Fn.k (cC) [30, 31] rfl ?_ ?_ | refine V.Fn.q (cC) [30, 31] rfl ?_ ?_ | refine V.Fn.a (cC) [30, 31] rfl ?_ ?_); · exact V.D_) | ((first | refine V.Fn.k (cC) [31, 32] rfl ?_ ?_ | refine V.Fn.q (cC) [31, 32] rfl ?_ ?_ | refine V.Fn.a (cC) [31, 32] rfl ?_ ?_); · exact V.D_) | ((first | refine V.Fn.k (cC) [32, 33] rfl ?_ ?_ | refine V.Fn.q (cC) [32, 33] rfl ?_ ?_ | refine V.Fn.a (cC) [32, 33] rfl ?_ ?_); · exact V.D_) | ((first | refine V.Fn.k (cC) [33, 34] rfl ?_ ?_ | refine V.Fn.q (cC) [33, 34] rfl ?_ ?_ | refine V.Fn.a (cC) [33, 34] rfl ?_ ?_); · exact V.D_) | ((first | refine V.Fn.k (cC) [34, 35] rfl ?_ ?_ | refine V.Fn.q (cC) [34, 35] rfl ?_ ?_ | refine V.Fn.a (cC) [34, 35] rfl ?_ ?_); · exact V.D_) | ((first | refine V.Fn.k (cC) [35, 36] rfl ?_ ?_ | refine V.Fn.q (cC) [35, 36] rfl ?_ ?_ | refine V.Fn.a (cC) [35, 36] rfl ?_ ?_); · exact V.D_) | ((first | refine V.Fn.k (cR) [32, 33] rfl ?_ ?_ | refine V.Fn.q (cR) [32, 33] rfl ?_ ?_ | refine V.Fn.a (cR) [32, 33] rfl ?_ ?_); · exact V.D_) | ((first | refine V.Fn.k (cR) [33, 34] rfl ?_ ?_ | refine V.Fn.q (cR) [33, 34] rfl ?_ ?_ | refine V.Fn.a (cR) [33, 34] rfl ?_ ?_); · exact V.D_) | ((first | refine V.Fn.k (cR) [34, 35] rfl ?_ ?_ | refine V.Fn.q (cR) [34, 35] rfl ?_ ?_ | refine V.Fn.a (cR) [34, 35] rfl ?_ ?_); · exact V.D_) | ((first | refine V.Fn.k (cR) [35, 36] rfl ?_ ?_ | refine V.Fn.q (cR) [35, 36] rfl ?_ ?_ | refine V.Fn.a (cR) [35, 36] rfl ?_ ?_); · exact V.D_) | ((first | refine V.Fn.k (cR) [36, 37] rfl ?_ ?_ | refine V.Fn.q (cR) [36, 37] rfl ?_ ?_ | refine V.Fn.a (cR) [36, 37] rfl ?_ ?_); · exact V.D_) | ((first | refine V.Fn.k (cR) [37, 38] rfl ?_ ?_ | refine V.Fn.q (cR) [37, 38] rfl ?_ ?_ | refine V.Fn.a (cR) [37, 38] rfl ?_ ?_); · exact V.D_) | ((first | refine V.Fn.k (cR) [38, 39] rfl ?_ ?_ | refine V.Fn.q (cR) [38, 39] rfl ?_ ?_ | refine V.Fn.a (cR) [38, 39] rfl ?_ ?_); · exact V.D_) | (refine V.NDraw.any (by kernel_rfl) ?_) | fail)
  all_goals (conv => whnf)
  all_goals first
    | exact ⟨true, rfl, iff_of_true rfl rfl⟩
    | exact ⟨true, rfl, iff_of_true (by decide) rfl⟩
    | trace_state
end Go.Proofs.YtpanlcnoopmchaaGreat

namespace Go.Proofs.YtpanlcnoopmchaaGreat
open Go Go.RowKit Go.ChangeShapes Go.WideShapes Go.Deep V
theorem intCells : Tryz.prog.cellsOf 3 = 1 := by kernel_rfl
theorem open_il {H : Type} {enc : TypeId × Value → H} {W : World} {base : Nat} {spare : Nat → Bool} {held : Bool} {r : Reach} {b0 : Nat} {v : Value} {d : DataW H} {p : List MemPlace} (hv : Value.okWide Tryz.prog W r b0 22 v) (h : DataW.Trod enc Tryz.prog W base spare held 22 v d p) :
    ∃ l : List Int, ArrIs W v 1 l.length (ga e1 l) ∧ ∀ f ∈ l, (Lit.int .i64 f).wf = true :=
  open_ints_ Tryz.underlying22 Tryz.underlying3 intCells hv h
end Go.Proofs.YtpanlcnoopmchaaGreat

namespace Go.Proofs.YtpanlcnoopmchaaGreat
open Go Go.RowKit Go.ChangeShapes Go.WideShapes Go.Deep V
namespace V
section
variable {H : Type} {enc : TypeId × Value → H} {P : Program} {w : World} {base : Nat} {spare : Nat → Bool} {held : Bool}
theorem list_trod {α : Type} [Inhabited α] {en : α → List Value} {Wf : α → Prop} {t e s fuel : Nat} {cs : List Value} {x : DataW H × List MemPlace} (hu : P.underlying t = some (.slice e)) (hs : P.cellsOf e = s) (hs0 : 0 < s)
    (hel : ∀ fuel cs x, DataW.trod enc P w base spare held fuel e cs = some x → ∃ f : α, cs = en f ∧ Wf f) (hf : DataW.trod enc P w base spare held fuel t cs = some x) :
    ∃ v, cs = [v] ∧ ∃ l : List α, ArrIs w v s l.length (ga en l) ∧ ∀ f ∈ l, Wf f := by
  rcases Go.Deep.open_slice hu hf with ⟨hcs, _⟩ | ⟨a, len', cap', m, n, D, Pl, hcs, _, hl, hm, hmm, _, hi⟩
  · exact ⟨_, hcs, [], ⟨none, 0, rfl, by simp, by simp, fun k hk => absurd hk (by simp)⟩, by simp⟩
  · refine ⟨_, hcs, ?_⟩
    have hml : len' ≤ m := by rw [hmm]; split <;> omega
    have all : ∀ i, i < len' → ∃ f : α, (en f).length = s ∧ (∀ j u, (en f)[j]? = some u → w.cell? (a.add (i * s + j)) = some u) ∧ Wf f := by
      intro i hi'
      obtain ⟨cs', hc, ht'⟩ := hi i (by omega)
      rw [hs] at hc
      obtain ⟨f, e, wf⟩ := hel _ _ _ ht'
      obtain ⟨_, hcl, hat⟩ := World.cells?_some hc
      refine ⟨f, by rw [← e]; exact hcl, fun j u hu => ?_, wf⟩
      rw [← e] at hu
      have hj : j < s := by have := (List.getElem?_eq_some_iff.1 hu).1; omega
      have h1 := hat j hj
      rw [add_of_add] at h1
      rw [h1]; exact hu
    obtain ⟨l, hl2, hp⟩ := list_of len' all
    refine ⟨l, ⟨some a, cap', by rw [hl2], by unfold maxLen at hm; omega, by omega, fun k hk => ?_⟩, fun f hf' => ?_⟩
    · obtain ⟨e1, e2, _⟩ := hp k hk
      rw [ga_at hk]
      have h0 : (en l[k])[0]? = some ((en l[k])[0]'(by omega)) := List.getElem?_eq_getElem _
      have := cell_lt (e2 0 _ h0)
      rw [block_of_add] at this
      exact ⟨a, rfl, this, e1, e2⟩
    · obtain ⟨i, hi', rfl⟩ := List.getElem_of_mem hf'
      exact (hp i hi').2.2
end
end V
noncomputable def clFields : Array Field := (match Tryz.prog.underlying 24 with | some (.struct fs) => fs | _ => #[])
theorem clStruct : Tryz.prog.underlying 24 = some (.struct clFields) := by kernel_rfl
theorem clCells : Tryz.prog.cellsOf 24 = 2 := by kernel_rfl
theorem ilCells : Tryz.prog.cellsOf 22 = 1 := by kernel_rfl
theorem cl0 : (clFields[0]?).map (fun f => (f.type, f.offset)) = some (3, 0) := by kernel_rfl
theorem cl1 : (clFields[1]?).map (fun f => (f.type, f.offset)) = some (22, 1) := by kernel_rfl
theorem clSize : clFields.size = 2 := by kernel_rfl
def WfCl (c : Cl) : Prop := (Lit.int .i64 c.we).wf = true ∧ ∀ n ∈ c.hs, (Lit.int .i64 n).wf = true
theorem cl_of {H : Type} {enc : TypeId × Value → H} {w : World} {base : Nat} {spare : Nat → Bool} {held : Bool} {fuel : Nat} {cs : List Value} {x : DataW H × List MemPlace} (h : DataW.trod enc Tryz.prog w base spare held fuel 24 cs = some x) :
    ∃ (c : Cl) (v : Value), cs = [.int .i64 c.we, v] ∧ ArrIs w v 1 c.hs.length (ga e1 c.hs) ∧ WfCl c := by
  obtain ⟨xs, n, _, _, hl, hlen, hg⟩ := DataW.trod_struct clStruct h
  rw [clCells] at hl
  rw [clSize] at hlen
  match cs, hl with
  | [a, b], _ =>
    obtain ⟨f0, h0, e0⟩ := Option.map_eq_some_iff.1 cl0
    obtain ⟨f1, h1, e1'⟩ := Option.map_eq_some_iff.1 cl1
    injection e0 with t0 o0
    injection e1' with t1 o1
    have g0 := hg 0 f0 h0
    have g1 := hg 1 f1 h1
    rw [o0, t0, intCells, List.getElem?_eq_getElem (by omega)] at g0
    rw [o1, t1, ilCells, List.getElem?_eq_getElem (by omega)] at g1
    obtain ⟨m, e2, _, wf⟩ := DataW.trod_int Tryz.underlying3 g0
    obtain ⟨v, e3, l, hl, wl⟩ := V.list_trod (en := e1) (Wf := fun n => (Lit.int .i64 n).wf = true) Tryz.underlying22 intCells (by omega) (fun fuel cs x hx => by
      obtain ⟨m, e2, _, wf⟩ := DataW.trod_int Tryz.underlying3 hx
      exact ⟨m, e2, wf⟩) g1
    have e2 : a = .int .i64 m := by simpa using e2
    obtain rfl : b = v := by
      have e3 : [b] = [v] := e3
      injection e3
    subst e2
    exact ⟨⟨m, l⟩, _, rfl, hl, wf, wl⟩
end Go.Proofs.YtpanlcnoopmchaaGreat

namespace Go.Proofs.YtpanlcnoopmchaaGreat
open Go.RowKit Go.ChangeShapes Go.WideShapes Go.Deep V
noncomputable def failFields : Array Field := (match Tryz.prog.underlying 42 with | some (.struct fs) => fs | _ => #[])
theorem failStruct : Tryz.prog.underlying 42 = some (.struct failFields) := by kernel_rfl
theorem failOne : oneCellFields Tryz.prog failFields = true := by kernel_rfl
theorem failSize : failFields.size = 10 := by kernel_rfl
theorem failCells : Tryz.prog.cellsOf 42 = 10 := by kernel_rfl
theorem failInts : (List.range 10).all (fun j => (failFields[j]?).all (fun f => decide (f.type = 3))) = true := by kernel_rfl
theorem failInt (j : Nat) (f : Field) (h : failFields[j]? = some f) : Tryz.prog.underlying f.type = some (.int .i64) := by
  have hj : j < 10 := by have := (Array.getElem?_eq_some_iff.1 h).1; rw [failSize] at this; exact this
  have := List.all_eq_true.1 failInts j (List.mem_range.2 hj)
  rw [h] at this
  have e : f.type = 3 := by simpa using this
  rw [e]
  exact Tryz.underlying3
def WfF (f : Fl) : Prop := ∀ n ∈ [f.id, f.fr, f.to, f.cl, f.pa, f.day, f.un, f.de, f.bo, f.pd], (Lit.int .i64 n).wf = true
theorem fl_of {H : Type} {enc : TypeId × Value → H} {w : World} {base : Nat} {spare : Nat → Bool} {held : Bool} {fuel : Nat} {cs : List Value} {x : DataW H × List MemPlace} (h : DataW.trod enc Tryz.prog w base spare held fuel 42 cs = some x) :
    ∃ f : Fl, cs = (#[.int .i64 f.id, .int .i64 f.fr, .int .i64 f.to, .int .i64 f.cl, .int .i64 f.pa, .int .i64 f.day, .int .i64 f.un, .int .i64 f.de, .int .i64 f.bo, .int .i64 f.pd] : Array Value).toList ∧ WfF f := by
  obtain ⟨ns, e, hl, wf⟩ := ints_struct failStruct failOne (failCells.trans failSize.symm) failInt h
  rw [failSize] at hl
  match ns, hl with
  | [a, b, c, d, e', f, g, h', i, j], _ => exact ⟨⟨a, b, c, d, e', f, g, h', i, j⟩, by simpa using e, wf⟩
end Go.Proofs.YtpanlcnoopmchaaGreat

namespace Go.Proofs.YtpanlcnoopmchaaGreat
open Go Go.RowKit Go.ChangeShapes Go.WideShapes Go.Deep V
noncomputable def poFields : Array Field := (match Tryz.prog.underlying 65 with | some (.struct fs) => fs | _ => #[])
theorem poStruct : Tryz.prog.underlying 65 = some (.struct poFields) := by kernel_rfl
theorem poOne : oneCellFields Tryz.prog poFields = true := by kernel_rfl
theorem poSize : poFields.size = 3 := by kernel_rfl
theorem poCells : Tryz.prog.cellsOf 65 = 3 := by kernel_rfl
theorem poInts : (List.range 3).all (fun j => (poFields[j]?).all (fun f => decide (f.type = 3))) = true := by kernel_rfl
theorem poInt (j : Nat) (f : Field) (h : poFields[j]? = some f) : Tryz.prog.underlying f.type = some (.int .i64) := by
  have hj : j < 3 := by have := (Array.getElem?_eq_some_iff.1 h).1; rw [poSize] at this; exact this
  have := List.all_eq_true.1 poInts j (List.mem_range.2 hj)
  rw [h] at this
  have e : f.type = 3 := by simpa using this
  rw [e]
  exact Tryz.underlying3
def WfPo (d : Po) : Prop := ∀ n ∈ [d.ac, d.ut, d.am], (Lit.int .i64 n).wf = true
theorem po_of {H : Type} {enc : TypeId × Value → H} {w : World} {base : Nat} {spare : Nat → Bool} {held : Bool} {fuel : Nat} {cs : List Value} {x : DataW H × List MemPlace} (h : DataW.trod enc Tryz.prog w base spare held fuel 65 cs = some x) :
    ∃ f : Po, cs = encP f ∧ WfPo f := by
  obtain ⟨ns, e, hl, wf⟩ := ints_struct poStruct poOne (poCells.trans poSize.symm) poInt h
  rw [poSize] at hl
  match ns, hl with
  | [a0, a1, a2], _ => exact ⟨⟨a0, a1, a2⟩, by simpa [encP] using e, wf⟩
end Go.Proofs.YtpanlcnoopmchaaGreat

namespace Go.Proofs.YtpanlcnoopmchaaGreat
open Go Go.RowKit Go.ChangeShapes Go.WideShapes Go.Deep V
noncomputable def tmFields : Array Field := (match Tryz.prog.underlying 60 with | some (.struct fs) => fs | _ => #[])
theorem tmStruct : Tryz.prog.underlying 60 = some (.struct tmFields) := by kernel_rfl
theorem tmOne : oneCellFields Tryz.prog tmFields = true := by kernel_rfl
theorem tmSize : tmFields.size = 4 := by kernel_rfl
theorem tmCells : Tryz.prog.cellsOf 60 = 4 := by kernel_rfl
theorem tmInts : (List.range 4).all (fun j => (tmFields[j]?).all (fun f => decide (f.type = 3))) = true := by kernel_rfl
theorem tmInt (j : Nat) (f : Field) (h : tmFields[j]? = some f) : Tryz.prog.underlying f.type = some (.int .i64) := by
  have hj : j < 4 := by have := (Array.getElem?_eq_some_iff.1 h).1; rw [tmSize] at this; exact this
  have := List.all_eq_true.1 tmInts j (List.mem_range.2 hj)
  rw [h] at this
  have e : f.type = 3 := by simpa using this
  rw [e]
  exact Tryz.underlying3
def WfTm (d : Tm) : Prop := ∀ n ∈ [d.ex, d.bu, d.de, d.ra], (Lit.int .i64 n).wf = true
theorem tm_of {H : Type} {enc : TypeId × Value → H} {w : World} {base : Nat} {spare : Nat → Bool} {held : Bool} {fuel : Nat} {cs : List Value} {x : DataW H × List MemPlace} (h : DataW.trod enc Tryz.prog w base spare held fuel 60 cs = some x) :
    ∃ f : Tm, cs = encTm f ∧ WfTm f := by
  obtain ⟨ns, e, hl, wf⟩ := ints_struct tmStruct tmOne (tmCells.trans tmSize.symm) tmInt h
  rw [tmSize] at hl
  match ns, hl with
  | [a0, a1, a2, a3], _ => exact ⟨⟨a0, a1, a2, a3⟩, by simpa [encTm] using e, wf⟩
end Go.Proofs.YtpanlcnoopmchaaGreat

namespace Go.Proofs.YtpanlcnoopmchaaGreat
open Go Go.RowKit Go.ChangeShapes Go.WideShapes Go.Deep V
noncomputable def wdFields : Array Field := (match Tryz.prog.underlying 31 with | some (.struct fs) => fs | _ => #[])
theorem wdStruct : Tryz.prog.underlying 31 = some (.struct wdFields) := by kernel_rfl
theorem wdCells : Tryz.prog.cellsOf 31 = 3 := by kernel_rfl
theorem flsCells : Tryz.prog.cellsOf 28 = 1 := by kernel_rfl
theorem posCells : Tryz.prog.cellsOf 29 = 1 := by kernel_rfl
theorem wd0 : (wdFields[0]?).map (fun f => (f.type, f.offset)) = some (3, 0) := by kernel_rfl
theorem wd1 : (wdFields[1]?).map (fun f => (f.type, f.offset)) = some (28, 1) := by kernel_rfl
theorem wd2 : (wdFields[2]?).map (fun f => (f.type, f.offset)) = some (29, 2) := by kernel_rfl
theorem wdSize : wdFields.size = 3 := by kernel_rfl
def WfWd (w : Wd) : Prop := (Lit.int .i64 w.td).wf = true ∧ (∀ f ∈ w.fs, WfF f) ∧ ∀ f ∈ w.bk, WfPo f
theorem wd_of {H : Type} {enc : TypeId × Value → H} {w : World} {base : Nat} {spare : Nat → Bool} {held : Bool} {fuel : Nat} {cs : List Value} {x : DataW H × List MemPlace} (h : DataW.trod enc Tryz.prog w base spare held fuel 31 cs = some x) :
    ∃ (c : Wd) (v u : Value), cs = [.int .i64 c.td, v, u] ∧ ArrIs w v 10 c.fs.length (ga encF c.fs) ∧ ArrIs w u 3 c.bk.length (ga encP c.bk) ∧ WfWd c := by
  obtain ⟨xs, n, _, _, hl, hlen, hg⟩ := DataW.trod_struct wdStruct h
  rw [wdCells] at hl
  rw [wdSize] at hlen
  match cs, hl with
  | [a, b, d], _ =>
    obtain ⟨f0, h0, e0⟩ := Option.map_eq_some_iff.1 wd0
    obtain ⟨f1, h1, e1'⟩ := Option.map_eq_some_iff.1 wd1
    obtain ⟨f2, h2, e2'⟩ := Option.map_eq_some_iff.1 wd2
    injection e0 with t0 o0
    injection e1' with t1 o1
    injection e2' with t2 o2
    have g0 := hg 0 f0 h0
    have g1 := hg 1 f1 h1
    have g2 := hg 2 f2 h2
    rw [o0, t0, intCells, List.getElem?_eq_getElem (by omega)] at g0
    rw [o1, t1, flsCells, List.getElem?_eq_getElem (by omega)] at g1
    rw [o2, t2, posCells, List.getElem?_eq_getElem (by omega)] at g2
    obtain ⟨m, e2, _, wf⟩ := DataW.trod_int Tryz.underlying3 g0
    obtain ⟨v, e3, l, hl, wl⟩ := V.list_trod (en := encF) (Wf := WfF) Tryz.underlying28 failCells (by omega) (fun fuel cs x hx => fl_of hx) g1
    obtain ⟨u, e4, k, hk, wk⟩ := V.list_trod (en := encP) (Wf := WfPo) Tryz.underlying29 poCells (by omega) (fun fuel cs x hx => po_of hx) g2
    have e2 : a = .int .i64 m := by simpa using e2
    obtain rfl : b = v := by
      have e3 : [b] = [v] := e3
      injection e3
    obtain rfl : d = u := by
      have e4 : [d] = [u] := e4
      injection e4
    subst e2
    exact ⟨⟨m, l, k⟩, _, _, rfl, hl, hk, wf, wl, wk⟩
theorem open_wd {H : Type} {enc : TypeId × Value → H} {W : World} {base : Nat} {spare : Nat → Bool} {held : Bool} {r : Reach} {b0 : Nat} {v : Value} {d : DataW H} {p : List MemPlace} (hv : Value.okWide Tryz.prog W r b0 31 v) (h : DataW.Trod enc Tryz.prog W base spare held 31 v d p) :
    ∃ (c : Wd) (u u' : Value), v = .agg #[.int .i64 c.td, u, u'] ∧ ArrIs W u 10 c.fs.length (ga encF c.fs) ∧ ArrIs W u' 3 c.bk.length (ga encP c.bk) ∧ WfWd c := by
  obtain ⟨cs, rfl, _⟩ := okWide_struct wdStruct hv
  obtain ⟨fuel, hf⟩ := h
  obtain ⟨c, u, u', e, h1, h2, wf⟩ := wd_of hf
  refine ⟨c, u, u', ?_, h1, h2, wf⟩
  obtain ⟨l⟩ := cs
  simp only [Value.cells] at e
  subst e
  rfl
noncomputable def ruFields : Array Field := (match Tryz.prog.underlying 27 with | some (.struct fs) => fs | _ => #[])
theorem ruStruct : Tryz.prog.underlying 27 = some (.struct ruFields) := by kernel_rfl
theorem ruCells : Tryz.prog.cellsOf 27 = 4 := by kernel_rfl
theorem tmsCells : Tryz.prog.cellsOf 25 = 1 := by kernel_rfl
theorem ru0 : (ruFields[0]?).map (fun f => (f.type, f.offset)) = some (24, 0) := by kernel_rfl
theorem ru1 : (ruFields[1]?).map (fun f => (f.type, f.offset)) = some (25, 2) := by kernel_rfl
theorem ru2 : (ruFields[2]?).map (fun f => (f.type, f.offset)) = some (3, 3) := by kernel_rfl
theorem ruSize : ruFields.size = 3 := by kernel_rfl
structure Ru0 where
  c : Cl
  ts : List Tm
  ex : Int
def WfRu (d : Ru0) : Prop := WfCl d.c ∧ (∀ f ∈ d.ts, WfTm f) ∧ (Lit.int .i64 d.ex).wf = true
theorem ru_of {H : Type} {enc : TypeId × Value → H} {w : World} {base : Nat} {spare : Nat → Bool} {held : Bool} {fuel : Nat} {cs : List Value} {x : DataW H × List MemPlace} (h : DataW.trod enc Tryz.prog w base spare held fuel 27 cs = some x) :
    ∃ (d : Ru0) (v u : Value), cs = [.int .i64 d.c.we, v, u, .int .i64 d.ex] ∧ ArrIs w v 1 d.c.hs.length (ga e1 d.c.hs) ∧ ArrIs w u 4 d.ts.length (ga encTm d.ts) ∧ WfRu d := by
  obtain ⟨xs, n, _, _, hl, hlen, hg⟩ := DataW.trod_struct ruStruct h
  rw [ruCells] at hl
  rw [ruSize] at hlen
  match cs, hl with
  | [a, a', b, d], _ =>
    obtain ⟨f0, h0, e0⟩ := Option.map_eq_some_iff.1 ru0
    obtain ⟨f1, h1, e1'⟩ := Option.map_eq_some_iff.1 ru1
    obtain ⟨f2, h2, e2'⟩ := Option.map_eq_some_iff.1 ru2
    injection e0 with t0 o0
    injection e1' with t1 o1
    injection e2' with t2 o2
    have g0 := hg 0 f0 h0
    have g1 := hg 1 f1 h1
    have g2 := hg 2 f2 h2
    rw [o0, t0, clCells, List.getElem?_eq_getElem (by omega)] at g0
    rw [o1, t1, tmsCells, List.getElem?_eq_getElem (by omega)] at g1
    rw [o2, t2, intCells, List.getElem?_eq_getElem (by omega)] at g2
    obtain ⟨c, v, e2, hl, wl⟩ := cl_of g0
    obtain ⟨u, e3, k, hk, wk⟩ := V.list_trod (en := encTm) (Wf := WfTm) Tryz.underlying25 tmCells (by omega) (fun fuel cs x hx => tm_of hx) g1
    obtain ⟨m, e4, _, wf⟩ := DataW.trod_int Tryz.underlying3 g2
    have e2 : [a, a'] = [.int .i64 c.we, v] := e2
    obtain rfl : b = u := by
      have e3 : [b] = [u] := e3
      injection e3
    have e4 : d = .int .i64 m := by
      have e4 : [d] = [.int .i64 m] := e4
      injection e4
    injection e2 with e5 e6
    injection e6 with e6 _
    subst e4 e5 e6
    exact ⟨⟨c, k, m⟩, _, _, rfl, hl, hk, wl, wk, wf⟩
theorem open_ru {H : Type} {enc : TypeId × Value → H} {W : World} {base : Nat} {spare : Nat → Bool} {held : Bool} {r : Reach} {b0 : Nat} {v : Value} {d : DataW H} {p : List MemPlace} (hv : Value.okWide Tryz.prog W r b0 27 v) (h : DataW.Trod enc Tryz.prog W base spare held 27 v d p) :
    ∃ (c : Ru0) (u u' : Value), v = .agg #[.int .i64 c.c.we, u, u', .int .i64 c.ex] ∧ ArrIs W u 1 c.c.hs.length (ga e1 c.c.hs) ∧ ArrIs W u' 4 c.ts.length (ga encTm c.ts) ∧ WfRu c := by
  obtain ⟨cs, rfl, _⟩ := okWide_struct ruStruct hv
  obtain ⟨fuel, hf⟩ := h
  obtain ⟨c, u, u', e, h1, h2, wf⟩ := ru_of hf
  refine ⟨c, u, u', ?_, h1, h2, wf⟩
  obtain ⟨l⟩ := cs
  simp only [Value.cells] at e
  subst e
  rfl
end Go.Proofs.YtpanlcnoopmchaaGreat

namespace Go.Proofs.YtpanlcnoopmchaaGreat.Cy
open Go Go.RowKit
end Go.Proofs.YtpanlcnoopmchaaGreat.Cy

namespace Go.Proofs.YtpanlcnoopmchaaGreat.Cy
open Go Go.RowKit
end Go.Proofs.YtpanlcnoopmchaaGreat.Cy

namespace Go.Proofs.YtpanlcnoopmchaaGreat
namespace Bk
theorem cnt_one (a : Nat) : ∀ n, (List.range n).countP (fun k => decide (k = a)) ≤ 1
  | 0 => by simp
  | n + 1 => by
    rw [List.range_succ, List.countP_append]
    have ih := cnt_one a n
    by_cases h : n = a
    · have z : (List.range n).countP (fun k => decide (k = a)) = 0 := List.countP_eq_zero.2 fun k hk => by have := List.mem_range.1 hk; simp; omega
      rw [z]; simp [h]
    · simp [h]; omega
end Bk
namespace Cp
theorem tot_nil (k : Nat) : Bk.tot [] k = 0 := Bk.tot_none fun p hp => by simp at hp
theorem paid {f : Fl} (h : F.Ok f) : F.chk (F.addPd f (F.left f)) = 0 ∧ F.left (F.addPd f (F.left f)) = 0 ∧ F.opn (F.addPd f (F.left f)) = 0 := by
  have b := F.ok_bounds h
  obtain ⟨k, n, ⟨⟨p1, p2⟩, ⟨p3, p4⟩, p5, p6⟩, d⟩ := id h
  have l : F.left (F.addPd f (F.left f)) = 0 := by
    show f.un - f.de - f.bo - (f.pd + F.left f) = 0
    unfold F.left; omega
  have e : F.left f = f.un - f.de - f.bo - f.pd := rfl
  have c : F.chk (F.addPd f (F.left f)) = 0 := F.chk_of ⟨k, n, ⟨⟨p1, p2⟩, ⟨p3, p4⟩, by show 0 ≤ f.pd + F.left f; omega, by show f.pd + F.left f ≤ f.un; omega⟩, by show f.de + f.bo + (f.pd + F.left f) ≤ f.un; omega⟩
  exact ⟨c, l, (F.opn_yes c).trans l⟩
end Cp
end Go.Proofs.YtpanlcnoopmchaaGreat

namespace Go.Proofs.YtpanlcnoopmchaaGreat.Cy
open Go Go.RowKit
noncomputable def fz (c : Cl) (t : List Tm) (x : Int) (pr : List Int) (td : Int) (f : Fl) : Fl := if Ag.stg c (Pn.cl t f) f td = 4 then Cp.pF f (P.pr pr f.pa) x else f
noncomputable def fp (c : Cl) (t : List Tm) (x : Int) (pr : List Int) (td : Int) (f : Fl) : List Po := if Ag.stg c (Pn.cl t f) f td = 4 then Cp.pL f (P.pr pr f.pa) x else []
noncomputable def fps (c : Cl) (t : List Tm) (x : Int) (pr : List Int) (td : Int) (l : List Fl) : List Po := l.flatMap (fp c t x pr td)
section
variable {c : Cl} {t : List Tm} {x : Int} {pr : List Int} {td : Int}
structure One (c : Cl) (t : List Tm) (x : Int) (pr : List Int) (td : Int) (s s' : St) (f : Fl) : Prop where
  e : s.e = 0
  out : s'.out = s.out ++ [fz c t x pr td f]
  ps : s'.ps = s.ps ++ fp c t x pr td f
  bk : (fp c t x pr td f = [] ∧ s'.bk = s.bk) ∨ (Bk.pE s.bk (fp c t x pr td f) = 0 ∧ s'.bk = Bk.pL s.bk (fp c t x pr td f))
  pay : Ag.stg c (Pn.cl t f) f td = 4 → Cp.pE f (P.pr pr f.pa) x = 0
theorem One.rt {s s' : St} {f : Fl} (h : One c t x pr td s s' f) : ∀ p ∈ fp c t x pr td f, Bk.Right p := by
  rcases h.bk with ⟨b1, _⟩ | ⟨b1, _⟩
  · rw [b1]; intro p hp; simp at hp
  · exact (Bk.pE_0.1 b1).r
theorem one_is {s : St} {f : Fl} (h : (one c t x pr td s f).e = 0) : One c t x pr td s (one c t x pr td s f) f := by
  by_cases e : s.e = 0
  · by_cases g : Ag.stg c (Pn.cl t f) f td = 4
    · have z1 : fz c t x pr td f = Cp.pF f (P.pr pr f.pa) x := if_pos g
      have z2 : fp c t x pr td f = Cp.pL f (P.pr pr f.pa) x := if_pos g
      by_cases p : Cp.pE f (P.pr pr f.pa) x = 0
      · by_cases l : (Cp.pL f (P.pr pr f.pa) x).length = 0
        · rw [one_3 e g p l]
          have l0 : Cp.pL f (P.pr pr f.pa) x = [] := List.eq_nil_of_length_eq_zero l
          exact ⟨e, by rw [z1], by rw [z2, l0]; simp, .inl ⟨by rw [z2, l0], rfl⟩, fun _ => p⟩
        · by_cases b : Bk.pE s.bk (Cp.pL f (P.pr pr f.pa) x) = 0
          · rw [one_5 e g p l b]
            exact ⟨e, by rw [z1], by rw [z2], .inr ⟨by rw [z2]; exact b, by rw [z2]⟩, fun _ => p⟩
          · rw [one_4 e g p l b] at h
            exact absurd h b
      · rw [one_2 e g p] at h
        exact absurd h p
    · have z1 : fz c t x pr td f = f := if_neg g
      have z2 : fp c t x pr td f = [] := if_neg g
      rw [one_1 e g]
      exact ⟨e, by rw [z1], by rw [z2]; simp, .inl ⟨z2, rfl⟩, fun q => absurd q g⟩
  · rw [one_0 e] at h
    exact absurd h e
structure Run (c : Cl) (t : List Tm) (x : Int) (pr : List Int) (td : Int) (s s' : St) (l : List Fl) : Prop where
  e : s.e = 0
  out : s'.out = s.out ++ l.map (fz c t x pr td)
  ps : s'.ps = s.ps ++ fps c t x pr td l
  bk : Bk.lines s.bk = 0 → Bk.lines s'.bk = 0 ∧ ∀ k, k < 2121 → Bk.tot s'.bk k = Bk.tot s.bk k + Bk.tot (fps c t x pr td l) k
  pay : ∀ f ∈ l, Ag.stg c (Pn.cl t f) f td = 4 → Cp.pE f (P.pr pr f.pa) x = 0
  rt : ∀ p ∈ fps c t x pr td l, Bk.Right p
theorem run_is : ∀ {l : List Fl} {s : St}, (run c t x pr td s l).e = 0 → Run c t x pr td s (run c t x pr td s l) l
  | [], s, h => ⟨h, by simp [run], by simp [run, fps], fun q => ⟨q, fun k _ => by rw [show fps c t x pr td [] = [] from rfl, Cp.tot_nil]; exact (Int.add_zero _).symm⟩, fun f hf => by simp at hf, fun p hp => by simp [fps] at hp⟩
  | f :: r, s, h => by
    have e : run c t x pr td s (f :: r) = run c t x pr td (one c t x pr td s f) r := rfl
    rw [e] at h ⊢
    have R := run_is h
    have O := one_is R.e
    have pe : fps c t x pr td (f :: r) = fp c t x pr td f ++ fps c t x pr td r := by unfold fps; rw [List.flatMap_cons]
    refine ⟨O.e, ?_, ?_, fun q => ?_, fun g hg => ?_, fun p hp => ?_⟩
    · rw [R.out, O.out, List.map_cons, List.append_assoc]; rfl
    · rw [R.ps, O.ps, pe, List.append_assoc]
    · rcases O.bk with ⟨b1, b2⟩ | ⟨b1, b2⟩
      · obtain ⟨r1, r2⟩ := R.bk (by rw [b2]; exact q)
        refine ⟨r1, fun k hk => ?_⟩
        rw [r2 k hk, b2, pe, b1]
        rfl
      · have P := Bk.pE_0.1 b1
        obtain ⟨r1, r2⟩ := R.bk (by rw [b2]; exact Bk.po_ok P)
        refine ⟨r1, fun k hk => ?_⟩
        rw [r2 k hk, b2, Bk.po_tot P hk, pe, Bk.tot_app]
        omega
    · rcases List.mem_cons.1 hg with rfl | hg
      · exact O.pay
      · exact R.pay g hg
    · rw [pe, List.mem_append] at hp
      exact hp.elim (O.rt p) (R.rt p)
theorem fz_ids (l : List Fl) (h : ∀ f ∈ l, Ag.stg c (Pn.cl t f) f td = 4 → Cp.pE f (P.pr pr f.pa) x = 0) : (l.map (fz c t x pr td)).map (·.id) = l.map (·.id) := by
  rw [List.map_map]
  refine List.map_congr_left fun f hf => ?_
  show (fz c t x pr td f).id = f.id
  unfold fz
  split
  · rename_i g
    unfold Cp.pF
    rw [if_pos (h f hf g)]
    rfl
  · rfl
theorem fz_is {f : Fl} (o : F.Ok f) (h : Ag.stg c (Pn.cl t f) f td = 4 → Cp.pE f (P.pr pr f.pa) x = 0) : F.Ok (fz c t x pr td f) ∧ (fz c t x pr td f).day = f.day ∧ (fz c t x pr td f).cl = f.cl ∧
    (Ag.stg c (Pn.cl t f) f td = 4 → F.left (fz c t x pr td f) = 0 ∧ f.pd < (fz c t x pr td f).pd) ∧ (¬ Ag.stg c (Pn.cl t f) f td = 4 → fz c t x pr td f = f) := by
  by_cases g : Ag.stg c (Pn.cl t f) f td = 4
  · have e : fz c t x pr td f = F.addPd f (F.left f) := by unfold fz; rw [if_pos g]; exact if_pos (h g)
    have l1 : F.less f 1 = 0 := by
      have := h g
      unfold Cp.pE at this
      split at this
      · exact absurd this (by assumption)
      · omega
    obtain ⟨p1, p2, p3⟩ := F.paid_ok l1
    rw [e]
    exact ⟨p1, rfl, rfl, fun _ => ⟨p2, by show f.pd < f.pd + F.left f; omega⟩, fun q => absurd g q⟩
  · have e : fz c t x pr td f = f := if_neg g
    rw [e]
    exact ⟨o, rfl, rfl, fun q => absurd q g, fun _ => rfl⟩
end
structure Nt (c : Cl) (t : List Tm) (x : Int) (w : Wd) (pr : List Int) : Prop where
  rk : rE c t x = 0
  wk : wE w = 0
  pk : P.chks pr = 0
  ok : wE (nW c t x w pr) = 0
  td : (nW c t x w pr).td = Ca.stp c w.td 1
  fs : (nW c t x w pr).fs = w.fs.map (fz c t x pr w.td)
  ps : nP c t x w pr = Pn.suL (du c t w pr) ++ fps c t x pr w.td w.fs
  bk : ∀ k, k < 2121 → Bk.tot (nW c t x w pr).bk k = Bk.tot w.bk k + Bk.tot (nP c t x w pr) k
  st : ∀ f ∈ w.fs, Ag.sE c (Pn.cl t f) f w.td = 0
  fo : ∀ f ∈ w.fs, F.Ok f
  pay : ∀ f ∈ w.fs, Ag.stg c (Pn.cl t f) f w.td = 4 → Cp.pE f (P.pr pr f.pa) x = 0
  dw : Ca.Day w.td
  up : Ca.Up c w.td 1 (nW c t x w pr).td
  dn : Ca.Day (nW c t x w pr).td
  rt : ∀ p ∈ nP c t x w pr, Bk.Right p
theorem nt {c : Cl} {t : List Tm} {x : Int} {w : Wd} {pr : List Int} (h : nE c t x w pr = 0) : Nt c t x w pr := by
  have e1 : (s1 c t x w pr).e = 0 := by
    apply Classical.byContradiction
    intro q
    exact q (((n_err q).1).symm.trans h)
  have ec : Ca.sE c w.td 1 = 0 := by
    apply Classical.byContradiction
    intro q
    exact q (((n_end e1 q).1).symm.trans h)
  obtain ⟨_, nw, np⟩ := n_yes e1 ec
  have R : Run c t x pr w.td (s0 c t x w pr) (s1 c t x w pr) w.fs := run_is e1
  obtain ⟨b0, p0, e0⟩ := s0_ok R.e
  obtain ⟨r0, w0, k0, o0, y0⟩ := nB_ok b0
  obtain ⟨n1, n2, n3, n4, n5, n6, n7⟩ := night_ok R.e
  obtain ⟨d0, f0, l0⟩ := wE_ok w0
  obtain ⟨_, yf, _⟩ := Pn.y_ok y0
  obtain ⟨c1, c2, c3, c4, c5⟩ := Ca.sE_ok ec
  obtain ⟨k1, k2, k3⟩ := K.checks_all f0
  have u := (Ca.stp_is c2 c5.1).1 (by decide)
  have B : Bk.lines (s0 c t x w pr).bk = 0 ∧ ∀ k, k < 2121 → Bk.tot (s0 c t x w pr).bk k = Bk.tot w.bk k + Bk.tot (Pn.suL (du c t w pr)) k := by
    rw [n6]
    unfold psB
    by_cases z : (Pn.suL (du c t w pr)).length = 0
    · rw [if_pos z, List.eq_nil_of_length_eq_zero z]
      exact ⟨l0, fun k _ => by rw [Cp.tot_nil]; omega⟩
    · rw [if_neg z]
      have P := Bk.pE_0.1 (n3 z).2
      exact ⟨Bk.po_ok P, fun k hk => Bk.po_tot P hk⟩
  obtain ⟨B1, B2⟩ := R.bk B.1
  have ofs : (s1 c t x w pr).out = w.fs.map (fz c t x pr w.td) := by rw [R.out, n5]; rfl
  have ops : (s1 c t x w pr).ps = Pn.suL (du c t w pr) ++ fps c t x pr w.td w.fs := by rw [R.ps, n7]
  have td : (nW c t x w pr).td = Ca.stp c w.td 1 := by rw [nw]; exact c4
  have fs : (nW c t x w pr).fs = w.fs.map (fz c t x pr w.td) := by rw [nw]; exact ofs
  refine ⟨r0, w0, k0, ?_, td, fs, np.trans ops, ?_, yf, k2, R.pay, c2, by rw [td]; exact u, by rw [td]; exact c5, ?_⟩
  · refine wE_of ?_ ?_ ?_
    · rw [td]
      rcases Ca.dchk (Ca.stp c w.td 1) with q | q
      · exact q.1
      · exact absurd c5 q.2
    · rw [fs]
      refine K.checks_of (by rw [List.length_map]; exact k1) (fun f hf => ?_) ?_
      · obtain ⟨g, hg, rfl⟩ := List.mem_map.1 hf
        exact (fz_is (k2 g hg) (R.pay g hg)).1
      · rw [fz_ids w.fs R.pay]; exact k3
    · rw [nw]; exact B1
  · intro k hk
    rw [np, ops, Bk.tot_app, nw]
    show Bk.tot (s1 c t x w pr).bk k = _
    rw [B2 k hk, B.2 k hk]
    omega
  · intro p hp
    rw [np, ops, List.mem_append] at hp
    rcases hp with hp | hp
    · by_cases z : (Pn.suL (du c t w pr)).length = 0
      · rw [List.eq_nil_of_length_eq_zero z] at hp; simp at hp
      · exact (Bk.pE_0.1 (n3 z).2).r p hp
    · exact R.rt p hp
theorem fps_len (c : Cl) (t : List Tm) (x : Int) (pr : List Int) (td : Int) : ∀ l : List Fl, (fps c t x pr td l).length ≤ 2 * l.length
  | [] => by simp [fps]
  | f :: r => by
    have ih := fps_len c t x pr td r
    have e : fps c t x pr td (f :: r) = fp c t x pr td f ++ fps c t x pr td r := by unfold fps; rw [List.flatMap_cons]
    have : (fp c t x pr td f).length ≤ 2 := by
      unfold fp
      split
      · exact pL_len _ _ _
      · simp
    rw [e, List.length_append, List.length_cons]
    omega
theorem nP_len {c : Cl} {t : List Tm} {x : Int} {w : Wd} {pr : List Int} (h : nE c t x w pr = 0) : (nP c t x w pr).length ≤ 151 := by
  have N := nt h
  have a := fps_len c t x pr w.td w.fs
  have b := (wE_len N.wk).1
  have d : (Pn.suL (du c t w pr)).length ≤ 31 := by
    unfold Pn.suL
    split
    · exact Pn.pos_len _ _
    · exact Nat.zero_le _
  rw [N.ps, List.length_append]
  omega
theorem zw_of {c : Cl} {t : List Tm} {x : Int} {w : Wd} {pr : List Int} (h : ¬ nE c t x w pr = 0) : nW c t x w pr = zw ∧ nP c t x w pr = [] := ⟨if_neg h, if_neg h⟩
def mor (l : List Po) (a u : Int) : List Int := (l.filter fun p => decide (p.ac = a ∧ p.ut = u)).map (·.am)
structure Ev1 (c : Cl) (t : List Tm) (x : Int) (w : Wd) (pr : List Int) (a u : Int) : Prop where
  e : Bk.bE (nW c t x w pr).bk a u = Bk.bE w.bk a u
  j : ∀ z ∈ mor (nP c t x w pr) a u ++ [Bk.bV w.bk a u], M.Amt z
  s : Bk.bE w.bk a u = 0 → M.sum (mor (nP c t x w pr) a u ++ [Bk.bV w.bk a u]) = Bk.bV (nW c t x w pr).bk a u ∧ M.Amt (Bk.bV (nW c t x w pr).bk a u)
section
variable {c : Cl} {t : List Tm} {x : Int} {pr : List Int} {td : Int}
end
end Go.Proofs.YtpanlcnoopmchaaGreat.Cy

namespace Go.Proofs.YtpanlcnoopmchaaGreat.Cy
open Go Go.RowKit
structure RJ (c : Cl) (t : List Tm) (x : Int) (pr : List Int) (td : Int) (s : St) (fs : List Fl) (k : Nat) (out : List Fl) (b p : List Po) : Prop where
  le : k ≤ fs.length
  r : run c t x pr td s (fs.take k) = ⟨out, b, p, 0⟩
  ol : out.length = k
  bl : b.length ≤ 2121
  pl : p.length ≤ s.ps.length + 2 * k
section
variable {c : Cl} {t : List Tm} {x : Int} {pr : List Int} {td : Int} {s : St} {fs out : List Fl} {k : Nat} {b p : List Po}
theorem RJ.start (hb : s.bk.length ≤ 2121) (ho : s.out = []) (he : s.e = 0) : RJ c t x pr td s fs 0 [] s.bk s.ps :=
  ⟨Nat.zero_le _, by cases s; simp_all [run], rfl, hb, by omega⟩
theorem RJ.s1 (h : RJ c t x pr td s fs k out b p) (hk : k < fs.length) (g : ¬ Ag.stg c (Pn.cl t (fs.getD k default)) (fs.getD k default) td = 4) : RJ c t x pr td s fs (k + 1) (out ++ [fs.getD k default]) b p :=
  ⟨hk, by rw [run_snoc hk, h.r, one_1 rfl g], by rw [List.length_append, h.ol]; rfl, h.bl, by have := h.pl; omega⟩
theorem RJ.bad (h : RJ c t x pr td s fs k out b p) (hk : k < fs.length) (e : ¬ (one c t x pr td ⟨out, b, p, 0⟩ (fs.getD k default)).e = 0) : (run c t x pr td s fs).e = (one c t x pr td ⟨out, b, p, 0⟩ (fs.getD k default)).e := by
  have q : run c t x pr td s (fs.take (k + 1)) = one c t x pr td ⟨out, b, p, 0⟩ (fs.getD k default) := by rw [run_snoc hk, h.r]
  rw [run_split c t x pr td s fs (k + 1), run_e (by rw [q]; exact e), q]
theorem RJ.s2 (h : RJ c t x pr td s fs k out b p) (hk : k < fs.length) (g : Ag.stg c (Pn.cl t (fs.getD k default)) (fs.getD k default) td = 4) (q : ¬ Cp.pE (fs.getD k default) (P.pr pr (fs.getD k default).pa) x = 0) :
    (run c t x pr td s fs).e = Cp.pE (fs.getD k default) (P.pr pr (fs.getD k default).pa) x := by
  have e := one_2 (s := ⟨out, b, p, 0⟩) rfl g q
  rw [h.bad hk (by rw [e]; exact q), e]
theorem RJ.s3 (h : RJ c t x pr td s fs k out b p) (hk : k < fs.length) (g : Ag.stg c (Pn.cl t (fs.getD k default)) (fs.getD k default) td = 4) (q : Cp.pE (fs.getD k default) (P.pr pr (fs.getD k default).pa) x = 0)
    (z : (Cp.pL (fs.getD k default) (P.pr pr (fs.getD k default).pa) x).length = 0) : RJ c t x pr td s fs (k + 1) (out ++ [Cp.pF (fs.getD k default) (P.pr pr (fs.getD k default).pa) x]) b p :=
  ⟨hk, by rw [run_snoc hk, h.r, one_3 rfl g q z], by rw [List.length_append, h.ol]; rfl, h.bl, by have := h.pl; omega⟩
theorem RJ.s4 (h : RJ c t x pr td s fs k out b p) (hk : k < fs.length) (g : Ag.stg c (Pn.cl t (fs.getD k default)) (fs.getD k default) td = 4) (q : Cp.pE (fs.getD k default) (P.pr pr (fs.getD k default).pa) x = 0)
    (z : ¬ (Cp.pL (fs.getD k default) (P.pr pr (fs.getD k default).pa) x).length = 0) (y : ¬ Bk.pE b (Cp.pL (fs.getD k default) (P.pr pr (fs.getD k default).pa) x) = 0) :
    (run c t x pr td s fs).e = Bk.pE b (Cp.pL (fs.getD k default) (P.pr pr (fs.getD k default).pa) x) := by
  have e := one_4 (s := ⟨out, b, p, 0⟩) rfl g q z y
  rw [h.bad hk (by rw [e]; exact y), e]
theorem RJ.s5 (h : RJ c t x pr td s fs k out b p) (hk : k < fs.length) (g : Ag.stg c (Pn.cl t (fs.getD k default)) (fs.getD k default) td = 4) (q : Cp.pE (fs.getD k default) (P.pr pr (fs.getD k default).pa) x = 0)
    (z : ¬ (Cp.pL (fs.getD k default) (P.pr pr (fs.getD k default).pa) x).length = 0) (y : Bk.pE b (Cp.pL (fs.getD k default) (P.pr pr (fs.getD k default).pa) x) = 0) :
    RJ c t x pr td s fs (k + 1) (out ++ [Cp.pF (fs.getD k default) (P.pr pr (fs.getD k default).pa) x]) (Bk.pL b (Cp.pL (fs.getD k default) (P.pr pr (fs.getD k default).pa) x)) (p ++ Cp.pL (fs.getD k default) (P.pr pr (fs.getD k default).pa) x) := by
  have l2 := pL_len (fs.getD k default) (P.pr pr (fs.getD k default).pa) x
  exact ⟨hk, by rw [run_snoc hk, h.r, one_5 rfl g q z y], by rw [List.length_append, h.ol]; rfl, by have := (Bk.po_lines (Bk.pE_0.1 y)).le; omega, by have := h.pl; rw [List.length_append]; omega⟩
theorem RJ.fin (h : RJ c t x pr td s fs fs.length out b p) : run c t x pr td s fs = ⟨out, b, p, 0⟩ := by
  have e := h.r
  rw [List.take_length] at e
  exact e
end
theorem nP_nil {c : Cl} {t : List Tm} {x : Int} {w : Wd} {pr : List Int} (h : nE c t x w pr = 0) (z : nP c t x w pr = []) : (nW c t x w pr).bk = w.bk := by
  have N := nt h
  obtain ⟨_, _, l0⟩ := wE_ok N.wk
  obtain ⟨_, _, l1⟩ := wE_ok N.ok
  refine Bk.book_ext (Bk.lines_0 l1).1 (Bk.lines_0 l0).1 fun k hk => ?_
  rw [N.bk k hk, z, Cp.tot_nil]
  omega
theorem stp_1 {c : Cl} {n : Int} (h : Ca.chk c = 0) (hn : Ca.Day n) : (Ca.sE c n 1 = 0 ∧ 0 ≤ Ca.stp c n 1 ∧ Ca.sV c n 1 = Ca.stp c n 1) ∨ (Ca.sE c n 1 = 8 ∧ Ca.stp c n 1 < 0) := by
  have e : Ca.sE0 c n 1 = 0 := by unfold Ca.sE0; rw [if_neg (by rw [Ca.e1_of h hn]; omega), if_neg (by omega)]
  by_cases z : Ca.stp c n 1 < 0
  · right
    refine ⟨?_, z⟩
    have : Ca.sE c n 1 = Ca.toE (Ca.stp c n 1) := if_neg (by omega)
    rw [this]; exact if_pos z
  · left
    have := Ca.sE_of h hn (by omega : (-500 : Int) ≤ 1 ∧ (1 : Int) ≤ 500) (by omega : 0 ≤ Ca.stp c n 1)
    exact ⟨this.1, by omega, this.2⟩
end Go.Proofs.YtpanlcnoopmchaaGreat.Cy

namespace Go.Proofs.YtpanlcnoopmchaaGreat
open Go Go.RowKit V
theorem biz_is {c : Cl} {n : Int} (h : Ca.chk c = 0) : decide (Ca.Day n ∧ Ca.op c n = 1) = Ca.isV c n := by
  unfold Ca.isV
  congr 1
  refine propext ⟨fun q => ⟨Ca.e1_of h q.1, q.2⟩, fun q => ⟨(Ca.e1_ok q.1).2.1, q.2⟩⟩
set_option maxHeartbeats 8000000 in
theorem v_rNight_e (c : Cl) (t : List Tm) (x : Int) (w : Wd) (pr : List Int) (hc : c.hs.length ≤ 9223372036854775807) (ht : t.length ≤ 9223372036854775807) (hb : w.bk.length ≤ 9223372036854775807) (hp : pr.length ≤ 9223372036854775807)
    (h0 : ¬ (Cy.s0 c t x w pr).e = 0) :
    V.FnR Tryz.prog 12 (nightO c t w pr) [ruV c x, .agg [.val (.int .i64 w.td), .ref 2, .ref 3], .one (.ref 4)] (.tup [.agg [.val (.int .i64 (Cy.nW c t x w pr).td), .ref 5, .ref 6], .one (.ref 7), .one (.val (.int .i64 (Cy.nE c t x w pr)))]) [.row 42 10 (Cy.nW c t x w pr).fs.length (ga encF (Cy.nW c t x w pr).fs), .row 65 3 (Cy.nW c t x w pr).bk.length (ga encP (Cy.nW c t x w pr).bk), .row 65 3 (Cy.nP c t x w pr).length (ga encP (Cy.nP c t x w pr))] := by
  obtain ⟨r1, r2, r3⟩ := Cy.n_bad h0
  rw [r1, r2, r3]
  have cR := v_rRules c t x hc ht
  have cW := v_rWcheck w hb
  have cP := v_rprices pr hp
  have cD := v_rday c t w.fs pr w.td hc ht hp
  rw [show Pn.yL c t w.fs pr w.td = Cy.du c t w pr from rfl] at cD
  have dl : (Cy.du c t w pr).length ≤ 60 := by have := Pn.yL_len c t w.fs pr w.td; unfold Cy.du; omega
  have cS := v_rpsum (Cy.du c t w pr) (by omega)
  have sl : (Pn.suL (Cy.du c t w pr)).length ≤ 31 := by
    unfold Pn.suL
    split
    all_goals first | exact Pn.pos_len _ _ | exact Nat.zero_le _
  have cB := v_rPost w.bk (Pn.suL (Cy.du c t w pr)) hb (by omega)
  have e1 := Cy.e_1 (c := c) (t := t) (x := x) (w := w) (pr := pr)
  have e2 := Cy.e_2 (c := c) (t := t) (x := x) (w := w) (pr := pr)
  have e3 := Cy.e_3 (c := c) (t := t) (x := x) (w := w) (pr := pr)
  have e4 := Cy.e_4 (c := c) (t := t) (x := x) (w := w) (pr := pr)
  have e5 := Cy.e_5 (c := c) (t := t) (x := x) (w := w) (pr := pr)
  have e6 := Cy.e_6 (c := c) (t := t) (x := x) (w := w) (pr := pr)
  have e7 := Cy.e_7 (c := c) (t := t) (x := x) (w := w) (pr := pr)
  have e8 := Cy.e_8 (c := c) (t := t) (x := x) (w := w) (pr := pr)
  by_cases hr : Cy.rE c t x = 0
  · have kc := (Cy.rE_ok hr).1
    have cI := v_business c w.td (Ca.chk_ok kc)
    rw [biz_is kc] at cI
    rw [hr] at cR
    replace e2 := e2 hr
    replace e3 := e3 hr
    replace e4 := e4 hr
    replace e5 := e5 hr
    replace e6 := e6 hr
    replace e7 := e7 hr
    replace e8 := e8 hr
    clear e1 dl
    generalize Pn.suE (Cy.du c t w pr) = SE at *
    generalize Pn.suL (Cy.du c t w pr) = S at *
    generalize Cy.du c t w pr = D at *
    generalize Bk.pE w.bk S = BE at *
    generalize Bk.pL w.bk S = B1 at *
    generalize Pn.yD c t w.fs pr w.td = YD at *
    generalize Cy.wE w = WE at *
    generalize P.chks pr = CE at *
    generalize Ca.isV c w.td = IV at *
    generalize (Cy.s0 c t x w pr).e = E0 at *
    by_cases hW : WE = 0
    · by_cases hP : CE = 0
      · by_cases hI : IV = true
        · by_cases hY : YD = 0
          · by_cases hS : SE = 0 ∨ SE = 5
            · by_cases hL : S.length = 0
              · exact absurd (e8 hW hP hI hY hS (.inl hL)) h0
              · by_cases hB : BE = 0
                · exact absurd (e8 hW hP hI hY hS (.inr hB)) h0
                · rw [e7 hW hP hI hY hS hL hB]
                  subst hW hP hI hY
                  clear e2 e3 e4 e5 e6 e7 e8 h0
                  refine V.FnR.mk_ V.Tok V.mixed Tryz.func12 rfl Tryz.ntmps12 (by kernel_rfl) rfl rfl rfl rfl ?_
                  repeat' ((conv => whnf); first | (refine V.NIf.yes ?_ ?_; · (assumption; done)) | (refine V.NIf.no ?_ ?_; · (assumption; done)) | (refine V.NIf.yes ?_ ?_; · (decide; done)) | (refine V.NIf.no ?_ ?_; · (decide; done)) | (refine V.NIf.yes ?_ ?_; · (omega; done)) | (refine V.NIf.no ?_ ?_; · (omega; done)) | refine V.NCond.mk ?_ | refine V.NPick.l ?_ | refine V.NIf.not_ ?_ | refine V.NIf.dec_ ?_ | refine V.a4 ?_ | refine V.a5 ?_ | refine V.NIf.mk (fun _ => ?_) (fun _ => ?_) | refine V.a7 ?_ | refine V.a8 ?_ | refine V.a9 ?_ | refine V.NBoth.mk ?_ ?_ | refine V.b1 ?_ | refine V.b2 ?_ | refine V.NTF.dec ?_ | refine V.b3 ?_ | refine V.b4 ?_ | ((first | refine V.Fn.k (cR) [0, 1] rfl ?_ ?_ | refine V.Fn.q (cR) [0, 1] rfl ?_ ?_ | refine V.Fn.a (cR) [0, 1] rfl ?_ ?_); · exact V.D_) | ((first | refine V.Fn.k (cW) [2, 3] rfl ?_ ?_ | refine V.Fn.q (cW) [2, 3] rfl ?_ ?_ | refine V.Fn.a (cW) [2, 3] rfl ?_ ?_); · exact V.D_) | ((first | refine V.Fn.k (cP) [4] rfl ?_ ?_ | refine V.Fn.q (cP) [4] rfl ?_ ?_ | refine V.Fn.a (cP) [4] rfl ?_ ?_); · exact V.D_) | ((first | refine V.Fn.k (cI) [0] rfl ?_ ?_ | refine V.Fn.q (cI) [0] rfl ?_ ?_ | refine V.Fn.a (cI) [0] rfl ?_ ?_); · exact V.D_) | ((first | refine V.FnR.k_ (cD) [0, 1, 2, 4] rfl ?_ ?_ | refine V.FnR.a_ (cD) [0, 1, 2, 4] rfl ?_ ?_); · exact V.D_) | ((first | refine V.FnR.k_ (cS) [9] rfl ?_ ?_ | refine V.FnR.a_ (cS) [9] rfl ?_ ?_); · exact V.D_) | ((first | refine V.FnR.k_ (cB) [3, 10] rfl ?_ ?_ | refine V.FnR.a_ (cB) [3, 10] rfl ?_ ?_); · exact V.D_) | (refine V.NDraw.any (by kernel_rfl) ?_) | fail)
                  all_goals (conv => whnf)
                  all_goals first | exact V.er000 | exact V.er001 9 | exact V.er001 10 | exact V.er001 11 | exact V.er001 12 | exact V.er001 13 | trace_state
            · rw [e6 hW hP hI hY (by omega) (by omega)]
              subst hW hP hI hY
              clear e2 e3 e4 e5 e6 e7 e8 h0
              refine V.FnR.mk_ V.Tok V.mixed Tryz.func12 rfl Tryz.ntmps12 (by kernel_rfl) rfl rfl rfl rfl ?_
              repeat' ((conv => whnf); first | (refine V.NIf.yes ?_ ?_; · (assumption; done)) | (refine V.NIf.no ?_ ?_; · (assumption; done)) | (refine V.NIf.yes ?_ ?_; · (decide; done)) | (refine V.NIf.no ?_ ?_; · (decide; done)) | (refine V.NIf.yes ?_ ?_; · (omega; done)) | (refine V.NIf.no ?_ ?_; · (omega; done)) | refine V.NCond.mk ?_ | refine V.NPick.l ?_ | refine V.NIf.not_ ?_ | refine V.NIf.dec_ ?_ | refine V.a4 ?_ | refine V.a5 ?_ | refine V.NIf.mk (fun _ => ?_) (fun _ => ?_) | refine V.a7 ?_ | refine V.a8 ?_ | refine V.a9 ?_ | refine V.NBoth.mk ?_ ?_ | refine V.b1 ?_ | refine V.b2 ?_ | refine V.NTF.dec ?_ | refine V.b3 ?_ | refine V.b4 ?_ | ((first | refine V.Fn.k (cR) [0, 1] rfl ?_ ?_ | refine V.Fn.q (cR) [0, 1] rfl ?_ ?_ | refine V.Fn.a (cR) [0, 1] rfl ?_ ?_); · exact V.D_) | ((first | refine V.Fn.k (cW) [2, 3] rfl ?_ ?_ | refine V.Fn.q (cW) [2, 3] rfl ?_ ?_ | refine V.Fn.a (cW) [2, 3] rfl ?_ ?_); · exact V.D_) | ((first | refine V.Fn.k (cP) [4] rfl ?_ ?_ | refine V.Fn.q (cP) [4] rfl ?_ ?_ | refine V.Fn.a (cP) [4] rfl ?_ ?_); · exact V.D_) | ((first | refine V.Fn.k (cI) [0] rfl ?_ ?_ | refine V.Fn.q (cI) [0] rfl ?_ ?_ | refine V.Fn.a (cI) [0] rfl ?_ ?_); · exact V.D_) | ((first | refine V.FnR.k_ (cD) [0, 1, 2, 4] rfl ?_ ?_ | refine V.FnR.a_ (cD) [0, 1, 2, 4] rfl ?_ ?_); · exact V.D_) | ((first | refine V.FnR.k_ (cS) [9] rfl ?_ ?_ | refine V.FnR.a_ (cS) [9] rfl ?_ ?_); · exact V.D_) | (refine V.NDraw.any (by kernel_rfl) ?_) | fail)
              all_goals (conv => whnf)
              all_goals first | exact V.er000 | exact V.er001 9 | exact V.er001 10 | exact V.er001 11 | exact V.er001 12 | exact V.er001 13 | trace_state
          · rw [e5 hW hP hI hY]
            subst hW hP hI
            clear e2 e3 e4 e5 e6 e7 e8 h0
            refine V.FnR.mk_ V.Tok V.mixed Tryz.func12 rfl Tryz.ntmps12 (by kernel_rfl) rfl rfl rfl rfl ?_
            repeat' ((conv => whnf); first | (refine V.NIf.yes ?_ ?_; · (assumption; done)) | (refine V.NIf.no ?_ ?_; · (assumption; done)) | (refine V.NIf.yes ?_ ?_; · (decide; done)) | (refine V.NIf.no ?_ ?_; · (decide; done)) | refine V.NCond.mk ?_ | refine V.NPick.l ?_ | refine V.NIf.not_ ?_ | refine V.NIf.dec_ ?_ | refine V.a4 ?_ | refine V.a5 ?_ | refine V.NIf.mk (fun _ => ?_) (fun _ => ?_) | refine V.a7 ?_ | refine V.a8 ?_ | refine V.a9 ?_ | refine V.NBoth.mk ?_ ?_ | refine V.b1 ?_ | refine V.b2 ?_ | refine V.NTF.dec ?_ | refine V.b3 ?_ | refine V.b4 ?_ | ((first | refine V.Fn.k (cR) [0, 1] rfl ?_ ?_ | refine V.Fn.q (cR) [0, 1] rfl ?_ ?_ | refine V.Fn.a (cR) [0, 1] rfl ?_ ?_); · exact V.D_) | ((first | refine V.Fn.k (cW) [2, 3] rfl ?_ ?_ | refine V.Fn.q (cW) [2, 3] rfl ?_ ?_ | refine V.Fn.a (cW) [2, 3] rfl ?_ ?_); · exact V.D_) | ((first | refine V.Fn.k (cP) [4] rfl ?_ ?_ | refine V.Fn.q (cP) [4] rfl ?_ ?_ | refine V.Fn.a (cP) [4] rfl ?_ ?_); · exact V.D_) | ((first | refine V.Fn.k (cI) [0] rfl ?_ ?_ | refine V.Fn.q (cI) [0] rfl ?_ ?_ | refine V.Fn.a (cI) [0] rfl ?_ ?_); · exact V.D_) | ((first | refine V.FnR.k_ (cD) [0, 1, 2, 4] rfl ?_ ?_ | refine V.FnR.a_ (cD) [0, 1, 2, 4] rfl ?_ ?_); · exact V.D_) | (refine V.NDraw.any (by kernel_rfl) ?_) | fail)
            all_goals (conv => whnf)
            all_goals first | exact V.er000 | exact V.er001 9 | exact V.er001 10 | exact V.er001 11 | exact V.er001 12 | exact V.er001 13 | trace_state
        · rw [e4 hW hP hI]
          subst hW hP
          clear e2 e3 e4 e5 e6 e7 e8 h0
          refine V.FnR.mk_ V.Tok V.mixed Tryz.func12 rfl Tryz.ntmps12 (by kernel_rfl) rfl rfl rfl rfl ?_
          repeat' ((conv => whnf); first | (refine V.NIf.yes ?_ ?_; · (assumption; done)) | (refine V.NIf.no ?_ ?_; · (assumption; done)) | (refine V.NIf.yes ?_ ?_; · (decide; done)) | (refine V.NIf.no ?_ ?_; · (decide; done)) | refine V.NCond.mk ?_ | refine V.NPick.l ?_ | refine V.NIf.not_ ?_ | refine V.NIf.dec_ ?_ | refine V.a4 ?_ | refine V.a5 ?_ | refine V.NIf.mk (fun _ => ?_) (fun _ => ?_) | refine V.a7 ?_ | refine V.a8 ?_ | refine V.a9 ?_ | refine V.NBoth.mk ?_ ?_ | refine V.b1 ?_ | refine V.b2 ?_ | refine V.NTF.dec ?_ | refine V.b3 ?_ | refine V.b4 ?_ | ((first | refine V.Fn.k (cR) [0, 1] rfl ?_ ?_ | refine V.Fn.q (cR) [0, 1] rfl ?_ ?_ | refine V.Fn.a (cR) [0, 1] rfl ?_ ?_); · exact V.D_) | ((first | refine V.Fn.k (cW) [2, 3] rfl ?_ ?_ | refine V.Fn.q (cW) [2, 3] rfl ?_ ?_ | refine V.Fn.a (cW) [2, 3] rfl ?_ ?_); · exact V.D_) | ((first | refine V.Fn.k (cP) [4] rfl ?_ ?_ | refine V.Fn.q (cP) [4] rfl ?_ ?_ | refine V.Fn.a (cP) [4] rfl ?_ ?_); · exact V.D_) | ((first | refine V.Fn.k (cI) [0] rfl ?_ ?_ | refine V.Fn.q (cI) [0] rfl ?_ ?_ | refine V.Fn.a (cI) [0] rfl ?_ ?_); · exact V.D_) | (refine V.NDraw.any (by kernel_rfl) ?_) | fail)
          all_goals (conv => whnf)
          all_goals first | exact V.er000 | exact V.er001 9 | exact V.er001 10 | exact V.er001 11 | exact V.er001 12 | exact V.er001 13 | trace_state
      · rw [e3 hW hP]
        subst hW
        clear e2 e3 e4 e5 e6 e7 e8 h0
        refine V.FnR.mk_ V.Tok V.mixed Tryz.func12 rfl Tryz.ntmps12 (by kernel_rfl) rfl rfl rfl rfl ?_
        repeat' ((conv => whnf); first | (refine V.NIf.yes ?_ ?_; · (assumption; done)) | (refine V.NIf.no ?_ ?_; · (assumption; done)) | (refine V.NIf.yes ?_ ?_; · (decide; done)) | (refine V.NIf.no ?_ ?_; · (decide; done)) | refine V.NCond.mk ?_ | refine V.NPick.l ?_ | refine V.NIf.not_ ?_ | refine V.NIf.dec_ ?_ | refine V.a4 ?_ | refine V.a5 ?_ | refine V.NIf.mk (fun _ => ?_) (fun _ => ?_) | refine V.a7 ?_ | refine V.a8 ?_ | refine V.a9 ?_ | refine V.NBoth.mk ?_ ?_ | refine V.b1 ?_ | refine V.b2 ?_ | refine V.NTF.dec ?_ | refine V.b3 ?_ | refine V.b4 ?_ | ((first | refine V.Fn.k (cR) [0, 1] rfl ?_ ?_ | refine V.Fn.q (cR) [0, 1] rfl ?_ ?_ | refine V.Fn.a (cR) [0, 1] rfl ?_ ?_); · exact V.D_) | ((first | refine V.Fn.k (cW) [2, 3] rfl ?_ ?_ | refine V.Fn.q (cW) [2, 3] rfl ?_ ?_ | refine V.Fn.a (cW) [2, 3] rfl ?_ ?_); · exact V.D_) | ((first | refine V.Fn.k (cP) [4] rfl ?_ ?_ | refine V.Fn.q (cP) [4] rfl ?_ ?_ | refine V.Fn.a (cP) [4] rfl ?_ ?_); · exact V.D_) | (refine V.NDraw.any (by kernel_rfl) ?_) | fail)
        all_goals (conv => whnf)
        all_goals first | exact V.er000 | exact V.er001 9 | exact V.er001 10 | exact V.er001 11 | exact V.er001 12 | exact V.er001 13 | trace_state
    · rw [e2 hW]
      clear e2 e3 e4 e5 e6 e7 e8 h0
      refine V.FnR.mk_ V.Tok V.mixed Tryz.func12 rfl Tryz.ntmps12 (by kernel_rfl) rfl rfl rfl rfl ?_
      repeat' ((conv => whnf); first | (refine V.NIf.yes ?_ ?_; · (assumption; done)) | (refine V.NIf.no ?_ ?_; · (assumption; done)) | (refine V.NIf.yes ?_ ?_; · (decide; done)) | (refine V.NIf.no ?_ ?_; · (decide; done)) | refine V.NCond.mk ?_ | refine V.NPick.l ?_ | refine V.NIf.not_ ?_ | refine V.NIf.dec_ ?_ | refine V.a4 ?_ | refine V.a5 ?_ | refine V.NIf.mk (fun _ => ?_) (fun _ => ?_) | refine V.a7 ?_ | refine V.a8 ?_ | refine V.a9 ?_ | refine V.NBoth.mk ?_ ?_ | refine V.b1 ?_ | refine V.b2 ?_ | refine V.NTF.dec ?_ | refine V.b3 ?_ | refine V.b4 ?_ | ((first | refine V.Fn.k (cR) [0, 1] rfl ?_ ?_ | refine V.Fn.q (cR) [0, 1] rfl ?_ ?_ | refine V.Fn.a (cR) [0, 1] rfl ?_ ?_); · exact V.D_) | ((first | refine V.Fn.k (cW) [2, 3] rfl ?_ ?_ | refine V.Fn.q (cW) [2, 3] rfl ?_ ?_ | refine V.Fn.a (cW) [2, 3] rfl ?_ ?_); · exact V.D_) | (refine V.NDraw.any (by kernel_rfl) ?_) | fail)
      all_goals (conv => whnf)
      all_goals first | exact V.er000 | exact V.er001 9 | exact V.er001 10 | exact V.er001 11 | exact V.er001 12 | exact V.er001 13 | trace_state
  · rw [e1 hr]
    clear e1 e2 e3 e4 e5 e6 e7 e8 h0
    generalize Cy.rE c t x = RE at *
    refine V.FnR.mk_ V.Tok V.mixed Tryz.func12 rfl Tryz.ntmps12 (by kernel_rfl) rfl rfl rfl rfl ?_
    repeat' ((conv => whnf); first | (refine V.NIf.yes ?_ ?_; · (assumption; done)) | (refine V.NIf.no ?_ ?_; · (assumption; done)) | (refine V.NIf.yes ?_ ?_; · (decide; done)) | (refine V.NIf.no ?_ ?_; · (decide; done)) | refine V.NCond.mk ?_ | refine V.NPick.l ?_ | refine V.NIf.not_ ?_ | refine V.NIf.dec_ ?_ | refine V.a4 ?_ | refine V.a5 ?_ | refine V.NIf.mk (fun _ => ?_) (fun _ => ?_) | refine V.a7 ?_ | refine V.a8 ?_ | refine V.a9 ?_ | refine V.NBoth.mk ?_ ?_ | refine V.b1 ?_ | refine V.b2 ?_ | refine V.NTF.dec ?_ | refine V.b3 ?_ | refine V.b4 ?_ | ((first | refine V.Fn.k (cR) [0, 1] rfl ?_ ?_ | refine V.Fn.q (cR) [0, 1] rfl ?_ ?_ | refine V.Fn.a (cR) [0, 1] rfl ?_ ?_); · exact V.D_) | (refine V.NDraw.any (by kernel_rfl) ?_) | fail)
    all_goals (conv => whnf)
    all_goals first | exact V.er000 | exact V.er001 9 | exact V.er001 10 | exact V.er001 11 | exact V.er001 12 | exact V.er001 13 | trace_state
end Go.Proofs.YtpanlcnoopmchaaGreat

namespace Go.Proofs.YtpanlcnoopmchaaGreat
open Go Go.RowKit V
set_option maxHeartbeats 8000000 in
theorem v_rNight_b (c : Cl) (t : List Tm) (x : Int) (w : Wd) (pr : List Int) (hc : c.hs.length ≤ 9223372036854775807) (ht : t.length ≤ 9223372036854775807) (hb : w.bk.length ≤ 9223372036854775807) (hp : pr.length ≤ 9223372036854775807)
    (h0 : (Cy.s0 c t x w pr).e = 0) (hS : ¬ (Pn.suL (Cy.du c t w pr)).length = 0) :
    V.FnR Tryz.prog 12 (nightO c t w pr) [ruV c x, .agg [.val (.int .i64 w.td), .ref 2, .ref 3], .one (.ref 4)] (.tup [.agg [.val (.int .i64 (Cy.nW c t x w pr).td), .ref 5, .ref 6], .one (.ref 7), .one (.val (.int .i64 (Cy.nE c t x w pr)))]) [.row 42 10 (Cy.nW c t x w pr).fs.length (ga encF (Cy.nW c t x w pr).fs), .row 65 3 (Cy.nW c t x w pr).bk.length (ga encP (Cy.nW c t x w pr).bk), .row 65 3 (Cy.nP c t x w pr).length (ga encP (Cy.nP c t x w pr))] := by
  obtain ⟨b0, p0, s0⟩ := Cy.s0_ok h0
  obtain ⟨r0, w0, k0, o0, y0⟩ := Cy.nB_ok b0
  obtain ⟨n60, n400⟩ := Cy.wE_len w0
  have kc := (Cy.rE_ok r0).1
  have cR := v_rRules c t x hc ht
  rw [r0] at cR
  have cW := v_rWcheck w hb
  rw [w0] at cW
  have cP := v_rprices pr hp
  rw [k0] at cP
  have cI := v_business c w.td (Ca.chk_ok kc)
  rw [biz_is kc] at cI
  obtain ⟨i0, _, q5, hbl, hou, hbk, hps⟩ := Cy.night_ok h0
  obtain ⟨e5, pE0⟩ := q5 hS
  rw [i0] at cI
  have cD := v_rday c t w.fs pr w.td hc ht hp
  rw [y0, show Pn.yL c t w.fs pr w.td = Cy.du c t w pr from rfl] at cD
  have cS := v_rpsum (Cy.du c t w pr) (by have := Pn.yL_len c t w.fs pr w.td; unfold Cy.du; omega)
  rw [e5] at cS
  have sl : (Pn.suL (Cy.du c t w pr)).length ≤ 31 := by
    unfold Pn.suL
    split
    all_goals first | exact Pn.pos_len _ _ | exact Nat.zero_le _
  have cB := v_rPost w.bk (Pn.suL (Cy.du c t w pr)) hb (by omega)
  rw [pE0] at cB
  obtain ⟨ht6, htw⟩ := Pn.tE_ok (Cy.rE_ok r0).2.1
  obtain ⟨hp20, _⟩ := P.chks_ok k0
  obtain ⟨hd0, hx, _⟩ := Cy.wE_ok w0
  have hday : Ca.Day w.td := by rcases Ca.dchk w.td with q | q; exact q.2; omega
  have ok := Pn.all_ok hx
  obtain ⟨_, ef, _⟩ := Pn.y_ok y0
  have st0 := Cy.RJ.start (c := c) (t := t) (x := x) (pr := pr) (td := w.td) (fs := w.fs) hbl hou h0
  have res1 := fun z => @Cy.n_err c t x w pr z
  have res2 := fun z z' => @Cy.n_end c t x w pr z z'
  have res3 := fun z z' => @Cy.n_yes c t x w pr z z'
  rw [show Cy.s1 c t x w pr = Cy.run c t x pr w.td (Cy.s0 c t x w pr) w.fs from rfl] at res1 res2 res3
  have hbk1 : (Cy.s0 c t x w pr).bk = Bk.pL w.bk (Pn.suL (Cy.du c t w pr)) := hbk.trans (if_neg hS)
  rw [hbk1, hps] at st0
  have hsp : (Cy.s0 c t x w pr).ps.length ≤ 31 := by rw [hps]; exact sl
  have cT := v_rcaStep c w.td 1 (Ca.chk_ok kc) hday (by omega)
  have cTs := Cy.stp_1 kc hday
  clear b0 p0 s0 r0 w0 k0 o0 y0 h0 q5 i0 e5 pE0 hbl hou hbk hps hbk1 hd0 hday
  generalize Cy.s0 c t x w pr = S0 at *
  generalize Pn.suL (Cy.du c t w pr) = S at *
  generalize Cy.du c t w pr = D at *
  generalize Bk.pL w.bk S = B1 at *
  generalize Ca.stp c w.td 1 = TT at *
  generalize Cy.nE c t x w pr = NE at *
  generalize Cy.nW c t x w pr = NW at *
  generalize Cy.nP c t x w pr = NP at *
  refine V.FnR.mk_ V.Tok V.mixed Tryz.func12 rfl Tryz.ntmps12 (by kernel_rfl) rfl rfl rfl rfl ?_
  repeat' ((conv => whnf); first | (refine V.NIf.yes ?_ ?_; · (decide; done)) | (refine V.NIf.no ?_ ?_; · (decide; done)) | (refine V.NIf.yes ?_ ?_; · (omega; done)) | (refine V.NIf.no ?_ ?_; · (omega; done)) | refine V.NCond.mk ?_ | refine V.NPick.l ?_ | refine V.NIf.not_ ?_ | refine V.NIf.dec_ ?_ | refine V.a4 ?_ | refine V.a5 ?_ | refine V.NIf.mk (fun _ => ?_) (fun _ => ?_) | refine V.a7 ?_ | refine V.a8 ?_ | refine V.a9 ?_ | refine V.NBoth.mk ?_ ?_ | refine V.b1 ?_ | refine V.b2 ?_ | refine V.NTF.dec ?_ | refine V.b3 ?_ | refine V.b4 ?_ | ((first | refine V.Fn.k (cR) [0, 1] rfl ?_ ?_ | refine V.Fn.q (cR) [0, 1] rfl ?_ ?_ | refine V.Fn.a (cR) [0, 1] rfl ?_ ?_); · exact V.D_) | ((first | refine V.Fn.k (cW) [2, 3] rfl ?_ ?_ | refine V.Fn.q (cW) [2, 3] rfl ?_ ?_ | refine V.Fn.a (cW) [2, 3] rfl ?_ ?_); · exact V.D_) | ((first | refine V.Fn.k (cP) [4] rfl ?_ ?_ | refine V.Fn.q (cP) [4] rfl ?_ ?_ | refine V.Fn.a (cP) [4] rfl ?_ ?_); · exact V.D_) | ((first | refine V.Fn.k (cI) [0] rfl ?_ ?_ | refine V.Fn.q (cI) [0] rfl ?_ ?_ | refine V.Fn.a (cI) [0] rfl ?_ ?_); · exact V.D_) | ((first | refine V.FnR.k_ (cD) [0, 1, 2, 4] rfl ?_ ?_ | refine V.FnR.a_ (cD) [0, 1, 2, 4] rfl ?_ ?_); · exact V.D_) | ((first | refine V.FnR.k_ (cS) [9] rfl ?_ ?_ | refine V.FnR.a_ (cS) [9] rfl ?_ ?_); · exact V.D_) | ((first | refine V.FnR.k_ (cB) [3, 10] rfl ?_ ?_ | refine V.FnR.a_ (cB) [3, 10] rfl ?_ ?_); · exact V.D_) | (refine NOne.mk ?_ ?_; · (intro k hk; rfl)) | (refine NApp.all_ (by first | omega | (simp; omega)) (by omega) ?_) | (refine V.NDraw.any (by kernel_rfl) ?_) | fail)
  all_goals (conv => whnf)
  clear cR cW cP cI cD cS cB
  refine V.NLoop.auto (fun (s : Nat × List Fl × List Po × List Po) => [(15, .one (.val (.int .i64 s.1))), (14, .one (.ref 14)), (12, .one (.ref 12)), (13, .one (.ref 13))]) (fun (s : Nat × List Fl × List Po × List Po) => [(14, .row 42 10 s.2.1.length (ga encF s.2.1)), (12, .row 65 3 s.2.2.1.length (ga encP s.2.2.1)), (13, .row 65 3 s.2.2.2.length (ga encP s.2.2.2))]) [] [] (fun (s : Nat × List Fl × List Po × List Po) => w.fs.length - s.1) (fun (s : Nat × List Fl × List Po × List Po) => Cy.RJ c t x pr w.td S0 w.fs s.1 s.2.1 s.2.2.1 s.2.2.2) (0, [], B1, S) st0 V.S_ V.S_ (fun _ => ⟨rfl, rfl⟩) ?_; (conv => whnf); refine ⟨⟨rfl, rfl⟩, ?_⟩
  rintro s hs
  generalize s.1 = k at *
  generalize s.2.1 = X at *
  generalize s.2.2.1 = b at *
  generalize s.2.2.2 = p at *
  have kl := hs.le
  by_cases hlt : k < w.fs.length
  · have o : F.Ok (w.fs.getD k default) := ok _ (getD_mem hlt)
    obtain ⟨⟨_, _, _, hcl, hpa, _⟩, _⟩ := id o
    have sE : Ag.sE c (Pn.cl t (w.fs.getD k default)) (w.fs.getD k default) w.td = 0 := ef _ (getD_mem hlt)
    have cst := v_ragStage c (Pn.cl t (w.fs.getD k default)) (w.fs.getD k default) w.td sE
    have n1 := hs.s1 hlt
    have n2 := hs.s2 hlt
    have n3 := hs.s3 hlt
    have n4 := hs.s4 hlt
    have n5 := hs.s5 hlt
    have bl := hs.bl
    have pl := hs.pl
    have ol := hs.ol
    rw [show P.pr pr (w.fs.getD k default).pa = pr.getD ((w.fs.getD k default).pa - 1).toNat default from rfl] at n2 n3 n4 n5
    have l2 := Cy.pL_len (w.fs.getD k default) (pr.getD ((w.fs.getD k default).pa - 1).toNat default) x
    have cpy := v_rcpPay (w.fs.getD k default) (pr.getD ((w.fs.getD k default).pa - 1).toNat default) x
    have cbp := v_rPost b (Cp.pL (w.fs.getD k default) (pr.getD ((w.fs.getD k default).pa - 1).toNat default) x) (by omega) (by omega)
    clear hs res2 res3 cT cTs st0 sE ef ok o
    generalize Ag.stg c (Pn.cl t (w.fs.getD k default)) (w.fs.getD k default) w.td = G at *
    generalize Bk.pE b (Cp.pL (w.fs.getD k default) (pr.getD ((w.fs.getD k default).pa - 1).toNat default) x) = BE at *
    generalize Bk.pL b (Cp.pL (w.fs.getD k default) (pr.getD ((w.fs.getD k default).pa - 1).toNat default) x) = BL at *
    generalize Cp.pE (w.fs.getD k default) (pr.getD ((w.fs.getD k default).pa - 1).toNat default) x = PE at *
    generalize Cp.pL (w.fs.getD k default) (pr.getD ((w.fs.getD k default).pa - 1).toNat default) x = PL at *
    generalize hPF : Cp.pF (w.fs.getD k default) (pr.getD ((w.fs.getD k default).pa - 1).toNat default) x = PF at *
    clear hPF
    repeat' ((conv => whnf); first | (refine V.NIf.yes ?_ ?_; · (decide; done)) | (refine V.NIf.no ?_ ?_; · (decide; done)) | refine V.NCond.mk ?_ | refine V.NPick.l ?_ | refine V.NIf.not_ ?_ | refine V.NIf.dec_ ?_ | refine V.a4 ?_ | refine V.a5 ?_ | refine V.NIf.mk (fun _ => ?_) (fun _ => ?_) | refine V.a7 ?_ | refine V.a8 ?_ | refine V.a9 ?_ | refine V.NBoth.mk ?_ ?_ | refine V.b1 ?_ | refine V.b2 ?_ | refine V.NTF.dec ?_ | refine V.b3 ?_ | refine V.b4 ?_ | (refine NIdx.mk ⟨k, rfl, by omega, ?_⟩) | (refine NIdx.mk ⟨(w.fs.getD k default).cl.toNat, by omega, by omega, ?_⟩) | (refine NIdx.mk ⟨((w.fs.getD k default).pa - 1).toNat, by omega, by omega, ?_⟩) | ((first | refine V.Fn.k (cst) [0] rfl ?_ ?_ | refine V.Fn.q (cst) [0] rfl ?_ ?_ | refine V.Fn.a (cst) [0] rfl ?_ ?_); · exact V.D_) | ((first | refine V.FnR.k_ (cpy) [] rfl ?_ ?_ | refine V.FnR.a_ (cpy) [] rfl ?_ ?_); · exact V.D_) | ((first | refine V.FnR.k_ (cbp) [12, 16] rfl ?_ ?_ | refine V.FnR.a_ (cbp) [12, 16] rfl ?_ ?_); · exact V.D_) | ((first | refine V.FnR.k_ (cbp) [12, 17] rfl ?_ ?_ | refine V.FnR.a_ (cbp) [12, 17] rfl ?_ ?_); · exact V.D_) | (refine NOne.mk ?_ ?_; · (intro k hk; rfl)) | (refine NApp.list (by first | omega | (simp; omega)) (by omega) ?_) | (refine V.NDraw.any (by kernel_rfl) ?_) | fail)
    all_goals (conv => whnf)
    all_goals first
      | exact V.NBack.at_ (k + 1, X ++ [w.fs.getD k default], b, p) [(14, 17)] (n1 (by assumption)) (by dsimp only; omega) V.S_ rfl ⟨ObLe.as_ rfl, ObLe.as_ rfl, ObLe.as_ rfl, trivial⟩ V.S_ V.S_
      | exact V.NBack.at_ (k + 1, X ++ [PF], BL, p ++ PL) [(14, 21), (12, 18), (13, 19)] (n5 (by assumption) (by omega) (by omega) (by omega)) (by dsimp only; omega) V.S_ rfl ⟨ObLe.as_ rfl, ObLe.as_ rfl, ObLe.as_ rfl, trivial⟩ V.S_ V.S_
      | (have z : PL.length = 0 := by omega
         have z' := List.length_eq_zero_iff.1 z
         exact V.NBack.at_ (k + 1, X ++ [PF], b, p) [(14, 20), (13, 18)] (n3 (by assumption) (by omega) z) (by dsimp only; omega) V.S_ rfl ⟨ObLe.as_ rfl, ObLe.as_ rfl, ObLe.as_ (by rw [z', List.append_nil]), trivial⟩ V.S_ V.S_)
      | (have q := n2 (by assumption) (by assumption)
         obtain ⟨r1, r2, r3⟩ := res1 (by rw [q]; assumption)
         rw [r1, r2, r3, q]
         first | exact V.er001 17 | exact V.er001 18 | exact V.er001 19 | exact V.er001 20 | exact V.er001 16 | exact V.er001 15 | exact V.er001 21 | exact V.er001 22 | trace_state)
      | (have q := n4 (by assumption) (by omega) (by omega) (by assumption)
         obtain ⟨r1, r2, r3⟩ := res1 (by rw [q]; assumption)
         rw [r1, r2, r3, q]
         first | exact V.er001 17 | exact V.er001 18 | exact V.er001 19 | exact V.er001 20 | exact V.er001 16 | exact V.er001 15 | exact V.er001 21 | exact V.er001 22 | trace_state)
      | trace_state
  · obtain rfl : k = w.fs.length := by omega
    have f3 := hs.fin
    have f1 : (Cy.run c t x pr w.td S0 w.fs).e = 0 := by rw [f3]
    clear res1
    rcases cTs with ⟨q1, q2, q3⟩ | ⟨q1, q2⟩
    · obtain ⟨r1, r2, r3⟩ := res3 f1 q1
      rw [f3, q3] at r2
      rw [f3] at r3
      rw [r1, r2, r3]
      repeat' ((conv => whnf); first | (refine V.NIf.yes ?_ ?_; · (omega; done)) | (refine V.NIf.no ?_ ?_; · (omega; done)) | refine V.NCond.mk ?_ | refine V.NPick.l ?_ | refine V.NIf.not_ ?_ | refine V.NIf.dec_ ?_ | refine V.a4 ?_ | refine V.a5 ?_ | refine V.NIf.mk (fun _ => ?_) (fun _ => ?_) | refine V.a7 ?_ | refine V.a8 ?_ | refine V.a9 ?_ | refine V.NBoth.mk ?_ ?_ | refine V.b1 ?_ | refine V.b2 ?_ | refine V.NTF.dec ?_ | refine V.b3 ?_ | refine V.b4 ?_ | ((first | refine V.Fn.k (cT) [0] rfl ?_ ?_ | refine V.Fn.q (cT) [0] rfl ?_ ?_ | refine V.Fn.a (cT) [0] rfl ?_ ?_); · exact V.D_) | (refine V.NDraw.any (by kernel_rfl) ?_) | fail)
      all_goals (conv => whnf)
      all_goals first
        | exact V.er3 14 12 13
        | trace_state
    · obtain ⟨r1, r2, r3⟩ := res2 f1 (by rw [q1]; decide)
      rw [r1, r2, r3, q1]
      repeat' ((conv => whnf); first | (refine V.NIf.yes ?_ ?_; · (omega; done)) | (refine V.NIf.no ?_ ?_; · (omega; done)) | refine V.NCond.mk ?_ | refine V.NPick.l ?_ | refine V.NIf.not_ ?_ | refine V.NIf.dec_ ?_ | refine V.a4 ?_ | refine V.a5 ?_ | refine V.NIf.mk (fun _ => ?_) (fun _ => ?_) | refine V.a7 ?_ | refine V.a8 ?_ | refine V.a9 ?_ | refine V.NBoth.mk ?_ ?_ | refine V.b1 ?_ | refine V.b2 ?_ | refine V.NTF.dec ?_ | refine V.b3 ?_ | refine V.b4 ?_ | ((first | refine V.Fn.k (cT) [0] rfl ?_ ?_ | refine V.Fn.q (cT) [0] rfl ?_ ?_ | refine V.Fn.a (cT) [0] rfl ?_ ?_); · exact V.D_) | (refine V.NDraw.any (by kernel_rfl) ?_) | fail)
      all_goals (conv => whnf)
      all_goals first | exact V.er001 17 | exact V.er001 18 | exact V.er001 19 | exact V.er001 20 | exact V.er001 16 | exact V.er001 15 | exact V.er001 21 | exact V.er001 22 | trace_state
end Go.Proofs.YtpanlcnoopmchaaGreat

namespace Go.Proofs.YtpanlcnoopmchaaGreat
open Go Go.RowKit V
def bkS (o : Option (List Po)) : SV := match o with
  | none => .one (.ref 3)
  | some _ => .one (.ref 9)
def bkO (o : Option (List Po)) : Obs := match o with
  | none => []
  | some b => [(9, .row 65 3 b.length (ga encP b))]
set_option maxHeartbeats 8000000 in
theorem v_rNight_a1 (c : Cl) (t : List Tm) (x : Int) (w : Wd) (pr : List Int) (hc : c.hs.length ≤ 9223372036854775807) (ht : t.length ≤ 9223372036854775807) (hb : w.bk.length ≤ 9223372036854775807) (hp : pr.length ≤ 9223372036854775807)
    (h0 : (Cy.s0 c t x w pr).e = 0) (hS : (Pn.suL (Cy.du c t w pr)).length = 0) (hN : ¬ (Cy.nE c t x w pr = 0 ∧ Cy.nP c t x w pr = [])) :
    V.FnR Tryz.prog 12 (nightO c t w pr) [ruV c x, .agg [.val (.int .i64 w.td), .ref 2, .ref 3], .one (.ref 4)] (.tup [.agg [.val (.int .i64 (Cy.nW c t x w pr).td), .ref 5, .ref 6], .one (.ref 7), .one (.val (.int .i64 (Cy.nE c t x w pr)))]) [.row 42 10 (Cy.nW c t x w pr).fs.length (ga encF (Cy.nW c t x w pr).fs), .row 65 3 (Cy.nW c t x w pr).bk.length (ga encP (Cy.nW c t x w pr).bk), .row 65 3 (Cy.nP c t x w pr).length (ga encP (Cy.nP c t x w pr))] := by
  obtain ⟨b0, p0, s0⟩ := Cy.s0_ok h0
  obtain ⟨r0, w0, k0, o0, y0⟩ := Cy.nB_ok b0
  obtain ⟨n60, n400⟩ := Cy.wE_len w0
  have kc := (Cy.rE_ok r0).1
  have cR := v_rRules c t x hc ht
  rw [r0] at cR
  have cW := v_rWcheck w hb
  rw [w0] at cW
  have cP := v_rprices pr hp
  rw [k0] at cP
  have cI := v_business c w.td (Ca.chk_ok kc)
  rw [biz_is kc] at cI
  obtain ⟨i0, q5, _, hbl, hou, hbk, hps⟩ := Cy.night_ok h0
  rw [i0] at cI
  have cD := v_rday c t w.fs pr w.td hc ht hp
  rw [y0, show Pn.yL c t w.fs pr w.td = Cy.du c t w pr from rfl] at cD
  have cS := v_rpsum (Cy.du c t w pr) (by have := Pn.yL_len c t w.fs pr w.td; unfold Cy.du; omega)
  have sl : (Pn.suL (Cy.du c t w pr)).length ≤ 31 := by
    unfold Pn.suL
    split
    all_goals first | exact Pn.pos_len _ _ | exact Nat.zero_le _
  have q5 : Pn.suE (Cy.du c t w pr) = 5 := by
    rcases q5 hS with z | z
    · exact z
    · obtain ⟨_, a, b⟩ := Pn.su_ok z
      rw [b] at hS
      exact absurd hS a
  obtain ⟨ht6, htw⟩ := Pn.tE_ok (Cy.rE_ok r0).2.1
  obtain ⟨hp20, _⟩ := P.chks_ok k0
  obtain ⟨hd0, hx, _⟩ := Cy.wE_ok w0
  have hday : Ca.Day w.td := by rcases Ca.dchk w.td with q | q; exact q.2; omega
  have ok := Pn.all_ok hx
  obtain ⟨_, ef, _⟩ := Pn.y_ok y0
  have st0 := Cy.RJ.start (c := c) (t := t) (x := x) (pr := pr) (td := w.td) (fs := w.fs) hbl hou h0
  have res1 := fun z => @Cy.n_err c t x w pr z
  have res2 := fun z z' => @Cy.n_end c t x w pr z z'
  have res3 := fun z z' => @Cy.n_yes c t x w pr z z'
  rw [show Cy.s1 c t x w pr = Cy.run c t x pr w.td (Cy.s0 c t x w pr) w.fs from rfl] at res1 res2 res3
  have hbk1 : (Cy.s0 c t x w pr).bk = w.bk := hbk.trans (if_pos hS)
  have hS0 : Pn.suL (Cy.du c t w pr) = [] := List.length_eq_zero_iff.1 hS
  rw [hbk1, hps, hS0] at st0
  rw [hS0, q5] at cS
  have hsp : (Cy.s0 c t x w pr).ps.length ≤ 31 := by rw [hps]; exact sl
  have cT := v_rcaStep c w.td 1 (Ca.chk_ok kc) hday (by omega)
  have cTs := Cy.stp_1 kc hday
  clear b0 p0 s0 r0 w0 k0 o0 y0 h0 q5 i0 hbl hou hbk hps hbk1 hd0 hday hS0 hS sl
  generalize Cy.s0 c t x w pr = S0 at *
  generalize Cy.du c t w pr = D at *
  generalize Ca.stp c w.td 1 = TT at *
  generalize Cy.nE c t x w pr = NE at *
  generalize Cy.nW c t x w pr = NW at *
  generalize Cy.nP c t x w pr = NP at *
  refine V.FnR.mk_ V.Tok V.mixed Tryz.func12 rfl Tryz.ntmps12 (by kernel_rfl) rfl rfl rfl rfl ?_
  repeat' ((conv => whnf); first | (refine V.NIf.yes ?_ ?_; · (decide; done)) | (refine V.NIf.no ?_ ?_; · (decide; done)) | (refine V.NIf.yes ?_ ?_; · (omega; done)) | (refine V.NIf.no ?_ ?_; · (omega; done)) | refine V.NCond.mk ?_ | refine V.NPick.l ?_ | refine V.NIf.not_ ?_ | refine V.NIf.dec_ ?_ | refine V.a4 ?_ | refine V.a5 ?_ | refine V.NIf.mk (fun _ => ?_) (fun _ => ?_) | refine V.a7 ?_ | refine V.a8 ?_ | refine V.a9 ?_ | refine V.NBoth.mk ?_ ?_ | refine V.b1 ?_ | refine V.b2 ?_ | refine V.NTF.dec ?_ | refine V.b3 ?_ | refine V.b4 ?_ | ((first | refine V.Fn.k (cR) [0, 1] rfl ?_ ?_ | refine V.Fn.q (cR) [0, 1] rfl ?_ ?_ | refine V.Fn.a (cR) [0, 1] rfl ?_ ?_); · exact V.D_) | ((first | refine V.Fn.k (cW) [2, 3] rfl ?_ ?_ | refine V.Fn.q (cW) [2, 3] rfl ?_ ?_ | refine V.Fn.a (cW) [2, 3] rfl ?_ ?_); · exact V.D_) | ((first | refine V.Fn.k (cP) [4] rfl ?_ ?_ | refine V.Fn.q (cP) [4] rfl ?_ ?_ | refine V.Fn.a (cP) [4] rfl ?_ ?_); · exact V.D_) | ((first | refine V.Fn.k (cI) [0] rfl ?_ ?_ | refine V.Fn.q (cI) [0] rfl ?_ ?_ | refine V.Fn.a (cI) [0] rfl ?_ ?_); · exact V.D_) | ((first | refine V.FnR.k_ (cD) [0, 1, 2, 4] rfl ?_ ?_ | refine V.FnR.a_ (cD) [0, 1, 2, 4] rfl ?_ ?_); · exact V.D_) | ((first | refine V.FnR.k_ (cS) [9] rfl ?_ ?_ | refine V.FnR.a_ (cS) [9] rfl ?_ ?_); · exact V.D_) | (refine V.NDraw.any (by kernel_rfl) ?_) | fail)
  all_goals (conv => whnf)
  clear cR cW cP cI cD cS
  all_goals refine V.NLoop.auto (fun (s : Nat × List Fl × Option (List Po) × List Po) => [(15, .one (.val (.int .i64 s.1))), (14, .one (.ref 12)), (12, bkS s.2.2.1), (13, .one (.ref 11))]) (fun (s : Nat × List Fl × Option (List Po) × List Po) => [(12, .row 42 10 s.2.1.length (ga encF s.2.1)), (11, .row 65 3 s.2.2.2.length (ga encP s.2.2.2))] ++ bkO s.2.2.1) [10, 56, 63] [9] (fun s => w.fs.length - s.1) (fun s => Cy.RJ c t x pr w.td S0 w.fs s.1 s.2.1 (s.2.2.1.getD w.bk) s.2.2.2 ∧ (s.2.2.1 = none ↔ s.2.2.2 = [])) (0, [], none, []) ⟨st0, by simp⟩ V.S_ V.S_ (fun s => by obtain ⟨_, _, o, _⟩ := s; cases o <;> exact ⟨rfl, rfl⟩) ?_; (conv => whnf); refine ⟨⟨rfl, rfl⟩, ?_⟩
  rintro s hs
  generalize s.1 = k at *
  generalize s.2.1 = X at *
  generalize s.2.2.1 = o at *
  generalize s.2.2.2 = p at *
  obtain ⟨hs, hop⟩ := hs
  have kl := hs.le
  cases o with
  | none =>
    have hne : p = [] := hop.1 rfl
    rw [show (none : Option (List Po)).getD w.bk = w.bk from rfl] at hs
    subst hne
    by_cases hlt : k < w.fs.length
    · have o : F.Ok (w.fs.getD k default) := ok _ (getD_mem hlt)
      obtain ⟨⟨_, _, _, hcl, hpa, _⟩, _⟩ := id o
      have sE : Ag.sE c (Pn.cl t (w.fs.getD k default)) (w.fs.getD k default) w.td = 0 := ef _ (getD_mem hlt)
      have cst := v_ragStage c (Pn.cl t (w.fs.getD k default)) (w.fs.getD k default) w.td sE
      have n1 := hs.s1 hlt
      have n2 := hs.s2 hlt
      have n3 := hs.s3 hlt
      have n4 := hs.s4 hlt
      have n5 := hs.s5 hlt
      have bl := hs.bl
      have pl := hs.pl
      have ol := hs.ol
      rw [show P.pr pr (w.fs.getD k default).pa = pr.getD ((w.fs.getD k default).pa - 1).toNat default from rfl] at n2 n3 n4 n5
      have l2 := Cy.pL_len (w.fs.getD k default) (pr.getD ((w.fs.getD k default).pa - 1).toNat default) x
      have cpy := v_rcpPay (w.fs.getD k default) (pr.getD ((w.fs.getD k default).pa - 1).toNat default) x
      have cbp := v_rPost w.bk (Cp.pL (w.fs.getD k default) (pr.getD ((w.fs.getD k default).pa - 1).toNat default) x) (by omega) (by omega)
      clear hs res2 res3 cT cTs st0 sE ef ok o
      generalize Ag.stg c (Pn.cl t (w.fs.getD k default)) (w.fs.getD k default) w.td = G at *
      generalize Bk.pE w.bk (Cp.pL (w.fs.getD k default) (pr.getD ((w.fs.getD k default).pa - 1).toNat default) x) = BE at *
      generalize Bk.pL w.bk (Cp.pL (w.fs.getD k default) (pr.getD ((w.fs.getD k default).pa - 1).toNat default) x) = BL at *
      generalize Cp.pE (w.fs.getD k default) (pr.getD ((w.fs.getD k default).pa - 1).toNat default) x = PE at *
      generalize Cp.pL (w.fs.getD k default) (pr.getD ((w.fs.getD k default).pa - 1).toNat default) x = PL at *
      generalize hPF : Cp.pF (w.fs.getD k default) (pr.getD ((w.fs.getD k default).pa - 1).toNat default) x = PF at *
      clear hPF
      repeat' ((conv => whnf); first | (refine V.NIf.yes ?_ ?_; · (decide; done)) | (refine V.NIf.no ?_ ?_; · (decide; done)) | refine V.NCond.mk ?_ | refine V.NPick.l ?_ | refine V.NIf.not_ ?_ | refine V.NIf.dec_ ?_ | refine V.a4 ?_ | refine V.a5 ?_ | refine V.NIf.mk (fun _ => ?_) (fun _ => ?_) | refine V.a7 ?_ | refine V.a8 ?_ | refine V.a9 ?_ | refine V.NBoth.mk ?_ ?_ | refine V.b1 ?_ | refine V.b2 ?_ | refine V.NTF.dec ?_ | refine V.b3 ?_ | refine V.b4 ?_ | (refine NIdx.mk ⟨k, rfl, by omega, ?_⟩) | (refine NIdx.mk ⟨(w.fs.getD k default).cl.toNat, by omega, by omega, ?_⟩) | (refine NIdx.mk ⟨((w.fs.getD k default).pa - 1).toNat, by omega, by omega, ?_⟩) | ((first | refine V.Fn.k (cst) [0] rfl ?_ ?_ | refine V.Fn.q (cst) [0] rfl ?_ ?_ | refine V.Fn.a (cst) [0] rfl ?_ ?_); · exact V.D_) | ((first | refine V.FnR.k_ (cpy) [] rfl ?_ ?_ | refine V.FnR.a_ (cpy) [] rfl ?_ ?_); · exact V.D_) | ((first | refine V.FnR.k_ (cbp) [3, 14] rfl ?_ ?_ | refine V.FnR.a_ (cbp) [3, 14] rfl ?_ ?_); · exact V.D_) | ((first | refine V.FnR.k_ (cbp) [3, 15] rfl ?_ ?_ | refine V.FnR.a_ (cbp) [3, 15] rfl ?_ ?_); · exact V.D_) | (refine NOne.mk ?_ ?_; · (intro k hk; rfl)) | (refine NApp.list (by first | omega | (simp; omega)) (by omega) ?_) | (refine V.NDraw.any (by kernel_rfl) ?_) | fail)
      all_goals (conv => whnf)
      all_goals first
        | exact V.NBack.at_ (k + 1, X ++ [w.fs.getD k default], none, []) [(12, 15)] ⟨n1 (by assumption), hop⟩ (by dsimp only; omega) V.S_ rfl ⟨ObLe.as_ rfl, ObLe.as_ rfl, trivial⟩ V.S_ V.S_
        | exact V.NBack.at_ (k + 1, X ++ [PF], some BL, [] ++ PL) [(12, 19), (9, 16), (11, 17)] ⟨n5 (by assumption) (by omega) (by omega) (by omega), ⟨fun z => (by simp at z), fun z => absurd (congrArg List.length z) (by rw [List.length_append]; simp only [List.length_nil]; omega)⟩⟩ (by dsimp only; omega) V.S_ rfl ⟨ObLe.as_ rfl, ObLe.as_ rfl, ObLe.as_ rfl, trivial⟩ V.S_ V.S_
        | (have z : PL.length = 0 := by omega
           have z' := List.length_eq_zero_iff.1 z
           exact V.NBack.at_ (k + 1, X ++ [PF], none, []) [(12, 18), (11, 16)] ⟨n3 (by assumption) (by omega) z, hop⟩ (by dsimp only; omega) V.S_ rfl ⟨ObLe.as_ rfl, ObLe.as_ (by rw [z', List.append_nil]), trivial⟩ V.S_ V.S_)
        | (have q := n2 (by assumption) (by assumption)
           obtain ⟨r1, r2, r3⟩ := res1 (by rw [q]; assumption)
           rw [r1, r2, r3, q]; first | exact V.er001 13 | exact V.er001 14 | exact V.er001 15 | exact V.er001 16 | exact V.er001 17 | exact V.er001 18 | exact V.er001 19 | exact V.er001 20 | trace_state)
        | (have q := n4 (by assumption) (by omega) (by omega) (by assumption)
           obtain ⟨r1, r2, r3⟩ := res1 (by rw [q]; assumption)
           rw [r1, r2, r3, q]; first | exact V.er001 13 | exact V.er001 14 | exact V.er001 15 | exact V.er001 16 | exact V.er001 17 | exact V.er001 18 | exact V.er001 19 | exact V.er001 20 | trace_state)
        | trace_state
    · obtain rfl : k = w.fs.length := by omega
      have f3 := hs.fin
      have f1 : (Cy.run c t x pr w.td S0 w.fs).e = 0 := by rw [f3]
      clear res1
      rcases cTs with ⟨q1, q2, q3⟩ | ⟨q1, q2⟩
      · obtain ⟨r1, r2, r3⟩ := res3 f1 q1
        rw [f3, q3] at r2
        rw [f3] at r3
        exact absurd ⟨r1, r3⟩ hN
      · obtain ⟨r1, r2, r3⟩ := res2 f1 (by rw [q1]; decide)
        rw [q1] at r1
        rw [r1, r2, r3]
        repeat' ((conv => whnf); first | (refine V.NIf.yes ?_ ?_; · (omega; done)) | (refine V.NIf.no ?_ ?_; · (omega; done)) | refine V.NCond.mk ?_ | refine V.NPick.l ?_ | refine V.NIf.not_ ?_ | refine V.NIf.dec_ ?_ | refine V.a4 ?_ | refine V.a5 ?_ | refine V.NIf.mk (fun _ => ?_) (fun _ => ?_) | refine V.a7 ?_ | refine V.a8 ?_ | refine V.a9 ?_ | refine V.NBoth.mk ?_ ?_ | refine V.b1 ?_ | refine V.b2 ?_ | refine V.NTF.dec ?_ | refine V.b3 ?_ | refine V.b4 ?_ | ((first | refine V.Fn.k (cT) [0] rfl ?_ ?_ | refine V.Fn.q (cT) [0] rfl ?_ ?_ | refine V.Fn.a (cT) [0] rfl ?_ ?_); · exact V.D_) | (refine V.NDraw.any (by kernel_rfl) ?_) | fail)
        all_goals (conv => whnf)
        all_goals first | exact V.er001 13 | exact V.er001 14 | exact V.er001 15 | exact V.er001 16 | exact V.er001 17 | exact V.er001 18 | exact V.er001 19 | exact V.er001 20 | trace_state
  | some b =>
    have hne : ¬ p = [] := fun z => by simpa using hop.2 z
    rw [show (some b : Option (List Po)).getD w.bk = b from rfl] at hs
    by_cases hlt : k < w.fs.length
    · have o : F.Ok (w.fs.getD k default) := ok _ (getD_mem hlt)
      obtain ⟨⟨_, _, _, hcl, hpa, _⟩, _⟩ := id o
      have sE : Ag.sE c (Pn.cl t (w.fs.getD k default)) (w.fs.getD k default) w.td = 0 := ef _ (getD_mem hlt)
      have cst := v_ragStage c (Pn.cl t (w.fs.getD k default)) (w.fs.getD k default) w.td sE
      have n1 := hs.s1 hlt
      have n2 := hs.s2 hlt
      have n3 := hs.s3 hlt
      have n4 := hs.s4 hlt
      have n5 := hs.s5 hlt
      have bl := hs.bl
      have pl := hs.pl
      have ol := hs.ol
      rw [show P.pr pr (w.fs.getD k default).pa = pr.getD ((w.fs.getD k default).pa - 1).toNat default from rfl] at n2 n3 n4 n5
      have l2 := Cy.pL_len (w.fs.getD k default) (pr.getD ((w.fs.getD k default).pa - 1).toNat default) x
      have cpy := v_rcpPay (w.fs.getD k default) (pr.getD ((w.fs.getD k default).pa - 1).toNat default) x
      have cbp := v_rPost b (Cp.pL (w.fs.getD k default) (pr.getD ((w.fs.getD k default).pa - 1).toNat default) x) (by omega) (by omega)
      clear hs res2 res3 cT cTs st0 sE ef ok o
      generalize Ag.stg c (Pn.cl t (w.fs.getD k default)) (w.fs.getD k default) w.td = G at *
      generalize Bk.pE b (Cp.pL (w.fs.getD k default) (pr.getD ((w.fs.getD k default).pa - 1).toNat default) x) = BE at *
      generalize Bk.pL b (Cp.pL (w.fs.getD k default) (pr.getD ((w.fs.getD k default).pa - 1).toNat default) x) = BL at *
      generalize Cp.pE (w.fs.getD k default) (pr.getD ((w.fs.getD k default).pa - 1).toNat default) x = PE at *
      generalize Cp.pL (w.fs.getD k default) (pr.getD ((w.fs.getD k default).pa - 1).toNat default) x = PL at *
      generalize hPF : Cp.pF (w.fs.getD k default) (pr.getD ((w.fs.getD k default).pa - 1).toNat default) x = PF at *
      clear hPF
      repeat' ((conv => whnf); first | (refine V.NIf.yes ?_ ?_; · (decide; done)) | (refine V.NIf.no ?_ ?_; · (decide; done)) | refine V.NCond.mk ?_ | refine V.NPick.l ?_ | refine V.NIf.not_ ?_ | refine V.NIf.dec_ ?_ | refine V.a4 ?_ | refine V.a5 ?_ | refine V.NIf.mk (fun _ => ?_) (fun _ => ?_) | refine V.a7 ?_ | refine V.a8 ?_ | refine V.a9 ?_ | refine V.NBoth.mk ?_ ?_ | refine V.b1 ?_ | refine V.b2 ?_ | refine V.NTF.dec ?_ | refine V.b3 ?_ | refine V.b4 ?_ | (refine NIdx.mk ⟨k, rfl, by omega, ?_⟩) | (refine NIdx.mk ⟨(w.fs.getD k default).cl.toNat, by omega, by omega, ?_⟩) | (refine NIdx.mk ⟨((w.fs.getD k default).pa - 1).toNat, by omega, by omega, ?_⟩) | ((first | refine V.Fn.k (cst) [0] rfl ?_ ?_ | refine V.Fn.q (cst) [0] rfl ?_ ?_ | refine V.Fn.a (cst) [0] rfl ?_ ?_); · exact V.D_) | ((first | refine V.FnR.k_ (cpy) [] rfl ?_ ?_ | refine V.FnR.a_ (cpy) [] rfl ?_ ?_); · exact V.D_) | ((first | refine V.FnR.k_ (cbp) [9, 14] rfl ?_ ?_ | refine V.FnR.a_ (cbp) [9, 14] rfl ?_ ?_); · exact V.D_) | ((first | refine V.FnR.k_ (cbp) [9, 15] rfl ?_ ?_ | refine V.FnR.a_ (cbp) [9, 15] rfl ?_ ?_); · exact V.D_) | (refine NOne.mk ?_ ?_; · (intro k hk; rfl)) | (refine NApp.list (by first | omega | (simp; omega)) (by omega) ?_) | (refine V.NDraw.any (by kernel_rfl) ?_) | fail)
      all_goals (conv => whnf)
      all_goals first
        | exact V.NBack.at_ (k + 1, X ++ [w.fs.getD k default], some b, p) [(12, 15)] ⟨n1 (by assumption), hop⟩ (by dsimp only; omega) V.S_ rfl ⟨ObLe.as_ rfl, ObLe.as_ rfl, ObLe.as_ rfl, trivial⟩ V.S_ V.S_
        | exact V.NBack.at_ (k + 1, X ++ [PF], some BL, p ++ PL) [(12, 19), (9, 16), (11, 17)] ⟨n5 (by assumption) (by omega) (by omega) (by omega), ⟨fun z => (by simp at z), fun z => absurd (congrArg List.length z) (by rw [List.length_append]; simp only [List.length_nil]; omega)⟩⟩ (by dsimp only; omega) V.S_ rfl ⟨ObLe.as_ rfl, ObLe.as_ rfl, ObLe.as_ rfl, trivial⟩ V.S_ V.S_
        | (have z : PL.length = 0 := by omega
           have z' := List.length_eq_zero_iff.1 z
           exact V.NBack.at_ (k + 1, X ++ [PF], some b, p) [(12, 18), (11, 16)] ⟨n3 (by assumption) (by omega) z, hop⟩ (by dsimp only; omega) V.S_ rfl ⟨ObLe.as_ rfl, ObLe.as_ (by rw [z', List.append_nil]), ObLe.as_ rfl, trivial⟩ V.S_ V.S_)
        | (have q := n2 (by assumption) (by assumption)
           obtain ⟨r1, r2, r3⟩ := res1 (by rw [q]; assumption)
           rw [r1, r2, r3, q]; first | exact V.er001 13 | exact V.er001 14 | exact V.er001 15 | exact V.er001 16 | exact V.er001 17 | exact V.er001 18 | exact V.er001 19 | exact V.er001 20 | trace_state)
        | (have q := n4 (by assumption) (by omega) (by omega) (by assumption)
           obtain ⟨r1, r2, r3⟩ := res1 (by rw [q]; assumption)
           rw [r1, r2, r3, q]; first | exact V.er001 13 | exact V.er001 14 | exact V.er001 15 | exact V.er001 16 | exact V.er001 17 | exact V.er001 18 | exact V.er001 19 | exact V.er001 20 | trace_state)
        | trace_state
    · obtain rfl : k = w.fs.length := by omega
      have f3 := hs.fin
      have f1 : (Cy.run c t x pr w.td S0 w.fs).e = 0 := by rw [f3]
      clear res1
      rcases cTs with ⟨q1, q2, q3⟩ | ⟨q1, q2⟩
      · obtain ⟨r1, r2, r3⟩ := res3 f1 q1
        rw [f3, q3] at r2
        rw [f3] at r3
        rw [r1, r2, r3]
        repeat' ((conv => whnf); first | (refine V.NIf.yes ?_ ?_; · (omega; done)) | (refine V.NIf.no ?_ ?_; · (omega; done)) | refine V.NCond.mk ?_ | refine V.NPick.l ?_ | refine V.NIf.not_ ?_ | refine V.NIf.dec_ ?_ | refine V.a4 ?_ | refine V.a5 ?_ | refine V.NIf.mk (fun _ => ?_) (fun _ => ?_) | refine V.a7 ?_ | refine V.a8 ?_ | refine V.a9 ?_ | refine V.NBoth.mk ?_ ?_ | refine V.b1 ?_ | refine V.b2 ?_ | refine V.NTF.dec ?_ | refine V.b3 ?_ | refine V.b4 ?_ | ((first | refine V.Fn.k (cT) [0] rfl ?_ ?_ | refine V.Fn.q (cT) [0] rfl ?_ ?_ | refine V.Fn.a (cT) [0] rfl ?_ ?_); · exact V.D_) | (refine V.NDraw.any (by kernel_rfl) ?_) | fail)
        all_goals (conv => whnf)
        all_goals first
          | exact V.er3 12 9 11
          | trace_state
      · obtain ⟨r1, r2, r3⟩ := res2 f1 (by rw [q1]; decide)
        rw [q1] at r1
        rw [r1, r2, r3]
        repeat' ((conv => whnf); first | (refine V.NIf.yes ?_ ?_; · (omega; done)) | (refine V.NIf.no ?_ ?_; · (omega; done)) | refine V.NCond.mk ?_ | refine V.NPick.l ?_ | refine V.NIf.not_ ?_ | refine V.NIf.dec_ ?_ | refine V.a4 ?_ | refine V.a5 ?_ | refine V.NIf.mk (fun _ => ?_) (fun _ => ?_) | refine V.a7 ?_ | refine V.a8 ?_ | refine V.a9 ?_ | refine V.NBoth.mk ?_ ?_ | refine V.b1 ?_ | refine V.b2 ?_ | refine V.NTF.dec ?_ | refine V.b3 ?_ | refine V.b4 ?_ | ((first | refine V.Fn.k (cT) [0] rfl ?_ ?_ | refine V.Fn.q (cT) [0] rfl ?_ ?_ | refine V.Fn.a (cT) [0] rfl ?_ ?_); · exact V.D_) | (refine V.NDraw.any (by kernel_rfl) ?_) | fail)
        all_goals (conv => whnf)
        all_goals first | exact V.er001 13 | exact V.er001 14 | exact V.er001 15 | exact V.er001 16 | exact V.er001 17 | exact V.er001 18 | exact V.er001 19 | exact V.er001 20 | trace_state
end Go.Proofs.YtpanlcnoopmchaaGreat

namespace Go.Proofs.YtpanlcnoopmchaaGreat
open Go Go.RowKit V
set_option maxHeartbeats 8000000 in
theorem v_rNight_a2 (c : Cl) (t : List Tm) (x : Int) (w : Wd) (pr : List Int) (hc : c.hs.length ≤ 9223372036854775807) (ht : t.length ≤ 9223372036854775807) (hb : w.bk.length ≤ 9223372036854775807) (hp : pr.length ≤ 9223372036854775807)
    (h0 : (Cy.s0 c t x w pr).e = 0) (hS : (Pn.suL (Cy.du c t w pr)).length = 0) (hN : Cy.nE c t x w pr = 0 ∧ Cy.nP c t x w pr = []) :
    V.FnR Tryz.prog 12 (nightO c t w pr) [ruV c x, .agg [.val (.int .i64 w.td), .ref 2, .ref 3], .one (.ref 4)] (.tup [.agg [.val (.int .i64 (Cy.nW c t x w pr).td), .ref 5, .ref 3], .one (.ref 6), .one (.val (.int .i64 0))]) [.row 42 10 (Cy.nW c t x w pr).fs.length (ga encF (Cy.nW c t x w pr).fs), .row 65 3 0 (ga encP [])] := by
  obtain ⟨b0, p0, s0⟩ := Cy.s0_ok h0
  obtain ⟨r0, w0, k0, o0, y0⟩ := Cy.nB_ok b0
  obtain ⟨n60, n400⟩ := Cy.wE_len w0
  have kc := (Cy.rE_ok r0).1
  have cR := v_rRules c t x hc ht
  rw [r0] at cR
  have cW := v_rWcheck w hb
  rw [w0] at cW
  have cP := v_rprices pr hp
  rw [k0] at cP
  have cI := v_business c w.td (Ca.chk_ok kc)
  rw [biz_is kc] at cI
  obtain ⟨i0, q5, _, hbl, hou, hbk, hps⟩ := Cy.night_ok h0
  rw [i0] at cI
  have cD := v_rday c t w.fs pr w.td hc ht hp
  rw [y0, show Pn.yL c t w.fs pr w.td = Cy.du c t w pr from rfl] at cD
  have cS := v_rpsum (Cy.du c t w pr) (by have := Pn.yL_len c t w.fs pr w.td; unfold Cy.du; omega)
  have sl : (Pn.suL (Cy.du c t w pr)).length ≤ 31 := by
    unfold Pn.suL
    split
    all_goals first | exact Pn.pos_len _ _ | exact Nat.zero_le _
  have q5 : Pn.suE (Cy.du c t w pr) = 5 := by
    rcases q5 hS with z | z
    · exact z
    · obtain ⟨_, a, b⟩ := Pn.su_ok z
      rw [b] at hS
      exact absurd hS a
  obtain ⟨ht6, htw⟩ := Pn.tE_ok (Cy.rE_ok r0).2.1
  obtain ⟨hp20, _⟩ := P.chks_ok k0
  obtain ⟨hd0, hx, _⟩ := Cy.wE_ok w0
  have hday : Ca.Day w.td := by rcases Ca.dchk w.td with q | q; exact q.2; omega
  have ok := Pn.all_ok hx
  obtain ⟨_, ef, _⟩ := Pn.y_ok y0
  have st0 := Cy.RJ.start (c := c) (t := t) (x := x) (pr := pr) (td := w.td) (fs := w.fs) hbl hou h0
  have res1 := fun z => @Cy.n_err c t x w pr z
  have res2 := fun z z' => @Cy.n_end c t x w pr z z'
  have res3 := fun z z' => @Cy.n_yes c t x w pr z z'
  rw [show Cy.s1 c t x w pr = Cy.run c t x pr w.td (Cy.s0 c t x w pr) w.fs from rfl] at res1 res2 res3
  have hbk1 : (Cy.s0 c t x w pr).bk = w.bk := hbk.trans (if_pos hS)
  have hS0 : Pn.suL (Cy.du c t w pr) = [] := List.length_eq_zero_iff.1 hS
  rw [hbk1, hps, hS0] at st0
  rw [hS0, q5] at cS
  have hsp : (Cy.s0 c t x w pr).ps.length ≤ 31 := by rw [hps]; exact sl
  have cT := v_rcaStep c w.td 1 (Ca.chk_ok kc) hday (by omega)
  have cTs := Cy.stp_1 kc hday
  clear b0 p0 s0 r0 w0 k0 o0 y0 h0 q5 i0 hbl hou hbk hps hbk1 hd0 hday hS0 hS sl
  generalize Cy.s0 c t x w pr = S0 at *
  generalize Cy.du c t w pr = D at *
  generalize Ca.stp c w.td 1 = TT at *
  generalize Cy.nE c t x w pr = NE at *
  generalize Cy.nW c t x w pr = NW at *
  generalize Cy.nP c t x w pr = NP at *
  refine V.FnR.mk_ V.Tok V.mixed Tryz.func12 rfl Tryz.ntmps12 (by kernel_rfl) rfl rfl rfl rfl ?_
  repeat' ((conv => whnf); first | (refine V.NIf.yes ?_ ?_; · (decide; done)) | (refine V.NIf.no ?_ ?_; · (decide; done)) | (refine V.NIf.yes ?_ ?_; · (omega; done)) | (refine V.NIf.no ?_ ?_; · (omega; done)) | refine V.NCond.mk ?_ | refine V.NPick.l ?_ | refine V.NIf.not_ ?_ | refine V.NIf.dec_ ?_ | refine V.a4 ?_ | refine V.a5 ?_ | refine V.NIf.mk (fun _ => ?_) (fun _ => ?_) | refine V.a7 ?_ | refine V.a8 ?_ | refine V.a9 ?_ | refine V.NBoth.mk ?_ ?_ | refine V.b1 ?_ | refine V.b2 ?_ | refine V.NTF.dec ?_ | refine V.b3 ?_ | refine V.b4 ?_ | ((first | refine V.Fn.k (cR) [0, 1] rfl ?_ ?_ | refine V.Fn.q (cR) [0, 1] rfl ?_ ?_ | refine V.Fn.a (cR) [0, 1] rfl ?_ ?_); · exact V.D_) | ((first | refine V.Fn.k (cW) [2, 3] rfl ?_ ?_ | refine V.Fn.q (cW) [2, 3] rfl ?_ ?_ | refine V.Fn.a (cW) [2, 3] rfl ?_ ?_); · exact V.D_) | ((first | refine V.Fn.k (cP) [4] rfl ?_ ?_ | refine V.Fn.q (cP) [4] rfl ?_ ?_ | refine V.Fn.a (cP) [4] rfl ?_ ?_); · exact V.D_) | ((first | refine V.Fn.k (cI) [0] rfl ?_ ?_ | refine V.Fn.q (cI) [0] rfl ?_ ?_ | refine V.Fn.a (cI) [0] rfl ?_ ?_); · exact V.D_) | ((first | refine V.FnR.k_ (cD) [0, 1, 2, 4] rfl ?_ ?_ | refine V.FnR.a_ (cD) [0, 1, 2, 4] rfl ?_ ?_); · exact V.D_) | ((first | refine V.FnR.k_ (cS) [9] rfl ?_ ?_ | refine V.FnR.a_ (cS) [9] rfl ?_ ?_); · exact V.D_) | (refine V.NDraw.any (by kernel_rfl) ?_) | fail)
  all_goals (conv => whnf)
  clear cR cW cP cI cD cS
  all_goals refine V.NLoop.auto (fun (s : Nat × List Fl × Option (List Po) × List Po) => [(15, .one (.val (.int .i64 s.1))), (14, .one (.ref 12)), (12, bkS s.2.2.1), (13, .one (.ref 11))]) (fun (s : Nat × List Fl × Option (List Po) × List Po) => [(12, .row 42 10 s.2.1.length (ga encF s.2.1)), (11, .row 65 3 s.2.2.2.length (ga encP s.2.2.2))] ++ bkO s.2.2.1) [10, 56, 63] [9] (fun s => w.fs.length - s.1) (fun s => Cy.RJ c t x pr w.td S0 w.fs s.1 s.2.1 (s.2.2.1.getD w.bk) s.2.2.2 ∧ (s.2.2.1 = none ↔ s.2.2.2 = [])) (0, [], none, []) ⟨st0, by simp⟩ V.S_ V.S_ (fun s => by obtain ⟨_, _, o, _⟩ := s; cases o <;> exact ⟨rfl, rfl⟩) ?_; (conv => whnf); refine ⟨⟨rfl, rfl⟩, ?_⟩
  rintro s hs
  generalize s.1 = k at *
  generalize s.2.1 = X at *
  generalize s.2.2.1 = o at *
  generalize s.2.2.2 = p at *
  obtain ⟨hs, hop⟩ := hs
  have kl := hs.le
  replace hN := hid hN
  cases o with
  | none =>
    have hne : p = [] := hop.1 rfl
    rw [show (none : Option (List Po)).getD w.bk = w.bk from rfl] at hs
    subst hne
    by_cases hlt : k < w.fs.length
    · have o : F.Ok (w.fs.getD k default) := ok _ (getD_mem hlt)
      obtain ⟨⟨_, _, _, hcl, hpa, _⟩, _⟩ := id o
      have sE : Ag.sE c (Pn.cl t (w.fs.getD k default)) (w.fs.getD k default) w.td = 0 := ef _ (getD_mem hlt)
      have cst := v_ragStage c (Pn.cl t (w.fs.getD k default)) (w.fs.getD k default) w.td sE
      have n1 := hs.s1 hlt
      have n2 := hs.s2 hlt
      have n3 := hs.s3 hlt
      have n4 := hs.s4 hlt
      have n5 := hs.s5 hlt
      have bl := hs.bl
      have pl := hs.pl
      have ol := hs.ol
      rw [show P.pr pr (w.fs.getD k default).pa = pr.getD ((w.fs.getD k default).pa - 1).toNat default from rfl] at n2 n3 n4 n5
      have l2 := Cy.pL_len (w.fs.getD k default) (pr.getD ((w.fs.getD k default).pa - 1).toNat default) x
      have cpy := v_rcpPay (w.fs.getD k default) (pr.getD ((w.fs.getD k default).pa - 1).toNat default) x
      have cbp := v_rPost w.bk (Cp.pL (w.fs.getD k default) (pr.getD ((w.fs.getD k default).pa - 1).toNat default) x) (by omega) (by omega)
      clear hs res2 res3 cT cTs st0 sE ef ok o
      generalize Ag.stg c (Pn.cl t (w.fs.getD k default)) (w.fs.getD k default) w.td = G at *
      generalize Bk.pE w.bk (Cp.pL (w.fs.getD k default) (pr.getD ((w.fs.getD k default).pa - 1).toNat default) x) = BE at *
      generalize Bk.pL w.bk (Cp.pL (w.fs.getD k default) (pr.getD ((w.fs.getD k default).pa - 1).toNat default) x) = BL at *
      generalize Cp.pE (w.fs.getD k default) (pr.getD ((w.fs.getD k default).pa - 1).toNat default) x = PE at *
      generalize Cp.pL (w.fs.getD k default) (pr.getD ((w.fs.getD k default).pa - 1).toNat default) x = PL at *
      generalize hPF : Cp.pF (w.fs.getD k default) (pr.getD ((w.fs.getD k default).pa - 1).toNat default) x = PF at *
      clear hPF
      repeat' ((conv => whnf); first | (refine V.NIf.yes ?_ ?_; · (decide; done)) | (refine V.NIf.no ?_ ?_; · (decide; done)) | refine V.NCond.mk ?_ | refine V.NPick.l ?_ | refine V.NIf.not_ ?_ | refine V.NIf.dec_ ?_ | refine V.a4 ?_ | refine V.a5 ?_ | refine V.NIf.mk (fun _ => ?_) (fun _ => ?_) | refine V.a7 ?_ | refine V.a8 ?_ | refine V.a9 ?_ | refine V.NBoth.mk ?_ ?_ | refine V.b1 ?_ | refine V.b2 ?_ | refine V.NTF.dec ?_ | refine V.b3 ?_ | refine V.b4 ?_ | (refine NIdx.mk ⟨k, rfl, by omega, ?_⟩) | (refine NIdx.mk ⟨(w.fs.getD k default).cl.toNat, by omega, by omega, ?_⟩) | (refine NIdx.mk ⟨((w.fs.getD k default).pa - 1).toNat, by omega, by omega, ?_⟩) | ((first | refine V.Fn.k (cst) [0] rfl ?_ ?_ | refine V.Fn.q (cst) [0] rfl ?_ ?_ | refine V.Fn.a (cst) [0] rfl ?_ ?_); · exact V.D_) | ((first | refine V.FnR.k_ (cpy) [] rfl ?_ ?_ | refine V.FnR.a_ (cpy) [] rfl ?_ ?_); · exact V.D_) | ((first | refine V.FnR.k_ (cbp) [3, 14] rfl ?_ ?_ | refine V.FnR.a_ (cbp) [3, 14] rfl ?_ ?_); · exact V.D_) | ((first | refine V.FnR.k_ (cbp) [3, 15] rfl ?_ ?_ | refine V.FnR.a_ (cbp) [3, 15] rfl ?_ ?_); · exact V.D_) | (refine NOne.mk ?_ ?_; · (intro k hk; rfl)) | (refine NApp.list (by first | omega | (simp; omega)) (by omega) ?_) | (refine V.NDraw.any (by kernel_rfl) ?_) | fail)
      all_goals (conv => whnf)
      all_goals first
        | exact V.NBack.at_ (k + 1, X ++ [w.fs.getD k default], none, []) [(12, 15)] ⟨n1 (by assumption), hop⟩ (by dsimp only; omega) V.S_ rfl ⟨ObLe.as_ rfl, ObLe.as_ rfl, trivial⟩ V.S_ V.S_
        | exact V.NBack.at_ (k + 1, X ++ [PF], some BL, [] ++ PL) [(12, 19), (9, 16), (11, 17)] ⟨n5 (by assumption) (by omega) (by omega) (by omega), ⟨fun z => (by simp at z), fun z => absurd (congrArg List.length z) (by rw [List.length_append]; simp only [List.length_nil]; omega)⟩⟩ (by dsimp only; omega) V.S_ rfl ⟨ObLe.as_ rfl, ObLe.as_ rfl, ObLe.as_ rfl, trivial⟩ V.S_ V.S_
        | (have z : PL.length = 0 := by omega
           have z' := List.length_eq_zero_iff.1 z
           exact V.NBack.at_ (k + 1, X ++ [PF], none, []) [(12, 18), (11, 16)] ⟨n3 (by assumption) (by omega) z, hop⟩ (by dsimp only; omega) V.S_ rfl ⟨ObLe.as_ rfl, ObLe.as_ (by rw [z', List.append_nil]), trivial⟩ V.S_ V.S_)
        | (have q := n2 (by assumption) (by assumption)
           obtain ⟨r1, r2, r3⟩ := res1 (by rw [q]; assumption)
           exact absurd (q.symm.trans (r1.symm.trans (And.left hN))) (by assumption))
        | (have q := n4 (by assumption) (by omega) (by omega) (by assumption)
           obtain ⟨r1, r2, r3⟩ := res1 (by rw [q]; assumption)
           exact absurd (q.symm.trans (r1.symm.trans (And.left hN))) (by assumption))
        | trace_state
    · obtain rfl : k = w.fs.length := by omega
      have f3 := hs.fin
      have f1 : (Cy.run c t x pr w.td S0 w.fs).e = 0 := by rw [f3]
      clear res1
      rcases cTs with ⟨q1, q2, q3⟩ | ⟨q1, q2⟩
      · obtain ⟨r1, r2, r3⟩ := res3 f1 q1
        rw [f3, q3] at r2
        rw [f3] at r3
        rw [r2]
        repeat' ((conv => whnf); first | (refine V.NIf.yes ?_ ?_; · (omega; done)) | (refine V.NIf.no ?_ ?_; · (omega; done)) | refine V.NCond.mk ?_ | refine V.NPick.l ?_ | refine V.NIf.not_ ?_ | refine V.NIf.dec_ ?_ | refine V.a4 ?_ | refine V.a5 ?_ | refine V.NIf.mk (fun _ => ?_) (fun _ => ?_) | refine V.a7 ?_ | refine V.a8 ?_ | refine V.a9 ?_ | refine V.NBoth.mk ?_ ?_ | refine V.b1 ?_ | refine V.b2 ?_ | refine V.NTF.dec ?_ | refine V.b3 ?_ | refine V.b4 ?_ | ((first | refine V.Fn.k (cT) [0] rfl ?_ ?_ | refine V.Fn.q (cT) [0] rfl ?_ ?_ | refine V.Fn.a (cT) [0] rfl ?_ ?_); · exact V.D_) | (refine V.NDraw.any (by kernel_rfl) ?_) | fail)
        all_goals (conv => whnf)
        all_goals first
          | exact V.er2 12 11
          | trace_state
      · obtain ⟨r1, r2, r3⟩ := res2 f1 (by rw [q1]; decide)
        rw [q1] at r1
        exact absurd (r1.symm.trans (And.left hN)) (by decide)
  | some b =>
    have hne : ¬ p = [] := fun z => by simpa using hop.2 z
    rw [show (some b : Option (List Po)).getD w.bk = b from rfl] at hs
    by_cases hlt : k < w.fs.length
    · have o : F.Ok (w.fs.getD k default) := ok _ (getD_mem hlt)
      obtain ⟨⟨_, _, _, hcl, hpa, _⟩, _⟩ := id o
      have sE : Ag.sE c (Pn.cl t (w.fs.getD k default)) (w.fs.getD k default) w.td = 0 := ef _ (getD_mem hlt)
      have cst := v_ragStage c (Pn.cl t (w.fs.getD k default)) (w.fs.getD k default) w.td sE
      have n1 := hs.s1 hlt
      have n2 := hs.s2 hlt
      have n3 := hs.s3 hlt
      have n4 := hs.s4 hlt
      have n5 := hs.s5 hlt
      have bl := hs.bl
      have pl := hs.pl
      have ol := hs.ol
      rw [show P.pr pr (w.fs.getD k default).pa = pr.getD ((w.fs.getD k default).pa - 1).toNat default from rfl] at n2 n3 n4 n5
      have l2 := Cy.pL_len (w.fs.getD k default) (pr.getD ((w.fs.getD k default).pa - 1).toNat default) x
      have cpy := v_rcpPay (w.fs.getD k default) (pr.getD ((w.fs.getD k default).pa - 1).toNat default) x
      have cbp := v_rPost b (Cp.pL (w.fs.getD k default) (pr.getD ((w.fs.getD k default).pa - 1).toNat default) x) (by omega) (by omega)
      clear hs res2 res3 cT cTs st0 sE ef ok o
      generalize Ag.stg c (Pn.cl t (w.fs.getD k default)) (w.fs.getD k default) w.td = G at *
      generalize Bk.pE b (Cp.pL (w.fs.getD k default) (pr.getD ((w.fs.getD k default).pa - 1).toNat default) x) = BE at *
      generalize Bk.pL b (Cp.pL (w.fs.getD k default) (pr.getD ((w.fs.getD k default).pa - 1).toNat default) x) = BL at *
      generalize Cp.pE (w.fs.getD k default) (pr.getD ((w.fs.getD k default).pa - 1).toNat default) x = PE at *
      generalize Cp.pL (w.fs.getD k default) (pr.getD ((w.fs.getD k default).pa - 1).toNat default) x = PL at *
      generalize hPF : Cp.pF (w.fs.getD k default) (pr.getD ((w.fs.getD k default).pa - 1).toNat default) x = PF at *
      clear hPF
      repeat' ((conv => whnf); first | (refine V.NIf.yes ?_ ?_; · (decide; done)) | (refine V.NIf.no ?_ ?_; · (decide; done)) | refine V.NCond.mk ?_ | refine V.NPick.l ?_ | refine V.NIf.not_ ?_ | refine V.NIf.dec_ ?_ | refine V.a4 ?_ | refine V.a5 ?_ | refine V.NIf.mk (fun _ => ?_) (fun _ => ?_) | refine V.a7 ?_ | refine V.a8 ?_ | refine V.a9 ?_ | refine V.NBoth.mk ?_ ?_ | refine V.b1 ?_ | refine V.b2 ?_ | refine V.NTF.dec ?_ | refine V.b3 ?_ | refine V.b4 ?_ | (refine NIdx.mk ⟨k, rfl, by omega, ?_⟩) | (refine NIdx.mk ⟨(w.fs.getD k default).cl.toNat, by omega, by omega, ?_⟩) | (refine NIdx.mk ⟨((w.fs.getD k default).pa - 1).toNat, by omega, by omega, ?_⟩) | ((first | refine V.Fn.k (cst) [0] rfl ?_ ?_ | refine V.Fn.q (cst) [0] rfl ?_ ?_ | refine V.Fn.a (cst) [0] rfl ?_ ?_); · exact V.D_) | ((first | refine V.FnR.k_ (cpy) [] rfl ?_ ?_ | refine V.FnR.a_ (cpy) [] rfl ?_ ?_); · exact V.D_) | ((first | refine V.FnR.k_ (cbp) [9, 14] rfl ?_ ?_ | refine V.FnR.a_ (cbp) [9, 14] rfl ?_ ?_); · exact V.D_) | ((first | refine V.FnR.k_ (cbp) [9, 15] rfl ?_ ?_ | refine V.FnR.a_ (cbp) [9, 15] rfl ?_ ?_); · exact V.D_) | (refine NOne.mk ?_ ?_; · (intro k hk; rfl)) | (refine NApp.list (by first | omega | (simp; omega)) (by omega) ?_) | (refine V.NDraw.any (by kernel_rfl) ?_) | fail)
      all_goals (conv => whnf)
      all_goals first
        | exact V.NBack.at_ (k + 1, X ++ [w.fs.getD k default], some b, p) [(12, 15)] ⟨n1 (by assumption), hop⟩ (by dsimp only; omega) V.S_ rfl ⟨ObLe.as_ rfl, ObLe.as_ rfl, ObLe.as_ rfl, trivial⟩ V.S_ V.S_
        | exact V.NBack.at_ (k + 1, X ++ [PF], some BL, p ++ PL) [(12, 19), (9, 16), (11, 17)] ⟨n5 (by assumption) (by omega) (by omega) (by omega), ⟨fun z => (by simp at z), fun z => absurd (congrArg List.length z) (by rw [List.length_append]; simp only [List.length_nil]; omega)⟩⟩ (by dsimp only; omega) V.S_ rfl ⟨ObLe.as_ rfl, ObLe.as_ rfl, ObLe.as_ rfl, trivial⟩ V.S_ V.S_
        | (have z : PL.length = 0 := by omega
           have z' := List.length_eq_zero_iff.1 z
           exact V.NBack.at_ (k + 1, X ++ [PF], some b, p) [(12, 18), (11, 16)] ⟨n3 (by assumption) (by omega) z, hop⟩ (by dsimp only; omega) V.S_ rfl ⟨ObLe.as_ rfl, ObLe.as_ (by rw [z', List.append_nil]), ObLe.as_ rfl, trivial⟩ V.S_ V.S_)
        | (have q := n2 (by assumption) (by assumption)
           obtain ⟨r1, r2, r3⟩ := res1 (by rw [q]; assumption)
           exact absurd (q.symm.trans (r1.symm.trans (And.left hN))) (by assumption))
        | (have q := n4 (by assumption) (by omega) (by omega) (by assumption)
           obtain ⟨r1, r2, r3⟩ := res1 (by rw [q]; assumption)
           exact absurd (q.symm.trans (r1.symm.trans (And.left hN))) (by assumption))
        | trace_state
    · obtain rfl : k = w.fs.length := by omega
      have f3 := hs.fin
      have f1 : (Cy.run c t x pr w.td S0 w.fs).e = 0 := by rw [f3]
      clear res1
      rcases cTs with ⟨q1, q2, q3⟩ | ⟨q1, q2⟩
      · obtain ⟨r1, r2, r3⟩ := res3 f1 q1
        rw [f3, q3] at r2
        rw [f3] at r3
        exact absurd (r3.symm.trans (And.right hN)) hne
      · obtain ⟨r1, r2, r3⟩ := res2 f1 (by rw [q1]; decide)
        rw [q1] at r1
        exact absurd (r1.symm.trans (And.left hN)) (by decide)
end Go.Proofs.YtpanlcnoopmchaaGreat

namespace Go.Proofs.YtpanlcnoopmchaaGreat
open Go Go.RowKit Go.ChangeShapes Go.WideShapes V
section
variable {H : Type} {enc : TypeId × Value → H} {P : Program} {W : World} {base : Nat} {spare : Nat → Bool} {held : Bool}
theorem open_len {t e s n : Nat} {get : Nat → List Value} {r : Reach} {b0 : Nat} {v : Value} {d : DataW H} {p : List MemPlace} (hu : P.underlying t = some (.slice e)) (h : DataW.Trod enc P W base spare held t v d p) (hl : ArrIs W v s n get) :
    n = 0 ∨ ∃ el sp, d = .slice el sp ∧ n ≤ el.length + sp.length := by
  obtain ⟨A, c, rfl, _⟩ := hl
  obtain ⟨fuel, hf⟩ := h
  rcases Go.Deep.open_slice hu hf with ⟨hcs, _⟩ | ⟨a, len', cap', m, k, D, Pl, hcs, _, hl, hm, hmm, hx, hi⟩
  · have e : (Value.slice A n c) = .slice none 0 0 := by simpa [Value.cells] using hcs
    injection e with e1 e2 e3
    exact .inl e2
  · have e : (Value.slice A n c) = .slice (some a) len' cap' := by simpa [Value.cells] using hcs
    injection e with e1 e2 e3
    subst e2
    injection hx with h1 h2
    exact .inr ⟨_, _, h1, by simp⟩
end
end Go.Proofs.YtpanlcnoopmchaaGreat

namespace Go.Proofs.YtpanlcnoopmchaaGreat
open Go Go.RowKit Go.ChangeShapes Go.WideShapes V
section
variable {H : Type} {enc : TypeId × Value → H} {P : Program} {W : World} {base : Nat} {spare : Nat → Bool} {held : Bool}
theorem len_field {ts : List TypeId} {ds : List (DataW H)} (hsz : (DataW.weightsEach P ts ds).all (· ≤ reachBytes) = true) {j t e s n B i ft o : Nat} {get : Nat → List Value} {v u : Value} {d : DataW H} {p : List MemPlace} {fs : Array Field} (ht : ts[j]? = some t) (hd : ds[j]? = some d)
    (h : DataW.Trod enc P W base spare held t v d p) (hs : P.underlying t = some (.struct fs)) (hf : (fs[i]?).map (fun f => (f.type, f.offset)) = some (ft, o)) (hc : P.cellsOf ft = 1) (hcs : (v.cells.toList.drop o).take 1 = [u])
    (hu : P.underlying ft = some (.slice e)) (hB : P.bytesOf e = B) (hl : ArrIs W u s n get) : n * B ≤ 140737488351232 := by
  obtain ⟨fuel, hr⟩ := h
  obtain ⟨xs, m, _, hx, _, hlen, hg⟩ := DataW.trod_struct hs hr
  obtain ⟨f, hfi, he⟩ := Option.map_eq_some_iff.1 hf
  injection he with e1 e2
  have g := hg i f hfi
  rw [e1, e2, hc, hcs] at g
  have hi : i < fs.size := by
    rcases Nat.lt_or_ge i fs.size with q | q
    · exact q
    · rw [Array.getElem?_eq_none q] at hfi; cases hfi
  rw [List.getElem?_eq_getElem (by omega)] at g
  injection hx with d1 d2
  have hp : (xs.map (·.1))[i]? = some (xs[i]'(by omega)).1 := by
    rw [List.getElem?_map, List.getElem?_eq_getElem (by omega)]; rfl
  have hti : (fs.toList.map (·.type))[i]? = some ft := by
    rw [List.getElem?_map, Array.getElem?_toList, hfi, ← e1]; rfl
  obtain ⟨A, c, rfl, hA⟩ := hl
  have tr : DataW.Trod enc P W base spare held ft (.slice A n c) (xs[i]'(by omega)).1 (xs[i]'(by omega)).2 := ⟨m, g⟩
  rcases open_len (r := .any) (b0 := 0) hu tr ⟨A, c, rfl, hA⟩ with rfl | ⟨el, sp, hq, hn⟩
  · rw [Nat.zero_mul]; omega
  · rw [hq] at hp
    have w1 : (el.length + sp.length) * P.bytesOf e ∈ DataW.weights P ft (.slice el sp) := by simp [DataW.weights, hu]
    have w2 := DataW.weights_mem_each (P := P) hti hp _ w1
    have w3 : (el.length + sp.length) * P.bytesOf e ∈ DataW.weights P t d := by
      rw [d1]
      simp only [DataW.weights, hs]
      exact w2
    have w4 := List.all_eq_true.1 hsz _ (DataW.weights_mem_each ht hd _ w3)
    have w5 : (el.length + sp.length) * P.bytesOf e ≤ reachBytes := by simpa using w4
    rw [hB] at w5
    have : n * B ≤ (el.length + sp.length) * B := Nat.mul_le_mul_right _ hn
    simp only [reachBytes] at w5
    omega
end
end Go.Proofs.YtpanlcnoopmchaaGreat
