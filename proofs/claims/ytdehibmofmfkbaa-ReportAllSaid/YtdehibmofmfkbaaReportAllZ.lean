/- The statement of ReportAll: the call returns true for every input, and its input reads as it did. No condition. -/
import Derived.Test.YtdehibmofmfkbaaRows
import Derived.WalkKit
import Derived.ProofKit
import Derived.OpenShut
import Derived.Test.YtdehibmofmfkbaaZ1
import Derived.Test.YtdehibmofmfkbaaZ2
import Derived.Test.YtdehibmofmfkbaaZ3
import Derived.Test.YtdehibmofmfkbaaZ4
import Derived.Test.YtdehibmofmfkbaaZ5
set_option linter.unusedVariables false
set_option linter.unusedSimpArgs false
set_option linter.unusedSectionVars false
set_option maxRecDepth 100000

/- What ReportAll answers: true. -/
namespace Go.Proofs.Ytdehibmofmfkbaa
open Go Go.RowKit V
set_option maxRecDepth 100000
set_option linter.unusedVariables false
set_option linter.unusedSimpArgs false
set_option maxHeartbeats 4000000 in
theorem v_reportAll (c : Cl) (wc : WfCl c) (l : List Fl) (wl : ∀ f ∈ l, WfF f) (today : Int) (w_today : (Lit.int .i64 today).wf = true) (b : List Int) (wb : ∀ f ∈ b, (Lit.int .i64 f).wf = true) : V.Fn Try.prog 6 [.arr 1 c.hs.length (ga e1 c.hs), .arr 10 l.length (ga encF l), .arr 1 b.length (ga e1 b)] [.agg [.val (.int .i64 c.we), .ref 0], .one (.ref 1), .one (.val (.int .i64 today)), .one (.ref 2)] (.bool true) := by
  refine V.Fn.lim (by kernel_rfl) fun hl => ?_
  have hc := hl 0 _ _ _ rfl
  have hn := hl 2 _ _ _ rfl
  clear hl wc wl wb
  have c1 := v_rages c l today b hc hn
  have c2 := v_parties l
  by_cases hx : F.checks l = 0
  · have n60 := F.checks_len (l := l) (by omega)
    have ok := Pn.all_ok hx
    rw [hx, show Rp.frV l = Rp.pts (·.fr) l from if_pos hx, show Rp.toV l = Rp.pts (·.to) l from if_pos hx] at c2
    have p1 := Rp.pts_len (·.fr) l
    have p2 := Rp.pts_len (·.to) l
    have s1 := v_togR (Rp.pts (·.fr) l) (by omega) (fun k => by have := Rp.s_pos _ (by omega) (Rp.pts_bd (·.fr) ok n60) k; omega)
    have s2 := v_togR (Rp.pts (·.to) l) (by omega) (fun k => by have := Rp.s_pos _ (by omega) (Rp.pts_bd (·.to) ok n60) k; omega)
    rw [Rp.pts_sum (fun f hf => (ok f hf).1.2.1)] at s1
    rw [Rp.pts_sum (fun f hf => (ok f hf).1.2.2.1)] at s2
    rw [show M.sum (l.map F.left) = Rp.lft l from rfl] at s1 s2
    have s3 : Rp.aE c l today b = 0 → b.length ≤ 40 ∧ (Rp.aV c l today b).length = b.length + 1 ∧ V.Fn Try.prog 26 [.arr 1 (Rp.aV c l today b).length (ga e1 (Rp.aV c l today b))] [.one (.ref 0)] (.int .i64 (Rp.lat today l)) := fun hw => by
      rw [Rp.aV_yes hw]
      have E := Rp.eE_ok (Rp.aE_ok hw).2.2.2
      have El := E.le
      have al := Rp.ag_len c today b l
      refine ⟨El, al, ?_⟩
      rw [← Rp.ag_sum (c := c) (b := b) E.up]
      refine v_togR _ (by omega) (fun k => ?_)
      have := Rp.s_pos _ (by omega) (fun x hx => (Rp.ag_bd0 c today b l x hx)) k
      rw [al] at this
      have : (l.length : Int) * ((b.length + 1 : Nat) : Int) ≤ 60 * 41 := Int.mul_le_mul (by omega) (by omega) (by omega) (by omega)
      omega
    generalize Rp.pts (·.fr) l = X at *
    generalize Rp.pts (·.to) l = Y at *
    generalize Rp.aV c l today b = A at *
    generalize Rp.aE c l today b = w at *
    refine V.Fn.mk_ V.Tok V.mixed Try.func6 rfl Try.ntmps6 (by kernel_rfl) rfl rfl ?_
    repeat' ((conv => whnf); first | (refine V.NIf.yes ?_ ?_; · (decide; done)) | (refine V.NIf.no ?_ ?_; · (decide; done)) | refine V.NCond.mk ?_ | refine V.NPick.l ?_ | refine V.NIf.not_ ?_ | refine V.NIf.dec_ ?_ | refine V.a4 ?_ | refine V.a5 ?_ | refine V.NIf.mk (fun _ => ?_) (fun _ => ?_) | refine V.a7 ?_ | refine V.a8 ?_ | refine V.a9 ?_ | refine V.NBoth.mk ?_ ?_ | refine V.b1 ?_ | refine V.b2 ?_ | refine V.NTF.dec ?_ | refine V.b3 ?_ | refine V.b4 ?_ | ((first | refine V.FnR.k_ (c1) [0, 1, 2] rfl ?_ ?_ | refine V.FnR.a_ (c1) [0, 1, 2] rfl ?_ ?_); · exact V.D_) | ((first | refine V.FnR.k_ (c2) [1] rfl ?_ ?_ | refine V.FnR.a_ (c2) [1] rfl ?_ ?_); · exact V.D_) | (first | refine V.Fn.k0 (v_repBegun) rfl ?_ | refine V.Fn.q0 (v_repBegun) rfl ?_ | refine V.Fn.a0 (v_repBegun) rfl ?_) | (first | refine V.Fn.k0 (v_fbegun) rfl ?_ | refine V.Fn.q0 (v_fbegun) rfl ?_ | refine V.Fn.a0 (v_fbegun) rfl ?_) | (refine V.NDraw.any (by kernel_rfl) ?_) | fail)
    all_goals (conv => whnf)
    refine V.NLoop.auto (fun (k : Nat) => [(16, .one (.val (.int .i64 k))), (14, .one (.val (.int .i64 (Rp.lft (l.take k))))), (15, .one (.val (.int .i64 (Rp.lat today (l.take k)))))]) (fun (k : Nat) => []) [] [] (fun (k : Nat) => l.length - k) (fun (k : Nat) => k ≤ l.length) 0 (Nat.zero_le _) V.S_ V.S_ (fun _ => ⟨rfl, rfl⟩) ?_; (conv => whnf); refine ⟨⟨rfl, rfl⟩, ?_⟩
    rintro k hk
    by_cases hlt : k < l.length
    · have o := ok _ (getD_mem hlt)
      have ob := F.ok_bounds o
      have oc := v_openR hx hlt
      have t1 := Rp.lft_snoc hlt
      have t2 := Rp.lat_snoc (td := today) hlt
      have b1 := Rp.lft_bd (l := l.take k) (fun f hf => ok f (List.mem_of_mem_take hf))
      have b2 := Rp.lat_bd today (l.take k)
      rw [List.length_take] at b1 b2
      have lt : (0 < F.left (l.getD k default) ∧ (l.getD k default).day < today) ↔ Rp.Lt_ today (l.getD k default) := Iff.rfl
      clear c1 c2 s1 s2 s3
      by_cases hL : 0 < F.left (l.getD k default) ∧ (l.getD k default).day < today
      · rw [if_pos (lt.1 hL)] at t2
        repeat' ((conv => whnf); first | (refine V.NIf.yes ?_ ?_; · (decide; done)) | (refine V.NIf.no ?_ ?_; · (decide; done)) | (refine V.NIf.yes ?_ ?_; · (omega; done)) | (refine V.NIf.no ?_ ?_; · (omega; done)) | refine V.NCond.mk ?_ | refine V.NPick.l ?_ | refine V.NIf.not_ ?_ | refine V.NIf.dec_ ?_ | refine V.a4 ?_ | refine V.a5 ?_ | refine V.NIf.mk (fun _ => ?_) (fun _ => ?_) | refine V.a7 ?_ | refine V.a8 ?_ | refine V.a9 ?_ | refine V.NBoth.mk ?_ ?_ | refine V.b1 ?_ | refine V.b2 ?_ | refine V.NTF.dec ?_ | refine V.b3 ?_ | refine V.b4 ?_ | (refine NIdx.mk ⟨k, rfl, by omega, ?_⟩) | (first | refine V.Fn.k0 (oc) rfl ?_ | refine V.Fn.q0 (oc) rfl ?_ | refine V.Fn.a0 (oc) rfl ?_) | (refine V.NDraw.any (by kernel_rfl) ?_) | fail)
        all_goals (conv => whnf)
        all_goals exact V.NBack.at_ (k + 1) [] (by omega) (by omega) V.S_ rfl V.S_ V.S_ V.S_
      · rw [if_neg (fun z => hL (lt.2 z))] at t2
        repeat' ((conv => whnf); first | (refine V.NIf.yes ?_ ?_; · (decide; done)) | (refine V.NIf.no ?_ ?_; · (decide; done)) | (refine V.NIf.yes ?_ ?_; · (omega; done)) | (refine V.NIf.no ?_ ?_; · (omega; done)) | refine V.NCond.mk ?_ | refine V.NPick.l ?_ | refine V.NIf.not_ ?_ | refine V.NIf.dec_ ?_ | refine V.a4 ?_ | refine V.a5 ?_ | refine V.NIf.mk (fun _ => ?_) (fun _ => ?_) | refine V.a7 ?_ | refine V.a8 ?_ | refine V.a9 ?_ | refine V.NBoth.mk ?_ ?_ | refine V.b1 ?_ | refine V.b2 ?_ | refine V.NTF.dec ?_ | refine V.b3 ?_ | refine V.b4 ?_ | (refine NIdx.mk ⟨k, rfl, by omega, ?_⟩) | (first | refine V.Fn.k0 (oc) rfl ?_ | refine V.Fn.q0 (oc) rfl ?_ | refine V.Fn.a0 (oc) rfl ?_) | (refine V.NDraw.any (by kernel_rfl) ?_) | fail)
        all_goals (conv => whnf)
        all_goals exact V.NBack.at_ (k + 1) [] (by omega) (by omega) V.S_ rfl V.S_ V.S_ V.S_
    · obtain rfl : k = l.length := by omega
      rw [List.take_length]
      by_cases hw : w = 0
      · obtain ⟨a0, a1, a2⟩ := s3 hw
        repeat' ((conv => whnf); first | (refine V.NIf.yes ?_ ?_; · (decide; done)) | (refine V.NIf.no ?_ ?_; · (decide; done)) | (refine V.NIf.yes ?_ ?_; · (exact hw; done)) | (refine V.NIf.no ?_ ?_; · (exact hw; done)) | (refine V.NIf.yes ?_ ?_; · (rfl; done)) | refine V.NCond.mk ?_ | refine V.NPick.l ?_ | refine V.NIf.not_ ?_ | refine V.NIf.dec_ ?_ | refine V.a4 ?_ | refine V.a5 ?_ | refine V.NIf.mk (fun _ => ?_) (fun _ => ?_) | refine V.a7 ?_ | refine V.a8 ?_ | refine V.a9 ?_ | refine V.NBoth.mk ?_ ?_ | refine V.b1 ?_ | refine V.b2 ?_ | refine V.NTF.dec ?_ | refine V.b3 ?_ | refine V.b4 ?_ | ((first | refine V.Fn.k (s1) [5] rfl ?_ ?_ | refine V.Fn.q (s1) [5] rfl ?_ ?_ | refine V.Fn.a (s1) [5] rfl ?_ ?_); · exact V.D_) | ((first | refine V.Fn.k (s2) [6] rfl ?_ ?_ | refine V.Fn.q (s2) [6] rfl ?_ ?_ | refine V.Fn.a (s2) [6] rfl ?_ ?_); · exact V.D_) | ((first | refine V.Fn.k (a2) [4] rfl ?_ ?_ | refine V.Fn.q (a2) [4] rfl ?_ ?_ | refine V.Fn.a (a2) [4] rfl ?_ ?_); · exact V.D_) | (refine V.NDraw.any (by kernel_rfl) ?_) | fail)
        all_goals (conv => whnf)
        all_goals exact ⟨true, rfl, iff_of_true (by first | omega | decide) rfl⟩
      · repeat' ((conv => whnf); first | (refine V.NIf.yes ?_ ?_; · (decide; done)) | (refine V.NIf.no ?_ ?_; · (decide; done)) | (refine V.NIf.yes ?_ ?_; · (exact hw; done)) | (refine V.NIf.no ?_ ?_; · (exact hw; done)) | (refine V.NIf.yes ?_ ?_; · (rfl; done)) | refine V.NCond.mk ?_ | refine V.NPick.l ?_ | refine V.NIf.not_ ?_ | refine V.NIf.dec_ ?_ | refine V.a4 ?_ | refine V.a5 ?_ | refine V.NIf.mk (fun _ => ?_) (fun _ => ?_) | refine V.a7 ?_ | refine V.a8 ?_ | refine V.a9 ?_ | refine V.NBoth.mk ?_ ?_ | refine V.b1 ?_ | refine V.b2 ?_ | refine V.NTF.dec ?_ | refine V.b3 ?_ | refine V.b4 ?_ | ((first | refine V.Fn.k (s1) [5] rfl ?_ ?_ | refine V.Fn.q (s1) [5] rfl ?_ ?_ | refine V.Fn.a (s1) [5] rfl ?_ ?_); · exact V.D_) | ((first | refine V.Fn.k (s2) [6] rfl ?_ ?_ | refine V.Fn.q (s2) [6] rfl ?_ ?_ | refine V.Fn.a (s2) [6] rfl ?_ ?_); · exact V.D_) | (refine V.NDraw.any (by kernel_rfl) ?_) | fail)
        all_goals (conv => whnf)
        all_goals exact ⟨true, rfl, iff_of_true (by first | omega | decide) rfl⟩
  · have hw : ¬ Rp.aE c l today b = 0 := fun h => hx (Rp.aE_ok h).2.1
    rw [show Rp.frV l = [] from if_neg hx, show Rp.toV l = [] from if_neg hx] at c2
    generalize Rp.aE c l today b = w at *
    generalize F.checks l = v at *
    refine V.Fn.mk_ V.Tok V.mixed Try.func6 rfl Try.ntmps6 (by kernel_rfl) rfl rfl ?_
    repeat' ((conv => whnf); first | (refine V.NIf.yes ?_ ?_; · (decide; done)) | (refine V.NIf.no ?_ ?_; · (decide; done)) | (refine V.NIf.yes ?_ ?_; · (exact hw; done)) | (refine V.NIf.no ?_ ?_; · (exact hw; done)) | (refine V.NIf.yes ?_ ?_; · (exact hx; done)) | (refine V.NIf.no ?_ ?_; · (exact hx; done)) | refine V.NCond.mk ?_ | refine V.NPick.l ?_ | refine V.NIf.not_ ?_ | refine V.NIf.dec_ ?_ | refine V.a4 ?_ | refine V.a5 ?_ | refine V.NIf.mk (fun _ => ?_) (fun _ => ?_) | refine V.a7 ?_ | refine V.a8 ?_ | refine V.a9 ?_ | refine V.NBoth.mk ?_ ?_ | refine V.b1 ?_ | refine V.b2 ?_ | refine V.NTF.dec ?_ | refine V.b3 ?_ | refine V.b4 ?_ | ((first | refine V.FnR.k_ (c1) [0, 1, 2] rfl ?_ ?_ | refine V.FnR.a_ (c1) [0, 1, 2] rfl ?_ ?_); · exact V.D_) | ((first | refine V.FnR.k_ (c2) [1] rfl ?_ ?_ | refine V.FnR.a_ (c2) [1] rfl ?_ ?_); · exact V.D_) | (first | refine V.Fn.k0 (v_repBegun) rfl ?_ | refine V.Fn.q0 (v_repBegun) rfl ?_ | refine V.Fn.a0 (v_repBegun) rfl ?_) | (first | refine V.Fn.k0 (v_fbegun) rfl ?_ | refine V.Fn.q0 (v_fbegun) rfl ?_ | refine V.Fn.a0 (v_fbegun) rfl ?_) | (refine V.NWrap.ok (by decide) (by decide) ?_) | (refine V.NDraw.any (by kernel_rfl) ?_) | fail)
    all_goals (conv => whnf)
    all_goals exact ⟨true, rfl, iff_of_true (by first | omega | decide) rfl⟩
end Go.Proofs.Ytdehibmofmfkbaa

/- The statement of ReportAll: for every input the call returns true and its input reads as it did. No condition. -/
namespace Go.Proofs.Ytdehibmofmfkbaa.reportAll
open Go.ChangeShapes Go.WideShapes Go.ChangeAt Go.RowKit

theorem own : ownKnob Try.prog.godebug = none := by kernel_rfl

set_option maxRecDepth 100000 in
theorem lifted (os : Os) (started : os.Started) (H : Type) (enc : TypeId × Value → H) :
    ReturnsInHanded {} Try.checked os 6 .any (Rows.reportAllSpec.pre6 enc Try.prog Try.f6 Rows.reportAllRow.domain false) (Rows.reportAllSpec.post enc Try.prog Try.f6 false true false false) := by
  refine returnsInHanded_of_change (C := Try.checked) own started (by kernel_rfl) Try.func6
    (ChangeSpec.witness6 (enc := enc) (C := Try.checked) false ⟨#[], #[.agg #[.int .i64 0, .slice none 0 0], .slice none 0 0, .int .i64 0, .slice none 0 0], []⟩ 8 (by kernel_rfl) (by kernel_rfl) (by kernel_rfl) (by kernel_rfl)) ?_
  intro W base args ds gs before hval0 hW _ _
  have hval : ∀ (j : Nat) t v, Try.f6.params[j]? = some t → args[j]? = some v → Value.okWide Try.prog W .any base t v := hval0
  have hW' := hW
  obtain ⟨p, q, hA0, hV, rfl, hfz, hnd⟩ := hW
  have hA : DataW.TrodAll enc Try.prog W 0 (fun _ => true) true Try.f6.params.toList args.toList ds p := hA0
  rw [Try.params6] at hA hval
  obtain ⟨v0, vs0, d0, ds0, p0, q0, hargs, rfl, rfl, h0, r0⟩ := trodAll_cons hA
  obtain ⟨v1, vs1, d1, ds1, p1, q1, rfl, rfl, rfl, h1, r1⟩ := trodAll_cons r0
  obtain ⟨v2, vs2, d2, ds2, p2, q2, rfl, rfl, rfl, h2, r2⟩ := trodAll_cons r1
  obtain ⟨v3, vs3, d3, ds3, p3, q3, rfl, rfl, rfl, h3, r3⟩ := trodAll_cons r2
  obtain ⟨rfl, rfl, rfl⟩ := trodAll_nil r3
  obtain rfl : args = #[v0, v1, v2, v3] := by cases args; simp_all
  obtain ⟨rfl, rfl⟩ := trodVars_none hV
  obtain ⟨c0, u0, rfl, hl0, w0⟩ := open_cl (hval 0 24 v0 rfl rfl) h0
  obtain ⟨l1, hl1, w1⟩ := open_fls (hval 1 25 v1 rfl rfl) h1
  obtain ⟨a2, rfl, rfl, rfl, w2⟩ := open_int Try.underlying3 (hval 2 3 v2 rfl rfl) h2
  obtain ⟨l3, hl3, w3⟩ := open_il (hval 3 22 v3 rfl rfl) h3
  clear hval0
  simp only [List.append_nil] at hW'
  refine ((v_reportAll c0 w0 l1 w1 a2 w2 l3 w3).c W (fun i => [u0, v1, v3][i]?) [_, _, _, _] (fun i o ho => by
      rcases i with _ | i
      · obtain rfl := Option.some.inj ho
        exact ⟨u0, rfl, hl0⟩
      rcases i with _ | i
      · obtain rfl := Option.some.inj ho
        exact ⟨v1, rfl, hl1⟩
      rcases i with _ | i
      · obtain rfl := Option.some.inj ho
        exact ⟨v3, rfl, hl3⟩
      simp at ho
) ⟨_, _, rfl, ⟨[_, _], ⟨_, _, rfl, rfl, _, _, rfl, ⟨rfl, hl0.one⟩, rfl⟩, rfl⟩, ⟨_, _, rfl, ⟨rfl, hl1.one⟩, ⟨_, _, rfl, rfl, ⟨_, _, rfl, ⟨rfl, hl3.one⟩, rfl⟩⟩⟩⟩).mono fun e W' ⟨he, hg0⟩ => ?_
  have hg := hg0.toBelow
  subst he
  exact ⟨_, rfl, post_of_below (pa := _) (pv := []) hW' (fun _ _ _ => (trodAll_cons_mk (shut_bool Try.underlying4 _) trodAll_mk0)) (fun sp hsp => all_stays laidOut (by kernel_rfl) hA0 (fun x hx => hg.same (hW'.lt x (by revert hx; simp))) (fun x hx => hsp x (by revert hx; simp))) (fun _ _ => rfl) (by simp)
    hg (ok_one (by kernel_rfl) rfl (okWide_bool_mk Try.underlying4 _))⟩

theorem over : Rows.reportAllRow.holds Try.pinned (OpenSpec.ofChange Rows.reportAllSpec) :=
  OpenClaim.holds_of_wide 6 Try.f6 rfl rfl rfl rfl rfl rfl rfl ⟨rfl, rfl, rfl, rfl, rfl⟩ rfl rfl rfl rfl rfl (by kernel_rfl) Try.func6 (by kernel_rfl)
    (of_decide_eq_true (by kernel_rfl)) (by unfold Func.isWrapper; first | (rw [if_pos (by decide +kernel)]; kernel_rfl) | (rw [if_neg (by decide +kernel)]; exact ⟨rfl, rfl⟩))
    (fun os started H enc _ => lifted os started H enc)

theorem proved : Rows.ReportAllSaid :=
  over
end Go.Proofs.Ytdehibmofmfkbaa.reportAll
