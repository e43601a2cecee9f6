/- The statement of ReportFiner: the call returns true for every input, and its input reads as it did. No condition. -/
import Derived.Test.YtdehibmofmfkbaaRows
import Derived.WalkKit
import Derived.ProofKit
import Derived.OpenShut
import Derived.Test.YtdehibmofmfkbaaZ1
import Derived.Test.YtdehibmofmfkbaaZ2
import Derived.Test.YtdehibmofmfkbaaZ3
import Derived.Test.YtdehibmofmfkbaaZ4
import Derived.Test.YtdehibmofmfkbaaZ5
set_option linter.unusedVariables false
set_option linter.unusedSimpArgs false
set_option linter.unusedSectionVars false
set_option maxRecDepth 100000

/- What ReportFiner answers: true. -/
namespace Go.Proofs.Ytdehibmofmfkbaa
open Go Go.RowKit V
set_option maxRecDepth 100000
set_option linter.unusedVariables false
set_option linter.unusedSimpArgs false
set_option maxHeartbeats 4000000 in
theorem v_reportFiner (c : Cl) (wc : WfCl c) (l : List Fl) (wl : ∀ f ∈ l, WfF f) (today : Int) (w_today : (Lit.int .i64 today).wf = true) (b : List Int) (wb : ∀ f ∈ b, (Lit.int .i64 f).wf = true) (at_ : Int) (w_at_ : (Lit.int .i64 at_).wf = true) : V.Fn Try.prog 4 [.arr 1 c.hs.length (ga e1 c.hs), .arr 10 l.length (ga encF l), .arr 1 b.length (ga e1 b)] [.agg [.val (.int .i64 c.we), .ref 0], .one (.ref 1), .one (.val (.int .i64 today)), .one (.ref 2), .one (.val (.int .i64 at_))] (.bool true) := by
  refine V.Fn.lim (by kernel_rfl) fun hl => ?_
  have hc := hl 0 _ _ _ rfl
  have hn := hl 2 _ _ _ rfl
  clear hl wc wl wb
  have c1 := v_rages c l today b hc hn
  by_cases hw : Rp.aE c l today b = 0
  · by_cases hat : 0 ≤ at_ ∧ at_ < b.length
    · obtain ⟨p, rfl⟩ : ∃ p : Nat, at_ = p := ⟨at_.toNat, by omega⟩
      have hpb : p < b.length := by omega
      obtain ⟨w1, w2, w3, w4⟩ := Rp.aE_ok hw
      have E := Rp.eE_ok w4
      have El := E.le
      have hw2 : Rp.aE c l today (Rp.less b p) = 0 := (Rp.aE_4 w1 w2 w3).trans (Rp.eE_of (Rp.less_edges E))
      have ll := Rp.less_len hpb
      have n60 := F.checks_len (l := l) (by omega)
      have c2 := v_rages c l today (Rp.less b p) hc (by omega)
      have ag := Rp.ag_less (c := c) (td := today) (l := l) E.up hpb
      have a1 := Rp.ag_len c today b l
      have a2 := Rp.ag_len c today (Rp.less b p) l
      have a3 := Rp.ag_bd0 c today b l
      rw [Rp.aV_yes hw, hw] at c1
      rw [Rp.aV_yes hw2, hw2] at c2
      generalize Rp.ag c today (Rp.less b p) l = B at *
      generalize Rp.ag c today b l = A at *
      have eL : b.take p ++ b.drop (p + 1) = Rp.less b p := rfl
      generalize Rp.less b p = L at *
      clear w1 w2 w3 w4 hw hw2 E
      have lt : (b.take p).length = p := by rw [List.length_take]; omega
      have g1 : ∀ j, j < p → ga e1 (b.take p) (0 + j) = ga e1 b (0 + j) := fun j hj => V.ga_take (by omega) (by omega)
      have g2 : ∀ j, j < p → ga e1 L j = ga e1 (b.take p) j := fun j hj => by rw [← eL]; exact V.ga_left (by rw [List.length_take]; omega)
      have g3 : ∀ j, j < b.length - (p + 1) → ga e1 L (p + j) = ga e1 b (p + 1 + j) := fun j hj => by
        rw [← eL, V.ga_right (by rw [List.length_take]; omega) (by simp; omega), V.ga_drop (by omega)]
      clear eL
      refine V.Fn.mk_ V.Tok V.mixed Try.func4 rfl Try.ntmps4 (by kernel_rfl) rfl rfl ?_
      repeat' ((conv => whnf); first | (refine V.NIf.yes ?_ ?_; · (decide; done)) | (refine V.NIf.no ?_ ?_; · (decide; done)) | (refine V.NIf.yes ?_ ?_; · (omega; done)) | (refine V.NIf.no ?_ ?_; · (omega; done)) | refine V.NCond.mk ?_ | refine V.NPick.l ?_ | refine V.NIf.not_ ?_ | refine V.NIf.dec_ ?_ | refine V.a4 ?_ | refine V.a5 ?_ | refine V.NIf.mk (fun _ => ?_) (fun _ => ?_) | refine V.a7 ?_ | refine V.a8 ?_ | refine V.a9 ?_ | refine V.NBoth.mk ?_ ?_ | refine V.b1 ?_ | refine V.b2 ?_ | refine V.NTF.dec ?_ | refine V.b3 ?_ | refine V.b4 ?_ | ((first | refine V.FnR.k_ (c1) [0, 1, 2] rfl ?_ ?_ | refine V.FnR.a_ (c1) [0, 1, 2] rfl ?_ ?_); · exact V.D_) | (first | refine V.Fn.k0 (v_repBegun) rfl ?_ | refine V.Fn.q0 (v_repBegun) rfl ?_ | refine V.Fn.a0 (v_repBegun) rfl ?_) | (refine NCut.mk ⟨0, p, rfl, rfl, by omega, by omega, ?_⟩) | (refine NCut.mk ⟨p + 1, _, by dsimp only [loIs]; omega, rfl, by omega, by omega, ?_⟩) | (refine NOne.mk ?_ ?_; · (intro k hk; rfl)) | (refine NApp.to_ (en := e1) (b.take p) (by omega) (by omega) (by simp; omega) (fun j hj => absurd hj (Nat.not_lt_zero _)) (fun j hj => g1 j (by omega)) ?_) | (refine NApp.to_ (en := e1) L (by omega) (by omega) (by simp; omega) (fun j hj => g2 j (by omega)) (fun j hj => by rw [lt]; exact g3 j (by omega)) ?_) | ((first | refine V.FnR.k_ (c2) [0, 1, 8] rfl ?_ ?_ | refine V.FnR.a_ (c2) [0, 1, 8] rfl ?_ ?_); · exact V.D_) | ((first | refine V.FnR.k_ (c2) [0, 1, 9] rfl ?_ ?_ | refine V.FnR.a_ (c2) [0, 1, 9] rfl ?_ ?_); · exact V.D_) | ((first | refine V.FnR.k_ (c2) [0, 1, 7] rfl ?_ ?_ | refine V.FnR.a_ (c2) [0, 1, 7] rfl ?_ ?_); · exact V.D_) | (refine V.NDraw.any (by kernel_rfl) ?_) | fail)
      all_goals (conv => whnf)
      all_goals refine V.NLoop.auto (fun (i : Nat) => [(16, .one (.val (.int .i64 i)))]) (fun (i : Nat) => []) [] [] (fun (i : Nat) => b.length - i) (fun (i : Nat) => i ≤ b.length) 0 (Nat.zero_le _) V.S_ V.S_ (fun _ => ⟨rfl, rfl⟩) ?_; (conv => whnf); refine ⟨⟨rfl, rfl⟩, ?_⟩
      all_goals
        rintro i hi
        by_cases hlt : i < b.length
        · have agi := ag i hlt
          have b1 := fun (j : Nat) (hj : j < A.length) => a3 _ (getD_mem hj)
          unfold Rp.mrg at agi
          clear g1 g2 g3 ag c1 c2
          rcases Nat.lt_trichotomy i p with q | q | q
          · rw [if_pos q] at agi
            repeat' ((conv => whnf); first | (refine V.NIf.yes ?_ ?_; · (decide; done)) | (refine V.NIf.no ?_ ?_; · (decide; done)) | (refine V.NIf.yes ?_ ?_; · (omega; done)) | (refine V.NIf.no ?_ ?_; · (omega; done)) | refine V.NCond.mk ?_ | refine V.NPick.l ?_ | refine V.NIf.not_ ?_ | refine V.NIf.dec_ ?_ | refine V.a4 ?_ | refine V.a5 ?_ | refine V.NIf.mk (fun _ => ?_) (fun _ => ?_) | refine V.a7 ?_ | refine V.a8 ?_ | refine V.a9 ?_ | refine V.NBoth.mk ?_ ?_ | refine V.b1 ?_ | refine V.b2 ?_ | refine V.NTF.dec ?_ | refine V.b3 ?_ | refine V.b4 ?_ | (refine NIdx.mk ⟨i, rfl, by omega, ?_⟩) | (refine V.NDraw.any (by kernel_rfl) ?_) | fail)
            all_goals (conv => whnf)
            all_goals exact V.NBack.at_ (i + 1) [] (by omega) (by omega) V.S_ rfl V.S_ V.S_ V.S_
          · rw [if_neg (by omega), if_pos q] at agi
            have b2 := b1 p (by omega)
            have b3 := b1 (p + 1) (by omega)
            subst q
            repeat' ((conv => whnf); first | (refine V.NIf.yes ?_ ?_; · (decide; done)) | (refine V.NIf.no ?_ ?_; · (decide; done)) | (refine V.NIf.yes ?_ ?_; · (omega; done)) | (refine V.NIf.no ?_ ?_; · (omega; done)) | refine V.NCond.mk ?_ | refine V.NPick.l ?_ | refine V.NIf.not_ ?_ | refine V.NIf.dec_ ?_ | refine V.a4 ?_ | refine V.a5 ?_ | refine V.NIf.mk (fun _ => ?_) (fun _ => ?_) | refine V.a7 ?_ | refine V.a8 ?_ | refine V.a9 ?_ | refine V.NBoth.mk ?_ ?_ | refine V.b1 ?_ | refine V.b2 ?_ | refine V.NTF.dec ?_ | refine V.b3 ?_ | refine V.b4 ?_ | (refine NIdx.mk ⟨i, rfl, by omega, ?_⟩) | (refine NIdx.mk ⟨i + 1, rfl, by omega, ?_⟩) | (refine V.NDraw.any (by kernel_rfl) ?_) | fail)
            all_goals (conv => whnf)
            all_goals exact V.NBack.at_ (i + 1) [] (by omega) (by omega) V.S_ rfl V.S_ V.S_ V.S_
          · rw [if_neg (by omega), if_neg (by omega)] at agi
            repeat' ((conv => whnf); first | (refine V.NIf.yes ?_ ?_; · (decide; done)) | (refine V.NIf.no ?_ ?_; · (decide; done)) | (refine V.NIf.yes ?_ ?_; · (omega; done)) | (refine V.NIf.no ?_ ?_; · (omega; done)) | refine V.NCond.mk ?_ | refine V.NPick.l ?_ | refine V.NIf.not_ ?_ | refine V.NIf.dec_ ?_ | refine V.a4 ?_ | refine V.a5 ?_ | refine V.NIf.mk (fun _ => ?_) (fun _ => ?_) | refine V.a7 ?_ | refine V.a8 ?_ | refine V.a9 ?_ | refine V.NBoth.mk ?_ ?_ | refine V.b1 ?_ | refine V.b2 ?_ | refine V.NTF.dec ?_ | refine V.b3 ?_ | refine V.b4 ?_ | (refine NIdx.mk ⟨i, rfl, by omega, ?_⟩) | (refine NIdx.mk ⟨i + 1, rfl, by omega, ?_⟩) | (refine V.NDraw.any (by kernel_rfl) ?_) | fail)
            all_goals (conv => whnf)
            all_goals exact V.NBack.at_ (i + 1) [] (by omega) (by omega) V.S_ rfl V.S_ V.S_ V.S_
        · obtain rfl : i = b.length := by omega
          repeat' ((conv => whnf); first | (refine V.NIf.yes ?_ ?_; · (decide; done)) | (refine V.NIf.no ?_ ?_; · (decide; done)) | (refine V.NIf.yes ?_ ?_; · (omega; done)) | (refine V.NIf.no ?_ ?_; · (omega; done)) | refine V.NCond.mk ?_ | refine V.NPick.l ?_ | refine V.NIf.not_ ?_ | refine V.NIf.dec_ ?_ | refine V.a4 ?_ | refine V.a5 ?_ | refine V.NIf.mk (fun _ => ?_) (fun _ => ?_) | refine V.a7 ?_ | refine V.a8 ?_ | refine V.a9 ?_ | refine V.NBoth.mk ?_ ?_ | refine V.b1 ?_ | refine V.b2 ?_ | refine V.NTF.dec ?_ | refine V.b3 ?_ | refine V.b4 ?_ | (refine V.NDraw.any (by kernel_rfl) ?_) | fail)
          all_goals (conv => whnf)
    · rw [hw] at c1
      generalize Rp.aV c l today b = A at *
      refine V.Fn.mk_ V.Tok V.mixed Try.func4 rfl Try.ntmps4 (by kernel_rfl) rfl rfl ?_
      repeat' ((conv => whnf); first | (refine V.NIf.yes ?_ ?_; · (decide; done)) | (refine V.NIf.no ?_ ?_; · (decide; done)) | (refine V.NIf.yes ?_ ?_; · (omega; done)) | (refine V.NIf.no ?_ ?_; · (omega; done)) | refine V.NCond.mk ?_ | refine V.NPick.l ?_ | refine V.NIf.not_ ?_ | refine V.NIf.dec_ ?_ | refine V.a4 ?_ | refine V.a5 ?_ | refine V.NIf.mk (fun _ => ?_) (fun _ => ?_) | refine V.a7 ?_ | refine V.a8 ?_ | refine V.a9 ?_ | refine V.NBoth.mk ?_ ?_ | refine V.b1 ?_ | refine V.b2 ?_ | refine V.NTF.dec ?_ | refine V.b3 ?_ | refine V.b4 ?_ | ((first | refine V.FnR.k_ (c1) [0, 1, 2] rfl ?_ ?_ | refine V.FnR.a_ (c1) [0, 1, 2] rfl ?_ ?_); · exact V.D_) | (first | refine V.Fn.k0 (v_repBegun) rfl ?_ | refine V.Fn.q0 (v_repBegun) rfl ?_ | refine V.Fn.a0 (v_repBegun) rfl ?_) | (refine V.NDraw.any (by kernel_rfl) ?_) | fail)
      all_goals (conv => whnf)
  · rw [Rp.aV_no hw] at c1
    generalize Rp.aE c l today b = w at *
    refine V.Fn.mk_ V.Tok V.mixed Try.func4 rfl Try.ntmps4 (by kernel_rfl) rfl rfl ?_
    repeat' ((conv => whnf); first | (refine V.NIf.yes ?_ ?_; · (decide; done)) | (refine V.NIf.no ?_ ?_; · (decide; done)) | (refine V.NIf.yes ?_ ?_; · (exact hw; done)) | (refine V.NIf.no ?_ ?_; · (exact hw; done)) | refine V.NCond.mk ?_ | refine V.NPick.l ?_ | refine V.NIf.not_ ?_ | refine V.NIf.dec_ ?_ | refine V.a4 ?_ | refine V.a5 ?_ | refine V.NIf.mk (fun _ => ?_) (fun _ => ?_) | refine V.a7 ?_ | refine V.a8 ?_ | refine V.a9 ?_ | refine V.NBoth.mk ?_ ?_ | refine V.b1 ?_ | refine V.b2 ?_ | refine V.NTF.dec ?_ | refine V.b3 ?_ | refine V.b4 ?_ | ((first | refine V.FnR.k_ (c1) [0, 1, 2] rfl ?_ ?_ | refine V.FnR.a_ (c1) [0, 1, 2] rfl ?_ ?_); · exact V.D_) | (first | refine V.Fn.k0 (v_repBegun) rfl ?_ | refine V.Fn.q0 (v_repBegun) rfl ?_ | refine V.Fn.a0 (v_repBegun) rfl ?_) | (refine V.NDraw.any (by kernel_rfl) ?_) | fail)
    all_goals (conv => whnf)
    all_goals exact ⟨true, rfl, iff_of_true (by decide) rfl⟩
end Go.Proofs.Ytdehibmofmfkbaa

/- The statement of ReportFiner: for every input the call returns true and its input reads as it did. No condition. -/
namespace Go.Proofs.Ytdehibmofmfkbaa.reportFiner
open Go.ChangeShapes Go.WideShapes Go.ChangeAt Go.RowKit

theorem own : ownKnob Try.prog.godebug = none := by kernel_rfl

set_option maxRecDepth 100000 in
theorem lifted (os : Os) (started : os.Started) (H : Type) (enc : TypeId × Value → H) :
    ReturnsInHanded {} Try.checked os 4 .any (Rows.reportFinerSpec.pre6 enc Try.prog Try.f4 Rows.reportFinerRow.domain false) (Rows.reportFinerSpec.post enc Try.prog Try.f4 false true false false) := by
  refine returnsInHanded_of_change (C := Try.checked) own started (by kernel_rfl) Try.func4
    (ChangeSpec.witness6 (enc := enc) (C := Try.checked) false ⟨#[], #[.agg #[.int .i64 0, .slice none 0 0], .slice none 0 0, .int .i64 0, .slice none 0 0, .int .i64 0], []⟩ 8 (by kernel_rfl) (by kernel_rfl) (by kernel_rfl) (by kernel_rfl)) ?_
  intro W base args ds gs before hval0 hW _ _
  have hval : ∀ (j : Nat) t v, Try.f4.params[j]? = some t → args[j]? = some v → Value.okWide Try.prog W .any base t v := hval0
  have hW' := hW
  obtain ⟨p, q, hA0, hV, rfl, hfz, hnd⟩ := hW
  have hA : DataW.TrodAll enc Try.prog W 0 (fun _ => true) true Try.f4.params.toList args.toList ds p := hA0
  rw [Try.params4] at hA hval
  obtain ⟨v0, vs0, d0, ds0, p0, q0, hargs, rfl, rfl, h0, r0⟩ := trodAll_cons hA
  obtain ⟨v1, vs1, d1, ds1, p1, q1, rfl, rfl, rfl, h1, r1⟩ := trodAll_cons r0
  obtain ⟨v2, vs2, d2, ds2, p2, q2, rfl, rfl, rfl, h2, r2⟩ := trodAll_cons r1
  obtain ⟨v3, vs3, d3, ds3, p3, q3, rfl, rfl, rfl, h3, r3⟩ := trodAll_cons r2
  obtain ⟨v4, vs4, d4, ds4, p4, q4, rfl, rfl, rfl, h4, r4⟩ := trodAll_cons r3
  obtain ⟨rfl, rfl, rfl⟩ := trodAll_nil r4
  obtain rfl : args = #[v0, v1, v2, v3, v4] := by cases args; simp_all
  obtain ⟨rfl, rfl⟩ := trodVars_none hV
  obtain ⟨c0, u0, rfl, hl0, w0⟩ := open_cl (hval 0 24 v0 rfl rfl) h0
  obtain ⟨l1, hl1, w1⟩ := open_fls (hval 1 25 v1 rfl rfl) h1
  obtain ⟨a2, rfl, rfl, rfl, w2⟩ := open_int Try.underlying3 (hval 2 3 v2 rfl rfl) h2
  obtain ⟨l3, hl3, w3⟩ := open_il (hval 3 22 v3 rfl rfl) h3
  obtain ⟨a4, rfl, rfl, rfl, w4⟩ := open_int Try.underlying3 (hval 4 3 v4 rfl rfl) h4
  clear hval0
  simp only [List.append_nil] at hW'
  refine ((v_reportFiner c0 w0 l1 w1 a2 w2 l3 w3 a4 w4).c W (fun i => [u0, v1, v3][i]?) [_, _, _, _, _] (fun i o ho => by
      rcases i with _ | i
      · obtain rfl := Option.some.inj ho
        exact ⟨u0, rfl, hl0⟩
      rcases i with _ | i
      · obtain rfl := Option.some.inj ho
        exact ⟨v1, rfl, hl1⟩
      rcases i with _ | i
      · obtain rfl := Option.some.inj ho
        exact ⟨v3, rfl, hl3⟩
      simp at ho
) ⟨_, _, rfl, ⟨[_, _], ⟨_, _, rfl, rfl, _, _, rfl, ⟨rfl, hl0.one⟩, rfl⟩, rfl⟩, ⟨_, _, rfl, ⟨rfl, hl1.one⟩, ⟨_, _, rfl, rfl, ⟨_, _, rfl, ⟨rfl, hl3.one⟩, ⟨_, _, rfl, rfl, rfl⟩⟩⟩⟩⟩).mono fun e W' ⟨he, hg0⟩ => ?_
  have hg := hg0.toBelow
  subst he
  exact ⟨_, rfl, post_of_below (pa := _) (pv := []) hW' (fun _ _ _ => (trodAll_cons_mk (shut_bool Try.underlying4 _) trodAll_mk0)) (fun sp hsp => all_stays laidOut (by kernel_rfl) hA0 (fun x hx => hg.same (hW'.lt x (by revert hx; simp))) (fun x hx => hsp x (by revert hx; simp))) (fun _ _ => rfl) (by simp)
    hg (ok_one (by kernel_rfl) rfl (okWide_bool_mk Try.underlying4 _))⟩

theorem over : Rows.reportFinerRow.holds Try.pinned (OpenSpec.ofChange Rows.reportFinerSpec) :=
  OpenClaim.holds_of_wide 4 Try.f4 rfl rfl rfl rfl rfl rfl rfl ⟨rfl, rfl, rfl, rfl, rfl⟩ rfl rfl rfl rfl rfl (by kernel_rfl) Try.func4 (by kernel_rfl)
    (of_decide_eq_true (by kernel_rfl)) (by unfold Func.isWrapper; first | (rw [if_pos (by decide +kernel)]; kernel_rfl) | (rw [if_neg (by decide +kernel)]; exact ⟨rfl, rfl⟩))
    (fun os started H enc _ => lifted os started H enc)

theorem proved : Rows.ReportFinerSaid :=
  over
end Go.Proofs.Ytdehibmofmfkbaa.reportFiner
