/- The statement of ReportRate: the call returns true for every input, and its input reads as it did. No condition. -/
import Derived.Test.YtdehibmofmfkbaaRows
import Derived.WalkKit
import Derived.ProofKit
import Derived.OpenShut
import Derived.Test.YtdehibmofmfkbaaZ1
import Derived.Test.YtdehibmofmfkbaaZ2
import Derived.Test.YtdehibmofmfkbaaZ3
import Derived.Test.YtdehibmofmfkbaaZ4
import Derived.Test.YtdehibmofmfkbaaZ5
set_option linter.unusedVariables false
set_option linter.unusedSimpArgs false
set_option linter.unusedSectionVars false
set_option maxRecDepth 100000

/- What ReportRate answers: true. -/
namespace Go.Proofs.Ytdehibmofmfkbaa
open Go Go.RowKit V
set_option maxRecDepth 100000
set_option linter.unusedVariables false
set_option linter.unusedSimpArgs false
def Rp.Wh (l : List Fl) (k : Nat) : Prop := ∀ j, j < k → (l.getD j default).de = (l.getD j default).un
theorem Rp.wh_0 (l : List Fl) : Rp.Wh l 0 := fun j h => absurd h (Nat.not_lt_zero _)
theorem Rp.wh_s {l : List Fl} {k : Nat} : Rp.Wh l (k + 1) ↔ Rp.Wh l k ∧ (l.getD k default).de = (l.getD k default).un := by
  constructor
  · exact fun h => ⟨fun j hj => h j (by omega), h k (by omega)⟩
  · rintro ⟨a, b⟩ j hj
    rcases Nat.lt_or_ge j k with q | q
    · exact a j q
    · obtain rfl : j = k := by omega
      exact b
theorem Rp.wh_all {l : List Fl} : Rp.Wh l l.length ↔ ∀ f ∈ l, f.de = f.un := by
  constructor
  · intro h f hf
    obtain ⟨j, hj, rfl⟩ := List.getElem_of_mem hf
    have := h j hj
    rwa [getD_at hj] at this
  · exact fun h j hj => h _ (getD_mem hj)
set_option maxHeartbeats 4000000 in
theorem v_reportRate (l : List Fl) (wl : ∀ f ∈ l, WfF f) (i : Int) (w_i : (Lit.int .i64 i).wf = true) (units : Int) (w_units : (Lit.int .i64 units).wf = true) : V.Fn Try.prog 7 [.arr 10 l.length (ga encF l)] [.one (.ref 0), .one (.val (.int .i64 i)), .one (.val (.int .i64 units))] (.bool true) := by
  clear wl
  have c1 := v_rrate l
  by_cases hr : Rp.rE l = 0
  · obtain ⟨h1, h2⟩ := Rp.rE_ok hr
    have n60 := F.checks_len (l := l) (by omega)
    have ok := Pn.all_ok h1
    have bd := (Rp.rate_bd ok (by omega) n60).1
    have wh := (Rp.rate_whole ok (by omega)).trans Rp.wh_all.symm
    have mo : ∀ p, p < l.length → F.less (l.getD p default) units = 0 → Rp.rE (l.set p (F.addDe (l.getD p default) units)) = 0 ∧ Rp.dn l * 10000 / Rp.al l ≤ Rp.rV (l.set p (F.addDe (l.getD p default) units)) := fun p hp hu => by
      obtain ⟨q1, q2⟩ := Rp.rate_more h1 hp hu
      have q3 := Rp.rE_3 q1 (by rw [List.length_set]; exact h2)
      exact ⟨q3.1, by rw [q3.2]; exact q2⟩
    rw [hr, (Rp.rE_3 h1 h2).2] at c1
    generalize Rp.dn l * 10000 / Rp.al l = r at *
    refine V.Fn.mk_ V.Tok V.mixed Try.func7 rfl Try.ntmps7 (by kernel_rfl) rfl rfl ?_
    repeat' ((conv => whnf); first | (refine V.NIf.yes ?_ ?_; · (decide; done)) | (refine V.NIf.no ?_ ?_; · (decide; done)) | refine V.NCond.mk ?_ | refine V.NPick.l ?_ | refine V.NIf.not_ ?_ | refine V.NIf.dec_ ?_ | refine V.a4 ?_ | refine V.a5 ?_ | refine V.NIf.mk (fun _ => ?_) (fun _ => ?_) | refine V.a7 ?_ | refine V.a8 ?_ | refine V.a9 ?_ | refine V.NBoth.mk ?_ ?_ | refine V.b1 ?_ | refine V.b2 ?_ | refine V.NTF.dec ?_ | refine V.b3 ?_ | refine V.b4 ?_ | (first | refine V.Fn.k0 (v_repBegun) rfl ?_ | refine V.Fn.q0 (v_repBegun) rfl ?_ | refine V.Fn.a0 (v_repBegun) rfl ?_) | (first | refine V.Fn.k0 (v_fbegun) rfl ?_ | refine V.Fn.q0 (v_fbegun) rfl ?_ | refine V.Fn.a0 (v_fbegun) rfl ?_) | ((first | refine V.Fn.k (c1) [0] rfl ?_ ?_ | refine V.Fn.q (c1) [0] rfl ?_ ?_ | refine V.Fn.a (c1) [0] rfl ?_ ?_); · exact V.D_) | (refine V.NDraw.any (by kernel_rfl) ?_) | fail)
    all_goals (conv => whnf)
    refine V.NLoop.auto (fun (k : Nat) => [(10, .one (.val (.int .i64 k))), (9, .one (.prop (Rp.Wh l k)))]) (fun (k : Nat) => []) [] [] (fun (k : Nat) => l.length - k) (fun (k : Nat) => k ≤ l.length) 0 (Nat.zero_le _) (by (conv => whnf); exact ⟨rfl, iff_of_true rfl (Rp.wh_0 l), trivial⟩) V.S_ (fun _ => ⟨rfl, rfl⟩) ?_; (conv => whnf); refine ⟨⟨rfl, rfl⟩, ?_⟩
    rintro k hk
    have ws := Rp.wh_s (l := l) (k := k)
    by_cases hlt : k < l.length
    · clear mo wh
      by_cases hW : Rp.Wh l k
      · by_cases hd : (l.getD k default).de = (l.getD k default).un
        · have w1 := ws.2 ⟨hW, hd⟩
          repeat' ((conv => whnf); first | (refine V.NIf.yes ?_ ?_; · (decide; done)) | (refine V.NIf.no ?_ ?_; · (decide; done)) | (refine V.NIf.yes ?_ ?_; · (omega; done)) | (refine V.NIf.no ?_ ?_; · (omega; done)) | (refine V.NIf.yes ?_ ?_; · (exact hW; done)) | refine V.NCond.mk ?_ | refine V.NPick.l ?_ | refine V.NIf.not_ ?_ | refine V.NIf.dec_ ?_ | refine V.a4 ?_ | refine V.a5 ?_ | refine V.NIf.mk (fun _ => ?_) (fun _ => ?_) | refine V.a7 ?_ | refine V.a8 ?_ | refine V.a9 ?_ | refine V.NBoth.mk ?_ ?_ | refine V.b1 ?_ | refine V.b2 ?_ | refine V.NTF.dec ?_ | refine V.b3 ?_ | refine V.b4 ?_ | (refine NIdx.mk ⟨k, rfl, by omega, ?_⟩) | (refine V.NDraw.any (by kernel_rfl) ?_) | fail)
          all_goals (conv => whnf)
          all_goals exact V.NBack.at_ (k + 1) [] (by omega) (by omega) ⟨V.S_, ⟨iff_of_true hd w1, trivial⟩⟩ rfl V.S_ V.S_ V.S_
        · have w1 : ¬ Rp.Wh l (k + 1) := fun q => hd (ws.1 q).2
          repeat' ((conv => whnf); first | (refine V.NIf.yes ?_ ?_; · (decide; done)) | (refine V.NIf.no ?_ ?_; · (decide; done)) | (refine V.NIf.yes ?_ ?_; · (omega; done)) | (refine V.NIf.no ?_ ?_; · (omega; done)) | (refine V.NIf.yes ?_ ?_; · (exact hW; done)) | refine V.NCond.mk ?_ | refine V.NPick.l ?_ | refine V.NIf.not_ ?_ | refine V.NIf.dec_ ?_ | refine V.a4 ?_ | refine V.a5 ?_ | refine V.NIf.mk (fun _ => ?_) (fun _ => ?_) | refine V.a7 ?_ | refine V.a8 ?_ | refine V.a9 ?_ | refine V.NBoth.mk ?_ ?_ | refine V.b1 ?_ | refine V.b2 ?_ | refine V.NTF.dec ?_ | refine V.b3 ?_ | refine V.b4 ?_ | (refine NIdx.mk ⟨k, rfl, by omega, ?_⟩) | (refine V.NDraw.any (by kernel_rfl) ?_) | fail)
          all_goals (conv => whnf)
          all_goals exact V.NBack.at_ (k + 1) [] (by omega) (by omega) ⟨V.S_, ⟨iff_of_false hd w1, trivial⟩⟩ rfl V.S_ V.S_ V.S_
      · have w1 : ¬ Rp.Wh l (k + 1) := fun q => hW (ws.1 q).1
        repeat' ((conv => whnf); first | (refine V.NIf.yes ?_ ?_; · (decide; done)) | (refine V.NIf.no ?_ ?_; · (decide; done)) | (refine V.NIf.yes ?_ ?_; · (omega; done)) | (refine V.NIf.no ?_ ?_; · (omega; done)) | (refine V.NIf.no ?_ ?_; · (exact hW; done)) | refine V.NCond.mk ?_ | refine V.NPick.l ?_ | refine V.NIf.not_ ?_ | refine V.NIf.dec_ ?_ | refine V.a4 ?_ | refine V.a5 ?_ | refine V.NIf.mk (fun _ => ?_) (fun _ => ?_) | refine V.a7 ?_ | refine V.a8 ?_ | refine V.a9 ?_ | refine V.NBoth.mk ?_ ?_ | refine V.b1 ?_ | refine V.b2 ?_ | refine V.NTF.dec ?_ | refine V.b3 ?_ | refine V.b4 ?_ | (refine NIdx.mk ⟨k, rfl, by omega, ?_⟩) | (refine V.NDraw.any (by kernel_rfl) ?_) | fail)
        all_goals (conv => whnf)
        all_goals exact V.NBack.at_ (k + 1) [] (by omega) (by omega) ⟨V.S_, ⟨iff_of_false (by simp) w1, trivial⟩⟩ rfl V.S_ V.S_ V.S_
    · obtain rfl : k = l.length := by omega
      generalize hWW : Rp.Wh l l.length = W at *
      by_cases hi : 0 ≤ i ∧ i < l.length
      · obtain ⟨p, rfl⟩ : ∃ p : Nat, i = p := ⟨i.toNat, by omega⟩
        have hp : p < l.length := by omega
        by_cases hu : F.less (l.getD p default) units = 0
        · obtain ⟨m1, m2⟩ := mo p hp hu
          have c3 := v_deliver (l.getD p default) units
          rw [F.deliver_yes hu, hu] at c3
          have c4 := v_rrate (l.set p (F.addDe (l.getD p default) units))
          rw [m1] at c4
          generalize F.addDe (l.getD p default) units = g at *
          generalize Rp.rV (l.set p g) = s at *
          clear mo ws
          repeat' ((conv => whnf); first | (refine V.NIf.yes ?_ ?_; · (decide; done)) | (refine V.NIf.no ?_ ?_; · (decide; done)) | (refine V.NIf.yes ?_ ?_; · (omega; done)) | (refine V.NIf.no ?_ ?_; · (omega; done)) | refine V.NCond.mk ?_ | refine V.NPick.l ?_ | refine V.NIf.not_ ?_ | refine V.NIf.dec_ ?_ | refine V.a4 ?_ | refine V.a5 ?_ | refine V.NIf.mk (fun _ => ?_) (fun _ => ?_) | refine V.a7 ?_ | refine V.a8 ?_ | refine V.a9 ?_ | refine V.NBoth.mk ?_ ?_ | refine V.b1 ?_ | refine V.b2 ?_ | refine V.NTF.dec ?_ | refine V.b3 ?_ | refine V.b4 ?_ | (refine NIdx.mk ⟨p, rfl, by omega, ?_⟩) | (first | refine V.Fn.k0 (c3) rfl ?_ | refine V.Fn.q0 (c3) rfl ?_ | refine V.Fn.a0 (c3) rfl ?_) | (refine NOne.mk ?_ ?_; · (intro k hk; rfl)) | (refine NApp.all_ (en := encF) (by show l.length * 80 ≤ _; omega) (by omega) ?_) | (refine NPut.to (en := encF) g rfl rfl ?_) | ((first | refine V.Fn.k (c4) [3] rfl ?_ ?_ | refine V.Fn.q (c4) [3] rfl ?_ ?_ | refine V.Fn.a (c4) [3] rfl ?_ ?_); · exact (show _ from ⟨⟨rfl, (List.length_set).symm, fun k hk => rfl⟩, trivial⟩)) | (refine V.NDraw.any (by kernel_rfl) ?_) | fail)
          all_goals (conv => whnf)
          all_goals exact ⟨true, rfl, iff_of_true m2 rfl⟩
        · have c3 := v_deliver (l.getD p default) units
          rw [F.deliver_no hu] at c3
          generalize F.less (l.getD p default) units = u at *
          clear mo ws
          repeat' ((conv => whnf); first | (refine V.NIf.yes ?_ ?_; · (decide; done)) | (refine V.NIf.no ?_ ?_; · (decide; done)) | (refine V.NIf.yes ?_ ?_; · (omega; done)) | (refine V.NIf.no ?_ ?_; · (omega; done)) | (refine V.NIf.yes ?_ ?_; · (exact hu; done)) | (refine V.NIf.no ?_ ?_; · (exact hu; done)) | refine V.NCond.mk ?_ | refine V.NPick.l ?_ | refine V.NIf.not_ ?_ | refine V.NIf.dec_ ?_ | refine V.a4 ?_ | refine V.a5 ?_ | refine V.NIf.mk (fun _ => ?_) (fun _ => ?_) | refine V.a7 ?_ | refine V.a8 ?_ | refine V.a9 ?_ | refine V.NBoth.mk ?_ ?_ | refine V.b1 ?_ | refine V.b2 ?_ | refine V.NTF.dec ?_ | refine V.b3 ?_ | refine V.b4 ?_ | (refine NIdx.mk ⟨p, rfl, by omega, ?_⟩) | (first | refine V.Fn.k0 (c3) rfl ?_ | refine V.Fn.q0 (c3) rfl ?_ | refine V.Fn.a0 (c3) rfl ?_) | (refine V.NDraw.any (by kernel_rfl) ?_) | fail)
          all_goals (conv => whnf)
      · clear mo ws
        repeat' ((conv => whnf); first | (refine V.NIf.yes ?_ ?_; · (decide; done)) | (refine V.NIf.no ?_ ?_; · (decide; done)) | (refine V.NIf.yes ?_ ?_; · (omega; done)) | (refine V.NIf.no ?_ ?_; · (omega; done)) | refine V.NCond.mk ?_ | refine V.NPick.l ?_ | refine V.NIf.not_ ?_ | refine V.NIf.dec_ ?_ | refine V.a4 ?_ | refine V.a5 ?_ | refine V.NIf.mk (fun _ => ?_) (fun _ => ?_) | refine V.a7 ?_ | refine V.a8 ?_ | refine V.a9 ?_ | refine V.NBoth.mk ?_ ?_ | refine V.b1 ?_ | refine V.b2 ?_ | refine V.NTF.dec ?_ | refine V.b3 ?_ | refine V.b4 ?_ | (refine V.NDraw.any (by kernel_rfl) ?_) | fail)
        all_goals (conv => whnf)
  · obtain h0 : Rp.rV l = 0 := if_neg hr
    rw [h0] at c1
    generalize Rp.rE l = w at *
    refine V.Fn.mk_ V.Tok V.mixed Try.func7 rfl Try.ntmps7 (by kernel_rfl) rfl rfl ?_
    repeat' ((conv => whnf); first | (refine V.NIf.yes ?_ ?_; · (decide; done)) | (refine V.NIf.no ?_ ?_; · (decide; done)) | (refine V.NIf.yes ?_ ?_; · (exact hr; done)) | (refine V.NIf.no ?_ ?_; · (exact hr; done)) | refine V.NCond.mk ?_ | refine V.NPick.l ?_ | refine V.NIf.not_ ?_ | refine V.NIf.dec_ ?_ | refine V.a4 ?_ | refine V.a5 ?_ | refine V.NIf.mk (fun _ => ?_) (fun _ => ?_) | refine V.a7 ?_ | refine V.a8 ?_ | refine V.a9 ?_ | refine V.NBoth.mk ?_ ?_ | refine V.b1 ?_ | refine V.b2 ?_ | refine V.NTF.dec ?_ | refine V.b3 ?_ | refine V.b4 ?_ | ((first | refine V.Fn.k (c1) [0] rfl ?_ ?_ | refine V.Fn.q (c1) [0] rfl ?_ ?_ | refine V.Fn.a (c1) [0] rfl ?_ ?_); · exact V.D_) | (first | refine V.Fn.k0 (v_repBegun) rfl ?_ | refine V.Fn.q0 (v_repBegun) rfl ?_ | refine V.Fn.a0 (v_repBegun) rfl ?_) | (first | refine V.Fn.k0 (v_fbegun) rfl ?_ | refine V.Fn.q0 (v_fbegun) rfl ?_ | refine V.Fn.a0 (v_fbegun) rfl ?_) | (refine V.NDraw.any (by kernel_rfl) ?_) | fail)
    all_goals (conv => whnf)
    all_goals exact ⟨true, rfl, iff_of_true (by decide) rfl⟩
end Go.Proofs.Ytdehibmofmfkbaa

/- The statement of ReportRate: for every input the call returns true and its input reads as it did. No condition. -/
namespace Go.Proofs.Ytdehibmofmfkbaa.reportRate
open Go.ChangeShapes Go.WideShapes Go.ChangeAt Go.RowKit

theorem own : ownKnob Try.prog.godebug = none := by kernel_rfl

set_option maxRecDepth 100000 in
theorem lifted (os : Os) (started : os.Started) (H : Type) (enc : TypeId × Value → H) :
    ReturnsInHanded {} Try.checked os 7 .any (Rows.reportRateSpec.pre6 enc Try.prog Try.f7 Rows.reportRateRow.domain false) (Rows.reportRateSpec.post enc Try.prog Try.f7 false true false false) := by
  refine returnsInHanded_of_change (C := Try.checked) own started (by kernel_rfl) Try.func7
    (ChangeSpec.witness6 (enc := enc) (C := Try.checked) false ⟨#[], #[.slice none 0 0, .int .i64 0, .int .i64 0], []⟩ 8 (by kernel_rfl) (by kernel_rfl) (by kernel_rfl) (by kernel_rfl)) ?_
  intro W base args ds gs before hval0 hW _ _
  have hval : ∀ (j : Nat) t v, Try.f7.params[j]? = some t → args[j]? = some v → Value.okWide Try.prog W .any base t v := hval0
  have hW' := hW
  obtain ⟨p, q, hA0, hV, rfl, hfz, hnd⟩ := hW
  have hA : DataW.TrodAll enc Try.prog W 0 (fun _ => true) true Try.f7.params.toList args.toList ds p := hA0
  rw [Try.params7] at hA hval
  obtain ⟨v0, vs0, d0, ds0, p0, q0, hargs, rfl, rfl, h0, r0⟩ := trodAll_cons hA
  obtain ⟨v1, vs1, d1, ds1, p1, q1, rfl, rfl, rfl, h1, r1⟩ := trodAll_cons r0
  obtain ⟨v2, vs2, d2, ds2, p2, q2, rfl, rfl, rfl, h2, r2⟩ := trodAll_cons r1
  obtain ⟨rfl, rfl, rfl⟩ := trodAll_nil r2
  obtain rfl : args = #[v0, v1, v2] := by cases args; simp_all
  obtain ⟨rfl, rfl⟩ := trodVars_none hV
  obtain ⟨l0, hl0, w0⟩ := open_fls (hval 0 25 v0 rfl rfl) h0
  obtain ⟨a1, rfl, rfl, rfl, w1⟩ := open_int Try.underlying3 (hval 1 3 v1 rfl rfl) h1
  obtain ⟨a2, rfl, rfl, rfl, w2⟩ := open_int Try.underlying3 (hval 2 3 v2 rfl rfl) h2
  clear hval0
  simp only [List.append_nil] at hW'
  refine ((v_reportRate l0 w0 a1 w1 a2 w2).c W (fun i => [v0][i]?) [_, _, _] (fun i o ho => by
      rcases i with _ | i
      · obtain rfl := Option.some.inj ho
        exact ⟨v0, rfl, hl0⟩
      simp at ho
) ⟨_, _, rfl, ⟨rfl, hl0.one⟩, ⟨_, _, rfl, rfl, ⟨_, _, rfl, rfl, rfl⟩⟩⟩).mono fun e W' ⟨he, hg0⟩ => ?_
  have hg := hg0.toBelow
  subst he
  exact ⟨_, rfl, post_of_below (pa := _) (pv := []) hW' (fun _ _ _ => (trodAll_cons_mk (shut_bool Try.underlying4 _) trodAll_mk0)) (fun sp hsp => all_stays laidOut (by kernel_rfl) hA0 (fun x hx => hg.same (hW'.lt x (by revert hx; simp))) (fun x hx => hsp x (by revert hx; simp))) (fun _ _ => rfl) (by simp)
    hg (ok_one (by kernel_rfl) rfl (okWide_bool_mk Try.underlying4 _))⟩

theorem over : Rows.reportRateRow.holds Try.pinned (OpenSpec.ofChange Rows.reportRateSpec) :=
  OpenClaim.holds_of_wide 7 Try.f7 rfl rfl rfl rfl rfl rfl rfl ⟨rfl, rfl, rfl, rfl, rfl⟩ rfl rfl rfl rfl rfl (by kernel_rfl) Try.func7 (by kernel_rfl)
    (of_decide_eq_true (by kernel_rfl)) (by unfold Func.isWrapper; first | (rw [if_pos (by decide +kernel)]; kernel_rfl) | (rw [if_neg (by decide +kernel)]; exact ⟨rfl, rfl⟩))
    (fun os started H enc _ => lifted os started H enc)

theorem proved : Rows.ReportRateSaid :=
  over
end Go.Proofs.Ytdehibmofmfkbaa.reportRate
