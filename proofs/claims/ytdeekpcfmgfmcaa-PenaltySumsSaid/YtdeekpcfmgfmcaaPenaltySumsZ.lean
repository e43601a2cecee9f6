/- The statement of PenaltySums: the call returns true for every input, and its input reads as it did. No condition. -/
import Derived.Test.YtdeekpcfmgfmcaaRows
import Derived.WalkKit
import Derived.ProofKit
import Derived.OpenShut
import Derived.Test.YtdeekpcfmgfmcaaY1
import Derived.Test.YtdeekpcfmgfmcaaY2
import Derived.Test.YtdeekpcfmgfmcaaY3
import Derived.Test.YtdeekpcfmgfmcaaY4
import Derived.Test.YtdeekpcfmgfmcaaY5
import Derived.Test.YtdeekpcfmgfmcaaY6

/- What PenaltySums answers: true. -/
namespace Go.Proofs.Ytdeekpcfmgfmcaa
open Go Go.RowKit V
set_option maxRecDepth 100000
set_option linter.unusedVariables false
set_option linter.unusedSimpArgs false
set_option maxHeartbeats 4000000 in
theorem v_penaltySums (l : List Du) (wl : ∀ f ∈ l, WfD f) : V.Fn Try.prog 8 [.arr 3 l.length (ga encD l)] [.one (.ref 0)] (.bool true) := by
  refine V.Fn.lim (by kernel_rfl) fun hl => ?_
  have hn := hl 0 _ _ _ rfl
  clear hl wl
  have c1 := v_psum l hn
  have c2 := v_rpsum l hn
  have len : (Pn.suL l).length ≤ 31 := by
    unfold Pn.suL
    split
    · exact Pn.pos_len _ _
    · decide
  have c3 := v_sameposts (Pn.suL l) (Pn.suL l) (by omega)
  rw [show decide (Pn.suL l = Pn.suL l) = true from decide_eq_true rfl] at c3
  have c4 := v_bkCheck (Pn.suL l) (by omega)
  have k : Pn.suE l = 0 → Bk.chk (Pn.suL l) = 0 := Pn.su_chk
  generalize Bk.chk (Pn.suL l) = E at *
  generalize Pn.suE l = G at *
  generalize Pn.suL l = L at *
  refine V.Fn.mk_ V.Tok V.mixed Try.func8 rfl Try.ntmps8 (by kernel_rfl) rfl rfl ?_
  repeat' ((conv => whnf); first | (refine V.NIf.yes ?_ ?_; · (decide; done)) | (refine V.NIf.no ?_ ?_; · (decide; done)) | (refine V.NIf.yes ?_ ?_; · (simp only [true_and, and_true, and_self]; done)) | refine V.NCond.mk ?_ | refine V.NIf.not_ ?_ | refine V.NIf.dec_ ?_ | refine V.a4 ?_ | refine V.a5 ?_ | refine V.NIf.mk (fun _ => ?_) (fun _ => ?_) | refine V.a7 ?_ | refine V.a8 ?_ | refine V.a9 ?_ | refine V.NBoth.mk ?_ ?_ | refine V.b1 ?_ | refine V.b2 ?_ | refine V.NTF.dec ?_ | refine V.b3 ?_ | refine V.b4 ?_ | (first | refine V.Fn.k0 (v_penBegun) rfl ?_ | refine V.Fn.q0 (v_penBegun) rfl ?_ | refine V.Fn.a0 (v_penBegun) rfl ?_) | (first | refine V.Fn.k0 (v_bkBegun) rfl ?_ | refine V.Fn.q0 (v_bkBegun) rfl ?_ | refine V.Fn.a0 (v_bkBegun) rfl ?_) | ((first | refine V.FnR.k_ (c1) [0] rfl ?_ ?_ | refine V.FnR.a_ (c1) [0] rfl ?_ ?_); · exact V.D_) | ((first | refine V.FnR.k_ (c2) [0] rfl ?_ ?_ | refine V.FnR.a_ (c2) [0] rfl ?_ ?_); · exact V.D_) | ((first | refine V.Fn.k (c3) [1, 2] rfl ?_ ?_ | refine V.Fn.q (c3) [1, 2] rfl ?_ ?_ | refine V.Fn.a (c3) [1, 2] rfl ?_ ?_); · exact V.D_) | ((first | refine V.Fn.k (c4) [1] rfl ?_ ?_ | refine V.Fn.q (c4) [1] rfl ?_ ?_ | refine V.Fn.a (c4) [1] rfl ?_ ?_); · exact V.D_) | (refine V.NDraw.any (by kernel_rfl) ?_) | fail)
  all_goals (conv => whnf)
  all_goals first
    | (first | exact ⟨_, rfl, iff_of_true (by omega) rfl⟩ | (exfalso; omega) | exact ⟨_, rfl, by simp; omega⟩ | exact ⟨_, rfl, by simp⟩)
    | trace_state
end Go.Proofs.Ytdeekpcfmgfmcaa

/- The statement of PenaltySums: for every input the call returns true and its input reads as it did. No condition. -/
namespace Go.Proofs.Ytdeekpcfmgfmcaa.penaltySums
open Go.ChangeShapes Go.WideShapes Go.ChangeAt Go.RowKit

theorem own : ownKnob Try.prog.godebug = none := by kernel_rfl

set_option maxRecDepth 100000 in
theorem lifted (os : Os) (started : os.Started) (H : Type) (enc : TypeId × Value → H) :
    ReturnsInHanded {} Try.checked os 8 .any (Rows.penaltySumsSpec.pre6 enc Try.prog Try.f8 Rows.penaltySumsRow.domain false) (Rows.penaltySumsSpec.post enc Try.prog Try.f8 false true false false) := by
  refine returnsInHanded_of_change (C := Try.checked) own started (by kernel_rfl) Try.func8
    (ChangeSpec.witness6 (enc := enc) (C := Try.checked) false ⟨#[], #[.slice none 0 0], []⟩ 8 (by kernel_rfl) (by kernel_rfl) (by kernel_rfl) (by kernel_rfl)) ?_
  intro W base args ds gs before hval0 hW _ _
  have hval : ∀ (j : Nat) t v, Try.f8.params[j]? = some t → args[j]? = some v → Value.okWide Try.prog W .any base t v := hval0
  have hW' := hW
  obtain ⟨p, q, hA0, hV, rfl, hfz, hnd⟩ := hW
  have hA : DataW.TrodAll enc Try.prog W 0 (fun _ => true) true Try.f8.params.toList args.toList ds p := hA0
  rw [Try.params8] at hA hval
  obtain ⟨v0, vs0, d0, ds0, p0, q0, hargs, rfl, rfl, h0, r0⟩ := trodAll_cons hA
  obtain ⟨rfl, rfl, rfl⟩ := trodAll_nil r0
  obtain rfl : args = #[v0] := by cases args; simp_all
  obtain ⟨rfl, rfl⟩ := trodVars_none hV
  obtain ⟨l0, hl0, w0⟩ := open_dus (hval 0 30 v0 rfl rfl) h0
  clear hval0
  simp only [List.append_nil] at hW'
  refine ((v_penaltySums l0 w0).c W (fun i => [v0][i]?) [_] (fun i o ho => by
      rcases i with _ | i
      · obtain rfl := Option.some.inj ho
        exact ⟨v0, rfl, hl0⟩
      simp at ho
) ⟨_, _, rfl, ⟨rfl, hl0.one⟩, rfl⟩).mono fun e W' ⟨he, hg⟩ => ?_
  subst he
  exact ⟨_, rfl, post_of_below (pa := _) (pv := []) hW' (fun _ _ _ => (trodAll_cons_mk (shut_bool Try.underlying4 _) trodAll_mk0)) (fun sp hsp => all_stays laidOut (by kernel_rfl) hA0 (fun x hx => hg.same (hW'.lt x (by revert hx; simp))) (fun x hx => hsp x (by revert hx; simp))) (fun _ _ => rfl) (by simp)
    hg (ok_one (by kernel_rfl) rfl (okWide_bool_mk Try.underlying4 _))⟩

theorem over : Rows.penaltySumsRow.holds Try.pinned (OpenSpec.ofChange Rows.penaltySumsSpec) :=
  OpenClaim.holds_of_wide 8 Try.f8 rfl rfl rfl rfl rfl rfl rfl ⟨rfl, rfl, rfl, rfl, rfl⟩ rfl rfl rfl rfl rfl (by kernel_rfl) Try.func8 (by kernel_rfl)
    (of_decide_eq_true (by kernel_rfl)) (by unfold Func.isWrapper; first | (rw [if_pos (by decide +kernel)]; kernel_rfl) | (rw [if_neg (by decide +kernel)]; exact ⟨rfl, rfl⟩))
    (fun os started H enc _ => lifted os started H enc)

theorem proved : Rows.PenaltySumsSaid :=
  over
end Go.Proofs.Ytdeekpcfmgfmcaa.penaltySums
