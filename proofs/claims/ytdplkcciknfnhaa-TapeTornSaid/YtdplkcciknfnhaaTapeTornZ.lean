/- The statement of TapeTorn: the call returns true for every input, and its input reads as it did. No condition. -/
import Derived.Test.YtdplkcciknfnhaaRows
import Derived.WalkKit
import Derived.ProofKit
import Derived.OpenShut
import Derived.Test.YtdplkcciknfnhaaZ1
import Derived.Test.YtdplkcciknfnhaaZ2
import Derived.Test.YtdplkcciknfnhaaZ3
import Derived.Test.YtdplkcciknfnhaaZ4
set_option linter.unusedVariables false
set_option linter.unusedSimpArgs false
set_option linter.unusedSectionVars false
set_option maxRecDepth 100000

/- TapeTorn: a torn tape holds the first records. -/
namespace Go.Proofs.Ytdplkcciknfnhaa
open Go Go.RowKit V
set_option maxRecDepth 100000
set_option linter.unusedVariables false
set_option linter.unusedSimpArgs false
set_option maxHeartbeats 4000000 in
theorem v_tapeTorn (t : List Nat) (ht : Ta.By t) (keep : Int) (w_keep : (Lit.int .i64 keep).wf = true) : V.Fn Try.prog 5 [.arr 1 t.length (ga ebn t)] [.one (.ref 0), .one (.val (.int .i64 keep))] (.bool true) := by
  refine V.Fn.lim (by kernel_rfl) fun hl => ?_
  have lt : t.length ≤ 9223372036854775807 := hl 0 _ _ _ rfl
  clear hl
  have c1 := v_torn t keep (by omega)
  have c2 := v_get t ht
  by_cases hp : Ta.toE t keep = 0
  · obtain ⟨p1, p2, p3, p4⟩ := Ta.to_ok hp
    rw [hp, p4] at c1
    obtain ⟨q, rfl⟩ : ∃ q : Nat, keep = q := ⟨keep.toNat, by omega⟩
    rw [Int.toNat_natCast] at *
    have tb : Ta.By (t.take q) := fun x hx => ht x (List.mem_of_mem_take hx)
    have lT : (t.take q).length = q := by rw [List.length_take]; omega
    have c4 := v_get (t.take q) tb
    have gt : ∀ u : List Nat, u.length ≤ 4000 → Ta.gV u = Ta.get u ∧ Ta.gN u = (Ta.en u : Nat) ∧ Ta.gE u = 0 := fun u hu => ⟨if_neg (by omega), if_neg (by omega), if_neg (by omega)⟩
    rw [(gt _ (by omega)).1, (gt _ (by omega)).2.1, (gt _ (by omega)).2.2] at c2 c4
    obtain ⟨k, k1, k2, k3, k4, k5⟩ := Ta.torn t (keep := q) (by omega)
    have gb := Ta.get_by tb
    have e1 := Ta.en_le t
    have l1 := Ta.cat_long (Ta.get t) (Ta.get_split t).choose_spec.2.2
    rw [show (Ta.cat (Ta.get t)).length = Ta.en t from rfl] at l1
    have rl : ∀ k, k < (Ta.get t).length → ((Ta.get t).getD k default).length ≤ Ta.en t := Ta.rec_le (Ta.get t)
    have hx : (Ta.get (t.take q)).length = k := by rw [k2, List.length_take]; omega
    have xa : ∀ j, j < k → (Ta.get t).getD j default = (Ta.get (t.take q)).getD j default := fun j hj => by rw [k2]; simp [List.getD, List.getElem?_take, hj]
    clear k2 gt tb p4 hp
    generalize t.take q = T at *
    generalize Ta.get T = R at *
    generalize Ta.get t = G at *
    generalize Ta.en t = n at *
    generalize Ta.en T = m at *
    have cr := fun va vb => v_samerec R R va vb gb gb (by omega)
    simp only [decide_true] at cr
    subst hx
    by_cases h1 : n ≤ q
    · obtain ⟨h2, h3⟩ := k4 h1
      clear k4 k5 rl
      refine V.Fn.mk_ V.Tok V.mixed Try.func5 rfl Try.ntmps5 (by kernel_rfl) rfl rfl ?_
      repeat' ((conv => whnf); first | (refine V.NIf.yes ?_ ?_; · (exact rfl; done)) | (refine V.NIf.no ?_ ?_; · (exact fun h => h rfl; done)) | (refine V.NIf.yes ?_ ?_; · (omega; done)) | (refine V.NIf.no ?_ ?_; · (omega; done)) | refine V.NCond.mk ?_ | refine V.NPick.l ?_ | refine V.NIf.not_ ?_ | refine V.NIf.dec_ ?_ | refine V.a4 ?_ | refine V.a5 ?_ | refine V.NIf.mk (fun _ => ?_) (fun _ => ?_) | refine V.a7 ?_ | refine V.a8 ?_ | refine V.a9 ?_ | refine V.NBoth.mk ?_ ?_ | refine V.b1 ?_ | refine V.b2 ?_ | refine V.NTF.dec ?_ | refine V.b3 ?_ | refine V.b4 ?_ | ((first | refine V.FnR.k_ (c1) [0] rfl ?_ ?_ | refine V.FnR.a_ (c1) [0] rfl ?_ ?_); · exact V.D_) | ((first | refine V.FnX.k_ (c2) [0] rfl ?_ ?_ | refine V.FnX.a_ (c2) [0] rfl ?_ ?_); (· exact V.D_); intro vs) | ((first | refine V.FnX.k_ (c4) [1] rfl ?_ ?_ | refine V.FnX.a_ (c4) [1] rfl ?_ ?_); (· exact V.D_); intro vt) | (first | refine V.Fn.k0 (v_tapeBegun) rfl ?_ | refine V.Fn.q0 (v_tapeBegun) rfl ?_ | refine V.Fn.a0 (v_tapeBegun) rfl ?_) | (refine NCut.mk ⟨0, R.length, rfl, rfl, by omega, by omega, ?_⟩) | (refine NZero.mk rfl ?_) | ((first | refine V.Fn.k ((cr vt vs)) [3, 4] rfl ?_ ?_ | refine V.Fn.q ((cr vt vs)) [3, 4] rfl ?_ ?_ | refine V.Fn.a ((cr vt vs)) [3, 4] rfl ?_ ?_); · exact ⟨⟨rfl, rfl, V.DeeLe.refl_⟩, ⟨(by omega), rfl, rfl, Ta.dee_of xa⟩, trivial⟩) | (refine NIdx.mk ⟨R.length, rfl, by omega, ?_⟩) | (refine NSrc.mk (.inl ?_)) | (refine NCall.see 0 3 R.length rfl (by omega) rfl rfl ?_) | (refine V.NDraw.any (by kernel_rfl) ?_) | fail)
      all_goals (conv => whnf)
      all_goals exact ⟨true, rfl, iff_of_true (congrArg Int.ofNat h3) rfl⟩
    · obtain ⟨h2, h3⟩ := k5 (by omega)
      clear k4 k5
      have h3 : q < m + 6 + (G.getD R.length default).length := h3
      have h4 := rl _ h2
      clear rl
      refine V.Fn.mk_ V.Tok V.mixed Try.func5 rfl Try.ntmps5 (by kernel_rfl) rfl rfl ?_
      repeat' ((conv => whnf); first | (refine V.NIf.yes ?_ ?_; · (exact rfl; done)) | (refine V.NIf.no ?_ ?_; · (exact fun h => h rfl; done)) | (refine V.NIf.yes ?_ ?_; · (omega; done)) | (refine V.NIf.no ?_ ?_; · (omega; done)) | refine V.NCond.mk ?_ | refine V.NPick.l ?_ | refine V.NIf.not_ ?_ | refine V.NIf.dec_ ?_ | refine V.a4 ?_ | refine V.a5 ?_ | refine V.NIf.mk (fun _ => ?_) (fun _ => ?_) | refine V.a7 ?_ | refine V.a8 ?_ | refine V.a9 ?_ | refine V.NBoth.mk ?_ ?_ | refine V.b1 ?_ | refine V.b2 ?_ | refine V.NTF.dec ?_ | refine V.b3 ?_ | refine V.b4 ?_ | ((first | refine V.FnR.k_ (c1) [0] rfl ?_ ?_ | refine V.FnR.a_ (c1) [0] rfl ?_ ?_); · exact V.D_) | ((first | refine V.FnX.k_ (c2) [0] rfl ?_ ?_ | refine V.FnX.a_ (c2) [0] rfl ?_ ?_); (· exact V.D_); intro vs) | ((first | refine V.FnX.k_ (c4) [1] rfl ?_ ?_ | refine V.FnX.a_ (c4) [1] rfl ?_ ?_); (· exact V.D_); intro vt) | (first | refine V.Fn.k0 (v_tapeBegun) rfl ?_ | refine V.Fn.q0 (v_tapeBegun) rfl ?_ | refine V.Fn.a0 (v_tapeBegun) rfl ?_) | (refine NCut.mk ⟨0, R.length, rfl, rfl, by omega, by omega, ?_⟩) | (refine NZero.mk rfl ?_) | ((first | refine V.Fn.k ((cr vt vs)) [3, 4] rfl ?_ ?_ | refine V.Fn.q ((cr vt vs)) [3, 4] rfl ?_ ?_ | refine V.Fn.a ((cr vt vs)) [3, 4] rfl ?_ ?_); · exact ⟨⟨rfl, rfl, V.DeeLe.refl_⟩, ⟨(by omega), rfl, rfl, Ta.dee_put (Nat.le_refl _) xa⟩, trivial⟩) | (refine NIdx.mk ⟨R.length, rfl, by omega, ?_⟩) | (refine NSrc.mk (.inr (.inr ⟨6, 5, rfl, ?_⟩))) | (refine NCall.out_ 2 R.length rfl (by omega) rfl ?_) | (refine V.NDraw.any (by kernel_rfl) ?_) | fail)
      all_goals (conv => whnf)
      all_goals exact ⟨true, rfl, iff_of_true (by omega) rfl⟩
  · have p3 : Ta.toV t keep = [] := if_neg hp
    rw [p3] at c1
    generalize Ta.toE t keep = e at *
    refine V.Fn.mk_ V.Tok V.mixed Try.func5 rfl Try.ntmps5 (by kernel_rfl) rfl rfl ?_
    repeat' ((conv => whnf); first | (refine V.NIf.yes ?_ ?_; · (exact rfl; done)) | (refine V.NIf.no ?_ ?_; · (exact fun h => h rfl; done)) | (refine V.NIf.yes ?_ ?_; · (omega; done)) | (refine V.NIf.no ?_ ?_; · (omega; done)) | refine V.NCond.mk ?_ | refine V.NPick.l ?_ | refine V.NIf.not_ ?_ | refine V.NIf.dec_ ?_ | refine V.a4 ?_ | refine V.a5 ?_ | refine V.NIf.mk (fun _ => ?_) (fun _ => ?_) | refine V.a7 ?_ | refine V.a8 ?_ | refine V.a9 ?_ | refine V.NBoth.mk ?_ ?_ | refine V.b1 ?_ | refine V.b2 ?_ | refine V.NTF.dec ?_ | refine V.b3 ?_ | refine V.b4 ?_ | ((first | refine V.FnR.k_ (c1) [0] rfl ?_ ?_ | refine V.FnR.a_ (c1) [0] rfl ?_ ?_); · exact V.D_) | ((first | refine V.FnX.k_ (c2) [0] rfl ?_ ?_ | refine V.FnX.a_ (c2) [0] rfl ?_ ?_); (· exact V.D_); intro vs) | (first | refine V.Fn.k0 (v_tapeBegun) rfl ?_ | refine V.Fn.q0 (v_tapeBegun) rfl ?_ | refine V.Fn.a0 (v_tapeBegun) rfl ?_) | (refine V.NDraw.any (by kernel_rfl) ?_) | fail)
    all_goals (conv => whnf)
    all_goals exact ⟨true, rfl, iff_of_true rfl rfl⟩
end Go.Proofs.Ytdplkcciknfnhaa

/- The statement of TapeTorn: for every input the call returns true and its input reads as it did. No condition. -/
namespace Go.Proofs.Ytdplkcciknfnhaa.tapeTorn
open Go.ChangeShapes Go.WideShapes Go.ChangeAt Go.RowKit

theorem own : ownKnob Try.prog.godebug = none := by kernel_rfl

set_option maxRecDepth 100000 in
theorem lifted (os : Os) (started : os.Started) (H : Type) (enc : TypeId × Value → H) :
    ReturnsInHanded {} Try.checked os 5 .any (Rows.tapeTornSpec.pre6 enc Try.prog Try.f5 Rows.tapeTornRow.domain false) (Rows.tapeTornSpec.post enc Try.prog Try.f5 false true false false) := by
  refine returnsInHanded_of_change (C := Try.checked) own started (by kernel_rfl) Try.func5
    (ChangeSpec.witness6 (enc := enc) (C := Try.checked) false ⟨#[], #[.slice none 0 0, .int .i64 0], []⟩ 8 (by kernel_rfl) (by kernel_rfl) (by kernel_rfl) (by kernel_rfl)) ?_
  intro W base args ds gs before hval0 hW _ _
  have hval : ∀ (j : Nat) t v, Try.f5.params[j]? = some t → args[j]? = some v → Value.okWide Try.prog W .any base t v := hval0
  have hW' := hW
  obtain ⟨p, q, hA0, hV, rfl, hfz, hnd⟩ := hW
  have hA : DataW.TrodAll enc Try.prog W 0 (fun _ => true) true Try.f5.params.toList args.toList ds p := hA0
  rw [Try.params5] at hA hval
  obtain ⟨v0, vs0, d0, ds0, p0, q0, hargs, rfl, rfl, h0, r0⟩ := trodAll_cons hA
  obtain ⟨v1, vs1, d1, ds1, p1, q1, rfl, rfl, rfl, h1, r1⟩ := trodAll_cons r0
  obtain ⟨rfl, rfl, rfl⟩ := trodAll_nil r1
  obtain rfl : args = #[v0, v1] := by cases args; simp_all
  obtain ⟨rfl, rfl⟩ := trodVars_none hV
  obtain ⟨l0, hl0, w0⟩ := open_bl (hval 0 22 v0 rfl rfl) h0
  obtain ⟨a1, rfl, rfl, rfl, w1⟩ := open_int Try.underlying3 (hval 1 3 v1 rfl rfl) h1
  clear hval0
  simp only [List.append_nil] at hW'
  refine ((v_tapeTorn l0 w0 a1 w1).c W (fun i => [v0][i]?) [_, _] (fun i o ho => by
      rcases i with _ | i
      · obtain rfl := Option.some.inj ho
        exact ⟨v0, rfl, hl0⟩
      simp at ho
) ⟨_, _, rfl, ⟨rfl, hl0.one⟩, ⟨_, _, rfl, rfl, rfl⟩⟩).mono fun e W' ⟨he, hg0⟩ => ?_
  have hg := hg0.toBelow
  subst he
  exact ⟨_, rfl, post_of_below (pa := _) (pv := []) hW' (fun _ _ _ => (trodAll_cons_mk (shut_bool Try.underlying4 _) trodAll_mk0)) (fun sp hsp => all_stays laidOut (by kernel_rfl) hA0 (fun x hx => hg.same (hW'.lt x (by revert hx; simp))) (fun x hx => hsp x (by revert hx; simp))) (fun _ _ => rfl) (by simp)
    hg (ok_one (by kernel_rfl) rfl (okWide_bool_mk Try.underlying4 _))⟩

theorem over : Rows.tapeTornRow.holds Try.pinned (OpenSpec.ofChange Rows.tapeTornSpec) :=
  OpenClaim.holds_of_wide 5 Try.f5 rfl rfl rfl rfl rfl rfl rfl ⟨rfl, rfl, rfl, rfl, rfl⟩ rfl rfl rfl rfl rfl (by kernel_rfl) Try.func5 (by kernel_rfl)
    (of_decide_eq_true (by kernel_rfl)) (by unfold Func.isWrapper; first | (rw [if_pos (by decide +kernel)]; kernel_rfl) | (rw [if_neg (by decide +kernel)]; exact ⟨rfl, rfl⟩))
    (fun os started H enc _ => lifted os started H enc)

theorem proved : Rows.TapeTornSaid :=
  over
end Go.Proofs.Ytdplkcciknfnhaa.tapeTorn
