/- The statement of PriceTurn: the call returns true for every input, and its input reads as it did. No condition. -/
import Derived.Test.YtlbffibpcjjpkaaDoorRows
import Derived.WalkKit
import Derived.ProofKit
import Derived.OpenShut
import Derived.Lay
import Derived.LaidMore
import Derived.Stop.Joined
import Derived.Test.YtlbffibpcjjpkaaDoorCards
import Derived.Test.YtlbffibpcjjpkaaDoorTie
import Derived.SevenTiedAt
import Derived.Test.YtlbffibpcjjpkaaDoorZ1
import Derived.Test.YtlbffibpcjjpkaaDoorZ2
import Derived.Test.YtlbffibpcjjpkaaDoorZ3
import Derived.Test.YtlbffibpcjjpkaaDoorZ4
set_option linter.unusedVariables false
set_option linter.unusedSimpArgs false
set_option linter.unusedSectionVars false
set_option maxRecDepth 100000

/- PriceTurn: the cost of as many the other way. -/
namespace Go.Proofs.YtlbffibpcjjpkaaDoor
open Go Go.RowKit V
set_option maxRecDepth 100000
set_option linter.unusedVariables false
set_option linter.unusedSimpArgs false
set_option maxHeartbeats 2000000 in
theorem v_priceTurn (u : Int) (w_u : (Lit.int .i64 u).wf = true) (p : Int) (w_p : (Lit.int .i64 p).wf = true) : V.Fn Tryd.prog 7 [pt] [.one (.val (.int .i64 u)), .one (.val (.int .i64 p))] (.bool true) := by
  have c1 := v_cost u p
  have c2 := v_cost (0 - u) p
  have c3 := v_cost (-u) p
  have kc := M.pr_cases (-u) p 10000
  have za := M.pr_z (a := u) (b := p) (c := 10000)
  have hh : M.prE u p 10000 = 0 → M.Amt u ∧ (-1152921504606846976 ≤ M.prQ u p 10000 ∧ M.prQ u p 10000 ≤ 1152921504606846976) ∧ (0 ≤ M.prR u p 10000 ∧ M.prR u p 10000 < 10000) ∧ ((M.prR u p 10000 = 0 ∧ M.prE (-u) p 10000 = 0 ∧ M.prQ (-u) p 10000 = -M.prQ u p 10000 ∧ M.prR (-u) p 10000 = 0) ∨ (0 < M.prR u p 10000 ∧ ((M.prE (-u) p 10000 = 0 ∧ M.prQ (-u) p 10000 = -M.prQ u p 10000 - 1 ∧ M.prR (-u) p 10000 = 10000 - M.prR u p 10000) ∨ M.prE (-u) p 10000 = 8))) := fun e1 => by
    obtain ⟨p1, q1⟩ := M.pr_ok e1
    obtain ⟨_, a1, a2⟩ := M.pr_3 p1 q1
    have am : M.Amt (-u) := by have := p1.1; unfold M.Amt at this ⊢; omega
    have p2 : M.POk (-u) p 10000 := ⟨am, p1.2⟩
    rw [a1, a2]
    refine ⟨p1.1, q1, M.r_bd (by omega), ?_⟩
    have ng := M.neg_part (x := u * p) (c := 10000) (by omega)
    rw [← Int.neg_mul] at ng
    rcases ng with ⟨n1, n2, n3⟩ | ⟨n1, n2, n3⟩
    · have q2 : M.Amt (-u * p / 10000) := by rw [n2]; unfold M.Amt at q1 ⊢; omega
      obtain ⟨b0, b1, b2⟩ := M.pr_3 p2 q2
      exact .inl ⟨n1, b0, by rw [b1, n2], by rw [b2, n3]⟩
    · by_cases q2 : M.Amt (-u * p / 10000)
      · obtain ⟨b0, b1, b2⟩ := M.pr_3 p2 q2
        exact .inr ⟨n1, .inl ⟨b0, by rw [b1, n2], by rw [b2, n3]⟩⟩
      · exact .inr ⟨n1, .inr (M.pr_2 p2 q2).1⟩
  have e0 : (0 - u : Int) = -u := by omega
  rw [show M.prQ (0 - u) p 10000 = M.prQ (-u) p 10000 by rw [e0], show M.prR (0 - u) p 10000 = M.prR (-u) p 10000 by rw [e0], show M.prE (0 - u) p 10000 = M.prE (-u) p 10000 by rw [e0]] at c2
  clear e0
  clear kc
  generalize M.prE u p 10000 = ea at *
  generalize M.prQ u p 10000 = qa at *
  generalize M.prR u p 10000 = ra at *
  generalize M.prE (-u) p 10000 = eb at *
  generalize M.prQ (-u) p 10000 = qb at *
  generalize M.prR (-u) p 10000 = rb at *
  by_cases h1 : ea = 0
  · obtain ⟨k1, k2, k3, k4⟩ := hh h1
    have k1 : -1152921504606846976 ≤ u ∧ u ≤ 1152921504606846976 := k1
    clear hh za
    subst h1
    rcases k4 with ⟨k4, x1, x2, x3⟩ | ⟨k4, ⟨x1, x2, x3⟩ | x1⟩
    all_goals
    · refine V.Fn.mk_ V.Tok V.mixed Tryd.func7 rfl Tryd.ntmps7 (by kernel_rfl) rfl rfl ?_
      repeat' ((conv => whnf); first | (refine V.NIf.yes ?_ ?_; · (decide; done)) | (refine V.NIf.no ?_ ?_; · (decide; done)) | (refine V.NIf.yes ?_ ?_; · (exact rfl; done)) | (refine V.NIf.no ?_ ?_; · (exact fun h => h rfl; done)) | (refine V.NIf.yes ?_ ?_; · (omega; done)) | (refine V.NIf.no ?_ ?_; · (omega; done)) | refine V.NCond.mk ?_ | refine V.NPick.l ?_ | refine V.NIf.not_ ?_ | refine V.NIf.dec_ ?_ | refine V.a4 ?_ | refine V.a5 ?_ | refine V.NIf.mk (fun _ => ?_) (fun _ => ?_) | refine V.a7 ?_ | refine V.a8 ?_ | refine V.a9 ?_ | refine V.NBoth.mk ?_ ?_ | refine V.b1 ?_ | refine V.b2 ?_ | refine V.NTF.dec ?_ | refine V.b3 ?_ | refine V.b4 ?_ | (first | refine V.Fn.k0 (c1) rfl ?_ | refine V.Fn.q0 (c1) rfl ?_ | refine V.Fn.a0 (c1) rfl ?_) | (first | refine V.Fn.k0 (c2) rfl ?_ | refine V.Fn.q0 (c2) rfl ?_ | refine V.Fn.a0 (c2) rfl ?_) | (first | refine V.Fn.k0 (c3) rfl ?_ | refine V.Fn.q0 (c3) rfl ?_ | refine V.Fn.a0 (c3) rfl ?_) | ((first | refine V.Fn.k (v_priceBegun) [0] rfl ?_ ?_ | refine V.Fn.q (v_priceBegun) [0] rfl ?_ ?_ | refine V.Fn.a (v_priceBegun) [0] rfl ?_ ?_); · exact V.D_) | (refine V.NDraw.any (by kernel_rfl) ?_) | fail)
      all_goals (conv => whnf)
      all_goals exact ⟨true, rfl, iff_of_true (by omega) rfl⟩
  · obtain ⟨rfl, rfl⟩ := za h1
    clear hh
    refine V.Fn.mk_ V.Tok V.mixed Tryd.func7 rfl Tryd.ntmps7 (by kernel_rfl) rfl rfl ?_
    repeat' ((conv => whnf); first | (refine V.NIf.yes ?_ ?_; · (decide; done)) | (refine V.NIf.no ?_ ?_; · (decide; done)) | (refine V.NIf.yes ?_ ?_; · (exact rfl; done)) | (refine V.NIf.no ?_ ?_; · (exact fun h => h rfl; done)) | (refine V.NIf.yes ?_ ?_; · (omega; done)) | (refine V.NIf.no ?_ ?_; · (omega; done)) | refine V.NCond.mk ?_ | refine V.NPick.l ?_ | refine V.NIf.not_ ?_ | refine V.NIf.dec_ ?_ | refine V.a4 ?_ | refine V.a5 ?_ | refine V.NIf.mk (fun _ => ?_) (fun _ => ?_) | refine V.a7 ?_ | refine V.a8 ?_ | refine V.a9 ?_ | refine V.NBoth.mk ?_ ?_ | refine V.b1 ?_ | refine V.b2 ?_ | refine V.NTF.dec ?_ | refine V.b3 ?_ | refine V.b4 ?_ | (first | refine V.Fn.k0 (c1) rfl ?_ | refine V.Fn.q0 (c1) rfl ?_ | refine V.Fn.a0 (c1) rfl ?_) | ((first | refine V.Fn.k (v_priceBegun) [0] rfl ?_ ?_ | refine V.Fn.q (v_priceBegun) [0] rfl ?_ ?_ | refine V.Fn.a (v_priceBegun) [0] rfl ?_ ?_); · exact V.D_) | (refine V.NDraw.any (by kernel_rfl) ?_) | fail)
    all_goals (conv => whnf)
    all_goals exact ⟨true, rfl, iff_of_true rfl rfl⟩
end Go.Proofs.YtlbffibpcjjpkaaDoor

/- The statement of PriceTurn: for every input the call returns true and its input reads as it did. No condition. -/
namespace Go.Proofs.YtlbffibpcjjpkaaDoor.priceTurn
open Go.ChangeShapes Go.WideShapes Go.ChangeAt Go.RowKit

theorem own : ownKnob Tryd.prog.godebug = none := by kernel_rfl

set_option maxRecDepth 100000 in
theorem lifted (os : Os) (started : os.Started) (H : Type) (enc : TypeId × Value → H) :
    ReturnsInHanded {} Tryd.checked os 7 .any (fun w args => (Rows.priceTurnSpec.pre enc Tryd.prog Tryd.f7 [] false w args ∧ laidMetH Tryd.prog laidList w) ∧ sizedMet enc Tryd.prog Tryd.f7 (OpenSpec.ofChange Rows.priceTurnSpec) false w args)
      (Rows.priceTurnSpec.post enc Tryd.prog Tryd.f7 false true false false) := by
  refine returnsInHanded_of_change_and (C := Tryd.checked) (X := fun w _ => laidMetH Tryd.prog laidList w) (fun _ _ _ hh h => h.of_heap hh) own started (by kernel_rfl) Tryd.func7
    (ChangeSpec.witness_shaped (enc := enc) (C := Tryd.checked) (os := os) (X := fun w _ => laidMetH Tryd.prog laidList w) false (World.laidAll Tryd.prog os laidList) #[.int .i64 0, .int .i64 0] 8 (World.laidAll_os _ _ _) (World.shaped_of_ZipB (by kernel_rfl) (by kernel_rfl)) (by kernel_rfl) (by kernel_rfl) (by kernel_rfl) (laid_met os _)) ?_
  intro W base args ds gs before hval0 hW _ _ hL _
  have hval : ∀ (j : Nat) t v, Tryd.f7.params[j]? = some t → args[j]? = some v → Value.okWide Tryd.prog W .any base t v := hval0
  have hW' := hW
  obtain ⟨p, q, hA0, hV, rfl, hfz, hnd⟩ := hW
  have hA : DataW.TrodAll enc Tryd.prog W 0 (fun _ => true) true Tryd.f7.params.toList args.toList ds p := hA0
  rw [Tryd.params7] at hA hval
  obtain ⟨v0, vs0, d0, ds0, p0, q0, hargs, rfl, rfl, h0, r0⟩ := trodAll_cons hA
  obtain ⟨v1, vs1, d1, ds1, p1, q1, rfl, rfl, rfl, h1, r1⟩ := trodAll_cons r0
  obtain ⟨rfl, rfl, rfl⟩ := trodAll_nil r1
  obtain rfl : args = #[v0, v1] := by cases args; simp_all
  obtain ⟨rfl, rfl⟩ := trodVars_none hV
  obtain ⟨a0, rfl, rfl, rfl, w0⟩ := open_int Tryd.underlying3 (hval 0 3 v0 rfl rfl) h0
  obtain ⟨a1, rfl, rfl, rfl, w1⟩ := open_int Tryd.underlying3 (hval 1 3 v1 rfl rfl) h1
  have hlong := long_of_laid hL
  clear hval0
  simp only [List.append_nil] at hW'
  refine ((v_priceTurn a0 w0 a1 w1).c W (fun i => [.pointer (some ⟨3, 0, none⟩)][i]?) [_, _] (fun i o ho => by
      rcases i with _ | i
      · obtain rfl := Option.some.inj ho
        exact ⟨.pointer (some ⟨3, 0, none⟩), rfl, rfl, hlong⟩
      simp at ho
) ⟨_, _, rfl, rfl, ⟨_, _, rfl, rfl, rfl⟩⟩).mono fun e W' ⟨he, hg0⟩ => ?_
  have hg := hg0.toBelow
  subst he
  exact ⟨_, rfl, post_of_below (pa := _) (pv := []) hW' (fun _ _ _ => (trodAll_cons_mk (shut_bool Tryd.underlying4 _) trodAll_mk0)) (fun sp hsp => all_stays laidOut (by kernel_rfl) hA0 (fun x hx => hg.same (hW'.lt x (by revert hx; simp))) (fun x hx => hsp x (by revert hx; simp))) (fun _ _ => rfl) (by simp)
    hg (ok_one (by kernel_rfl) rfl (okWide_bool_mk Tryd.underlying4 _))⟩

theorem over : Rows.priceTurnRow.holds Tryd.pinned (OpenSpec.ofChange Rows.priceTurnSpec) :=
  OpenClaim.holds_of_wide 7 Tryd.f7 rfl rfl rfl rfl rfl rfl rfl ⟨rfl, rfl, rfl, rfl, rfl⟩ rfl rfl rfl rfl rfl (by kernel_rfl) Tryd.func7 (by kernel_rfl)
    (of_decide_eq_true (by kernel_rfl)) (by unfold Func.isWrapper; first | (rw [if_pos (by decide +kernel)]; kernel_rfl) | (rw [if_neg (by decide +kernel)]; exact ⟨rfl, rfl⟩))
    (fun os started H enc _ => lifted os started H enc)

theorem proved : Rows.PriceTurnCardSaid :=
  Claim7.holds_tied_plain_at .later [] [.data, .data, .data, .data, .sentinel, .sentinel, .pinned] true _ true
    over (fun _ h => by cases h) (by kernel_rfl) (fun _ h => by cases h) priceTurn_row_tie rfl ⟨rfl, rfl⟩ (by kernel_rfl) rfl
    (fun f fn hf hfn => by
      obtain rfl : f = 7 := Option.some.inj ((show Tryd.prog.funcNamed "demurrage/demurragelaw.PriceTurn" = some 7 by kernel_rfl).symm.trans hf) |>.symm
      obtain rfl : fn = Tryd.f7 := (Option.some.inj (Tryd.func7.symm.trans hfn)).symm
      exact ⟨by kernel_rfl, fun j t ht => by
        rw [Tryd.params7] at ht
        have hm : t ∈ [3] := by have := Array.mem_of_getElem? ht; simp at this ⊢; omega
        have hall : ([3].all fun u => !Tryd.prog.wantsStandIn u) = true := by kernel_rfl
        exact (show Tryd.prog.wantsStandIn t = false by simpa using List.all_eq_true.1 hall t hm)⟩)
    (by kernel_rfl)
end Go.Proofs.YtlbffibpcjjpkaaDoor.priceTurn
