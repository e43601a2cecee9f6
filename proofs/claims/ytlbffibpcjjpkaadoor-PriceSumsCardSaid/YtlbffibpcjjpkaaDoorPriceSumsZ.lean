/- The statement of PriceSums: the call returns true for every input, and its input reads as it did. No condition. -/
import Derived.Test.YtlbffibpcjjpkaaDoorRows
import Derived.WalkKit
import Derived.ProofKit
import Derived.OpenShut
import Derived.Lay
import Derived.LaidMore
import Derived.Stop.Joined
import Derived.Test.YtlbffibpcjjpkaaDoorCards
import Derived.Test.YtlbffibpcjjpkaaDoorTie
import Derived.SevenTiedAt
import Derived.Test.YtlbffibpcjjpkaaDoorZ1
import Derived.Test.YtlbffibpcjjpkaaDoorZ2
import Derived.Test.YtlbffibpcjjpkaaDoorZ3
import Derived.Test.YtlbffibpcjjpkaaDoorZ4
set_option linter.unusedVariables false
set_option linter.unusedSimpArgs false
set_option linter.unusedSectionVars false
set_option maxRecDepth 100000

/- PriceSums: the cost of two lots is that of both together, but for one. -/
namespace Go.Proofs.YtlbffibpcjjpkaaDoor
open Go Go.RowKit V
set_option maxRecDepth 100000
set_option linter.unusedVariables false
set_option linter.unusedSimpArgs false
set_option maxHeartbeats 2000000 in
theorem v_priceSums (a : Int) (w_a : (Lit.int .i64 a).wf = true) (b : Int) (w_b : (Lit.int .i64 b).wf = true) (p : Int) (w_p : (Lit.int .i64 p).wf = true) : V.Fn Tryd.prog 5 [pt] [.one (.val (.int .i64 a)), .one (.val (.int .i64 b)), .one (.val (.int .i64 p))] (.bool true) := by
  have c1 := v_cost a p
  have c2 := v_cost b p
  have c3 := v_cost (a + b) p
  have ka := M.pr_cases a p 10000
  have kb := M.pr_cases b p 10000
  have kc := M.pr_cases (a + b) p 10000
  have za := M.pr_z (a := a) (b := p) (c := 10000)
  have h3 : M.prE a p 10000 = 0 → M.prE b p 10000 = 0 → M.prE (a + b) p 10000 = 0 → M.Amt a ∧ M.Amt b ∧ ((10000 ≤ M.prR a p 10000 + M.prR b p 10000 ∧ M.prQ (a + b) p 10000 = M.prQ a p 10000 + M.prQ b p 10000 + 1 ∧ M.prR (a + b) p 10000 = M.prR a p 10000 + M.prR b p 10000 - 10000) ∨ (M.prR a p 10000 + M.prR b p 10000 < 10000 ∧ M.prQ (a + b) p 10000 = M.prQ a p 10000 + M.prQ b p 10000 ∧ M.prR (a + b) p 10000 = M.prR a p 10000 + M.prR b p 10000)) := fun e1 e2 e3 => by
    obtain ⟨p1, q1⟩ := M.pr_ok e1
    obtain ⟨p2, q2⟩ := M.pr_ok e2
    obtain ⟨p3, q3⟩ := M.pr_ok e3
    obtain ⟨_, a1, a2⟩ := M.pr_3 p1 q1
    obtain ⟨_, b1, b2⟩ := M.pr_3 p2 q2
    obtain ⟨_, d1, d2⟩ := M.pr_3 p3 q3
    rw [a1, a2, b1, b2, d1, d2, Int.add_mul]
    refine ⟨p1.1, p2.1, ?_⟩
    generalize a * p = x
    generalize b * p = y
    omega
  have bd : M.prE a p 10000 = 0 → M.prE b p 10000 = 0 → (-1152921504606846976 ≤ a ∧ a ≤ 1152921504606846976) ∧ (-1152921504606846976 ≤ b ∧ b ≤ 1152921504606846976) ∧ (-1152921504606846976 ≤ M.prQ a p 10000 ∧ M.prQ a p 10000 ≤ 1152921504606846976) ∧ (-1152921504606846976 ≤ M.prQ b p 10000 ∧ M.prQ b p 10000 ≤ 1152921504606846976) ∧ (0 ≤ M.prR a p 10000 ∧ M.prR a p 10000 < 10000) ∧ (0 ≤ M.prR b p 10000 ∧ M.prR b p 10000 < 10000) := fun e1 e2 => by
    obtain ⟨p1, q1⟩ := M.pr_ok e1
    obtain ⟨p2, q2⟩ := M.pr_ok e2
    obtain ⟨_, a1, a2⟩ := M.pr_3 p1 q1
    obtain ⟨_, b1, b2⟩ := M.pr_3 p2 q2
    rw [a1, a2, b1, b2]
    exact ⟨p1.1, p2.1, q1, q2, M.r_bd (by omega), M.r_bd (by omega)⟩
  have k1 : M.prE (a + b) p 10000 = 0 ∨ M.prE (a + b) p 10000 = 3 ∨ M.prE (a + b) p 10000 = 8 := by
    rcases kc with h | h | h
    · exact .inr (.inl h.1)
    · exact .inr (.inr h.1)
    · exact .inl h.1
  clear ka kb kc
  generalize M.prE a p 10000 = ea at *
  generalize M.prE b p 10000 = eb at *
  generalize M.prE (a + b) p 10000 = ec at *
  generalize M.prQ a p 10000 = qa at *
  generalize M.prQ b p 10000 = qb at *
  generalize M.prQ (a + b) p 10000 = qc at *
  generalize M.prR a p 10000 = ra at *
  generalize M.prR b p 10000 = rb at *
  generalize M.prR (a + b) p 10000 = rc at *
  by_cases h1 : ea = 0
  · by_cases h2 : eb = 0
    · have bd := bd h1 h2
      obtain ⟨bd1, bd2, bd3, bd4, bd5, bd6⟩ := bd
      by_cases h3' : ec = 0
      · obtain ⟨_, _, h4⟩ := h3 h1 h2 h3'
        clear za k1 h3
        subst h1 h2 h3'
        rcases h4 with ⟨x1, x2, x3⟩ | ⟨x1, x2, x3⟩
        all_goals
        · refine V.Fn.mk_ V.Tok V.mixed Tryd.func5 rfl Tryd.ntmps5 (by kernel_rfl) rfl rfl ?_
          repeat' ((conv => whnf); first | (refine V.NIf.yes ?_ ?_; · (decide; done)) | (refine V.NIf.no ?_ ?_; · (decide; done)) | (refine V.NIf.yes ?_ ?_; · (exact rfl; done)) | (refine V.NIf.no ?_ ?_; · (exact fun h => h rfl; done)) | (refine V.NIf.yes ?_ ?_; · (omega; done)) | (refine V.NIf.no ?_ ?_; · (omega; done)) | refine V.NCond.mk ?_ | refine V.NPick.l ?_ | refine V.NIf.not_ ?_ | refine V.NIf.dec_ ?_ | refine V.a4 ?_ | refine V.a5 ?_ | refine V.NIf.mk (fun _ => ?_) (fun _ => ?_) | refine V.a7 ?_ | refine V.a8 ?_ | refine V.a9 ?_ | refine V.NBoth.mk ?_ ?_ | refine V.b1 ?_ | refine V.b2 ?_ | refine V.NTF.dec ?_ | refine V.b3 ?_ | refine V.b4 ?_ | (first | refine V.Fn.k0 (c1) rfl ?_ | refine V.Fn.q0 (c1) rfl ?_ | refine V.Fn.a0 (c1) rfl ?_) | (first | refine V.Fn.k0 (c2) rfl ?_ | refine V.Fn.q0 (c2) rfl ?_ | refine V.Fn.a0 (c2) rfl ?_) | (first | refine V.Fn.k0 (c3) rfl ?_ | refine V.Fn.q0 (c3) rfl ?_ | refine V.Fn.a0 (c3) rfl ?_) | ((first | refine V.Fn.k (v_priceBegun) [0] rfl ?_ ?_ | refine V.Fn.q (v_priceBegun) [0] rfl ?_ ?_ | refine V.Fn.a (v_priceBegun) [0] rfl ?_ ?_); · exact V.D_) | (refine V.NDraw.any (by kernel_rfl) ?_) | fail)
          all_goals (conv => whnf)
          all_goals exact ⟨true, rfl, iff_of_true (by omega) rfl⟩
      · clear h3 za
        subst h1 h2
        refine V.Fn.mk_ V.Tok V.mixed Tryd.func5 rfl Tryd.ntmps5 (by kernel_rfl) rfl rfl ?_
        repeat' ((conv => whnf); first | (refine V.NIf.yes ?_ ?_; · (decide; done)) | (refine V.NIf.no ?_ ?_; · (decide; done)) | (refine V.NIf.yes ?_ ?_; · (exact rfl; done)) | (refine V.NIf.no ?_ ?_; · (exact fun h => h rfl; done)) | (refine V.NIf.yes ?_ ?_; · (omega; done)) | (refine V.NIf.no ?_ ?_; · (omega; done)) | refine V.NCond.mk ?_ | refine V.NPick.l ?_ | refine V.NIf.not_ ?_ | refine V.NIf.dec_ ?_ | refine V.a4 ?_ | refine V.a5 ?_ | refine V.NIf.mk (fun _ => ?_) (fun _ => ?_) | refine V.a7 ?_ | refine V.a8 ?_ | refine V.a9 ?_ | refine V.NBoth.mk ?_ ?_ | refine V.b1 ?_ | refine V.b2 ?_ | refine V.NTF.dec ?_ | refine V.b3 ?_ | refine V.b4 ?_ | (first | refine V.Fn.k0 (c1) rfl ?_ | refine V.Fn.q0 (c1) rfl ?_ | refine V.Fn.a0 (c1) rfl ?_) | (first | refine V.Fn.k0 (c2) rfl ?_ | refine V.Fn.q0 (c2) rfl ?_ | refine V.Fn.a0 (c2) rfl ?_) | (first | refine V.Fn.k0 (c3) rfl ?_ | refine V.Fn.q0 (c3) rfl ?_ | refine V.Fn.a0 (c3) rfl ?_) | ((first | refine V.Fn.k (v_priceBegun) [0] rfl ?_ ?_ | refine V.Fn.q (v_priceBegun) [0] rfl ?_ ?_ | refine V.Fn.a (v_priceBegun) [0] rfl ?_ ?_); · exact V.D_) | (refine V.NDraw.any (by kernel_rfl) ?_) | fail)
        all_goals (conv => whnf)
        all_goals exact ⟨true, rfl, iff_of_true (by omega) rfl⟩
    · clear h3 bd za k1
      subst h1
      refine V.Fn.mk_ V.Tok V.mixed Tryd.func5 rfl Tryd.ntmps5 (by kernel_rfl) rfl rfl ?_
      repeat' ((conv => whnf); first | (refine V.NIf.yes ?_ ?_; · (decide; done)) | (refine V.NIf.no ?_ ?_; · (decide; done)) | (refine V.NIf.yes ?_ ?_; · (exact rfl; done)) | (refine V.NIf.no ?_ ?_; · (exact fun h => h rfl; done)) | (refine V.NIf.yes ?_ ?_; · (omega; done)) | (refine V.NIf.no ?_ ?_; · (omega; done)) | refine V.NCond.mk ?_ | refine V.NPick.l ?_ | refine V.NIf.not_ ?_ | refine V.NIf.dec_ ?_ | refine V.a4 ?_ | refine V.a5 ?_ | refine V.NIf.mk (fun _ => ?_) (fun _ => ?_) | refine V.a7 ?_ | refine V.a8 ?_ | refine V.a9 ?_ | refine V.NBoth.mk ?_ ?_ | refine V.b1 ?_ | refine V.b2 ?_ | refine V.NTF.dec ?_ | refine V.b3 ?_ | refine V.b4 ?_ | (first | refine V.Fn.k0 (c1) rfl ?_ | refine V.Fn.q0 (c1) rfl ?_ | refine V.Fn.a0 (c1) rfl ?_) | (first | refine V.Fn.k0 (c2) rfl ?_ | refine V.Fn.q0 (c2) rfl ?_ | refine V.Fn.a0 (c2) rfl ?_) | ((first | refine V.Fn.k (v_priceBegun) [0] rfl ?_ ?_ | refine V.Fn.q (v_priceBegun) [0] rfl ?_ ?_ | refine V.Fn.a (v_priceBegun) [0] rfl ?_ ?_); · exact V.D_) | (refine V.NDraw.any (by kernel_rfl) ?_) | fail)
      all_goals (conv => whnf)
  · obtain ⟨rfl, rfl⟩ := za h1
    clear h3 bd k1
    refine V.Fn.mk_ V.Tok V.mixed Tryd.func5 rfl Tryd.ntmps5 (by kernel_rfl) rfl rfl ?_
    repeat' ((conv => whnf); first | (refine V.NIf.yes ?_ ?_; · (decide; done)) | (refine V.NIf.no ?_ ?_; · (decide; done)) | (refine V.NIf.yes ?_ ?_; · (exact rfl; done)) | (refine V.NIf.no ?_ ?_; · (exact fun h => h rfl; done)) | (refine V.NIf.yes ?_ ?_; · (omega; done)) | (refine V.NIf.no ?_ ?_; · (omega; done)) | refine V.NCond.mk ?_ | refine V.NPick.l ?_ | refine V.NIf.not_ ?_ | refine V.NIf.dec_ ?_ | refine V.a4 ?_ | refine V.a5 ?_ | refine V.NIf.mk (fun _ => ?_) (fun _ => ?_) | refine V.a7 ?_ | refine V.a8 ?_ | refine V.a9 ?_ | refine V.NBoth.mk ?_ ?_ | refine V.b1 ?_ | refine V.b2 ?_ | refine V.NTF.dec ?_ | refine V.b3 ?_ | refine V.b4 ?_ | (first | refine V.Fn.k0 (c1) rfl ?_ | refine V.Fn.q0 (c1) rfl ?_ | refine V.Fn.a0 (c1) rfl ?_) | (first | refine V.Fn.k0 (c2) rfl ?_ | refine V.Fn.q0 (c2) rfl ?_ | refine V.Fn.a0 (c2) rfl ?_) | ((first | refine V.Fn.k (v_priceBegun) [0] rfl ?_ ?_ | refine V.Fn.q (v_priceBegun) [0] rfl ?_ ?_ | refine V.Fn.a (v_priceBegun) [0] rfl ?_ ?_); · exact V.D_) | (refine V.NDraw.any (by kernel_rfl) ?_) | fail)
    all_goals (conv => whnf)
    all_goals exact ⟨true, rfl, iff_of_true rfl rfl⟩
end Go.Proofs.YtlbffibpcjjpkaaDoor

/- The statement of PriceSums: for every input the call returns true and its input reads as it did. No condition. -/
namespace Go.Proofs.YtlbffibpcjjpkaaDoor.priceSums
open Go.ChangeShapes Go.WideShapes Go.ChangeAt Go.RowKit

theorem own : ownKnob Tryd.prog.godebug = none := by kernel_rfl

set_option maxRecDepth 100000 in
theorem lifted (os : Os) (started : os.Started) (H : Type) (enc : TypeId × Value → H) :
    ReturnsInHanded {} Tryd.checked os 5 .any (fun w args => (Rows.priceSumsSpec.pre enc Tryd.prog Tryd.f5 [] false w args ∧ laidMetH Tryd.prog laidList w) ∧ sizedMet enc Tryd.prog Tryd.f5 (OpenSpec.ofChange Rows.priceSumsSpec) false w args)
      (Rows.priceSumsSpec.post enc Tryd.prog Tryd.f5 false true false false) := by
  refine returnsInHanded_of_change_and (C := Tryd.checked) (X := fun w _ => laidMetH Tryd.prog laidList w) (fun _ _ _ hh h => h.of_heap hh) own started (by kernel_rfl) Tryd.func5
    (ChangeSpec.witness_shaped (enc := enc) (C := Tryd.checked) (os := os) (X := fun w _ => laidMetH Tryd.prog laidList w) false (World.laidAll Tryd.prog os laidList) #[.int .i64 0, .int .i64 0, .int .i64 0] 8 (World.laidAll_os _ _ _) (World.shaped_of_ZipB (by kernel_rfl) (by kernel_rfl)) (by kernel_rfl) (by kernel_rfl) (by kernel_rfl) (laid_met os _)) ?_
  intro W base args ds gs before hval0 hW _ _ hL _
  have hval : ∀ (j : Nat) t v, Tryd.f5.params[j]? = some t → args[j]? = some v → Value.okWide Tryd.prog W .any base t v := hval0
  have hW' := hW
  obtain ⟨p, q, hA0, hV, rfl, hfz, hnd⟩ := hW
  have hA : DataW.TrodAll enc Tryd.prog W 0 (fun _ => true) true Tryd.f5.params.toList args.toList ds p := hA0
  rw [Tryd.params5] at hA hval
  obtain ⟨v0, vs0, d0, ds0, p0, q0, hargs, rfl, rfl, h0, r0⟩ := trodAll_cons hA
  obtain ⟨v1, vs1, d1, ds1, p1, q1, rfl, rfl, rfl, h1, r1⟩ := trodAll_cons r0
  obtain ⟨v2, vs2, d2, ds2, p2, q2, rfl, rfl, rfl, h2, r2⟩ := trodAll_cons r1
  obtain ⟨rfl, rfl, rfl⟩ := trodAll_nil r2
  obtain rfl : args = #[v0, v1, v2] := by cases args; simp_all
  obtain ⟨rfl, rfl⟩ := trodVars_none hV
  obtain ⟨a0, rfl, rfl, rfl, w0⟩ := open_int Tryd.underlying3 (hval 0 3 v0 rfl rfl) h0
  obtain ⟨a1, rfl, rfl, rfl, w1⟩ := open_int Tryd.underlying3 (hval 1 3 v1 rfl rfl) h1
  obtain ⟨a2, rfl, rfl, rfl, w2⟩ := open_int Tryd.underlying3 (hval 2 3 v2 rfl rfl) h2
  have hlong := long_of_laid hL
  clear hval0
  simp only [List.append_nil] at hW'
  refine ((v_priceSums a0 w0 a1 w1 a2 w2).c W (fun i => [.pointer (some ⟨3, 0, none⟩)][i]?) [_, _, _] (fun i o ho => by
      rcases i with _ | i
      · obtain rfl := Option.some.inj ho
        exact ⟨.pointer (some ⟨3, 0, none⟩), rfl, rfl, hlong⟩
      simp at ho
) ⟨_, _, rfl, rfl, ⟨_, _, rfl, rfl, ⟨_, _, rfl, rfl, rfl⟩⟩⟩).mono fun e W' ⟨he, hg0⟩ => ?_
  have hg := hg0.toBelow
  subst he
  exact ⟨_, rfl, post_of_below (pa := _) (pv := []) hW' (fun _ _ _ => (trodAll_cons_mk (shut_bool Tryd.underlying4 _) trodAll_mk0)) (fun sp hsp => all_stays laidOut (by kernel_rfl) hA0 (fun x hx => hg.same (hW'.lt x (by revert hx; simp))) (fun x hx => hsp x (by revert hx; simp))) (fun _ _ => rfl) (by simp)
    hg (ok_one (by kernel_rfl) rfl (okWide_bool_mk Tryd.underlying4 _))⟩

theorem over : Rows.priceSumsRow.holds Tryd.pinned (OpenSpec.ofChange Rows.priceSumsSpec) :=
  OpenClaim.holds_of_wide 5 Tryd.f5 rfl rfl rfl rfl rfl rfl rfl ⟨rfl, rfl, rfl, rfl, rfl⟩ rfl rfl rfl rfl rfl (by kernel_rfl) Tryd.func5 (by kernel_rfl)
    (of_decide_eq_true (by kernel_rfl)) (by unfold Func.isWrapper; first | (rw [if_pos (by decide +kernel)]; kernel_rfl) | (rw [if_neg (by decide +kernel)]; exact ⟨rfl, rfl⟩))
    (fun os started H enc _ => lifted os started H enc)

theorem proved : Rows.PriceSumsCardSaid :=
  Claim7.holds_tied_plain_at .later [] [.data, .data, .data, .data, .sentinel, .sentinel, .pinned] true _ true
    over (fun _ h => by cases h) (by kernel_rfl) (fun _ h => by cases h) priceSums_row_tie rfl ⟨rfl, rfl⟩ (by kernel_rfl) rfl
    (fun f fn hf hfn => by
      obtain rfl : f = 5 := Option.some.inj ((show Tryd.prog.funcNamed "demurrage/demurragelaw.PriceSums" = some 5 by kernel_rfl).symm.trans hf) |>.symm
      obtain rfl : fn = Tryd.f5 := (Option.some.inj (Tryd.func5.symm.trans hfn)).symm
      exact ⟨by kernel_rfl, fun j t ht => by
        rw [Tryd.params5] at ht
        have hm : t ∈ [3] := by have := Array.mem_of_getElem? ht; simp at this ⊢; omega
        have hall : ([3].all fun u => !Tryd.prog.wantsStandIn u) = true := by kernel_rfl
        exact (show Tryd.prog.wantsStandIn t = false by simpa using List.all_eq_true.1 hall t hm)⟩)
    (by kernel_rfl)
end Go.Proofs.YtlbffibpcjjpkaaDoor.priceSums
