/- The statement of PriceWhole: the call returns true for every input, and its input reads as it did. No condition. -/
import Derived.Test.YtlbffibpcjjpkaaDoorRows
import Derived.WalkKit
import Derived.ProofKit
import Derived.OpenShut
import Derived.Lay
import Derived.LaidMore
import Derived.Stop.Joined
import Derived.Test.YtlbffibpcjjpkaaDoorCards
import Derived.Test.YtlbffibpcjjpkaaDoorTie
import Derived.SevenTiedAt
import Derived.Test.YtlbffibpcjjpkaaDoorZ1
import Derived.Test.YtlbffibpcjjpkaaDoorZ2
import Derived.Test.YtlbffibpcjjpkaaDoorZ3
import Derived.Test.YtlbffibpcjjpkaaDoorZ4
set_option linter.unusedVariables false
set_option linter.unusedSimpArgs false
set_option linter.unusedSectionVars false
set_option maxRecDepth 100000

/- PriceWhole: of a whole price nothing is left. -/
namespace Go.Proofs.YtlbffibpcjjpkaaDoor
open Go Go.RowKit V
set_option maxRecDepth 100000
set_option linter.unusedVariables false
set_option linter.unusedSimpArgs false
theorem part_is {a b c q : Int} (ha : M.Amt a) (hb : 0 ≤ b ∧ b ≤ 1099511627776) (hc : 1 ≤ c ∧ c ≤ 1099511627776) (e : a * b = c * q) (hq : M.Amt q) : M.prQ a b c = q ∧ M.prR a b c = 0 ∧ M.prE a b c = 0 := by
  have e1 : a * b / c = q := by rw [e]; exact Int.mul_ediv_cancel_left _ (by omega)
  have e2 : a * b % c = 0 := by rw [e]; exact Int.mul_emod_right _ _
  obtain ⟨x, y, z⟩ := M.pr_3 (a := a) (b := b) (c := c) ⟨ha, hb, hc⟩ (by rw [e1]; exact hq)
  exact ⟨by rw [y, e1], by rw [z, e2], x⟩
set_option maxHeartbeats 2000000 in
theorem v_priceWhole (u : Int) (w_u : (Lit.int .i64 u).wf = true) (p : Int) (w_p : (Lit.int .i64 p).wf = true) : V.Fn Tryd.prog 6 [pt] [.one (.val (.int .i64 u)), .one (.val (.int .i64 p))] (.bool true) := by
  by_cases h : u < -1000000 ∨ 1000000 < u ∨ p < 1 ∨ 1000000 < p
  · refine V.Fn.mk_ V.Tok V.mixed Tryd.func6 rfl Tryd.ntmps6 (by kernel_rfl) rfl rfl ?_
    repeat' ((conv => whnf); first | (refine V.NIf.yes ?_ ?_; · (decide; done)) | (refine V.NIf.no ?_ ?_; · (decide; done)) | (refine V.NIf.yes ?_ ?_; · (exact rfl; done)) | (refine V.NIf.no ?_ ?_; · (exact fun h => h rfl; done)) | (refine V.NIf.yes ?_ ?_; · (omega; done)) | (refine V.NIf.no ?_ ?_; · (omega; done)) | refine V.NCond.mk ?_ | refine V.NPick.l ?_ | refine V.NIf.not_ ?_ | refine V.NIf.dec_ ?_ | refine V.a4 ?_ | refine V.a5 ?_ | refine V.NIf.mk (fun _ => ?_) (fun _ => ?_) | refine V.a7 ?_ | refine V.a8 ?_ | refine V.a9 ?_ | refine V.NBoth.mk ?_ ?_ | refine V.b1 ?_ | refine V.b2 ?_ | refine V.NTF.dec ?_ | refine V.b3 ?_ | refine V.b4 ?_ | ((first | refine V.Fn.k (v_priceBegun) [0] rfl ?_ ?_ | refine V.Fn.q (v_priceBegun) [0] rfl ?_ ?_ | refine V.Fn.a (v_priceBegun) [0] rfl ?_ ?_); · exact V.D_) | (refine V.NDraw.any (by kernel_rfl) ?_) | fail)
    all_goals (conv => whnf)
  have hu : -1000000 ≤ u ∧ u ≤ 1000000 := by omega
  have hp : 1 ≤ p ∧ p ≤ 1000000 := by omega
  clear h
  have b1 : u * p ≤ 1000000 * p := Int.mul_le_mul_of_nonneg_right hu.2 (by omega)
  have b2 : -1000000 * p ≤ u * p := Int.mul_le_mul_of_nonneg_right hu.1 (by omega)
  have c1 := v_cost u (p * 10000)
  have am : ∀ x : Int, -1152921504606846976 ≤ x → x ≤ 1152921504606846976 → M.Amt x := fun x a b => ⟨a, b⟩
  obtain ⟨e1, e2, e3⟩ := part_is (a := u) (b := p * 10000) (c := 10000) (q := u * p) (am _ (by omega) (by omega)) (by omega) (by omega) (by rw [← Int.mul_assoc, Int.mul_comm]) (am _ (by omega) (by omega))
  rw [e1, e2, e3] at c1
  have ap : ∀ b q : Int, P.Ok b → -10000 ≤ q → q ≤ 10000 → (b - p) * 10000 = p * q → Pr.apQ p b = q ∧ Pr.apE p b = 0 := fun b q hb q1 q2 e => by
    obtain ⟨x1, x2, x3⟩ := part_is (a := b - p) (b := 10000) (c := p) (q := q) (by obtain ⟨h1, h2⟩ := hb; exact am _ (by omega) (by omega)) (by omega) (by omega) e (am _ (by omega) (by omega))
    have ok : P.Ok p ∧ P.Ok b := ⟨⟨by omega, by omega⟩, hb⟩
    unfold Pr.apQ Pr.apE
    rw [if_pos ok, if_pos ok, if_neg (by omega), if_neg (by omega)]
    exact ⟨x1, x3⟩
  have a1 := v_apart p p
  obtain ⟨y1, y2⟩ := ap p 0 ⟨by omega, by omega⟩ (by omega) (by omega) (by rw [Int.sub_self, Int.zero_mul, Int.mul_zero])
  rw [y1, y2] at a1
  have a2 := v_apart p (2 * p)
  obtain ⟨y3, y4⟩ := ap (2 * p) 10000 ⟨by omega, by omega⟩ (by omega) (by omega) (by rw [show 2 * p - p = p by omega])
  rw [y3, y4] at a2
  have a3 := v_apart p 0
  obtain ⟨y5, y6⟩ := ap 0 (-10000) ⟨by omega, by omega⟩ (by omega) (by omega) (by omega)
  rw [y5, y6] at a3
  clear ap am e1 e2 e3 y1 y2 y3 y4 y5 y6
  refine V.Fn.mk_ V.Tok V.mixed Tryd.func6 rfl Tryd.ntmps6 (by kernel_rfl) rfl rfl ?_
  repeat' ((conv => whnf); first | (refine V.NIf.yes ?_ ?_; · (decide; done)) | (refine V.NIf.no ?_ ?_; · (decide; done)) | (refine V.NIf.yes ?_ ?_; · (exact rfl; done)) | (refine V.NIf.no ?_ ?_; · (exact fun h => h rfl; done)) | (refine V.NIf.yes ?_ ?_; · (omega; done)) | (refine V.NIf.no ?_ ?_; · (omega; done)) | refine V.NCond.mk ?_ | refine V.NPick.l ?_ | refine V.NIf.not_ ?_ | refine V.NIf.dec_ ?_ | refine V.a4 ?_ | refine V.a5 ?_ | refine V.NIf.mk (fun _ => ?_) (fun _ => ?_) | refine V.a7 ?_ | refine V.a8 ?_ | refine V.a9 ?_ | refine V.NBoth.mk ?_ ?_ | refine V.b1 ?_ | refine V.b2 ?_ | refine V.NTF.dec ?_ | refine V.b3 ?_ | refine V.b4 ?_ | (first | refine V.Fn.k0 (c1) rfl ?_ | refine V.Fn.q0 (c1) rfl ?_ | refine V.Fn.a0 (c1) rfl ?_) | (first | refine V.Fn.k0 (a1) rfl ?_ | refine V.Fn.q0 (a1) rfl ?_ | refine V.Fn.a0 (a1) rfl ?_) | (first | refine V.Fn.k0 (a2) rfl ?_ | refine V.Fn.q0 (a2) rfl ?_ | refine V.Fn.a0 (a2) rfl ?_) | (first | refine V.Fn.k0 (a3) rfl ?_ | refine V.Fn.q0 (a3) rfl ?_ | refine V.Fn.a0 (a3) rfl ?_) | ((first | refine V.Fn.k (v_priceBegun) [0] rfl ?_ ?_ | refine V.Fn.q (v_priceBegun) [0] rfl ?_ ?_ | refine V.Fn.a (v_priceBegun) [0] rfl ?_ ?_); · exact V.D_) | (refine V.NDraw.any (by kernel_rfl) ?_) | fail)
  all_goals (conv => whnf)
  all_goals exact ⟨true, rfl, iff_of_true rfl rfl⟩
end Go.Proofs.YtlbffibpcjjpkaaDoor

/- The statement of PriceWhole: for every input the call returns true and its input reads as it did. No condition. -/
namespace Go.Proofs.YtlbffibpcjjpkaaDoor.priceWhole
open Go.ChangeShapes Go.WideShapes Go.ChangeAt Go.RowKit

theorem own : ownKnob Tryd.prog.godebug = none := by kernel_rfl

set_option maxRecDepth 100000 in
theorem lifted (os : Os) (started : os.Started) (H : Type) (enc : TypeId × Value → H) :
    ReturnsInHanded {} Tryd.checked os 6 .any (fun w args => (Rows.priceWholeSpec.pre enc Tryd.prog Tryd.f6 [] false w args ∧ laidMetH Tryd.prog laidList w) ∧ sizedMet enc Tryd.prog Tryd.f6 (OpenSpec.ofChange Rows.priceWholeSpec) false w args)
      (Rows.priceWholeSpec.post enc Tryd.prog Tryd.f6 false true false false) := by
  refine returnsInHanded_of_change_and (C := Tryd.checked) (X := fun w _ => laidMetH Tryd.prog laidList w) (fun _ _ _ hh h => h.of_heap hh) own started (by kernel_rfl) Tryd.func6
    (ChangeSpec.witness_shaped (enc := enc) (C := Tryd.checked) (os := os) (X := fun w _ => laidMetH Tryd.prog laidList w) false (World.laidAll Tryd.prog os laidList) #[.int .i64 0, .int .i64 0] 8 (World.laidAll_os _ _ _) (World.shaped_of_ZipB (by kernel_rfl) (by kernel_rfl)) (by kernel_rfl) (by kernel_rfl) (by kernel_rfl) (laid_met os _)) ?_
  intro W base args ds gs before hval0 hW _ _ hL _
  have hval : ∀ (j : Nat) t v, Tryd.f6.params[j]? = some t → args[j]? = some v → Value.okWide Tryd.prog W .any base t v := hval0
  have hW' := hW
  obtain ⟨p, q, hA0, hV, rfl, hfz, hnd⟩ := hW
  have hA : DataW.TrodAll enc Tryd.prog W 0 (fun _ => true) true Tryd.f6.params.toList args.toList ds p := hA0
  rw [Tryd.params6] at hA hval
  obtain ⟨v0, vs0, d0, ds0, p0, q0, hargs, rfl, rfl, h0, r0⟩ := trodAll_cons hA
  obtain ⟨v1, vs1, d1, ds1, p1, q1, rfl, rfl, rfl, h1, r1⟩ := trodAll_cons r0
  obtain ⟨rfl, rfl, rfl⟩ := trodAll_nil r1
  obtain rfl : args = #[v0, v1] := by cases args; simp_all
  obtain ⟨rfl, rfl⟩ := trodVars_none hV
  obtain ⟨a0, rfl, rfl, rfl, w0⟩ := open_int Tryd.underlying3 (hval 0 3 v0 rfl rfl) h0
  obtain ⟨a1, rfl, rfl, rfl, w1⟩ := open_int Tryd.underlying3 (hval 1 3 v1 rfl rfl) h1
  have hlong := long_of_laid hL
  clear hval0
  simp only [List.append_nil] at hW'
  refine ((v_priceWhole a0 w0 a1 w1).c W (fun i => [.pointer (some ⟨3, 0, none⟩)][i]?) [_, _] (fun i o ho => by
      rcases i with _ | i
      · obtain rfl := Option.some.inj ho
        exact ⟨.pointer (some ⟨3, 0, none⟩), rfl, rfl, hlong⟩
      simp at ho
) ⟨_, _, rfl, rfl, ⟨_, _, rfl, rfl, rfl⟩⟩).mono fun e W' ⟨he, hg0⟩ => ?_
  have hg := hg0.toBelow
  subst he
  exact ⟨_, rfl, post_of_below (pa := _) (pv := []) hW' (fun _ _ _ => (trodAll_cons_mk (shut_bool Tryd.underlying4 _) trodAll_mk0)) (fun sp hsp => all_stays laidOut (by kernel_rfl) hA0 (fun x hx => hg.same (hW'.lt x (by revert hx; simp))) (fun x hx => hsp x (by revert hx; simp))) (fun _ _ => rfl) (by simp)
    hg (ok_one (by kernel_rfl) rfl (okWide_bool_mk Tryd.underlying4 _))⟩

theorem over : Rows.priceWholeRow.holds Tryd.pinned (OpenSpec.ofChange Rows.priceWholeSpec) :=
  OpenClaim.holds_of_wide 6 Tryd.f6 rfl rfl rfl rfl rfl rfl rfl ⟨rfl, rfl, rfl, rfl, rfl⟩ rfl rfl rfl rfl rfl (by kernel_rfl) Tryd.func6 (by kernel_rfl)
    (of_decide_eq_true (by kernel_rfl)) (by unfold Func.isWrapper; first | (rw [if_pos (by decide +kernel)]; kernel_rfl) | (rw [if_neg (by decide +kernel)]; exact ⟨rfl, rfl⟩))
    (fun os started H enc _ => lifted os started H enc)

theorem proved : Rows.PriceWholeCardSaid :=
  Claim7.holds_tied_plain_at .later [] [.data, .data, .data, .data, .sentinel, .sentinel, .pinned] true _ true
    over (fun _ h => by cases h) (by kernel_rfl) (fun _ h => by cases h) priceWhole_row_tie rfl ⟨rfl, rfl⟩ (by kernel_rfl) rfl
    (fun f fn hf hfn => by
      obtain rfl : f = 6 := Option.some.inj ((show Tryd.prog.funcNamed "demurrage/demurragelaw.PriceWhole" = some 6 by kernel_rfl).symm.trans hf) |>.symm
      obtain rfl : fn = Tryd.f6 := (Option.some.inj (Tryd.func6.symm.trans hfn)).symm
      exact ⟨by kernel_rfl, fun j t ht => by
        rw [Tryd.params6] at ht
        have hm : t ∈ [3] := by have := Array.mem_of_getElem? ht; simp at this ⊢; omega
        have hall : ([3].all fun u => !Tryd.prog.wantsStandIn u) = true := by kernel_rfl
        exact (show Tryd.prog.wantsStandIn t = false by simpa using List.all_eq_true.1 hall t hm)⟩)
    (by kernel_rfl)
end Go.Proofs.YtlbffibpcjjpkaaDoor.priceWhole
