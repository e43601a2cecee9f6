/- The statement of TapeMany: the call returns true for every input, and its input reads as it did. No condition. -/
import Derived.Test.YtdplkcciknfnhaaRows
import Derived.WalkKit
import Derived.ProofKit
import Derived.OpenShut
import Derived.Test.YtdplkcciknfnhaaZ1
import Derived.Test.YtdplkcciknfnhaaZ2
import Derived.Test.YtdplkcciknfnhaaZ3
import Derived.Test.YtdplkcciknfnhaaZ4
set_option linter.unusedVariables false
set_option linter.unusedSimpArgs false
set_option linter.unusedSectionVars false
set_option maxRecDepth 100000

/- TapeMany: many, one behind the other. -/
namespace Go.Proofs.Ytdplkcciknfnhaa
open Go Go.RowKit V
set_option maxRecDepth 100000
set_option linter.unusedVariables false
set_option linter.unusedSimpArgs false
def Ta.Src (L : List (List Nat)) (va : Nat → Go.Value) (W : List (List Nat)) (vg : Nat → Go.Value) : Prop := ∀ k, k < W.length → ∃ j, j < L.length ∧ vg k = va j ∧ W.getD k default = L.getD j default
theorem Ta.Src.more {L : List (List Nat)} {va : Nat → Go.Value} {W : List (List Nat)} {vg : Nat → Go.Value} {i : Nat} {b : List Nat} (h : Ta.Src L va W vg) (hi : i < L.length) (hb : L.getD i default = b) : Ta.Src L va (W ++ [b]) (fun k => if k = W.length then va i else vg k) := fun k hk => by
  rw [List.length_append] at hk
  have hk : k < W.length + 1 := hk
  by_cases e : k = W.length
  · subst e
    exact ⟨i, hi, if_pos rfl, by rw [hb]; simp [List.getD]⟩
  · obtain ⟨j, h1, h2, h3⟩ := h k (by omega)
    exact ⟨j, h1, (if_neg e).trans h2, by rw [← h3]; simp [List.getD, List.getElem?_append_left (show k < W.length by omega)]⟩
theorem napp_val {n bytes : Nat} {v : Go.Value} {vg : Nat → Go.Value} {K : Nat → (Nat → List Go.Value) → Prop} (hn : n ≤ 4000) (hb : bytes = 24) (h : K (n + 1) (fun k => [if k = n then v else vg k])) : V.NApp n 1 (fun k => [vg k]) (listG [[v]]) bytes K :=
  ⟨⟨_, _, rfl, by omega, by subst hb; omega, fun k hk => by show [if k = n then v else vg k] = _; rw [if_neg (by omega)], fun k hk => by
    obtain rfl : k = 0 := by omega
    show [if n = n then v else vg n] = [v]
    rw [if_pos rfl], h⟩⟩
set_option maxHeartbeats 4000000 in
theorem v_tapeMany (L : List (List Nat)) (sl : Nat → Option Addr × Nat × Nat) (hL : Ta.Bys L) (hz0 : L.length ≤ 5864062014634 ∧ ∀ k, k < L.length → (L.getD k default).length ≤ 140737488351232) : V.Fn Try.prog 8 [.dee 1 L.length (fun k => [Ta.vsl sl k]) (xD L)] [.one (.ref 0)] (.bool true) := by
  obtain ⟨hl, hz0⟩ := hz0
  refine V.Fn.mk_ V.Tok V.mixed Try.func8 rfl Try.ntmps8 (by kernel_rfl) rfl rfl ?_
  repeat' ((conv => whnf); first | (refine V.NIf.yes ?_ ?_; · (exact rfl; done)) | (refine V.NIf.no ?_ ?_; · (exact fun h => h rfl; done)) | (refine V.NIf.yes ?_ ?_; · (omega; done)) | (refine V.NIf.no ?_ ?_; · (omega; done)) | refine V.NCond.mk ?_ | refine V.NPick.l ?_ | refine V.NIf.not_ ?_ | refine V.NIf.dec_ ?_ | refine V.a4 ?_ | refine V.a5 ?_ | refine V.NIf.mk (fun _ => ?_) (fun _ => ?_) | refine V.a7 ?_ | refine V.a8 ?_ | refine V.a9 ?_ | refine V.NBoth.mk ?_ ?_ | refine V.b1 ?_ | refine V.b2 ?_ | refine V.NTF.dec ?_ | refine V.b3 ?_ | refine V.b4 ?_ | (first | refine V.Fn.k0 (v_tapeBegun) rfl ?_ | refine V.Fn.q0 (v_tapeBegun) rfl ?_ | refine V.Fn.a0 (v_tapeBegun) rfl ?_) | (refine V.NDraw.any (by kernel_rfl) ?_) | fail)
  all_goals (conv => whnf)
  refine V.NLoop.auto (fun (⟨i, W, vg⟩ : Nat × List (List Nat) × (Nat → Go.Value)) => [(5, .one (.val (.int .i64 i))), (3, .one (.ref 1)), (4, .one (.ref 2))]) (fun (⟨i, W, vg⟩ : Nat × List (List Nat) × (Nat → Go.Value)) => [(1, .row 5 1 (Ta.cat W).length (ga ebn (Ta.cat W))), (2, .row 22 1 W.length (fun k => [vg k]))]) [] [] (fun (⟨i, W, vg⟩ : Nat × List (List Nat) × (Nat → Go.Value)) => L.length - i) (fun (⟨i, W, vg⟩ : Nat × List (List Nat) × (Nat → Go.Value)) => i ≤ L.length ∧ (Ta.cat W).length ≤ 4000 ∧ Ta.Fine W ∧ Ta.By (Ta.cat W) ∧ Ta.Src L (Ta.vsl sl) W vg) (0, [], fun _ => .slice none 0 0) ⟨Nat.zero_le _, Nat.zero_le _, (fun b hb => absurd hb List.not_mem_nil), (fun b hb => absurd hb List.not_mem_nil), (fun k hk => absurd hk (Nat.not_lt_zero _))⟩ V.S_ V.S_ (fun _ => ⟨rfl, rfl⟩) ?_; (conv => whnf); refine ⟨⟨rfl, rfl⟩, ?_⟩
  rintro ⟨i, W, vg⟩ ⟨hi, hc, hF, hB, hS⟩
  dsimp only at hi hc hF hB hS ⊢
  have wl := Ta.cat_long W hF
  by_cases hlt : i < L.length
  · have hb := hL _ (getD_mem hlt)
    have hS2 := fun b hb => Ta.Src.more (b := b) hS hlt hb
    have hz := hz0 i hlt
    clear hz0
    generalize hbb : L.getD i default = b at *
    have lb : (L.getD i default).length = b.length := by rw [hbb]
    have c2 := v_put (Ta.cat W) b hB hb (by omega) (by omega)
    have tok : True := trivial
    by_cases he : Ta.pE (Ta.cat W) b = 0
    · obtain ⟨q1, q2, q3⟩ := Ta.p_ok he
      have hT := Ta.pV_by hB hb
      rw [q3] at hT c2
      rw [he] at c2
      have e1 : Ta.cat W ++ Ta.rc b = Ta.cat (W ++ [b]) := by rw [Ta.cat_app, Ta.cat_one]
      have l1 : (Ta.cat W ++ Ta.rc b).length = (Ta.cat W).length + b.length + 6 := by rw [List.length_append, Ta.rc_len]; omega
      have hF2 : Ta.Fine (W ++ [b]) := fun x hx => (List.mem_append.1 hx).elim (hF x) fun y => by rw [List.mem_singleton.1 y]; exact q2
      have hS3 := hS2 b rfl
      rw [e1] at hT c2 l1
      have l2 : (W ++ [b]).length = W.length + 1 := by simp
      clear e1 hS2 q3 he
      repeat' ((conv => whnf); first | (refine V.NIf.yes ?_ ?_; · (exact rfl; done)) | (refine V.NIf.no ?_ ?_; · (exact fun h => h rfl; done)) | (refine V.NIf.yes ?_ ?_; · (omega; done)) | (refine V.NIf.no ?_ ?_; · (omega; done)) | refine V.NCond.mk ?_ | refine V.NPick.l ?_ | refine V.NIf.not_ ?_ | refine V.NIf.dec_ ?_ | refine V.a4 ?_ | refine V.a5 ?_ | refine V.NIf.mk (fun _ => ?_) (fun _ => ?_) | refine V.a7 ?_ | refine V.a8 ?_ | refine V.a9 ?_ | refine V.NBoth.mk ?_ ?_ | refine V.b1 ?_ | refine V.b2 ?_ | refine V.NTF.dec ?_ | refine V.b3 ?_ | refine V.b4 ?_ | ((first | refine V.FnR.k_ (c2) [1, 3] rfl ?_ ?_ | refine V.FnR.a_ (c2) [1, 3] rfl ?_ ?_); · exact ⟨⟨rfl, rfl, fun _ _ => rfl⟩, ⟨rfl, (by rw [hbb]), fun _ _ => (by rw [hbb])⟩, trivial⟩) | (refine NCall.seeD 1 0 i 0 rfl hlt rfl rfl rfl ?_) | (refine NSrc.mk (.inr (.inr ⟨4, 3, rfl, ?_⟩)); clear tok) | (refine NSrc.mk (.inl ?_)) | (refine NIdx.mk ⟨i, rfl, by omega, ?_⟩) | (refine napp_val (by omega) rfl ?_) | (refine V.NDraw.any (by kernel_rfl) ?_) | fail)
      all_goals (conv => whnf)
      all_goals exact V.NBack.at_ (i + 1, W ++ [b], fun k => if k = W.length then Ta.vsl sl i else vg k) [(1, 5), (2, 7)] ⟨by omega, (by show (Ta.cat (W ++ [b])).length ≤ 4000; omega), hF2, hT, hS3⟩ (by show L.length - (i + 1) < L.length - i; omega) V.S_ rfl ⟨⟨rfl, rfl, rfl, fun _ _ => rfl⟩, ⟨rfl, rfl, l2.symm, fun _ _ => rfl⟩, trivial⟩ V.S_ V.S_
    · rw [Ta.p_no he] at c2
      have he3 : Ta.pE (Ta.cat W) b = 3 ↔ b.length = 0 := by
        unfold Ta.pE
        rw [if_neg (by omega)]
        by_cases q : b.length = 0
        · rw [if_pos q]; exact iff_of_true rfl q
        · rw [if_neg q]
          refine iff_of_false ?_ q
          split <;> decide
      have he4 : Ta.pE (Ta.cat W) b = 3 ↔ ((L.getD i default).length : Int) = 0 := by rw [he3, lb]; omega
      clear he3
      generalize Ta.pE (Ta.cat W) b = e at *
      clear hS2
      repeat' ((conv => whnf); first | (refine V.NIf.no ?_ ?_; · (exact fun h => h he4; done)) | (refine V.NIf.no ?_ ?_; · (decide; done)) | (refine V.NIf.yes ?_ ?_; · (exact rfl; done)) | (refine V.NIf.no ?_ ?_; · (exact fun h => h rfl; done)) | (refine V.NIf.yes ?_ ?_; · (omega; done)) | (refine V.NIf.no ?_ ?_; · (omega; done)) | refine V.NCond.mk ?_ | refine V.NPick.l ?_ | refine V.NIf.not_ ?_ | refine V.NIf.dec_ ?_ | refine V.a4 ?_ | refine V.a5 ?_ | refine V.NIf.mk (fun _ => ?_) (fun _ => ?_) | refine V.a7 ?_ | refine V.a8 ?_ | refine V.a9 ?_ | refine V.NBoth.mk ?_ ?_ | refine V.b1 ?_ | refine V.b2 ?_ | refine V.NTF.dec ?_ | refine V.b3 ?_ | refine V.b4 ?_ | ((first | refine V.FnR.k_ (c2) [1, 3] rfl ?_ ?_ | refine V.FnR.a_ (c2) [1, 3] rfl ?_ ?_); · exact ⟨⟨rfl, rfl, fun _ _ => rfl⟩, ⟨rfl, (by rw [hbb]), fun _ _ => (by rw [hbb])⟩, trivial⟩) | (refine NCall.seeD 1 0 i 0 rfl hlt rfl rfl rfl ?_) | (refine NSrc.mk (.inr (.inr ⟨4, 3, rfl, ?_⟩)); clear tok) | (refine NSrc.mk (.inl ?_)) | (refine NIdx.mk ⟨i, rfl, by omega, ?_⟩) | (refine V.NDraw.any (by kernel_rfl) ?_) | fail)
      all_goals (conv => whnf)
      all_goals exact V.NBack.at_ (i + 1, W, vg) [] ⟨by omega, hc, hF, hB, hS⟩ (by show L.length - (i + 1) < L.length - i; omega) V.S_ rfl V.S_ V.S_ V.S_
  · obtain rfl : i = L.length := by omega
    obtain ⟨g1, g2⟩ := Ta.get_cat hF
    have c3 := v_get (Ta.cat W) hB
    rw [show Ta.gV (Ta.cat W) = W from (if_neg (by omega)).trans g1, show Ta.gN (Ta.cat W) = ((Ta.cat W).length : Nat) from (if_neg (by omega)).trans (by rw [g2]), show Ta.gE (Ta.cat W) = 0 from if_neg (by omega)] at c3
    have wb : Ta.Bys W := fun b hb => by
      rw [← g1] at hb
      exact Ta.get_by hB b hb
    have cr := fun va vb => v_samerec W W va vb wb wb (by omega)
    simp only [decide_true] at cr
    have hw : ∀ k, k < W.length → ∃ j, j < L.length ∧ [vg k] = [Ta.vsl sl j] ∧ xD W k = xD L j := fun k hk => by
      obtain ⟨j, h1, h2, h3⟩ := hS k hk
      exact ⟨j, h1, by rw [h2], by unfold xD; rw [h3]⟩
    clear g1 g2
    generalize Ta.cat W = T at *
    repeat' ((conv => whnf); first | (refine V.NIf.yes ?_ ?_; · (exact rfl; done)) | (refine V.NIf.no ?_ ?_; · (exact fun h => h rfl; done)) | (refine V.NIf.yes ?_ ?_; · (omega; done)) | (refine V.NIf.no ?_ ?_; · (omega; done)) | refine V.NCond.mk ?_ | refine V.NPick.l ?_ | refine V.NIf.not_ ?_ | refine V.NIf.dec_ ?_ | refine V.a4 ?_ | refine V.a5 ?_ | refine V.NIf.mk (fun _ => ?_) (fun _ => ?_) | refine V.a7 ?_ | refine V.a8 ?_ | refine V.a9 ?_ | refine V.NBoth.mk ?_ ?_ | refine V.b1 ?_ | refine V.b2 ?_ | refine V.NTF.dec ?_ | refine V.b3 ?_ | refine V.b4 ?_ | ((first | refine V.FnX.k_ (c3) [1] rfl ?_ ?_ | refine V.FnX.a_ (c3) [1] rfl ?_ ?_); (· exact V.D_); intro vt) | (refine V.NCallQ.to (V.Fn.useRow (cr vt vg) 3 2 0 ?_ rfl rfl hw ?_); · exact ⟨rfl, rfl, V.DeeLe.refl_⟩) | (refine V.NDraw.any (by kernel_rfl) ?_) | fail)
    all_goals (conv => whnf)
end Go.Proofs.Ytdplkcciknfnhaa

/- The statement of TapeMany: for every input the call returns true and its input reads as it did. No condition. -/
namespace Go.Proofs.Ytdplkcciknfnhaa.tapeMany
open Go.ChangeShapes Go.WideShapes Go.ChangeAt Go.RowKit

theorem own : ownKnob Try.prog.godebug = none := by kernel_rfl

set_option maxRecDepth 100000 in
theorem lifted (os : Os) (started : os.Started) (H : Type) (enc : TypeId × Value → H) :
    ReturnsInHanded {} Try.checked os 8 .any (Rows.tapeManySpec.pre6 enc Try.prog Try.f8 Rows.tapeManyRow.domain false) (Rows.tapeManySpec.post enc Try.prog Try.f8 false true false false) := by
  refine returnsInHanded_of_change_sized (C := Try.checked) own started (by kernel_rfl) Try.func8
    (ChangeSpec.witness6 (enc := enc) (C := Try.checked) false ⟨#[], #[.slice none 0 0], []⟩ 8 (by kernel_rfl) (by kernel_rfl) (by kernel_rfl) (by kernel_rfl)) ?_
  intro W base args ds gs before hval0 hW _ hsz _
  have hval : ∀ (j : Nat) t v, Try.f8.params[j]? = some t → args[j]? = some v → Value.okWide Try.prog W .any base t v := hval0
  have hW' := hW
  obtain ⟨p, q, hA0, hV, rfl, hfz, hnd⟩ := hW
  have hA : DataW.TrodAll enc Try.prog W 0 (fun _ => true) true Try.f8.params.toList args.toList ds p := hA0
  rw [Try.params8] at hA hval hsz
  obtain ⟨v0, vs0, d0, ds0, p0, q0, hargs, rfl, rfl, h0, r0⟩ := trodAll_cons hA
  obtain ⟨rfl, rfl, rfl⟩ := trodAll_nil r0
  obtain rfl : args = #[v0] := by cases args; simp_all
  obtain ⟨rfl, rfl⟩ := trodVars_none hV
  obtain ⟨l0, va0, hl0, w0⟩ := open_bls (hval 0 28 v0 rfl rfl) h0
  have z0 : ∀ k, k < l0.length → (l0.getD k default).length ≤ 140737488351232 := fun k hk => by
    have q := len_within hsz (j := 0) rfl rfl h0 Try.underlying28 blCells (show V.ArrIs _ _ _ _ _ from hl0.1) hk rfl Try.underlying22 (show Try.prog.bytesOf 5 = 1 by kernel_rfl) (show V.ArrIs _ _ _ _ _ from hl0.2 k 0 (Ta.vsl va0 k) 1 _ _ hk rfl rfl)
    omega
  have y0 := len_sized hsz (j := 0) rfl rfl Try.underlying28 (show Try.prog.bytesOf 22 = 24 by kernel_rfl) h0 (show V.ArrIs _ _ _ _ _ from hl0.1)
  clear hval0
  simp only [List.append_nil] at hW'
  refine ((v_tapeMany l0 va0 w0 ⟨by omega, z0⟩).c W (fun i => [v0][i]?) [_] (fun i o ho => by
      rcases i with _ | i
      · obtain rfl := Option.some.inj ho
        exact ⟨v0, rfl, hl0⟩
      simp at ho
) ⟨_, _, rfl, ⟨rfl, (show V.ArrIs _ _ _ _ _ from hl0.1).one⟩, rfl⟩).mono fun e W' ⟨he, hg0⟩ => ?_
  have hg := hg0.toBelow
  subst he
  exact ⟨_, rfl, post_of_below (pa := _) (pv := []) hW' (fun _ _ _ => (trodAll_cons_mk (shut_bool Try.underlying4 _) trodAll_mk0)) (fun sp hsp => all_stays laidOut (by kernel_rfl) hA0 (fun x hx => hg.same (hW'.lt x (by revert hx; simp))) (fun x hx => hsp x (by revert hx; simp))) (fun _ _ => rfl) (by simp)
    hg (ok_one (by kernel_rfl) rfl (okWide_bool_mk Try.underlying4 _))⟩

theorem over : Rows.tapeManyRow.holds Try.pinned (OpenSpec.ofChange Rows.tapeManySpec) :=
  OpenClaim.holds_of_wide 8 Try.f8 rfl rfl rfl rfl rfl rfl rfl ⟨rfl, rfl, rfl, rfl, rfl⟩ rfl rfl rfl rfl rfl (by kernel_rfl) Try.func8 (by kernel_rfl)
    (of_decide_eq_true (by kernel_rfl)) (by unfold Func.isWrapper; first | (rw [if_pos (by decide +kernel)]; kernel_rfl) | (rw [if_neg (by decide +kernel)]; exact ⟨rfl, rfl⟩))
    (fun os started H enc _ => lifted os started H enc)

theorem proved : Rows.TapeManySaid :=
  over
end Go.Proofs.Ytdplkcciknfnhaa.tapeMany
