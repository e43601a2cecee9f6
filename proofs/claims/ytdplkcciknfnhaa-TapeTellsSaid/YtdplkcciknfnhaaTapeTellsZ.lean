/- The statement of TapeTells: the call returns true for every input, and its input reads as it did. No condition. -/
import Derived.Test.YtdplkcciknfnhaaRows
import Derived.WalkKit
import Derived.ProofKit
import Derived.OpenShut
import Derived.Test.YtdplkcciknfnhaaZ1
import Derived.Test.YtdplkcciknfnhaaZ2
import Derived.Test.YtdplkcciknfnhaaZ3
import Derived.Test.YtdplkcciknfnhaaZ4
set_option linter.unusedVariables false
set_option linter.unusedSimpArgs false
set_option linter.unusedSectionVars false
set_option maxRecDepth 100000

/- TapeTells: sums, tapes, what they hold, and torn ones: as the document has them. -/
namespace Go.Proofs.Ytdplkcciknfnhaa
open Go Go.RowKit V
set_option maxRecDepth 100000
set_option linter.unusedVariables false
set_option linter.unusedSimpArgs false
set_option maxHeartbeats 4000000 in
theorem v_tapeTells (t : List Nat) (ht : Ta.By t) (b : List Nat) (hb : Ta.By b) (hz1 : b.length ≤ 140737488351232) (keep : Int) (w_keep : (Lit.int .i64 keep).wf = true) : V.Fn Try.prog 3 [.arr 1 t.length (ga ebn t), .arr 1 b.length (ga ebn b)] [.one (.ref 0), .one (.ref 1), .one (.val (.int .i64 keep))] (.bool true) := by
  refine V.Fn.lim (by kernel_rfl) fun hl => ?_
  have lt : t.length ≤ 9223372036854775807 := hl 0 _ _ _ rfl
  clear hl
  have c1 := v_Sum b hb (by omega)
  have c2 := v_put t b ht hb (by omega) (by omega)
  have c3 := v_get t ht
  have c4 := v_torn t keep (by omega)
  have c5 := v_rsum b hb (by omega)
  have c6 := v_rput t b ht hb (by omega) (by omega)
  have c7 := v_rget t ht
  have c8 := v_samebytes _ _ (Ta.pV_by ht hb) (Ta.pV_by ht hb)
  have c9 := v_samebytes _ _ (Ta.toV_by (k := keep) ht) (Ta.toV_by (k := keep) ht)
  have gb := Ta.gV_by ht
  have gl : (Ta.gV t).length ≤ 9223372036854775807 := by
    unfold Ta.gV
    split
    · exact Nat.zero_le _
    · have := Ta.cat_long (Ta.get t) (Ta.get_split t).choose_spec.2.2
      have := Ta.en_le t
      have e : Ta.en t = (Ta.cat (Ta.get t)).length := rfl
      omega
  have cr := fun va vb => v_samerec (Ta.gV t) (Ta.gV t) va vb gb gb gl
  rw [decide_eq_true rfl] at c8 c9
  simp only [decide_true] at cr
  generalize Ta.pV t b = P at *
  generalize Ta.pE t b = pe at *
  obtain ⟨S, hS⟩ : ∃ S : Int, S = Ta.suV b := ⟨_, rfl⟩
  obtain ⟨E, hE⟩ : ∃ E : Int, E = Ta.suE b := ⟨_, rfl⟩
  rw [← hS, ← hE] at c1
  unfold Ta.suV at hS
  unfold Ta.suE at hE
  generalize Ta.sm b = s at *
  obtain ⟨G, hG⟩ : ∃ G, G = Ta.gV t := ⟨_, rfl⟩
  obtain ⟨N, hN⟩ : ∃ N, N = Ta.gN t := ⟨_, rfl⟩
  obtain ⟨F, hF⟩ : ∃ F, F = Ta.gE t := ⟨_, rfl⟩
  rw [← hG] at c3 cr gb gl
  rw [← hN, ← hF] at c3
  unfold Ta.gV at hG
  unfold Ta.gN at hN
  unfold Ta.gE at hF
  generalize Ta.get t = g at *
  generalize Ta.en t = n at *
  have hb4 : (4000 < b.length ∧ S = 0 ∧ E = 2) ∨ (¬ 4000 < b.length ∧ S = s ∧ E = 0) := by
    by_cases q : 4000 < b.length
    · rw [if_pos q] at hS hE
      exact .inl ⟨q, hS, hE⟩
    · rw [if_neg q] at hS hE
      exact .inr ⟨q, hS, hE⟩
  clear hS hE
  by_cases h1 : 4000 < t.length
  · rw [if_pos h1] at hG hN hF
    subst hG hN hF
    have q : Ta.toE t keep = 2 := if_pos h1
    have q2 : Ta.toV t keep = [] := if_neg (by omega)
    rw [q2] at c4 c9
    rw [q] at c4
    rcases hb4 with ⟨hb4, rfl, rfl⟩ | ⟨hb4, rfl, rfl⟩
    all_goals
    · refine V.Fn.mk_ V.Tok V.mixed Try.func3 rfl Try.ntmps3 (by kernel_rfl) rfl rfl ?_
      repeat' ((conv => whnf); first | (refine V.NIf.yes ?_ ?_; · (exact rfl; done)) | (refine V.NIf.no ?_ ?_; · (exact fun h => h rfl; done)) | (refine V.NIf.yes ?_ ?_; · (omega; done)) | (refine V.NIf.no ?_ ?_; · (omega; done)) | refine V.NCond.mk ?_ | refine V.NPick.l ?_ | refine V.NIf.not_ ?_ | refine V.NIf.dec_ ?_ | refine V.a4 ?_ | refine V.a5 ?_ | refine V.NIf.mk (fun _ => ?_) (fun _ => ?_) | refine V.a7 ?_ | refine V.a8 ?_ | refine V.a9 ?_ | refine V.NBoth.mk ?_ ?_ | refine V.b1 ?_ | refine V.b2 ?_ | refine V.NTF.dec ?_ | refine V.b3 ?_ | refine V.b4 ?_ | ((first | refine V.Fn.k (c1) [1] rfl ?_ ?_ | refine V.Fn.q (c1) [1] rfl ?_ ?_ | refine V.Fn.a (c1) [1] rfl ?_ ?_); · exact V.D_) | ((first | refine V.FnR.k_ (c2) [0, 1] rfl ?_ ?_ | refine V.FnR.a_ (c2) [0, 1] rfl ?_ ?_); · exact V.D_) | ((first | refine V.FnX.k_ (c3) [0] rfl ?_ ?_ | refine V.FnX.a_ (c3) [0] rfl ?_ ?_); (· exact V.D_); intro vs) | ((first | refine V.FnR.k_ (c4) [0] rfl ?_ ?_ | refine V.FnR.a_ (c4) [0] rfl ?_ ?_); · exact V.D_) | ((first | refine V.Fn.k (c5) [1] rfl ?_ ?_ | refine V.Fn.q (c5) [1] rfl ?_ ?_ | refine V.Fn.a (c5) [1] rfl ?_ ?_); · exact V.D_) | ((first | refine V.FnR.k_ (c6) [0, 1] rfl ?_ ?_ | refine V.FnR.a_ (c6) [0, 1] rfl ?_ ?_); · exact V.D_) | (first | refine V.Fn.k0 (v_tapeBegun) rfl ?_ | refine V.Fn.q0 (v_tapeBegun) rfl ?_ | refine V.Fn.a0 (v_tapeBegun) rfl ?_) | ((first | refine V.Fn.k (c8) [2, 5] rfl ?_ ?_ | refine V.Fn.q (c8) [2, 5] rfl ?_ ?_ | refine V.Fn.a (c8) [2, 5] rfl ?_ ?_); · exact V.D_) | ((first | refine V.Fn.k ((cr vs vs)) [3, 6] rfl ?_ ?_ | refine V.Fn.q ((cr vs vs)) [3, 6] rfl ?_ ?_ | refine V.Fn.a ((cr vs vs)) [3, 6] rfl ?_ ?_); · exact V.D_) | ((first | refine V.Fn.k (c9) [4, 7] rfl ?_ ?_ | refine V.Fn.q (c9) [4, 7] rfl ?_ ?_ | refine V.Fn.a (c9) [4, 7] rfl ?_ ?_); · exact V.D_) | (refine V.NDraw.any (by kernel_rfl) ?_) | fail)
      all_goals (conv => whnf)
      all_goals exact ⟨true, rfl, iff_of_true rfl rfl⟩
  · rw [if_neg h1] at hG hN hF
    subst hG hN hF
    have c7 := c7 (by omega)
    by_cases h2 : keep < 0 ∨ (t.length : Int) < keep
    · have q : Ta.toE t keep = 3 := (if_neg h1).trans (if_pos h2)
      have q2 : Ta.toV t keep = [] := if_neg (by omega)
      rw [q2] at c4 c9
      rw [q] at c4
      rcases hb4 with ⟨hb4, rfl, rfl⟩ | ⟨hb4, rfl, rfl⟩
      all_goals
      · refine V.Fn.mk_ V.Tok V.mixed Try.func3 rfl Try.ntmps3 (by kernel_rfl) rfl rfl ?_
        repeat' ((conv => whnf); first | (refine V.NIf.yes ?_ ?_; · (exact rfl; done)) | (refine V.NIf.no ?_ ?_; · (exact fun h => h rfl; done)) | (refine V.NIf.yes ?_ ?_; · (omega; done)) | (refine V.NIf.no ?_ ?_; · (omega; done)) | refine V.NCond.mk ?_ | refine V.NPick.l ?_ | refine V.NIf.not_ ?_ | refine V.NIf.dec_ ?_ | refine V.a4 ?_ | refine V.a5 ?_ | refine V.NIf.mk (fun _ => ?_) (fun _ => ?_) | refine V.a7 ?_ | refine V.a8 ?_ | refine V.a9 ?_ | refine V.NBoth.mk ?_ ?_ | refine V.b1 ?_ | refine V.b2 ?_ | refine V.NTF.dec ?_ | refine V.b3 ?_ | refine V.b4 ?_ | ((first | refine V.Fn.k (c1) [1] rfl ?_ ?_ | refine V.Fn.q (c1) [1] rfl ?_ ?_ | refine V.Fn.a (c1) [1] rfl ?_ ?_); · exact V.D_) | ((first | refine V.FnR.k_ (c2) [0, 1] rfl ?_ ?_ | refine V.FnR.a_ (c2) [0, 1] rfl ?_ ?_); · exact V.D_) | ((first | refine V.FnX.k_ (c3) [0] rfl ?_ ?_ | refine V.FnX.a_ (c3) [0] rfl ?_ ?_); (· exact V.D_); intro vs) | ((first | refine V.FnR.k_ (c4) [0] rfl ?_ ?_ | refine V.FnR.a_ (c4) [0] rfl ?_ ?_); · exact V.D_) | ((first | refine V.Fn.k (c5) [1] rfl ?_ ?_ | refine V.Fn.q (c5) [1] rfl ?_ ?_ | refine V.Fn.a (c5) [1] rfl ?_ ?_); · exact V.D_) | ((first | refine V.FnR.k_ (c6) [0, 1] rfl ?_ ?_ | refine V.FnR.a_ (c6) [0, 1] rfl ?_ ?_); · exact V.D_) | ((first | refine V.FnX.k_ (c7) [0] rfl ?_ ?_ | refine V.FnX.a_ (c7) [0] rfl ?_ ?_); (· exact V.D_); intro vt) | (first | refine V.Fn.k0 (v_tapeBegun) rfl ?_ | refine V.Fn.q0 (v_tapeBegun) rfl ?_ | refine V.Fn.a0 (v_tapeBegun) rfl ?_) | ((first | refine V.Fn.k (c8) [2, 5] rfl ?_ ?_ | refine V.Fn.q (c8) [2, 5] rfl ?_ ?_ | refine V.Fn.a (c8) [2, 5] rfl ?_ ?_); · exact V.D_) | ((first | refine V.Fn.k ((cr vs vt)) [3, 7] rfl ?_ ?_ | refine V.Fn.q ((cr vs vt)) [3, 7] rfl ?_ ?_ | refine V.Fn.a ((cr vs vt)) [3, 7] rfl ?_ ?_); · exact ⟨⟨rfl, rfl, V.DeeLe.refl_⟩, ⟨rfl, rfl, V.DeeLe.refl_⟩, trivial⟩) | ((first | refine V.Fn.k (c9) [4, 8] rfl ?_ ?_ | refine V.Fn.q (c9) [4, 8] rfl ?_ ?_ | refine V.Fn.a (c9) [4, 8] rfl ?_ ?_); · exact V.D_) | (refine V.NDraw.any (by kernel_rfl) ?_) | fail)
        all_goals (conv => whnf)
        all_goals exact ⟨true, rfl, iff_of_true rfl rfl⟩
    · have q : Ta.toE t keep = 0 := (if_neg h1).trans (if_neg h2)
      have q2 := (Ta.to_ok q).2.2.2
      rw [q2] at c4 c9
      rw [q] at c4
      obtain ⟨k, rfl⟩ : ∃ k : Nat, keep = k := ⟨keep.toNat, by omega⟩
      rw [Int.toNat_natCast] at c4 c9
      have lk : (t.take k).length = k := by rw [List.length_take]; omega
      have g1 : ∀ j, j < k → ga ebn t (0 + j) = ga ebn (t.take k) j := fun j hj => by rw [Nat.zero_add]; exact (V.ga_take hj (by omega)).symm
      clear q q2
      generalize t.take k = c at *
      rcases hb4 with ⟨hb4, rfl, rfl⟩ | ⟨hb4, rfl, rfl⟩
      all_goals
      · refine V.Fn.mk_ V.Tok V.mixed Try.func3 rfl Try.ntmps3 (by kernel_rfl) rfl rfl ?_
        repeat' ((conv => whnf); first | (refine V.NIf.yes ?_ ?_; · (exact rfl; done)) | (refine V.NIf.no ?_ ?_; · (exact fun h => h rfl; done)) | (refine V.NIf.yes ?_ ?_; · (omega; done)) | (refine V.NIf.no ?_ ?_; · (omega; done)) | refine V.NCond.mk ?_ | refine V.NPick.l ?_ | refine V.NIf.not_ ?_ | refine V.NIf.dec_ ?_ | refine V.a4 ?_ | refine V.a5 ?_ | refine V.NIf.mk (fun _ => ?_) (fun _ => ?_) | refine V.a7 ?_ | refine V.a8 ?_ | refine V.a9 ?_ | refine V.NBoth.mk ?_ ?_ | refine V.b1 ?_ | refine V.b2 ?_ | refine V.NTF.dec ?_ | refine V.b3 ?_ | refine V.b4 ?_ | ((first | refine V.Fn.k (c1) [1] rfl ?_ ?_ | refine V.Fn.q (c1) [1] rfl ?_ ?_ | refine V.Fn.a (c1) [1] rfl ?_ ?_); · exact V.D_) | ((first | refine V.FnR.k_ (c2) [0, 1] rfl ?_ ?_ | refine V.FnR.a_ (c2) [0, 1] rfl ?_ ?_); · exact V.D_) | ((first | refine V.FnX.k_ (c3) [0] rfl ?_ ?_ | refine V.FnX.a_ (c3) [0] rfl ?_ ?_); (· exact V.D_); intro vs) | ((first | refine V.FnR.k_ (c4) [0] rfl ?_ ?_ | refine V.FnR.a_ (c4) [0] rfl ?_ ?_); · exact V.D_) | ((first | refine V.Fn.k (c5) [1] rfl ?_ ?_ | refine V.Fn.q (c5) [1] rfl ?_ ?_ | refine V.Fn.a (c5) [1] rfl ?_ ?_); · exact V.D_) | ((first | refine V.FnR.k_ (c6) [0, 1] rfl ?_ ?_ | refine V.FnR.a_ (c6) [0, 1] rfl ?_ ?_); · exact V.D_) | ((first | refine V.FnX.k_ (c7) [0] rfl ?_ ?_ | refine V.FnX.a_ (c7) [0] rfl ?_ ?_); (· exact V.D_); intro vt) | (first | refine V.Fn.k0 (v_tapeBegun) rfl ?_ | refine V.Fn.q0 (v_tapeBegun) rfl ?_ | refine V.Fn.a0 (v_tapeBegun) rfl ?_) | ((first | refine V.Fn.k (c8) [2, 5] rfl ?_ ?_ | refine V.Fn.q (c8) [2, 5] rfl ?_ ?_ | refine V.Fn.a (c8) [2, 5] rfl ?_ ?_); · exact V.D_) | ((first | refine V.Fn.k ((cr vs vt)) [3, 7] rfl ?_ ?_ | refine V.Fn.q ((cr vs vt)) [3, 7] rfl ?_ ?_ | refine V.Fn.a ((cr vs vt)) [3, 7] rfl ?_ ?_); · exact ⟨⟨rfl, rfl, V.DeeLe.refl_⟩, ⟨rfl, rfl, V.DeeLe.refl_⟩, trivial⟩) | (refine NCut.mk ⟨0, k, rfl, rfl, by omega, by omega, ?_⟩) | ((first | refine V.Fn.k (c9) [4, 9] rfl ?_ ?_ | refine V.Fn.q (c9) [4, 9] rfl ?_ ?_ | refine V.Fn.a (c9) [4, 9] rfl ?_ ?_); · exact ⟨⟨rfl, rfl, fun _ _ => rfl⟩, ⟨rfl, (by omega), fun j hj => g1 j (by omega)⟩, trivial⟩) | (refine V.NDraw.any (by kernel_rfl) ?_) | fail)
        all_goals (conv => whnf)
        all_goals exact ⟨true, rfl, iff_of_true rfl rfl⟩
end Go.Proofs.Ytdplkcciknfnhaa

/- The statement of TapeTells: for every input the call returns true and its input reads as it did. No condition. -/
namespace Go.Proofs.Ytdplkcciknfnhaa.tapeTells
open Go.ChangeShapes Go.WideShapes Go.ChangeAt Go.RowKit

theorem own : ownKnob Try.prog.godebug = none := by kernel_rfl

set_option maxRecDepth 100000 in
theorem lifted (os : Os) (started : os.Started) (H : Type) (enc : TypeId × Value → H) :
    ReturnsInHanded {} Try.checked os 3 .any (Rows.tapeTellsSpec.pre6 enc Try.prog Try.f3 Rows.tapeTellsRow.domain false) (Rows.tapeTellsSpec.post enc Try.prog Try.f3 false true false false) := by
  refine returnsInHanded_of_change_sized (C := Try.checked) own started (by kernel_rfl) Try.func3
    (ChangeSpec.witness6 (enc := enc) (C := Try.checked) false ⟨#[], #[.slice none 0 0, .slice none 0 0, .int .i64 0], []⟩ 8 (by kernel_rfl) (by kernel_rfl) (by kernel_rfl) (by kernel_rfl)) ?_
  intro W base args ds gs before hval0 hW _ hsz _
  have hval : ∀ (j : Nat) t v, Try.f3.params[j]? = some t → args[j]? = some v → Value.okWide Try.prog W .any base t v := hval0
  have hW' := hW
  obtain ⟨p, q, hA0, hV, rfl, hfz, hnd⟩ := hW
  have hA : DataW.TrodAll enc Try.prog W 0 (fun _ => true) true Try.f3.params.toList args.toList ds p := hA0
  rw [Try.params3] at hA hval hsz
  obtain ⟨v0, vs0, d0, ds0, p0, q0, hargs, rfl, rfl, h0, r0⟩ := trodAll_cons hA
  obtain ⟨v1, vs1, d1, ds1, p1, q1, rfl, rfl, rfl, h1, r1⟩ := trodAll_cons r0
  obtain ⟨v2, vs2, d2, ds2, p2, q2, rfl, rfl, rfl, h2, r2⟩ := trodAll_cons r1
  obtain ⟨rfl, rfl, rfl⟩ := trodAll_nil r2
  obtain rfl : args = #[v0, v1, v2] := by cases args; simp_all
  obtain ⟨rfl, rfl⟩ := trodVars_none hV
  obtain ⟨l0, hl0, w0⟩ := open_bl (hval 0 22 v0 rfl rfl) h0
  obtain ⟨l1, hl1, w1⟩ := open_bl (hval 1 22 v1 rfl rfl) h1
  obtain ⟨a2, rfl, rfl, rfl, w2⟩ := open_int Try.underlying3 (hval 2 3 v2 rfl rfl) h2
  have z1 := len_sized hsz (j := 1) rfl rfl Try.underlying22 (show Try.prog.bytesOf 5 = 1 by kernel_rfl) h1 hl1
  clear hval0
  simp only [List.append_nil] at hW'
  refine ((v_tapeTells l0 w0 l1 w1 (by omega) a2 w2).c W (fun i => [v0, v1][i]?) [_, _, _] (fun i o ho => by
      rcases i with _ | i
      · obtain rfl := Option.some.inj ho
        exact ⟨v0, rfl, hl0⟩
      rcases i with _ | i
      · obtain rfl := Option.some.inj ho
        exact ⟨v1, rfl, hl1⟩
      simp at ho
) ⟨_, _, rfl, ⟨rfl, hl0.one⟩, ⟨_, _, rfl, ⟨rfl, hl1.one⟩, ⟨_, _, rfl, rfl, rfl⟩⟩⟩).mono fun e W' ⟨he, hg0⟩ => ?_
  have hg := hg0.toBelow
  subst he
  exact ⟨_, rfl, post_of_below (pa := _) (pv := []) hW' (fun _ _ _ => (trodAll_cons_mk (shut_bool Try.underlying4 _) trodAll_mk0)) (fun sp hsp => all_stays laidOut (by kernel_rfl) hA0 (fun x hx => hg.same (hW'.lt x (by revert hx; simp))) (fun x hx => hsp x (by revert hx; simp))) (fun _ _ => rfl) (by simp)
    hg (ok_one (by kernel_rfl) rfl (okWide_bool_mk Try.underlying4 _))⟩

theorem over : Rows.tapeTellsRow.holds Try.pinned (OpenSpec.ofChange Rows.tapeTellsSpec) :=
  OpenClaim.holds_of_wide 3 Try.f3 rfl rfl rfl rfl rfl rfl rfl ⟨rfl, rfl, rfl, rfl, rfl⟩ rfl rfl rfl rfl rfl (by kernel_rfl) Try.func3 (by kernel_rfl)
    (of_decide_eq_true (by kernel_rfl)) (by unfold Func.isWrapper; first | (rw [if_pos (by decide +kernel)]; kernel_rfl) | (rw [if_neg (by decide +kernel)]; exact ⟨rfl, rfl⟩))
    (fun os started H enc _ => lifted os started H enc)

theorem proved : Rows.TapeTellsSaid :=
  over
end Go.Proofs.Ytdplkcciknfnhaa.tapeTells
