/- The statement of TapeBack: the call returns true for every input, and its input reads as it did. No condition. -/
import Derived.Test.YtdplkcciknfnhaaRows
import Derived.WalkKit
import Derived.ProofKit
import Derived.OpenShut
import Derived.Test.YtdplkcciknfnhaaZ1
import Derived.Test.YtdplkcciknfnhaaZ2
import Derived.Test.YtdplkcciknfnhaaZ3
import Derived.Test.YtdplkcciknfnhaaZ4
set_option linter.unusedVariables false
set_option linter.unusedSimpArgs false
set_option linter.unusedSectionVars false
set_option maxRecDepth 100000

/- TapeBack: what was put is had back. -/
namespace Go.Proofs.Ytdplkcciknfnhaa
open Go Go.RowKit V
set_option maxRecDepth 100000
set_option linter.unusedVariables false
set_option linter.unusedSimpArgs false
theorem Ta.dee_of {R G : List (List Nat)} {n : Nat} {vs : Nat → List Go.Value} (h : ∀ k, k < n → R.getD k default = G.getD k default) : V.DeeLe n vs (fun k => V.xsR 1 (xB R k)) vs (xD G) := fun k hk => ⟨rfl, fun j s m g e => ⟨g, by
  show (xD R k)[j]? = _
  rw [← e]
  show [some (1, (R.getD k default).length, ga ebn (R.getD k default))][j]? = [some (1, (G.getD k default).length, ga ebn (G.getD k default))][j]?
  rw [h k hk], fun _ _ => rfl⟩⟩
set_option maxHeartbeats 4000000 in
theorem v_tapeBack (t : List Nat) (ht : Ta.By t) (b : List Nat) (hb : Ta.By b) (hz1 : b.length ≤ 140737488351232) : V.Fn Try.prog 4 [.arr 1 t.length (ga ebn t), .arr 1 b.length (ga ebn b)] [.one (.ref 0), .one (.ref 1)] (.bool true) := by
  refine V.Fn.lim (by kernel_rfl) fun hl => ?_
  have lt : t.length ≤ 9223372036854775807 := hl 0 _ _ _ rfl
  clear hl
  have c2 := v_put t b ht hb (by omega) (by omega)
  have c3 := v_get t ht
  by_cases hp : Ta.pE t b = 0
  · obtain ⟨p1, p2, p3⟩ := Ta.p_ok hp
    rw [hp, p3] at c2
    have pb : Ta.By (t ++ Ta.rc b) := p3 ▸ Ta.pV_by ht hb
    have lT : (t ++ Ta.rc b).length = t.length + b.length + 6 := by rw [List.length_append, Ta.rc_len]; omega
    have c4 := v_get (t ++ Ta.rc b) pb
    have gt : ∀ u : List Nat, u.length ≤ 4000 → Ta.gV u = Ta.get u ∧ Ta.gN u = (Ta.en u : Nat) ∧ Ta.gE u = 0 := fun u hu => ⟨if_neg (by omega), if_neg (by omega), if_neg (by omega)⟩
    rw [(gt _ (by omega)).1, (gt _ (by omega)).2.1, (gt _ (by omega)).2.2] at c3 c4
    obtain ⟨⟨M, k1⟩, k2⟩ := Ta.back (t := t) (b := b) p2
    have e1 := Ta.en_le t
    have fin := (Ta.get_split t).choose_spec.2.2
    have gl := Ta.cat_long (Ta.get t) fin
    have e0 : Ta.en t = (Ta.cat (Ta.get t)).length := rfl
    rw [← e0] at gl
    clear e0 fin
    have gb := Ta.get_by ht
    have cr := fun va vb => v_samerec (Ta.get t) (Ta.get t) va vb gb gb (by omega)
    simp only [decide_true] at cr
    have cb := v_samebytes b b hb hb
    rw [decide_eq_true rfl] at cb
    clear gt hp p3 gb pb
    generalize Ta.get t = G at *
    generalize Ta.en t = n at *
    generalize t ++ Ta.rc b = T at *
    by_cases h1 : n = t.length
    · obtain ⟨k2, k3⟩ := k2 h1
      rw [k3] at c4
      clear k1 k3
      have hx : (Ta.get T).length = G.length + 1 := by rw [k2]; simp
      have xa : ∀ k, k < G.length → (Ta.get T).getD k default = G.getD k default := fun k hk => by rw [k2]; simp [List.getD, List.getElem?_append_left hk]
      have xb : (Ta.get T).getD G.length default = b := by rw [k2]; simp [List.getD]
      clear k2
      generalize Ta.get T = R at *
      refine V.Fn.mk_ V.Tok V.mixed Try.func4 rfl Try.ntmps4 (by kernel_rfl) rfl rfl ?_
      repeat' ((conv => whnf); first | (refine V.NIf.yes ?_ ?_; · (exact rfl; done)) | (refine V.NIf.no ?_ ?_; · (exact fun h => h rfl; done)) | (refine V.NIf.yes ?_ ?_; · (omega; done)) | (refine V.NIf.no ?_ ?_; · (omega; done)) | refine V.NCond.mk ?_ | refine V.NPick.l ?_ | refine V.NIf.not_ ?_ | refine V.NIf.dec_ ?_ | refine V.a4 ?_ | refine V.a5 ?_ | refine V.NIf.mk (fun _ => ?_) (fun _ => ?_) | refine V.a7 ?_ | refine V.a8 ?_ | refine V.a9 ?_ | refine V.NBoth.mk ?_ ?_ | refine V.b1 ?_ | refine V.b2 ?_ | refine V.NTF.dec ?_ | refine V.b3 ?_ | refine V.b4 ?_ | ((first | refine V.FnX.k_ (c3) [0] rfl ?_ ?_ | refine V.FnX.a_ (c3) [0] rfl ?_ ?_); (· exact V.D_); intro vs) | ((first | refine V.FnR.k_ (c2) [0, 1] rfl ?_ ?_ | refine V.FnR.a_ (c2) [0, 1] rfl ?_ ?_); · exact V.D_) | ((first | refine V.FnX.k_ (c4) [3] rfl ?_ ?_ | refine V.FnX.a_ (c4) [3] rfl ?_ ?_); (· exact V.D_); intro vt) | (first | refine V.Fn.k0 (v_tapeBegun) rfl ?_ | refine V.Fn.q0 (v_tapeBegun) rfl ?_ | refine V.Fn.a0 (v_tapeBegun) rfl ?_) | (refine NCut.mk ⟨0, G.length, rfl, rfl, by omega, by omega, ?_⟩) | (refine NZero.mk rfl ?_) | ((first | refine V.Fn.k ((cr vt vs)) [5, 2] rfl ?_ ?_ | refine V.Fn.q ((cr vt vs)) [5, 2] rfl ?_ ?_ | refine V.Fn.a ((cr vt vs)) [5, 2] rfl ?_ ?_); · exact ⟨⟨(by omega), rfl, rfl, Ta.dee_of xa⟩, ⟨rfl, rfl, V.DeeLe.refl_⟩, trivial⟩) | (refine NIdx.mk ⟨G.length, rfl, by omega, ?_⟩) | (refine NSrc.mk (.inl ?_)) | (refine NCall.see 0 4 G.length rfl (by omega) rfl rfl ?_) | ((first | refine V.Fn.k (cb) [6, 1] rfl ?_ ?_ | refine V.Fn.q (cb) [6, 1] rfl ?_ ?_ | refine V.Fn.a (cb) [6, 1] rfl ?_ ?_); · exact ⟨⟨rfl, (by rw [xb]), fun _ _ => (by rw [xb])⟩, ⟨rfl, rfl, fun _ _ => rfl⟩, trivial⟩) | (refine V.NDraw.any (by kernel_rfl) ?_) | fail)
      all_goals (conv => whnf)
      all_goals exact ⟨true, rfl, iff_of_true rfl rfl⟩
    · have h2 : n < t.length := by omega
      clear k2
      have hx : (Ta.get T).length = G.length + M.length := by rw [k1, List.length_append]
      have xa : ∀ k, k < G.length → (Ta.get T).getD k default = G.getD k default := fun k hk => by rw [k1]; simp [List.getD, List.getElem?_append_left hk]
      generalize Ta.get T = R at *
      generalize Ta.en T = m at *
      refine V.Fn.mk_ V.Tok V.mixed Try.func4 rfl Try.ntmps4 (by kernel_rfl) rfl rfl ?_
      repeat' ((conv => whnf); first | (refine V.NIf.yes ?_ ?_; · (exact rfl; done)) | (refine V.NIf.no ?_ ?_; · (exact fun h => h rfl; done)) | (refine V.NIf.yes ?_ ?_; · (omega; done)) | (refine V.NIf.no ?_ ?_; · (omega; done)) | refine V.NCond.mk ?_ | refine V.NPick.l ?_ | refine V.NIf.not_ ?_ | refine V.NIf.dec_ ?_ | refine V.a4 ?_ | refine V.a5 ?_ | refine V.NIf.mk (fun _ => ?_) (fun _ => ?_) | refine V.a7 ?_ | refine V.a8 ?_ | refine V.a9 ?_ | refine V.NBoth.mk ?_ ?_ | refine V.b1 ?_ | refine V.b2 ?_ | refine V.NTF.dec ?_ | refine V.b3 ?_ | refine V.b4 ?_ | ((first | refine V.FnX.k_ (c3) [0] rfl ?_ ?_ | refine V.FnX.a_ (c3) [0] rfl ?_ ?_); (· exact V.D_); intro vs) | ((first | refine V.FnR.k_ (c2) [0, 1] rfl ?_ ?_ | refine V.FnR.a_ (c2) [0, 1] rfl ?_ ?_); · exact V.D_) | ((first | refine V.FnX.k_ (c4) [3] rfl ?_ ?_ | refine V.FnX.a_ (c4) [3] rfl ?_ ?_); (· exact V.D_); intro vt) | (first | refine V.Fn.k0 (v_tapeBegun) rfl ?_ | refine V.Fn.q0 (v_tapeBegun) rfl ?_ | refine V.Fn.a0 (v_tapeBegun) rfl ?_) | (refine NCut.mk ⟨0, G.length, rfl, rfl, by omega, by omega, ?_⟩) | (refine NZero.mk rfl ?_) | ((first | refine V.Fn.k ((cr vt vs)) [5, 2] rfl ?_ ?_ | refine V.Fn.q ((cr vt vs)) [5, 2] rfl ?_ ?_ | refine V.Fn.a ((cr vt vs)) [5, 2] rfl ?_ ?_); · exact ⟨⟨(by omega), rfl, rfl, Ta.dee_of xa⟩, ⟨rfl, rfl, V.DeeLe.refl_⟩, trivial⟩) | (refine V.NDraw.any (by kernel_rfl) ?_) | fail)
      all_goals (conv => whnf)
  · have p3 := Ta.p_no hp
    rw [p3] at c2
    generalize Ta.pE t b = e at *
    refine V.Fn.mk_ V.Tok V.mixed Try.func4 rfl Try.ntmps4 (by kernel_rfl) rfl rfl ?_
    repeat' ((conv => whnf); first | (refine V.NIf.yes ?_ ?_; · (exact rfl; done)) | (refine V.NIf.no ?_ ?_; · (exact fun h => h rfl; done)) | (refine V.NIf.yes ?_ ?_; · (omega; done)) | (refine V.NIf.no ?_ ?_; · (omega; done)) | refine V.NCond.mk ?_ | refine V.NPick.l ?_ | refine V.NIf.not_ ?_ | refine V.NIf.dec_ ?_ | refine V.a4 ?_ | refine V.a5 ?_ | refine V.NIf.mk (fun _ => ?_) (fun _ => ?_) | refine V.a7 ?_ | refine V.a8 ?_ | refine V.a9 ?_ | refine V.NBoth.mk ?_ ?_ | refine V.b1 ?_ | refine V.b2 ?_ | refine V.NTF.dec ?_ | refine V.b3 ?_ | refine V.b4 ?_ | ((first | refine V.FnX.k_ (c3) [0] rfl ?_ ?_ | refine V.FnX.a_ (c3) [0] rfl ?_ ?_); (· exact V.D_); intro vs) | ((first | refine V.FnR.k_ (c2) [0, 1] rfl ?_ ?_ | refine V.FnR.a_ (c2) [0, 1] rfl ?_ ?_); · exact V.D_) | (first | refine V.Fn.k0 (v_tapeBegun) rfl ?_ | refine V.Fn.q0 (v_tapeBegun) rfl ?_ | refine V.Fn.a0 (v_tapeBegun) rfl ?_) | (refine V.NDraw.any (by kernel_rfl) ?_) | fail)
    all_goals (conv => whnf)
    all_goals exact ⟨true, rfl, iff_of_true rfl rfl⟩
end Go.Proofs.Ytdplkcciknfnhaa

/- The statement of TapeBack: for every input the call returns true and its input reads as it did. No condition. -/
namespace Go.Proofs.Ytdplkcciknfnhaa.tapeBack
open Go.ChangeShapes Go.WideShapes Go.ChangeAt Go.RowKit

theorem own : ownKnob Try.prog.godebug = none := by kernel_rfl

set_option maxRecDepth 100000 in
theorem lifted (os : Os) (started : os.Started) (H : Type) (enc : TypeId × Value → H) :
    ReturnsInHanded {} Try.checked os 4 .any (Rows.tapeBackSpec.pre6 enc Try.prog Try.f4 Rows.tapeBackRow.domain false) (Rows.tapeBackSpec.post enc Try.prog Try.f4 false true false false) := by
  refine returnsInHanded_of_change_sized (C := Try.checked) own started (by kernel_rfl) Try.func4
    (ChangeSpec.witness6 (enc := enc) (C := Try.checked) false ⟨#[], #[.slice none 0 0, .slice none 0 0], []⟩ 8 (by kernel_rfl) (by kernel_rfl) (by kernel_rfl) (by kernel_rfl)) ?_
  intro W base args ds gs before hval0 hW _ hsz _
  have hval : ∀ (j : Nat) t v, Try.f4.params[j]? = some t → args[j]? = some v → Value.okWide Try.prog W .any base t v := hval0
  have hW' := hW
  obtain ⟨p, q, hA0, hV, rfl, hfz, hnd⟩ := hW
  have hA : DataW.TrodAll enc Try.prog W 0 (fun _ => true) true Try.f4.params.toList args.toList ds p := hA0
  rw [Try.params4] at hA hval hsz
  obtain ⟨v0, vs0, d0, ds0, p0, q0, hargs, rfl, rfl, h0, r0⟩ := trodAll_cons hA
  obtain ⟨v1, vs1, d1, ds1, p1, q1, rfl, rfl, rfl, h1, r1⟩ := trodAll_cons r0
  obtain ⟨rfl, rfl, rfl⟩ := trodAll_nil r1
  obtain rfl : args = #[v0, v1] := by cases args; simp_all
  obtain ⟨rfl, rfl⟩ := trodVars_none hV
  obtain ⟨l0, hl0, w0⟩ := open_bl (hval 0 22 v0 rfl rfl) h0
  obtain ⟨l1, hl1, w1⟩ := open_bl (hval 1 22 v1 rfl rfl) h1
  have z1 := len_sized hsz (j := 1) rfl rfl Try.underlying22 (show Try.prog.bytesOf 5 = 1 by kernel_rfl) h1 hl1
  clear hval0
  simp only [List.append_nil] at hW'
  refine ((v_tapeBack l0 w0 l1 w1 (by omega)).c W (fun i => [v0, v1][i]?) [_, _] (fun i o ho => by
      rcases i with _ | i
      · obtain rfl := Option.some.inj ho
        exact ⟨v0, rfl, hl0⟩
      rcases i with _ | i
      · obtain rfl := Option.some.inj ho
        exact ⟨v1, rfl, hl1⟩
      simp at ho
) ⟨_, _, rfl, ⟨rfl, hl0.one⟩, ⟨_, _, rfl, ⟨rfl, hl1.one⟩, rfl⟩⟩).mono fun e W' ⟨he, hg0⟩ => ?_
  have hg := hg0.toBelow
  subst he
  exact ⟨_, rfl, post_of_below (pa := _) (pv := []) hW' (fun _ _ _ => (trodAll_cons_mk (shut_bool Try.underlying4 _) trodAll_mk0)) (fun sp hsp => all_stays laidOut (by kernel_rfl) hA0 (fun x hx => hg.same (hW'.lt x (by revert hx; simp))) (fun x hx => hsp x (by revert hx; simp))) (fun _ _ => rfl) (by simp)
    hg (ok_one (by kernel_rfl) rfl (okWide_bool_mk Try.underlying4 _))⟩

theorem over : Rows.tapeBackRow.holds Try.pinned (OpenSpec.ofChange Rows.tapeBackSpec) :=
  OpenClaim.holds_of_wide 4 Try.f4 rfl rfl rfl rfl rfl rfl rfl ⟨rfl, rfl, rfl, rfl, rfl⟩ rfl rfl rfl rfl rfl (by kernel_rfl) Try.func4 (by kernel_rfl)
    (of_decide_eq_true (by kernel_rfl)) (by unfold Func.isWrapper; first | (rw [if_pos (by decide +kernel)]; kernel_rfl) | (rw [if_neg (by decide +kernel)]; exact ⟨rfl, rfl⟩))
    (fun os started H enc _ => lifted os started H enc)

theorem proved : Rows.TapeBackSaid :=
  over
end Go.Proofs.Ytdplkcciknfnhaa.tapeBack
