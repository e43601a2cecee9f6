/- The statement of TapeCut: the call returns true for every input, and its input reads as it did. No condition. -/
import Derived.Test.YtdplkcciknfnhaaRows
import Derived.WalkKit
import Derived.ProofKit
import Derived.OpenShut
import Derived.Test.YtdplkcciknfnhaaZ1
import Derived.Test.YtdplkcciknfnhaaZ2
import Derived.Test.YtdplkcciknfnhaaZ3
import Derived.Test.YtdplkcciknfnhaaZ4
set_option linter.unusedVariables false
set_option linter.unusedSimpArgs false
set_option linter.unusedSectionVars false
set_option maxRecDepth 100000

/- TapeCut: what is torn is cut to its end, and goes on from there. -/
namespace Go.Proofs.Ytdplkcciknfnhaa
open Go Go.RowKit V
set_option maxRecDepth 100000
set_option linter.unusedVariables false
set_option linter.unusedSimpArgs false
set_option maxHeartbeats 4000000 in
theorem v_tapeCut (t : List Nat) (ht : Ta.By t) (b : List Nat) (hb : Ta.By b) (hz1 : b.length ≤ 140737488351232) (keep : Int) (w_keep : (Lit.int .i64 keep).wf = true) : V.Fn Try.prog 7 [.arr 1 t.length (ga ebn t), .arr 1 b.length (ga ebn b)] [.one (.ref 0), .one (.ref 1), .one (.val (.int .i64 keep))] (.bool true) := by
  refine V.Fn.lim (by kernel_rfl) fun hl => ?_
  have lt : t.length ≤ 9223372036854775807 := hl 0 _ _ _ rfl
  clear hl
  have c1 := v_torn t keep (by omega)
  by_cases hp : Ta.toE t keep = 0
  · obtain ⟨p1, p2, p3, p4⟩ := Ta.to_ok hp
    have cb := Ta.toV_by (k := keep) ht
    rw [hp, p4] at c1
    rw [p4] at cb
    obtain ⟨q, rfl⟩ : ∃ q : Nat, keep = q := ⟨keep.toNat, by omega⟩
    rw [Int.toNat_natCast] at c1 cb
    have lC : (t.take q).length = q := by rw [List.length_take]; omega
    clear hp p4
    generalize t.take q = C at *
    have c2 := v_get C cb
    rw [show Ta.gV C = Ta.get C from if_neg (by omega), show Ta.gN C = (Ta.en C : Nat) from if_neg (by omega), show Ta.gE C = 0 from if_neg (by omega)] at c2
    have eC := Ta.en_le C
    have c3 := v_torn C ((Ta.en C : Nat) : Int) (by omega)
    have h3 : Ta.toE C ((Ta.en C : Nat) : Int) = 0 := (if_neg (by omega)).trans (if_neg (by omega))
    have h4 := (Ta.to_ok h3).2.2.2
    have db := Ta.toV_by (k := ((Ta.en C : Nat) : Int)) cb
    rw [h4] at c3 db
    rw [h3] at c3
    rw [Int.toNat_natCast] at c3 db
    clear h3 h4
    have lD : (C.take (Ta.en C)).length = Ta.en C := by rw [List.length_take]; omega
    have hcut := fun hne => Ta.cut C b hne
    have gb := Ta.get_by cb
    have l1 := Ta.cat_long (Ta.get C) (Ta.get_split C).choose_spec.2.2
    rw [show (Ta.cat (Ta.get C)).length = Ta.en C from rfl] at l1
    generalize C.take (Ta.en C) = D at *
    have c4 := v_put D b db hb (by omega) (by omega)
    by_cases hq : Ta.pE D b = 0
    · obtain ⟨q1, q2, q3⟩ := Ta.p_ok hq
      obtain ⟨k2, k3⟩ := hcut q2
      have eb := Ta.pV_by db hb
      rw [hq, q3] at c4
      rw [q3] at eb
      have lE : (D ++ Ta.rc b).length = D.length + b.length + 6 := by rw [List.length_append, Ta.rc_len]; omega
      generalize Ta.get C = G at *
      generalize Ta.en C = n at *
      have hx : (Ta.get (D ++ Ta.rc b)).length = G.length + 1 := by rw [k2]; simp
      have xa : ∀ k, k < G.length → (Ta.get (D ++ Ta.rc b)).getD k default = G.getD k default := fun k hk => by rw [k2]; simp [List.getD, List.getElem?_append_left hk]
      have xb : (Ta.get (D ++ Ta.rc b)).getD G.length default = b := by rw [k2]; simp [List.getD]
      clear k2 hcut q3 hq
      generalize D ++ Ta.rc b = T at *
      have c5 := v_get T eb
      rw [show Ta.gV T = Ta.get T from if_neg (by omega), show Ta.gN T = (Ta.en T : Nat) from if_neg (by omega), show Ta.gE T = 0 from if_neg (by omega), k3] at c5
      clear k3
      generalize Ta.get T = R at *
      have cr := fun va vb => v_samerec G G va vb gb gb (by omega)
      simp only [decide_true] at cr
      have cs := v_samebytes b b hb hb
      rw [decide_eq_true rfl] at cs
      refine V.Fn.mk_ V.Tok V.mixed Try.func7 rfl Try.ntmps7 (by kernel_rfl) rfl rfl ?_
      repeat' ((conv => whnf); first | (refine V.NIf.yes ?_ ?_; · (exact rfl; done)) | (refine V.NIf.no ?_ ?_; · (exact fun h => h rfl; done)) | (refine V.NIf.yes ?_ ?_; · (omega; done)) | (refine V.NIf.no ?_ ?_; · (omega; done)) | refine V.NCond.mk ?_ | refine V.NPick.l ?_ | refine V.NIf.not_ ?_ | refine V.NIf.dec_ ?_ | refine V.a4 ?_ | refine V.a5 ?_ | refine V.NIf.mk (fun _ => ?_) (fun _ => ?_) | refine V.a7 ?_ | refine V.a8 ?_ | refine V.a9 ?_ | refine V.NBoth.mk ?_ ?_ | refine V.b1 ?_ | refine V.b2 ?_ | refine V.NTF.dec ?_ | refine V.b3 ?_ | refine V.b4 ?_ | ((first | refine V.FnR.k_ (c1) [0] rfl ?_ ?_ | refine V.FnR.a_ (c1) [0] rfl ?_ ?_); · exact V.D_) | (first | refine V.Fn.k0 (v_tapeBegun) rfl ?_ | refine V.Fn.q0 (v_tapeBegun) rfl ?_ | refine V.Fn.a0 (v_tapeBegun) rfl ?_) | ((first | refine V.FnX.k_ (c2) [2] rfl ?_ ?_ | refine V.FnX.a_ (c2) [2] rfl ?_ ?_); (· exact V.D_); intro vs) | ((first | refine V.FnR.k_ (c3) [2] rfl ?_ ?_ | refine V.FnR.a_ (c3) [2] rfl ?_ ?_); · exact V.D_) | ((first | refine V.FnR.k_ (c4) [4, 1] rfl ?_ ?_ | refine V.FnR.a_ (c4) [4, 1] rfl ?_ ?_); · exact V.D_) | ((first | refine V.FnX.k_ (c5) [5] rfl ?_ ?_ | refine V.FnX.a_ (c5) [5] rfl ?_ ?_); (· exact V.D_); intro vt) | (refine NCut.mk ⟨0, G.length, rfl, rfl, by omega, by omega, ?_⟩) | (refine NZero.mk rfl ?_) | ((first | refine V.Fn.k ((cr vt vs)) [7, 3] rfl ?_ ?_ | refine V.Fn.q ((cr vt vs)) [7, 3] rfl ?_ ?_ | refine V.Fn.a ((cr vt vs)) [7, 3] rfl ?_ ?_); · exact ⟨⟨(by omega), rfl, rfl, Ta.dee_of xa⟩, ⟨rfl, rfl, V.DeeLe.refl_⟩, trivial⟩) | (refine NIdx.mk ⟨G.length, rfl, by omega, ?_⟩) | (refine NSrc.mk (.inl ?_)) | (refine NCall.see 0 6 G.length rfl (by omega) rfl rfl ?_) | ((first | refine V.Fn.k (cs) [8, 1] rfl ?_ ?_ | refine V.Fn.q (cs) [8, 1] rfl ?_ ?_ | refine V.Fn.a (cs) [8, 1] rfl ?_ ?_); · exact ⟨⟨rfl, (by rw [xb]), fun _ _ => (by rw [xb])⟩, ⟨rfl, rfl, fun _ _ => rfl⟩, trivial⟩) | (refine V.NDraw.any (by kernel_rfl) ?_) | fail)
      all_goals (conv => whnf)
    · rw [Ta.p_no hq] at c4
      clear hcut
      generalize Ta.pE D b = e at *
      refine V.Fn.mk_ V.Tok V.mixed Try.func7 rfl Try.ntmps7 (by kernel_rfl) rfl rfl ?_
      repeat' ((conv => whnf); first | (refine V.NIf.yes ?_ ?_; · (exact rfl; done)) | (refine V.NIf.no ?_ ?_; · (exact fun h => h rfl; done)) | (refine V.NIf.yes ?_ ?_; · (omega; done)) | (refine V.NIf.no ?_ ?_; · (omega; done)) | refine V.NCond.mk ?_ | refine V.NPick.l ?_ | refine V.NIf.not_ ?_ | refine V.NIf.dec_ ?_ | refine V.a4 ?_ | refine V.a5 ?_ | refine V.NIf.mk (fun _ => ?_) (fun _ => ?_) | refine V.a7 ?_ | refine V.a8 ?_ | refine V.a9 ?_ | refine V.NBoth.mk ?_ ?_ | refine V.b1 ?_ | refine V.b2 ?_ | refine V.NTF.dec ?_ | refine V.b3 ?_ | refine V.b4 ?_ | ((first | refine V.FnR.k_ (c1) [0] rfl ?_ ?_ | refine V.FnR.a_ (c1) [0] rfl ?_ ?_); · exact V.D_) | (first | refine V.Fn.k0 (v_tapeBegun) rfl ?_ | refine V.Fn.q0 (v_tapeBegun) rfl ?_ | refine V.Fn.a0 (v_tapeBegun) rfl ?_) | ((first | refine V.FnX.k_ (c2) [2] rfl ?_ ?_ | refine V.FnX.a_ (c2) [2] rfl ?_ ?_); (· exact V.D_); intro vs) | ((first | refine V.FnR.k_ (c3) [2] rfl ?_ ?_ | refine V.FnR.a_ (c3) [2] rfl ?_ ?_); · exact V.D_) | ((first | refine V.FnR.k_ (c4) [4, 1] rfl ?_ ?_ | refine V.FnR.a_ (c4) [4, 1] rfl ?_ ?_); · exact V.D_) | (refine V.NDraw.any (by kernel_rfl) ?_) | fail)
      all_goals (conv => whnf)
      all_goals exact ⟨true, rfl, iff_of_true rfl rfl⟩
  · have p3 : Ta.toV t keep = [] := if_neg hp
    rw [p3] at c1
    generalize Ta.toE t keep = e at *
    refine V.Fn.mk_ V.Tok V.mixed Try.func7 rfl Try.ntmps7 (by kernel_rfl) rfl rfl ?_
    repeat' ((conv => whnf); first | (refine V.NIf.yes ?_ ?_; · (exact rfl; done)) | (refine V.NIf.no ?_ ?_; · (exact fun h => h rfl; done)) | (refine V.NIf.yes ?_ ?_; · (omega; done)) | (refine V.NIf.no ?_ ?_; · (omega; done)) | refine V.NCond.mk ?_ | refine V.NPick.l ?_ | refine V.NIf.not_ ?_ | refine V.NIf.dec_ ?_ | refine V.a4 ?_ | refine V.a5 ?_ | refine V.NIf.mk (fun _ => ?_) (fun _ => ?_) | refine V.a7 ?_ | refine V.a8 ?_ | refine V.a9 ?_ | refine V.NBoth.mk ?_ ?_ | refine V.b1 ?_ | refine V.b2 ?_ | refine V.NTF.dec ?_ | refine V.b3 ?_ | refine V.b4 ?_ | ((first | refine V.FnR.k_ (c1) [0] rfl ?_ ?_ | refine V.FnR.a_ (c1) [0] rfl ?_ ?_); · exact V.D_) | (first | refine V.Fn.k0 (v_tapeBegun) rfl ?_ | refine V.Fn.q0 (v_tapeBegun) rfl ?_ | refine V.Fn.a0 (v_tapeBegun) rfl ?_) | (refine V.NDraw.any (by kernel_rfl) ?_) | fail)
    all_goals (conv => whnf)
    all_goals exact ⟨true, rfl, iff_of_true rfl rfl⟩
end Go.Proofs.Ytdplkcciknfnhaa

/- The statement of TapeCut: for every input the call returns true and its input reads as it did. No condition. -/
namespace Go.Proofs.Ytdplkcciknfnhaa.tapeCut
open Go.ChangeShapes Go.WideShapes Go.ChangeAt Go.RowKit

theorem own : ownKnob Try.prog.godebug = none := by kernel_rfl

set_option maxRecDepth 100000 in
theorem lifted (os : Os) (started : os.Started) (H : Type) (enc : TypeId × Value → H) :
    ReturnsInHanded {} Try.checked os 7 .any (Rows.tapeCutSpec.pre6 enc Try.prog Try.f7 Rows.tapeCutRow.domain false) (Rows.tapeCutSpec.post enc Try.prog Try.f7 false true false false) := by
  refine returnsInHanded_of_change_sized (C := Try.checked) own started (by kernel_rfl) Try.func7
    (ChangeSpec.witness6 (enc := enc) (C := Try.checked) false ⟨#[], #[.slice none 0 0, .slice none 0 0, .int .i64 0], []⟩ 8 (by kernel_rfl) (by kernel_rfl) (by kernel_rfl) (by kernel_rfl)) ?_
  intro W base args ds gs before hval0 hW _ hsz _
  have hval : ∀ (j : Nat) t v, Try.f7.params[j]? = some t → args[j]? = some v → Value.okWide Try.prog W .any base t v := hval0
  have hW' := hW
  obtain ⟨p, q, hA0, hV, rfl, hfz, hnd⟩ := hW
  have hA : DataW.TrodAll enc Try.prog W 0 (fun _ => true) true Try.f7.params.toList args.toList ds p := hA0
  rw [Try.params7] at hA hval hsz
  obtain ⟨v0, vs0, d0, ds0, p0, q0, hargs, rfl, rfl, h0, r0⟩ := trodAll_cons hA
  obtain ⟨v1, vs1, d1, ds1, p1, q1, rfl, rfl, rfl, h1, r1⟩ := trodAll_cons r0
  obtain ⟨v2, vs2, d2, ds2, p2, q2, rfl, rfl, rfl, h2, r2⟩ := trodAll_cons r1
  obtain ⟨rfl, rfl, rfl⟩ := trodAll_nil r2
  obtain rfl : args = #[v0, v1, v2] := by cases args; simp_all
  obtain ⟨rfl, rfl⟩ := trodVars_none hV
  obtain ⟨l0, hl0, w0⟩ := open_bl (hval 0 22 v0 rfl rfl) h0
  obtain ⟨l1, hl1, w1⟩ := open_bl (hval 1 22 v1 rfl rfl) h1
  obtain ⟨a2, rfl, rfl, rfl, w2⟩ := open_int Try.underlying3 (hval 2 3 v2 rfl rfl) h2
  have z1 := len_sized hsz (j := 1) rfl rfl Try.underlying22 (show Try.prog.bytesOf 5 = 1 by kernel_rfl) h1 hl1
  clear hval0
  simp only [List.append_nil] at hW'
  refine ((v_tapeCut l0 w0 l1 w1 (by omega) a2 w2).c W (fun i => [v0, v1][i]?) [_, _, _] (fun i o ho => by
      rcases i with _ | i
      · obtain rfl := Option.some.inj ho
        exact ⟨v0, rfl, hl0⟩
      rcases i with _ | i
      · obtain rfl := Option.some.inj ho
        exact ⟨v1, rfl, hl1⟩
      simp at ho
) ⟨_, _, rfl, ⟨rfl, hl0.one⟩, ⟨_, _, rfl, ⟨rfl, hl1.one⟩, ⟨_, _, rfl, rfl, rfl⟩⟩⟩).mono fun e W' ⟨he, hg0⟩ => ?_
  have hg := hg0.toBelow
  subst he
  exact ⟨_, rfl, post_of_below (pa := _) (pv := []) hW' (fun _ _ _ => (trodAll_cons_mk (shut_bool Try.underlying4 _) trodAll_mk0)) (fun sp hsp => all_stays laidOut (by kernel_rfl) hA0 (fun x hx => hg.same (hW'.lt x (by revert hx; simp))) (fun x hx => hsp x (by revert hx; simp))) (fun _ _ => rfl) (by simp)
    hg (ok_one (by kernel_rfl) rfl (okWide_bool_mk Try.underlying4 _))⟩

theorem over : Rows.tapeCutRow.holds Try.pinned (OpenSpec.ofChange Rows.tapeCutSpec) :=
  OpenClaim.holds_of_wide 7 Try.f7 rfl rfl rfl rfl rfl rfl rfl ⟨rfl, rfl, rfl, rfl, rfl⟩ rfl rfl rfl rfl rfl (by kernel_rfl) Try.func7 (by kernel_rfl)
    (of_decide_eq_true (by kernel_rfl)) (by unfold Func.isWrapper; first | (rw [if_pos (by decide +kernel)]; kernel_rfl) | (rw [if_neg (by decide +kernel)]; exact ⟨rfl, rfl⟩))
    (fun os started H enc _ => lifted os started H enc)

theorem proved : Rows.TapeCutSaid :=
  over
end Go.Proofs.Ytdplkcciknfnhaa.tapeCut
