/- The statement of CalHoliday: the call returns true for every input, and its input reads as it did. No condition. -/
import Derived.Test.YtngjkjadncgdgaaDoorRows
import Derived.WalkKit
import Derived.ProofKit
import Derived.OpenShut
import Derived.LaidMore
import Derived.Stop.Joined
import Derived.Test.YtngjkjadncgdgaaDoorCards
import Derived.Test.YtngjkjadncgdgaaDoorTie
import Derived.SevenTiedAt
import Derived.Test.YtngjkjadncgdgaaDoorZ1
import Derived.Test.YtngjkjadncgdgaaDoorZ2
import Derived.Test.YtngjkjadncgdgaaDoorZ3
import Derived.Test.YtngjkjadncgdgaaDoorZ4

/- What CalHoliday answers: true. -/
namespace Go.Proofs.YtngjkjadncgdgaaDoor
open Go Go.RowKit V
set_option maxRecDepth 100000
set_option linter.unusedVariables false
set_option linter.unusedSimpArgs false
set_option maxHeartbeats 4000000 in
theorem v_calHoliday (c : Cl) (wc : WfCl c) (i : Int) (w_i : (Lit.int .i64 i).wf = true) (fr : Int) (w_fr : (Lit.int .i64 fr).wf = true) (to : Int) (w_to : (Lit.int .i64 to).wf = true) (n : Int) (w_n : (Lit.int .i64 n).wf = true) : V.Fn Tryd.prog 7 [.arr 1 c.hs.length (ga e1 c.hs), dt] [.agg [.val (.int .i64 c.we), .ref 0], .one (.val (.int .i64 i)), .one (.val (.int .i64 fr)), .one (.val (.int .i64 to)), .one (.val (.int .i64 n))] (.bool true) := by
  refine V.Fn.lim (by kernel_rfl) fun hl => ?_
  have hc := hl 0 _ _ _ rfl
  clear hl wc
  have cC := v_caCheck c hc
  by_cases h : Ca.chk c = 0 ∧ 0 ≤ i ∧ i < c.hs.length
  · obtain ⟨h0, h1, h2⟩ := h
    obtain ⟨k, rfl⟩ : ∃ k : Nat, i = k := ⟨i.toNat, by omega⟩
    have hk : k < c.hs.length := by omega
    have h60 := (Ca.chk_ok h0).2.1
    have ll : (Ca.less c k).hs.length = c.hs.length - 1 := by unfold Ca.less; simp; omega
    obtain ⟨a1, a2, a3, a4, a5⟩ := Ca.holiday h0 hk
    obtain ⟨b1, b2⟩ := a4 n
    obtain ⟨d1, d2⟩ := a5 fr to
    clear a4 a5
    have hd : Ca.Day (c.hs.getD k default) := (Ca.e1_ok a2).2.1
    have cW := v_caIs (Ca.less c k) (c.hs.getD k default) (by omega)
    have cI := v_caIs c (c.hs.getD k default) hc
    have cA := v_caIs (Ca.less c k) n (by omega)
    have cB := v_caIs c n hc
    have cX := v_caCount (Ca.less c k) fr to (by omega)
    have cY := v_caCount c fr to hc
    rw [a1] at cW
    rw [a2, a3] at cI
    rw [b1] at cA
    rw [d1] at cX d2
    have m1 : 0 ≤ Ca.coV c fr to ∧ Ca.coV c fr to ≤ 3652058 := by
      by_cases z : Ca.coE c fr to = 0
      · obtain ⟨_, z1, z2, z3⟩ := Ca.coE_ok z
        have := Ca.cnt_bd c fr to
        unfold Ca.Day at z1 z2
        unfold Ca.coV
        rw [if_pos z]
        omega
      · unfold Ca.coV; rw [if_neg z]; omega
    have st : (Ca.less c k).hs = c.hs.take k ++ c.hs.drop (k + 1) := rfl
    have wl : (Ca.less c k).we = c.we := rfl
    rw [wl] at cW cA cX
    rw [h0] at cC
    clear a1 a2 a3 b1 d1 h0
    generalize Ca.less c k = L at *
    generalize Ca.isV L (c.hs.getD k default) = B1 at *
    generalize Ca.isV L n = B2 at *
    generalize Ca.isV c n = B3 at *
    generalize Ca.e1 c n = E1 at *
    generalize Ca.coV L fr to = X at *
    generalize Ca.coV c fr to = Y at *
    generalize Ca.coE c fr to = J at *
    have g1 : ∀ j, j < k → ga e1 (c.hs.take k) (0 + j) = ga e1 c.hs (0 + j) := fun j hj => V.ga_take (by omega) (by omega)
    have g2 : ∀ j, j < k → ga e1 L.hs j = ga e1 (c.hs.take k) j := fun j hj => by rw [st, V.ga_left (by rw [List.length_take]; omega)]
    have g3 : ∀ j, j < c.hs.length - (k + 1) → ga e1 L.hs (k + j) = ga e1 c.hs (k + 1 + j) := fun j hj => by
      rw [st, V.ga_right (by rw [List.length_take]; omega) (by simp; omega), V.ga_drop (by omega)]
    have lt : (c.hs.take k).length = k := by rw [List.length_take]; omega
    refine V.Fn.mk_ V.Tok V.mixed Tryd.func7 rfl Tryd.ntmps7 (by kernel_rfl) rfl rfl ?_
    repeat' ((conv => whnf); first | (refine V.NIf.yes ?_ ?_; · (decide; done)) | (refine V.NIf.no ?_ ?_; · (decide; done)) | (refine V.NIf.yes ?_ ?_; · (simp only [true_and, and_true, and_self]; done)) | (refine V.NDraw.join (by kernel_rfl) [(1, .one (.val (.int .i64 k))), (2, .one (.val (.int .i64 fr))), (3, .one (.val (.int .i64 to))), (4, .one (.val (.int .i64 n))), (5, .one (.ptr 2 0 0 0)), (11, .one (.val (.int .i64 (c.hs.getD k default)))), (12, .one (.ptr 3 0 0 0))] [(0, .arr 1 c.hs.length (ga e1 c.hs)), (1, dt), (2, .box 24 [.val (.int .i64 c.we), .ref 0]), (3, .box 24 [.val (.int .i64 c.we), .ref 8]), (8, .row 3 1 L.hs.length (ga e1 L.hs))] 9 ?_ rfl ⟨rfl, rfl⟩ ?_) | refine V.NCond.mk ?_ | refine V.NIf.not_ ?_ | refine V.NIf.dec_ ?_ | refine V.NIf.no (by omega) ?_ | refine V.NIf.yes (by omega) ?_ | refine V.NIf.mk (fun _ => ?_) (fun _ => ?_) | refine V.NWrap.ok (by omega) (by omega) ?_ | refine V.NWrap.u64 (by omega) (by omega) ?_ | refine V.NLt.mk (by omega) ?_ | refine V.NBoth.mk ?_ ?_ | refine V.NTF.yes (by omega) ?_ | refine V.NTF.no (by omega) ?_ | refine V.NTF.dec ?_ | refine V.NDraw.q (by exact rfl) (by kernel_rfl) ?_ | refine V.NApp.one (by first | omega | (simp; omega)) (by first | omega | (simp; omega)) ?_ | ((first | refine V.Fn.k (v_calBegun) [1] rfl ?_ ?_ | refine V.Fn.q (v_calBegun) [1] rfl ?_ ?_ | refine V.Fn.a (v_calBegun) [1] rfl ?_ ?_); · ((repeat' (first | exact rfl | exact Iff.rfl | exact trivial | exact (fun _ _ => rfl) | exact (fun _ h => absurd h (Nat.not_lt_zero _)) | refine ⟨?_, ?_⟩ | exact Iff.rfl | exact congrArg (fun z => V.SV.one (V.At.val (Value.int .i64 z))) (by omega))); done)) | ((first | refine V.Fn.k (cC) [0] rfl ?_ ?_ | refine V.Fn.q (cC) [0] rfl ?_ ?_ | refine V.Fn.a (cC) [0] rfl ?_ ?_); · ((repeat' (first | exact rfl | exact Iff.rfl | exact trivial | exact (fun _ _ => rfl) | exact (fun _ h => absurd h (Nat.not_lt_zero _)) | refine ⟨?_, ?_⟩ | exact Iff.rfl | exact congrArg (fun z => V.SV.one (V.At.val (Value.int .i64 z))) (by omega))); done)) | (refine NIdx.mk ⟨k, by omega, by omega, ?_⟩) | (refine NCut.mk ⟨0, k, rfl, rfl, by omega, by omega, ?_⟩) | (refine NCut.mk ⟨k + 1, _, by dsimp only [loIs]; omega, rfl, by omega, by omega, ?_⟩) | (refine NOne.mk ?_ ?_; · (intro k hk; rfl)) | (refine NApp.to_ (en := e1) (c.hs.take k) (by omega) (by omega) (by simp; omega) (fun j hj => absurd hj (Nat.not_lt_zero _)) (fun j hj => g1 j (by omega)) ?_) | (refine NApp.to_ (en := e1) L.hs (by omega) (by omega) (by simp; omega) (fun j hj => g2 j (by omega)) (fun j hj => by rw [lt]; exact g3 j (by omega)) ?_) | ((refine V.NJoin.by_ [] rfl rfl ?_ ?_ <;> ((repeat' (first | exact rfl | exact Iff.rfl | exact trivial | exact (fun _ _ => rfl) | exact (fun _ h => absurd h (Nat.not_lt_zero _)) | refine ⟨?_, ?_⟩ | exact Iff.rfl | exact congrArg (fun z => V.SV.one (V.At.val (Value.int .i64 z))) (by omega))); done))) | ((first | refine V.Fn.k (cW) [8] rfl ?_ ?_ | refine V.Fn.q (cW) [8] rfl ?_ ?_ | refine V.Fn.a (cW) [8] rfl ?_ ?_); · ((repeat' (first | exact rfl | exact Iff.rfl | exact trivial | exact (fun _ _ => rfl) | exact (fun _ h => absurd h (Nat.not_lt_zero _)) | refine ⟨?_, ?_⟩ | exact Iff.rfl | exact congrArg (fun z => V.SV.one (V.At.val (Value.int .i64 z))) (by omega))); done)) | ((first | refine V.Fn.k (cI) [0] rfl ?_ ?_ | refine V.Fn.q (cI) [0] rfl ?_ ?_ | refine V.Fn.a (cI) [0] rfl ?_ ?_); · ((repeat' (first | exact rfl | exact Iff.rfl | exact trivial | exact (fun _ _ => rfl) | exact (fun _ h => absurd h (Nat.not_lt_zero _)) | refine ⟨?_, ?_⟩ | exact Iff.rfl | exact congrArg (fun z => V.SV.one (V.At.val (Value.int .i64 z))) (by omega))); done)) | ((first | refine V.Fn.k (cA) [8] rfl ?_ ?_ | refine V.Fn.q (cA) [8] rfl ?_ ?_ | refine V.Fn.a (cA) [8] rfl ?_ ?_); · ((repeat' (first | exact rfl | exact Iff.rfl | exact trivial | exact (fun _ _ => rfl) | exact (fun _ h => absurd h (Nat.not_lt_zero _)) | refine ⟨?_, ?_⟩ | exact Iff.rfl | exact congrArg (fun z => V.SV.one (V.At.val (Value.int .i64 z))) (by omega))); done)) | ((first | refine V.Fn.k (cB) [0] rfl ?_ ?_ | refine V.Fn.q (cB) [0] rfl ?_ ?_ | refine V.Fn.a (cB) [0] rfl ?_ ?_); · ((repeat' (first | exact rfl | exact Iff.rfl | exact trivial | exact (fun _ _ => rfl) | exact (fun _ h => absurd h (Nat.not_lt_zero _)) | refine ⟨?_, ?_⟩ | exact Iff.rfl | exact congrArg (fun z => V.SV.one (V.At.val (Value.int .i64 z))) (by omega))); done)) | ((first | refine V.Fn.k (cX) [8] rfl ?_ ?_ | refine V.Fn.q (cX) [8] rfl ?_ ?_ | refine V.Fn.a (cX) [8] rfl ?_ ?_); · ((repeat' (first | exact rfl | exact Iff.rfl | exact trivial | exact (fun _ _ => rfl) | exact (fun _ h => absurd h (Nat.not_lt_zero _)) | refine ⟨?_, ?_⟩ | exact Iff.rfl | exact congrArg (fun z => V.SV.one (V.At.val (Value.int .i64 z))) (by omega))); done)) | ((first | refine V.Fn.k (cY) [0] rfl ?_ ?_ | refine V.Fn.q (cY) [0] rfl ?_ ?_ | refine V.Fn.a (cY) [0] rfl ?_ ?_); · ((repeat' (first | exact rfl | exact Iff.rfl | exact trivial | exact (fun _ _ => rfl) | exact (fun _ h => absurd h (Nat.not_lt_zero _)) | refine ⟨?_, ?_⟩ | exact Iff.rfl | exact congrArg (fun z => V.SV.one (V.At.val (Value.int .i64 z))) (by omega))); done)) | (refine V.NDraw.any (by kernel_rfl) ?_) | fail)
    all_goals (conv => whnf)
    all_goals first
      | (have e := d2 (by assumption); exact ⟨true, rfl, iff_of_true (e.trans (by first | rw [if_pos ⟨by assumption, by assumption, by assumption⟩] | rw [if_neg (fun q => by first | exact absurd q.1 (by assumption) | exact absurd q.2.1 (by assumption) | exact absurd q.2.2 (by assumption))])) rfl⟩)
      | rfl
      | (exfalso; have e := b2 (by assumption); rw [e] at *; simp_all; done)
      | trace_state
  · refine V.Fn.mk_ V.Tok V.mixed Tryd.func7 rfl Tryd.ntmps7 (by kernel_rfl) rfl rfl ?_
    repeat' ((conv => whnf); first | (refine V.NIf.yes ?_ ?_; · (simp only [true_and, and_true, and_self]; done)) | refine V.NCond.mk ?_ | refine V.NIf.not_ ?_ | refine V.NIf.dec_ ?_ | refine V.NIf.no (by omega) ?_ | refine V.NIf.yes (by omega) ?_ | refine V.NIf.mk (fun _ => ?_) (fun _ => ?_) | refine V.NWrap.ok (by omega) (by omega) ?_ | refine V.NWrap.u64 (by omega) (by omega) ?_ | refine V.NLt.mk (by omega) ?_ | refine V.NBoth.mk ?_ ?_ | refine V.NTF.yes (by omega) ?_ | refine V.NTF.no (by omega) ?_ | refine V.NTF.dec ?_ | refine V.NDraw.q (by exact rfl) (by kernel_rfl) ?_ | refine V.NApp.one (by first | omega | (simp; omega)) (by first | omega | (simp; omega)) ?_ | ((first | refine V.Fn.k (v_calBegun) [1] rfl ?_ ?_ | refine V.Fn.q (v_calBegun) [1] rfl ?_ ?_ | refine V.Fn.a (v_calBegun) [1] rfl ?_ ?_); · ((repeat' (first | exact rfl | exact Iff.rfl | exact trivial | exact (fun _ _ => rfl) | exact (fun _ h => absurd h (Nat.not_lt_zero _)) | refine ⟨?_, ?_⟩ | exact Iff.rfl | exact congrArg (fun z => V.SV.one (V.At.val (Value.int .i64 z))) (by omega))); done)) | ((first | refine V.Fn.k (cC) [0] rfl ?_ ?_ | refine V.Fn.q (cC) [0] rfl ?_ ?_ | refine V.Fn.a (cC) [0] rfl ?_ ?_); · ((repeat' (first | exact rfl | exact Iff.rfl | exact trivial | exact (fun _ _ => rfl) | exact (fun _ h => absurd h (Nat.not_lt_zero _)) | refine ⟨?_, ?_⟩ | exact Iff.rfl | exact congrArg (fun z => V.SV.one (V.At.val (Value.int .i64 z))) (by omega))); done)) | (refine V.NDraw.any (by kernel_rfl) ?_) | fail)
    all_goals (conv => whnf)
    all_goals first
      | rfl
      | trace_state
end Go.Proofs.YtngjkjadncgdgaaDoor

/- The statement of CalHoliday: for every input the call returns true and its input reads as it did. No condition. -/
namespace Go.Proofs.YtngjkjadncgdgaaDoor.calHoliday
open Go.ChangeShapes Go.WideShapes Go.ChangeAt Go.RowKit

theorem own : ownKnob Tryd.prog.godebug = none := by kernel_rfl

set_option maxRecDepth 100000 in
theorem lifted (os : Os) (started : os.Started) (H : Type) (enc : TypeId × Value → H) :
    ReturnsInHanded {} Tryd.checked os 7 .any (fun w args => (Rows.calHolidaySpec.pre enc Tryd.prog Tryd.f7 [] false w args ∧ laidMetH Tryd.prog laidList w) ∧ sizedMet enc Tryd.prog Tryd.f7 (OpenSpec.ofChange Rows.calHolidaySpec) false w args)
      (Rows.calHolidaySpec.post enc Tryd.prog Tryd.f7 false true false false) := by
  refine returnsInHanded_of_change_and (C := Tryd.checked) (X := fun w _ => laidMetH Tryd.prog laidList w) (fun _ _ _ hh h => h.of_heap hh) own started (by kernel_rfl) Tryd.func7
    (ChangeSpec.witness_shaped (enc := enc) (C := Tryd.checked) (os := os) (X := fun w _ => laidMetH Tryd.prog laidList w) false (World.doorLaid Tryd.prog 400 os) #[.agg #[.int .i64 0, .slice none 0 0], .int .i64 0, .int .i64 0, .int .i64 0, .int .i64 0] 8 rfl (World.shaped_of_RefB (by kernel_rfl) (by kernel_rfl)) (by kernel_rfl) (by kernel_rfl) (by kernel_rfl) (door_met os _)) ?_
  intro W base args ds gs before hval0 hW _ _ hL _
  have hval : ∀ (j : Nat) t v, Tryd.f7.params[j]? = some t → args[j]? = some v → Value.okWide Tryd.prog W .any base t v := hval0
  have hW' := hW
  obtain ⟨p, q, hA0, hV, rfl, hfz, hnd⟩ := hW
  have hA : DataW.TrodAll enc Tryd.prog W 0 (fun _ => true) true Tryd.f7.params.toList args.toList ds p := hA0
  rw [Tryd.params7] at hA hval
  obtain ⟨v0, vs0, d0, ds0, p0, q0, hargs, rfl, rfl, h0, r0⟩ := trodAll_cons hA
  obtain ⟨v1, vs1, d1, ds1, p1, q1, rfl, rfl, rfl, h1, r1⟩ := trodAll_cons r0
  obtain ⟨v2, vs2, d2, ds2, p2, q2, rfl, rfl, rfl, h2, r2⟩ := trodAll_cons r1
  obtain ⟨v3, vs3, d3, ds3, p3, q3, rfl, rfl, rfl, h3, r3⟩ := trodAll_cons r2
  obtain ⟨v4, vs4, d4, ds4, p4, q4, rfl, rfl, rfl, h4, r4⟩ := trodAll_cons r3
  obtain ⟨rfl, rfl, rfl⟩ := trodAll_nil r4
  obtain rfl : args = #[v0, v1, v2, v3, v4] := by cases args; simp_all
  obtain ⟨rfl, rfl⟩ := trodVars_none hV
  obtain ⟨c0, u0, rfl, hl0, w0⟩ := open_cl (hval 0 24 v0 rfl rfl) h0
  obtain ⟨a1, rfl, rfl, rfl, w1⟩ := open_int Tryd.underlying3 (hval 1 3 v1 rfl rfl) h1
  obtain ⟨a2, rfl, rfl, rfl, w2⟩ := open_int Tryd.underlying3 (hval 2 3 v2 rfl rfl) h2
  obtain ⟨a3, rfl, rfl, rfl, w3⟩ := open_int Tryd.underlying3 (hval 3 3 v3 rfl rfl) h3
  obtain ⟨a4, rfl, rfl, rfl, w4⟩ := open_int Tryd.underlying3 (hval 4 3 v4 rfl rfl) h4
  have hlong := long_of_laid hL
  clear hval0
  simp only [List.append_nil] at hW'
  refine ((v_calHoliday c0 w0 a1 w1 a2 w2 a3 w3 a4 w4).c W (fun i => [u0, .pointer (some ⟨0, 0, none⟩)][i]?) [_, _, _, _, _] (fun i o ho => by
      rcases i with _ | i
      · obtain rfl := Option.some.inj ho
        exact ⟨u0, rfl, hl0⟩
      rcases i with _ | i
      · obtain rfl := Option.some.inj ho
        exact ⟨.pointer (some ⟨0, 0, none⟩), rfl, rfl, tab_of_long hlong⟩
      simp at ho
) ⟨_, _, rfl, ⟨[_, _], ⟨_, _, rfl, rfl, _, _, rfl, ⟨rfl, hl0.one⟩, rfl⟩, rfl⟩, ⟨_, _, rfl, rfl, ⟨_, _, rfl, rfl, ⟨_, _, rfl, rfl, ⟨_, _, rfl, rfl, rfl⟩⟩⟩⟩⟩).mono fun e W' ⟨he, hg⟩ => ?_
  subst he
  exact ⟨_, rfl, post_of_below (pa := _) (pv := []) hW' (fun _ _ _ => (trodAll_cons_mk (shut_bool Tryd.underlying4 _) trodAll_mk0)) (fun sp hsp => all_stays laidOut (by kernel_rfl) hA0 (fun x hx => hg.same (hW'.lt x (by revert hx; simp))) (fun x hx => hsp x (by revert hx; simp))) (fun _ _ => rfl) (by simp)
    hg (ok_one (by kernel_rfl) rfl (okWide_bool_mk Tryd.underlying4 _))⟩

theorem over : Rows.calHolidayRow.holds Tryd.pinned (OpenSpec.ofChange Rows.calHolidaySpec) :=
  OpenClaim.holds_of_wide 7 Tryd.f7 rfl rfl rfl rfl rfl rfl rfl ⟨rfl, rfl, rfl, rfl, rfl⟩ rfl rfl rfl rfl rfl (by kernel_rfl) Tryd.func7 (by kernel_rfl)
    (of_decide_eq_true (by kernel_rfl)) (by unfold Func.isWrapper; first | (rw [if_pos (by decide +kernel)]; kernel_rfl) | (rw [if_neg (by decide +kernel)]; exact ⟨rfl, rfl⟩))
    (fun os started H enc _ => lifted os started H enc)

theorem proved : Rows.CalHolidayCardSaid :=
  Claim7.holds_tied_plain_at .later [] [.data] true _ false
    over (fun _ h => by cases h) (by kernel_rfl) (fun _ h => by cases h) calHoliday_row_tie rfl ⟨rfl, rfl⟩ (by kernel_rfl) rfl
    (fun f fn hf hfn => by
      obtain rfl : f = 7 := Option.some.inj ((show Tryd.prog.funcNamed "demurrage/demurragelaw.CalHoliday" = some 7 by kernel_rfl).symm.trans hf) |>.symm
      obtain rfl : fn = Tryd.f7 := (Option.some.inj (Tryd.func7.symm.trans hfn)).symm
      exact ⟨by kernel_rfl, fun j t ht => by
        rw [Tryd.params7] at ht
        have hm : t ∈ [24, 3] := by have := Array.mem_of_getElem? ht; simp at this ⊢; omega
        have hall : ([24, 3].all fun u => !Tryd.prog.wantsStandIn u) = true := by kernel_rfl
        exact (show Tryd.prog.wantsStandIn t = false by simpa using List.all_eq_true.1 hall t hm)⟩)
    (by kernel_rfl)
end Go.Proofs.YtngjkjadncgdgaaDoor.calHoliday
