/- The statement of BuyinLimit: the call returns true for every input, and its input reads as it did. No condition. -/
import Derived.Test.YtcdlhfbpmpjfkaaRows
import Derived.WalkKit
import Derived.ProofKit
import Derived.OpenShut
import Derived.Test.YtcdlhfbpmpjfkaaZ1
import Derived.Test.YtcdlhfbpmpjfkaaZ2
import Derived.Test.YtcdlhfbpmpjfkaaZ3
import Derived.Test.YtcdlhfbpmpjfkaaZ4
import Derived.Test.YtcdlhfbpmpjfkaaZ5
import Derived.Test.YtcdlhfbpmpjfkaaZ6

/- What BuyinLimit answers: true. -/
namespace Go.Proofs.Ytcdlhfbpmpjfkaa
open Go Go.RowKit V
set_option maxRecDepth 100000
set_option linter.unusedVariables false
set_option linter.unusedSimpArgs false
set_option maxHeartbeats 4000000 in
theorem v_buyinLimit (l : List Of) (wl : ∀ f ∈ l, WfOf f) (units : Int) (w_units : (Lit.int .i64 units).wf = true) (limit : Int) (w_limit : (Lit.int .i64 limit).wf = true) (more : Int) (w_more : (Lit.int .i64 more).wf = true) : V.Fn Try.prog 4 [.arr 3 l.length (ga encO l)] [.one (.ref 0), .one (.val (.int .i64 units)), .one (.val (.int .i64 limit)), .one (.val (.int .i64 more))] (.bool true) := by
  clear wl w_units w_limit w_more
  refine V.Fn.lim (by kernel_rfl) fun hl => ?_
  have hn : l.length ≤ 9223372036854775807 := by have := hl 0 _ _ _ rfl; omega
  clear hl
  have c1 := v_byTake l units limit hn
  have c2 := v_byTake l units more hn
  by_cases e : B.tE l units limit = 0
  · have hb : B.err l units = 0 ∧ P.Ok limit := by
      rcases B.tE_cases l units limit with ⟨q, r⟩ | ⟨_, _, r⟩ | ⟨q, r, _⟩
      · rw [e] at r; exact absurd r.symm q
      · omega
      · exact ⟨q, r⟩
    obtain ⟨_, ok, hm⟩ := B.err_0 hb.1
    rw [show B.tL l units limit = B.tak l units limit from if_pos e, show B.tR l units limit = B.lef l units limit from if_pos e, e] at c1
    have le := ok.le
    have tl := B.tak_len l units limit
    have ts := B.tak_sum (m := units) (p := limit) ok (by omega)
    have lb := B.lef_bd (m := units) (p := limit) ok (by omega)
    have tb := fun i (hi : i < l.length) => B.tak_bd (m := units) (p := limit) ok (by omega) hi
    have nn := B.tak_nn (m := units) (p := limit) ok (by omega)
    have tp := v_shTog (B.tak l units limit) (by omega) (fun k => by have := Sh.sm_take_le nn k; omega)
    rw [ts] at tp
    have lm : limit ≤ more → B.tE l units more = 0 → B.tR l units more ≤ B.lef l units limit := fun h q => by
      rw [show B.tR l units more = B.lef l units more from if_pos q]
      exact B.lef_mono ok h
    clear nn ts e hb
    generalize B.tL l units more = R2 at *
    generalize B.tE l units more = E2 at *
    generalize B.tR l units more = X2 at *
    generalize B.tak l units limit = R at *
    generalize B.lef l units limit = X at *
    refine V.Fn.mk_ V.Tok V.mixed Try.func4 rfl Try.ntmps4 (by kernel_rfl) rfl rfl ?_
    repeat' ((conv => whnf); first | (refine V.NIf.yes ?_ ?_; · (decide; done)) | (refine V.NIf.no ?_ ?_; · (decide; done)) | refine V.NCond.mk ?_ | refine V.NIf.not_ ?_ | refine V.NIf.dec_ ?_ | refine V.NIf.no (by omega) ?_ | refine V.NIf.yes (by omega) ?_ | refine V.NIf.mk (fun _ => ?_) (fun _ => ?_) | refine V.NWrap.ok (by omega) (by omega) ?_ | refine V.NWrap.u64 (by omega) (by omega) ?_ | refine V.NLt.mk (by omega) ?_ | refine V.NBoth.mk ?_ ?_ | refine V.NTF.yes (by omega) ?_ | refine V.NTF.no (by omega) ?_ | refine V.NTF.dec ?_ | refine V.NDraw.q (by exact rfl) (by kernel_rfl) ?_ | refine V.NApp.one (by first | omega | (simp; omega)) (by first | omega | (simp; omega)) ?_ | (first | refine V.Fn.k0 (v_byBegun) rfl ?_ | refine V.Fn.q0 (v_byBegun) rfl ?_ | refine V.Fn.a0 (v_byBegun) rfl ?_) | ((first | refine V.FnR.k_ (c1) [0] rfl ?_ ?_ | refine V.FnR.a_ (c1) [0] rfl ?_ ?_); · ((repeat' (first | exact rfl | exact Iff.rfl | exact trivial | exact (fun _ _ => rfl) | exact (fun _ h => absurd h (Nat.not_lt_zero _)) | refine ⟨?_, ?_⟩ | exact Iff.rfl | exact congrArg (fun z => V.SV.one (V.At.val (Value.int .i64 z))) (by omega))); done)) | ((first | refine V.Fn.k (tp) [1] rfl ?_ ?_ | refine V.Fn.q (tp) [1] rfl ?_ ?_ | refine V.Fn.a (tp) [1] rfl ?_ ?_); · ((repeat' (first | exact rfl | exact Iff.rfl | exact trivial | exact (fun _ _ => rfl) | exact (fun _ h => absurd h (Nat.not_lt_zero _)) | refine ⟨?_, ?_⟩ | exact Iff.rfl | exact congrArg (fun z => V.SV.one (V.At.val (Value.int .i64 z))) (by omega))); done)) | (refine V.NDraw.any (by kernel_rfl) ?_) | fail)
    all_goals (conv => whnf)
    refine V.NLoop.auto (fun (k : Nat) => [(12, .one (.val (.int .i64 k)))]) (fun (k : Nat) => []) [] [] (fun (k : Nat) => l.length - k) (fun (k : Nat) => k ≤ l.length) 0 (Nat.zero_le _) (by repeat' (first | exact rfl | exact Iff.rfl | exact trivial | exact (fun _ _ => rfl) | exact (fun _ h => absurd h (Nat.not_lt_zero _)) | refine ⟨?_, ?_⟩ | exact Iff.rfl | exact congrArg (fun z => V.SV.one (V.At.val (Value.int .i64 z))) (by omega))) (by repeat' (first | exact rfl | exact Iff.rfl | exact trivial | exact (fun _ _ => rfl) | exact (fun _ h => absurd h (Nat.not_lt_zero _)) | refine ⟨?_, ?_⟩ | exact Iff.rfl | exact congrArg (fun z => V.SV.one (V.At.val (Value.int .i64 z))) (by omega))) (fun _ => ⟨rfl, rfl⟩) ?_; (conv => whnf); refine ⟨⟨rfl, rfl⟩, ?_⟩
    rintro k hk
    by_cases hlt : k < l.length
    · have t := tb k hlt
      have eU : O.U l k = (l.getD k default).un := rfl
      have eP : O.pr l k = (l.getD k default).pr := rfl
      rw [eU, eP] at t
      obtain ⟨t1, t2, t3, t4⟩ := t
      clear c1 c2 tp lm tb
      by_cases q1 : 0 < R.getD k default <;> by_cases q2 : 0 < X <;> by_cases q3 : (l.getD k default).pr ≤ limit
      all_goals first | have t3 := t3 q1 | skip
      all_goals first | have t4 := t4 q2 q3 | skip
      all_goals (repeat' ((conv => whnf); first | refine V.NCond.mk ?_ | refine V.NIf.not_ ?_ | refine V.NIf.dec_ ?_ | refine V.NIf.no (by omega) ?_ | refine V.NIf.yes (by omega) ?_ | refine V.NIf.mk (fun _ => ?_) (fun _ => ?_) | refine V.NWrap.ok (by omega) (by omega) ?_ | refine V.NWrap.u64 (by omega) (by omega) ?_ | refine V.NLt.mk (by omega) ?_ | refine V.NBoth.mk ?_ ?_ | refine V.NTF.yes (by omega) ?_ | refine V.NTF.no (by omega) ?_ | refine V.NTF.dec ?_ | refine V.NDraw.q (by exact rfl) (by kernel_rfl) ?_ | refine V.NApp.one (by first | omega | (simp; omega)) (by first | omega | (simp; omega)) ?_ | (refine NIdx.mk ⟨k, rfl, by omega, ?_⟩) | (refine V.NDraw.any (by kernel_rfl) ?_) | fail))
      all_goals (conv => whnf)
      all_goals first
        | (exfalso; omega)
        | exact V.NBack.at_ (k + 1) [] (by omega) (by omega) (by repeat' (first | exact rfl | exact Iff.rfl | exact trivial | exact (fun _ _ => rfl) | exact (fun _ h => absurd h (Nat.not_lt_zero _)) | refine ⟨?_, ?_⟩ | exact Iff.rfl | exact congrArg (fun z => V.SV.one (V.At.val (Value.int .i64 z))) (by omega))) rfl (by repeat' (first | exact rfl | exact Iff.rfl | exact trivial | exact (fun _ _ => rfl) | exact (fun _ h => absurd h (Nat.not_lt_zero _)) | refine ⟨?_, ?_⟩ | exact Iff.rfl | exact congrArg (fun z => V.SV.one (V.At.val (Value.int .i64 z))) (by omega))) (by repeat' (first | exact rfl | exact Iff.rfl | exact trivial | exact (fun _ _ => rfl) | exact (fun _ h => absurd h (Nat.not_lt_zero _)) | refine ⟨?_, ?_⟩ | exact Iff.rfl | exact congrArg (fun z => V.SV.one (V.At.val (Value.int .i64 z))) (by omega))) (by repeat' (first | exact rfl | exact Iff.rfl | exact trivial | exact (fun _ _ => rfl) | exact (fun _ h => absurd h (Nat.not_lt_zero _)) | refine ⟨?_, ?_⟩ | exact Iff.rfl | exact congrArg (fun z => V.SV.one (V.At.val (Value.int .i64 z))) (by omega)))
        | trace_state
    · clear tb tp c1
      by_cases q1 : limit ≤ more <;> by_cases q2 : E2 = 0
      all_goals first | have lm := lm q1 q2 | skip
      all_goals (repeat' ((conv => whnf); first | (refine V.NIf.yes ?_ ?_; · (decide; done)) | (refine V.NIf.no ?_ ?_; · (decide; done)) | refine V.NCond.mk ?_ | refine V.NIf.not_ ?_ | refine V.NIf.dec_ ?_ | refine V.NIf.no (by omega) ?_ | refine V.NIf.yes (by omega) ?_ | refine V.NIf.mk (fun _ => ?_) (fun _ => ?_) | refine V.NWrap.ok (by omega) (by omega) ?_ | refine V.NWrap.u64 (by omega) (by omega) ?_ | refine V.NLt.mk (by omega) ?_ | refine V.NBoth.mk ?_ ?_ | refine V.NTF.yes (by omega) ?_ | refine V.NTF.no (by omega) ?_ | refine V.NTF.dec ?_ | refine V.NDraw.q (by exact rfl) (by kernel_rfl) ?_ | refine V.NApp.one (by first | omega | (simp; omega)) (by first | omega | (simp; omega)) ?_ | ((first | refine V.FnR.k_ (c2) [0] rfl ?_ ?_ | refine V.FnR.a_ (c2) [0] rfl ?_ ?_); · ((repeat' (first | exact rfl | exact Iff.rfl | exact trivial | exact (fun _ _ => rfl) | exact (fun _ h => absurd h (Nat.not_lt_zero _)) | refine ⟨?_, ?_⟩ | exact Iff.rfl | exact congrArg (fun z => V.SV.one (V.At.val (Value.int .i64 z))) (by omega))); done)) | (refine V.NDraw.any (by kernel_rfl) ?_) | fail))
      all_goals (conv => whnf)
      all_goals first
        | rfl
        | exact ⟨true, rfl, iff_of_true rfl rfl⟩
        | (first | exact ⟨_, rfl, iff_of_true (by omega) rfl⟩ | (exfalso; omega) | exact ⟨_, rfl, by simp; omega⟩ | exact ⟨_, rfl, by simp⟩)
        | trace_state
  · rw [show B.tL l units limit = [] from if_neg e, show B.tR l units limit = 0 from if_neg e] at c1
    generalize B.tE l units limit = E at *
    refine V.Fn.mk_ V.Tok V.mixed Try.func4 rfl Try.ntmps4 (by kernel_rfl) rfl rfl ?_
    repeat' ((conv => whnf); first | (refine V.NIf.yes ?_ ?_; · (decide; done)) | (refine V.NIf.no ?_ ?_; · (decide; done)) | refine V.NCond.mk ?_ | refine V.NIf.not_ ?_ | refine V.NIf.dec_ ?_ | refine V.NIf.no (by omega) ?_ | refine V.NIf.yes (by omega) ?_ | refine V.NIf.mk (fun _ => ?_) (fun _ => ?_) | refine V.NWrap.ok (by omega) (by omega) ?_ | refine V.NWrap.u64 (by omega) (by omega) ?_ | refine V.NLt.mk (by omega) ?_ | refine V.NBoth.mk ?_ ?_ | refine V.NTF.yes (by omega) ?_ | refine V.NTF.no (by omega) ?_ | refine V.NTF.dec ?_ | refine V.NDraw.q (by exact rfl) (by kernel_rfl) ?_ | refine V.NApp.one (by first | omega | (simp; omega)) (by first | omega | (simp; omega)) ?_ | (first | refine V.Fn.k0 (v_byBegun) rfl ?_ | refine V.Fn.q0 (v_byBegun) rfl ?_ | refine V.Fn.a0 (v_byBegun) rfl ?_) | ((first | refine V.FnR.k_ (c1) [0] rfl ?_ ?_ | refine V.FnR.a_ (c1) [0] rfl ?_ ?_); · ((repeat' (first | exact rfl | exact Iff.rfl | exact trivial | exact (fun _ _ => rfl) | exact (fun _ h => absurd h (Nat.not_lt_zero _)) | refine ⟨?_, ?_⟩ | exact Iff.rfl | exact congrArg (fun z => V.SV.one (V.At.val (Value.int .i64 z))) (by omega))); done)) | (refine V.NDraw.any (by kernel_rfl) ?_) | fail)
    all_goals (conv => whnf)
    all_goals first
      | exact ⟨true, rfl, iff_of_true rfl rfl⟩
      | rfl
      | (first | exact ⟨_, rfl, iff_of_true (by omega) rfl⟩ | (exfalso; omega) | exact ⟨_, rfl, by simp; omega⟩ | exact ⟨_, rfl, by simp⟩)
      | trace_state
end Go.Proofs.Ytcdlhfbpmpjfkaa

/- The statement of BuyinLimit: for every input the call returns true and its input reads as it did. No condition. -/
namespace Go.Proofs.Ytcdlhfbpmpjfkaa.buyinLimit
open Go.ChangeShapes Go.WideShapes Go.ChangeAt Go.RowKit

theorem own : ownKnob Try.prog.godebug = none := by kernel_rfl

set_option maxRecDepth 100000 in
theorem lifted (os : Os) (started : os.Started) (H : Type) (enc : TypeId × Value → H) :
    ReturnsInHanded {} Try.checked os 4 .any (Rows.buyinLimitSpec.pre6 enc Try.prog Try.f4 Rows.buyinLimitRow.domain false) (Rows.buyinLimitSpec.post enc Try.prog Try.f4 false true false false) := by
  refine returnsInHanded_of_change (C := Try.checked) own started (by kernel_rfl) Try.func4
    (ChangeSpec.witness6 (enc := enc) (C := Try.checked) false ⟨#[], #[.slice none 0 0, .int .i64 0, .int .i64 0, .int .i64 0], []⟩ 8 (by kernel_rfl) (by kernel_rfl) (by kernel_rfl) (by kernel_rfl)) ?_
  intro W base args ds gs before hval0 hW _ _
  have hval : ∀ (j : Nat) t v, Try.f4.params[j]? = some t → args[j]? = some v → Value.okWide Try.prog W .any base t v := hval0
  have hW' := hW
  obtain ⟨p, q, hA0, hV, rfl, hfz, hnd⟩ := hW
  have hA : DataW.TrodAll enc Try.prog W 0 (fun _ => true) true Try.f4.params.toList args.toList ds p := hA0
  rw [Try.params4] at hA hval
  obtain ⟨v0, vs0, d0, ds0, p0, q0, hargs, rfl, rfl, h0, r0⟩ := trodAll_cons hA
  obtain ⟨v1, vs1, d1, ds1, p1, q1, rfl, rfl, rfl, h1, r1⟩ := trodAll_cons r0
  obtain ⟨v2, vs2, d2, ds2, p2, q2, rfl, rfl, rfl, h2, r2⟩ := trodAll_cons r1
  obtain ⟨v3, vs3, d3, ds3, p3, q3, rfl, rfl, rfl, h3, r3⟩ := trodAll_cons r2
  obtain ⟨rfl, rfl, rfl⟩ := trodAll_nil r3
  obtain rfl : args = #[v0, v1, v2, v3] := by cases args; simp_all
  obtain ⟨rfl, rfl⟩ := trodVars_none hV
  obtain ⟨l0, hl0, w0⟩ := open_ofs Try.underlying22 (hval 0 22 v0 rfl rfl) h0
  obtain ⟨a1, rfl, rfl, rfl, w1⟩ := open_int Try.underlying3 (hval 1 3 v1 rfl rfl) h1
  obtain ⟨a2, rfl, rfl, rfl, w2⟩ := open_int Try.underlying3 (hval 2 3 v2 rfl rfl) h2
  obtain ⟨a3, rfl, rfl, rfl, w3⟩ := open_int Try.underlying3 (hval 3 3 v3 rfl rfl) h3
  clear hval0
  simp only [List.append_nil] at hW'
  refine ((v_buyinLimit l0 w0 a1 w1 a2 w2 a3 w3).c W (fun i => [v0][i]?) [_, _, _, _] (fun i o ho => by
      rcases i with _ | i
      · obtain rfl := Option.some.inj ho
        exact ⟨v0, rfl, hl0⟩
      simp at ho
) ⟨_, _, rfl, ⟨rfl, hl0.one⟩, ⟨_, _, rfl, rfl, ⟨_, _, rfl, rfl, ⟨_, _, rfl, rfl, rfl⟩⟩⟩⟩).mono fun e W' ⟨he, hg⟩ => ?_
  subst he
  exact ⟨_, rfl, post_of_below (pa := _) (pv := []) hW' (fun _ _ _ => (trodAll_cons_mk (shut_bool Try.underlying4 _) trodAll_mk0)) (fun sp hsp => all_stays laidOut (by kernel_rfl) hA0 (fun x hx => hg.same (hW'.lt x (by revert hx; simp))) (fun x hx => hsp x (by revert hx; simp))) (fun _ _ => rfl) (by simp)
    hg (ok_one (by kernel_rfl) rfl (okWide_bool_mk Try.underlying4 _))⟩

theorem over : Rows.buyinLimitRow.holds Try.pinned (OpenSpec.ofChange Rows.buyinLimitSpec) :=
  OpenClaim.holds_of_wide 4 Try.f4 rfl rfl rfl rfl rfl rfl rfl ⟨rfl, rfl, rfl, rfl, rfl⟩ rfl rfl rfl rfl rfl (by kernel_rfl) Try.func4 (by kernel_rfl)
    (of_decide_eq_true (by kernel_rfl)) (by unfold Func.isWrapper; first | (rw [if_pos (by decide +kernel)]; kernel_rfl) | (rw [if_neg (by decide +kernel)]; exact ⟨rfl, rfl⟩))
    (fun os started H enc _ => lifted os started H enc)

theorem proved : Rows.BuyinLimitSaid :=
  over
end Go.Proofs.Ytcdlhfbpmpjfkaa.buyinLimit
