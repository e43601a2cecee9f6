/- The statement of LoanOne: the call returns true for every input, and its input reads as it did. No condition. -/
import Derived.Test.YthimkklcphoohaaRows
import Derived.WalkKit
import Derived.ProofKit
import Derived.OpenShut
import Derived.Test.YthimkklcphoohaaZ1
import Derived.Test.YthimkklcphoohaaZ2
import Derived.Test.YthimkklcphoohaaZ3
import Derived.Test.YthimkklcphoohaaZ4
import Derived.Test.YthimkklcphoohaaZ5
import Derived.Test.YthimkklcphoohaaZ6

/- What LoanOne answers: true. -/
namespace Go.Proofs.Ythimkklcphoohaa
open Go Go.RowKit V
set_option maxRecDepth 100000
set_option linter.unusedVariables false
set_option linter.unusedSimpArgs false
theorem O.one_list {t : List Int} {m : Int} (h : t.length = 1) (s : Sh.sm t = m) : t = [m] := by
  match t, h with
  | [x], _ => simp [Sh.sm] at s; rw [s]
theorem O.one_cost {m p : Int} (hm : 0 ≤ m ∧ m ≤ 1073741824) (hp : 0 ≤ p ∧ p ≤ 1099511627776) : (0 ≤ m * (p / 10000) ∧ m * (p / 10000) ≤ 1073741824 * 109951163) ∧ (0 ≤ m * (p / 10000 + 1) ∧ m * (p / 10000 + 1) ≤ 1073741824 * 109951164) ∧ m * (p / 10000) ≤ P.cost m p ∧ P.cost m p ≤ m * (p / 10000 + 1) := by
  have q : 0 ≤ p / 10000 ∧ p / 10000 ≤ 109951163 := by omega
  refine ⟨⟨Int.mul_nonneg hm.1 q.1, Int.mul_le_mul hm.2 q.2 q.1 (by decide)⟩, ⟨Int.mul_nonneg hm.1 (by omega), Int.mul_le_mul hm.2 (by omega) (by omega) (by decide)⟩, ?_⟩
  have e : m * p = 10000 * (m * (p / 10000)) + m * (p % 10000) := by
    rw [Int.mul_left_comm, ← Int.mul_add, Int.mul_ediv_add_emod]
  have r1 : 0 ≤ m * (p % 10000) := Int.mul_nonneg hm.1 (by omega)
  have r2 : m * (p % 10000) ≤ m * 9999 := Int.mul_le_mul_of_nonneg_left (by omega) hm.1
  unfold P.cost
  rw [Int.mul_add, e]
  generalize m * (p / 10000) = x at *
  generalize m * (p % 10000) = y at *
  omega
set_option maxHeartbeats 4000000 in
theorem v_loanOne (o : Of) (wo : WfOf o) (units : Int) (w_units : (Lit.int .i64 units).wf = true) : V.Fn Try.prog 8 [] [.agg [.val (.int .i64 o.pt), .val (.int .i64 o.un), .val (.int .i64 o.pr)], .one (.val (.int .i64 units))] (.bool true) := by
  clear wo w_units
  have c1 := v_lnShare [o] units (by simp)
  have c2 := v_lnBest [o] units (by simp)
  rw [show [o].length = 1 from rfl] at c1 c2
  by_cases h : O.err [o] units = 0
  · obtain ⟨ok, b, c, z⟩ := O.err_0 h
    have so := O.us_oks ok z
    have ou := ok.all o (by simp)
    have op : 0 ≤ o.pr ∧ o.pr ≤ 1099511627776 := ou.2.2
    have e1_ : O.shL [o] units = [units] := by
      rw [show O.shL [o] units = Sh.raw units (O.us [o]) from if_pos h]
      exact O.one_list (by rw [Sh.raw_len so]; rfl) (Sh.raw_sum so)
    have e2_ : O.bL [o] units = [units] := by
      rw [show O.bL [o] units = O.bst [o] units from if_pos h]
      exact O.one_list (O.bst_len _ _) (O.bst_sum ok (by omega) c)
    have e3_ : O.bC [o] units = P.cost units o.pr := by
      rw [show O.bC [o] units = O.cost [o] units from if_pos h]
      have t : O.bst [o] units = [units] := O.one_list (O.bst_len _ _) (O.bst_sum ok (by omega) c)
      have t2 := O.bst_at (l := [o]) (m := units) (i := 0) (by simp)
      rw [t] at t2
      have t3 : O.cost [o] units = O.cs [o] units 0 + 0 := rfl
      rw [t3]
      unfold O.cs
      rw [← t2, Int.add_zero]
      rfl
    have cu : units ≤ o.un := by simpa [O.us, Sh.sm] using c
    have c3 := v_lnBack [o] [units] units (by simp)
    have nb : O.bads [o] [units] = false := O.bads_no fun i hi => by
      obtain rfl : i = 0 := by simp at hi; omega
      show decide (units < 0 ∨ o.un < units) = false
      simp; omega
    have ch : O.chk [o] = 0 := by
      rcases O.err_cases [o] units with ⟨a, e⟩ | ⟨a, _⟩ | ⟨a, _⟩ | ⟨a, _⟩
      · rw [h] at e; exact absurd e.symm a
      all_goals exact a
    have eE : O.bE [o] [units] units = 0 := by
      unfold O.bE
      rw [if_neg (by rw [ch]; decide), if_neg (by simp), if_neg (by rw [nb]; decide), if_neg (by omega), if_neg (by simp [Sh.sm])]
    have eB : O.bB [o] [units] units = [0] := by
      rw [show O.bB [o] [units] units = O.bkL [units] units from if_pos eE]
      refine O.one_list (O.bkL_len _ _) ?_
      rw [O.bk_sum (by omega) (by simp [Sh.sm]) (by simp; omega)]
      simp [Sh.sm]
    rw [eE, eB] at c3
    rw [e1_, h] at c1
    rw [e2_, e3_, h] at c2
    have oc := O.one_cost (m := units) (p := o.pr) (by omega) op
    have pc := P.cost_bd (u := units) (p := o.pr) (by omega) op
    have s1 := v_sameints [units] [units] (by simp)
    have s2 := v_sameints [0] [0] (by simp)
    clear e1_ e2_ e3_ h eE eB nb c ch so ok
    generalize P.cost units o.pr = C at *
    refine V.Fn.mk_ V.Tok V.mixed Try.func8 rfl Try.ntmps8 (by kernel_rfl) rfl rfl ?_
    repeat' ((conv => whnf); first | (refine V.NIf.yes ?_ ?_; · (decide; done)) | (refine V.NIf.no ?_ ?_; · (decide; done)) | refine V.NCond.mk ?_ | refine V.NIf.not_ ?_ | refine V.NIf.dec_ ?_ | refine V.NIf.no (by omega) ?_ | refine V.NIf.yes (by omega) ?_ | refine V.NIf.mk (fun _ => ?_) (fun _ => ?_) | refine V.NWrap.ok (by omega) (by omega) ?_ | refine V.NWrap.u64 (by omega) (by omega) ?_ | refine V.NLt.mk (by omega) ?_ | refine V.NBoth.mk ?_ ?_ | refine V.NTF.yes (by omega) ?_ | refine V.NTF.no (by omega) ?_ | refine V.NTF.dec ?_ | refine V.NDraw.q (by exact rfl) (by kernel_rfl) ?_ | refine V.NApp.one (by first | omega | (simp; omega)) (by first | omega | (simp; omega)) ?_ | (first | refine V.Fn.k0 (v_lnBegun) rfl ?_ | refine V.Fn.q0 (v_lnBegun) rfl ?_ | refine V.Fn.a0 (v_lnBegun) rfl ?_) | ((first | refine V.FnR.k_ (c1) [2] rfl ?_ ?_ | refine V.FnR.a_ (c1) [2] rfl ?_ ?_); · ((repeat' (first | exact rfl | exact Iff.rfl | exact trivial | exact (fun _ _ => rfl) | exact (fun _ h => absurd h (Nat.not_lt_zero _)) | refine ⟨?_, ?_⟩ | exact Iff.rfl | exact congrArg (fun z => V.SV.one (V.At.val (Value.int .i64 z))) (by omega))); done)) | ((first | refine V.FnR.k_ (c2) [2] rfl ?_ ?_ | refine V.FnR.a_ (c2) [2] rfl ?_ ?_); · ((repeat' (first | exact rfl | exact Iff.rfl | exact trivial | exact (fun _ _ => rfl) | exact (fun _ h => absurd h (Nat.not_lt_zero _)) | refine ⟨?_, ?_⟩ | exact Iff.rfl | exact congrArg (fun z => V.SV.one (V.At.val (Value.int .i64 z))) (by omega))); done)) | ((first | (first | refine V.FnR.k_ (c1) [1] rfl ?_ ?_ | refine V.FnR.a_ (c1) [1] rfl ?_ ?_); · ((repeat' (first | exact rfl | exact Iff.rfl | exact trivial | exact (fun _ _ => rfl) | exact (fun _ h => absurd h (Nat.not_lt_zero _)) | refine ⟨?_, ?_⟩ | exact Iff.rfl | exact congrArg (fun z => V.SV.one (V.At.val (Value.int .i64 z))) (by omega))); done) | (first | refine V.FnR.k_ (c2) [1] rfl ?_ ?_ | refine V.FnR.a_ (c2) [1] rfl ?_ ?_); · ((repeat' (first | exact rfl | exact Iff.rfl | exact trivial | exact (fun _ _ => rfl) | exact (fun _ h => absurd h (Nat.not_lt_zero _)) | refine ⟨?_, ?_⟩ | exact Iff.rfl | exact congrArg (fun z => V.SV.one (V.At.val (Value.int .i64 z))) (by omega))); done) | (first | refine V.FnR.k_ (c3) [1, 2] rfl ?_ ?_ | refine V.FnR.a_ (c3) [1, 2] rfl ?_ ?_); · ((repeat' (first | exact rfl | exact Iff.rfl | exact trivial | exact (fun _ _ => rfl) | exact (fun _ h => absurd h (Nat.not_lt_zero _)) | refine ⟨?_, ?_⟩ | exact Iff.rfl | exact congrArg (fun z => V.SV.one (V.At.val (Value.int .i64 z))) (by omega))); done) | (first | refine V.FnR.k_ (c3) [2, 3] rfl ?_ ?_ | refine V.FnR.a_ (c3) [2, 3] rfl ?_ ?_); · ((repeat' (first | exact rfl | exact Iff.rfl | exact trivial | exact (fun _ _ => rfl) | exact (fun _ h => absurd h (Nat.not_lt_zero _)) | refine ⟨?_, ?_⟩ | exact Iff.rfl | exact congrArg (fun z => V.SV.one (V.At.val (Value.int .i64 z))) (by omega))); done))) | ((first | (first | refine V.Fn.k (s1) [2, 5] rfl ?_ ?_ | refine V.Fn.q (s1) [2, 5] rfl ?_ ?_ | refine V.Fn.a (s1) [2, 5] rfl ?_ ?_); · ((repeat' (first | exact rfl | exact Iff.rfl | exact trivial | exact (fun _ _ => rfl) | exact (fun _ h => absurd h (Nat.not_lt_zero _)) | refine ⟨?_, ?_⟩ | exact Iff.rfl | exact congrArg (fun z => V.SV.one (V.At.val (Value.int .i64 z))) (by omega))); done) | (first | refine V.Fn.k (s1) [3, 2] rfl ?_ ?_ | refine V.Fn.q (s1) [3, 2] rfl ?_ ?_ | refine V.Fn.a (s1) [3, 2] rfl ?_ ?_); · ((repeat' (first | exact rfl | exact Iff.rfl | exact trivial | exact (fun _ _ => rfl) | exact (fun _ h => absurd h (Nat.not_lt_zero _)) | refine ⟨?_, ?_⟩ | exact Iff.rfl | exact congrArg (fun z => V.SV.one (V.At.val (Value.int .i64 z))) (by omega))); done) | (first | refine V.Fn.k (s2) [4, 6] rfl ?_ ?_ | refine V.Fn.q (s2) [4, 6] rfl ?_ ?_ | refine V.Fn.a (s2) [4, 6] rfl ?_ ?_); · ((repeat' (first | exact rfl | exact Iff.rfl | exact trivial | exact (fun _ _ => rfl) | exact (fun _ h => absurd h (Nat.not_lt_zero _)) | refine ⟨?_, ?_⟩ | exact Iff.rfl | exact congrArg (fun z => V.SV.one (V.At.val (Value.int .i64 z))) (by omega))); done))) | (refine NQuo.pos (by omega) (by omega) (by omega) ?_; intro z hz hz0 hz1; subst hz) | (refine V.NDraw.any (by kernel_rfl) ?_) | fail)
    all_goals (conv => whnf)
    all_goals first
      | rfl
      | exact ⟨true, rfl, iff_of_true rfl rfl⟩
      | (exfalso; omega)
      | (rename_i q; exact absurd rfl q)
      | (first | exact ⟨_, rfl, iff_of_true (by omega) rfl⟩ | (exfalso; omega) | exact ⟨_, rfl, by simp; omega⟩ | exact ⟨_, rfl, by simp⟩)
      | trace_state
  · have e1_ : O.shL [o] units = [] := if_neg h
    have e2_ : O.bL [o] units = [] := if_neg h
    have e3_ : O.bC [o] units = 0 := if_neg h
    rw [e1_] at c1
    rw [e2_, e3_] at c2
    generalize O.err [o] units = E at *
    refine V.Fn.mk_ V.Tok V.mixed Try.func8 rfl Try.ntmps8 (by kernel_rfl) rfl rfl ?_
    repeat' ((conv => whnf); first | (refine V.NIf.yes ?_ ?_; · (decide; done)) | (refine V.NIf.no ?_ ?_; · (decide; done)) | refine V.NCond.mk ?_ | refine V.NIf.not_ ?_ | refine V.NIf.dec_ ?_ | refine V.NIf.no (by omega) ?_ | refine V.NIf.yes (by omega) ?_ | refine V.NIf.mk (fun _ => ?_) (fun _ => ?_) | refine V.NWrap.ok (by omega) (by omega) ?_ | refine V.NWrap.u64 (by omega) (by omega) ?_ | refine V.NLt.mk (by omega) ?_ | refine V.NBoth.mk ?_ ?_ | refine V.NTF.yes (by omega) ?_ | refine V.NTF.no (by omega) ?_ | refine V.NTF.dec ?_ | refine V.NDraw.q (by exact rfl) (by kernel_rfl) ?_ | refine V.NApp.one (by first | omega | (simp; omega)) (by first | omega | (simp; omega)) ?_ | (first | refine V.Fn.k0 (v_lnBegun) rfl ?_ | refine V.Fn.q0 (v_lnBegun) rfl ?_ | refine V.Fn.a0 (v_lnBegun) rfl ?_) | ((first | (first | refine V.FnR.k_ (c1) [1] rfl ?_ ?_ | refine V.FnR.a_ (c1) [1] rfl ?_ ?_); · ((repeat' (first | exact rfl | exact Iff.rfl | exact trivial | exact (fun _ _ => rfl) | exact (fun _ h => absurd h (Nat.not_lt_zero _)) | refine ⟨?_, ?_⟩ | exact Iff.rfl | exact congrArg (fun z => V.SV.one (V.At.val (Value.int .i64 z))) (by omega))); done) | (first | refine V.FnR.k_ (c2) [1] rfl ?_ ?_ | refine V.FnR.a_ (c2) [1] rfl ?_ ?_); · ((repeat' (first | exact rfl | exact Iff.rfl | exact trivial | exact (fun _ _ => rfl) | exact (fun _ h => absurd h (Nat.not_lt_zero _)) | refine ⟨?_, ?_⟩ | exact Iff.rfl | exact congrArg (fun z => V.SV.one (V.At.val (Value.int .i64 z))) (by omega))); done) | (first | refine V.FnR.k_ (c1) [2] rfl ?_ ?_ | refine V.FnR.a_ (c1) [2] rfl ?_ ?_); · ((repeat' (first | exact rfl | exact Iff.rfl | exact trivial | exact (fun _ _ => rfl) | exact (fun _ h => absurd h (Nat.not_lt_zero _)) | refine ⟨?_, ?_⟩ | exact Iff.rfl | exact congrArg (fun z => V.SV.one (V.At.val (Value.int .i64 z))) (by omega))); done) | (first | refine V.FnR.k_ (c2) [2] rfl ?_ ?_ | refine V.FnR.a_ (c2) [2] rfl ?_ ?_); · ((repeat' (first | exact rfl | exact Iff.rfl | exact trivial | exact (fun _ _ => rfl) | exact (fun _ h => absurd h (Nat.not_lt_zero _)) | refine ⟨?_, ?_⟩ | exact Iff.rfl | exact congrArg (fun z => V.SV.one (V.At.val (Value.int .i64 z))) (by omega))); done))) | (refine V.NWrap.ok (by decide) (by decide) ?_) | (refine V.NDraw.any (by kernel_rfl) ?_) | fail)
    all_goals (conv => whnf)
    all_goals first
      | exact ⟨true, rfl, iff_of_true rfl rfl⟩
      | rfl
      | (first | exact ⟨_, rfl, iff_of_true (by omega) rfl⟩ | (exfalso; omega) | exact ⟨_, rfl, by simp; omega⟩ | exact ⟨_, rfl, by simp⟩)
      | trace_state
end Go.Proofs.Ythimkklcphoohaa

/- The statement of LoanOne: for every input the call returns true and its input reads as it did. No condition. -/
namespace Go.Proofs.Ythimkklcphoohaa.loanOne
open Go.ChangeShapes Go.WideShapes Go.ChangeAt Go.RowKit

theorem own : ownKnob Try.prog.godebug = none := by kernel_rfl

set_option maxRecDepth 100000 in
theorem lifted (os : Os) (started : os.Started) (H : Type) (enc : TypeId × Value → H) :
    ReturnsInHanded {} Try.checked os 8 .any (Rows.loanOneSpec.pre6 enc Try.prog Try.f8 Rows.loanOneRow.domain false) (Rows.loanOneSpec.post enc Try.prog Try.f8 false true false false) := by
  refine returnsInHanded_of_change (C := Try.checked) own started (by kernel_rfl) Try.func8
    (ChangeSpec.witness6 (enc := enc) (C := Try.checked) false ⟨#[], #[.agg #[.int .i64 0, .int .i64 0, .int .i64 0], .int .i64 0], []⟩ 8 (by kernel_rfl) (by kernel_rfl) (by kernel_rfl) (by kernel_rfl)) ?_
  intro W base args ds gs before hval0 hW _ _
  have hval : ∀ (j : Nat) t v, Try.f8.params[j]? = some t → args[j]? = some v → Value.okWide Try.prog W .any base t v := hval0
  have hW' := hW
  obtain ⟨p, q, hA0, hV, rfl, hfz, hnd⟩ := hW
  have hA : DataW.TrodAll enc Try.prog W 0 (fun _ => true) true Try.f8.params.toList args.toList ds p := hA0
  rw [Try.params8] at hA hval
  obtain ⟨v0, vs0, d0, ds0, p0, q0, hargs, rfl, rfl, h0, r0⟩ := trodAll_cons hA
  obtain ⟨v1, vs1, d1, ds1, p1, q1, rfl, rfl, rfl, h1, r1⟩ := trodAll_cons r0
  obtain ⟨rfl, rfl, rfl⟩ := trodAll_nil r1
  obtain rfl : args = #[v0, v1] := by cases args; simp_all
  obtain ⟨rfl, rfl⟩ := trodVars_none hV
  obtain ⟨f0, rfl, w0⟩ := open_of (hval 0 41 v0 rfl rfl) h0
  obtain ⟨a1, rfl, rfl, rfl, w1⟩ := open_int Try.underlying3 (hval 1 3 v1 rfl rfl) h1
  clear hval0
  simp only [List.append_nil] at hW'
  refine ((v_loanOne f0 w0 a1 w1).c W (fun i => [][i]?) [_, _] (fun i o ho => by simp at ho) ⟨_, _, rfl, ⟨_, V.Ats.vals _ [_, _, _], rfl⟩, ⟨_, _, rfl, rfl, rfl⟩⟩).mono fun e W' ⟨he, hg⟩ => ?_
  subst he
  exact ⟨_, rfl, post_of_below (pa := _) (pv := []) hW' (fun _ _ _ => (trodAll_cons_mk (shut_bool Try.underlying4 _) trodAll_mk0)) (fun sp hsp => all_stays laidOut (by kernel_rfl) hA0 (fun x hx => hg.same (hW'.lt x (by revert hx; simp))) (fun x hx => hsp x (by revert hx; simp))) (fun _ _ => rfl) (by simp)
    hg (ok_one (by kernel_rfl) rfl (okWide_bool_mk Try.underlying4 _))⟩

theorem over : Rows.loanOneRow.holds Try.pinned (OpenSpec.ofChange Rows.loanOneSpec) :=
  OpenClaim.holds_of_wide 8 Try.f8 rfl rfl rfl rfl rfl rfl rfl ⟨rfl, rfl, rfl, rfl, rfl⟩ rfl rfl rfl rfl rfl (by kernel_rfl) Try.func8 (by kernel_rfl)
    (of_decide_eq_true (by kernel_rfl)) (by unfold Func.isWrapper; first | (rw [if_pos (by decide +kernel)]; kernel_rfl) | (rw [if_neg (by decide +kernel)]; exact ⟨rfl, rfl⟩))
    (fun os started H enc _ => lifted os started H enc)

theorem proved : Rows.LoanOneSaid :=
  over
end Go.Proofs.Ythimkklcphoohaa.loanOne
