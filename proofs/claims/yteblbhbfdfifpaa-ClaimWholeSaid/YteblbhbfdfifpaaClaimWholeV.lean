/- What ClaimWhole answers: true. -/
import Derived.Test.YteblbhbfdfifpaaVClaimB
import Derived.Test.YteblbhbfdfifpaaVOpenEv
namespace Go.Proofs.Yteblbhbfdfifpaa
open Go Go.RowKit V
set_option maxRecDepth 100000
set_option linter.unusedVariables false
set_option maxHeartbeats 4000000 in
theorem v_claimWhole (v : Ev) (wv : WfEv v) (times : Int) (w_times : (Lit.int .i64 times).wf = true) (units : Int) (w_units : (Lit.int .i64 units).wf = true) : V.Fn Try.prog 4 [] [.agg [.val (.int .i64 v.pa), .val (.int .i64 v.ca), .val (.int .i64 v.gi), .val (.int .i64 v.fo)], .one (.val (.int .i64 times)), .one (.val (.int .i64 units))] (.bool true) := by
  clear wv w_units w_times
  have tb : C.ev v = 0 → (0 ≤ times ∧ times ≤ 1000) → v.fo ≠ 0 → (0 ≤ times * v.fo ∧ times * v.fo ≤ 1000000) ∧ (0 ≤ times * v.gi ∧ times * v.gi ≤ 1000000) ∧ C.uE v (times * v.fo) = 0 ∧ C.fV v (times * v.fo) = times * v.gi ∧ C.lV v (times * v.fo) = 0 := fun h ht hf => by
    have ok := (C.ev_ok h).1
    obtain ⟨_, _, hg, hfo⟩ := ok
    have a1 := Int.mul_nonneg ht.1 hfo.1
    have a2 := Int.mul_le_mul ht.2 hfo.2 hfo.1 (show (0 : Int) ≤ 1000 by omega)
    have a3 := Int.mul_nonneg ht.1 hg.1
    have a4 := Int.mul_le_mul ht.2 hg.2 hg.1 (show (0 : Int) ≤ 1000 by omega)
    have u := C.uE_3 (u := times * v.fo) h ⟨by omega, by omega⟩
    have e : times * v.fo * v.gi = times * v.gi * v.fo := by rw [Int.mul_assoc, Int.mul_comm v.fo, ← Int.mul_assoc]
    refine ⟨⟨a1, by omega⟩, ⟨a3, by omega⟩, u, ?_, ?_⟩
    · unfold C.fV C.fr
      rw [if_pos u, if_neg hf, e, Int.mul_ediv_cancel _ hf]
    · unfold C.lV C.le
      rw [if_pos u, if_neg hf, e, Int.mul_emod_left]
  have ub : C.uE v units = 0 → v.fo ≠ 0 → (0 ≤ C.lV v units ∧ C.lV v units < v.fo) ∧ C.fV v units * v.fo + C.lV v units = units * v.gi ∧ (0 ≤ C.fV v units * v.fo ∧ C.fV v units * v.fo ≤ 1073741824000) ∧ (0 ≤ units * v.gi ∧ units * v.gi ≤ 1073741824000) := fun u hf => by
    obtain ⟨h, hu⟩ := C.uE_ok u
    have ok := (C.ev_ok h).1
    have mb := C.mul_bd ok hu
    obtain ⟨_, _, hg, hfo⟩ := ok
    have e1 : C.fV v units = units * v.gi / v.fo := by unfold C.fV C.fr; rw [if_pos u, if_neg hf]
    have e2 : C.lV v units = units * v.gi % v.fo := by unfold C.lV C.le; rw [if_pos u, if_neg hf]
    have d := Int.ediv_mul_add_emod (units * v.gi) v.fo
    have m1 := Int.emod_nonneg (units * v.gi) hf
    have m2 := Int.emod_lt_of_pos (units * v.gi) (show 0 < v.fo by omega)
    have q := Int.mul_nonneg (Int.ediv_nonneg mb.1 hfo.1) hfo.1
    rw [← e1, ← e2] at d
    rw [← e2] at m1 m2
    rw [← e1] at q
    exact ⟨⟨m1, m2⟩, d, ⟨q, by omega⟩, mb⟩
  have okb : C.ev v = 0 → 0 ≤ v.fo ∧ v.fo ≤ 1000 := fun h => (C.ev_ok h).1.2.2.2
  refine V.Fn.mk_ V.Tok V.mixed Try.func4 rfl Try.ntmps4 (by kernel_rfl) rfl rfl ?_
  repeat' ((conv => whnf); first | (refine V.NIf.yes ?_ ?_; · (simp only [true_and, and_true, and_self]; done)) | refine V.NCond.mk ?_ | refine V.NIf.not_ ?_ | refine V.NIf.dec_ ?_ | refine V.NIf.no (by omega) ?_ | refine V.NIf.yes (by omega) ?_ | refine V.NIf.mk (fun _ => ?_) (fun _ => ?_) | refine V.NWrap.ok (by omega) (by omega) ?_ | refine V.NWrap.u64 (by omega) (by omega) ?_ | refine V.NLt.mk (by omega) ?_ | refine V.NBoth.mk ?_ ?_ | refine V.NTF.yes (by omega) ?_ | refine V.NTF.no (by omega) ?_ | refine V.NTF.dec ?_ | refine V.NDraw.q (by exact rfl) (by kernel_rfl) ?_ | refine V.NApp.one (by first | omega | (simp; omega)) (by first | omega | (simp; omega)) ?_ | (first | refine V.Fn.k0 (v_clbegun) rfl ?_ | refine V.Fn.q0 (v_clbegun) rfl ?_ | refine V.Fn.a0 (v_clbegun) rfl ?_) | (first | refine V.Fn.k0 (v_clCheck v) rfl ?_ | refine V.Fn.q0 (v_clCheck v) rfl ?_ | refine V.Fn.a0 (v_clCheck v) rfl ?_) | (refine V.NWrap.ok (by have := tb (by assumption) ⟨by omega, by omega⟩ (by omega); omega) (by have := tb (by assumption) ⟨by omega, by omega⟩ (by omega); omega) ?_) | (refine V.NWrap.ok (by have := ub (by omega) (by omega); omega) (by have := ub (by omega) (by omega); omega) ?_) | (first | refine V.Fn.k0 (v_clFresh v (times * v.fo)) rfl ?_ | refine V.Fn.q0 (v_clFresh v (times * v.fo)) rfl ?_ | refine V.Fn.a0 (v_clFresh v (times * v.fo)) rfl ?_) | (first | refine V.Fn.k0 (v_clFresh v units) rfl ?_ | refine V.Fn.q0 (v_clFresh v units) rfl ?_ | refine V.Fn.a0 (v_clFresh v units) rfl ?_) | (refine V.NDraw.any (by kernel_rfl) ?_) | fail)
  all_goals (conv => whnf)
  exact ⟨true, rfl, iff_of_true (ub (by assumption) (by assumption)).2.1 rfl⟩
end Go.Proofs.Yteblbhbfdfifpaa
