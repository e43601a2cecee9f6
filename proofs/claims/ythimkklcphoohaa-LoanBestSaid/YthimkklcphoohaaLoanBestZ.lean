/- The statement of LoanBest: the call returns true for every input, and its input reads as it did. No condition. -/
import Derived.Test.YthimkklcphoohaaRows
import Derived.WalkKit
import Derived.ProofKit
import Derived.OpenShut
import Derived.Test.YthimkklcphoohaaZ1
import Derived.Test.YthimkklcphoohaaZ2
import Derived.Test.YthimkklcphoohaaZ3
import Derived.Test.YthimkklcphoohaaZ4
import Derived.Test.YthimkklcphoohaaZ5
import Derived.Test.YthimkklcphoohaaZ6

/- What LoanBest answers: true. -/
namespace Go.Proofs.Ythimkklcphoohaa
open Go Go.RowKit V
set_option maxRecDepth 100000
set_option linter.unusedVariables false
set_option linter.unusedSimpArgs false
theorem O.best_mod {l : List Of} {m : Int} {a : List Int} (ok : O.Oks l) (hm : 1 ≤ m ∧ m ≤ 32768) (hs : m ≤ Sh.sm (O.us l)) (ha : a.length = l.length) (hb : ∀ j, j < l.length → 0 ≤ a.getD j default ∧ a.getD j default ≤ O.U l j) (e : O.Sg l.length (fun j => a.getD j default) = m) : O.mine l m ≤ O.Sg l.length fun j => a.getD j default % 65536 * O.pr l j := by
  have b := O.best ok hm.1 hs hb e
  have q : (O.Sg l.length fun j => a.getD j default % 65536 * O.pr l j) = O.Sg l.length fun j => a.getD j default * O.pr l j := O.Sg_eq fun j hj => by
    have : a.getD j default ≤ m := by
      have t := Sh.sm_ge (l := a) (fun x hx => by
        obtain ⟨i, hi, rfl⟩ := List.getElem_of_mem hx
        rw [← getD_at hi]
        exact (hb i (by omega)).1) (getD_mem (l := a) (k := j) (by omega))
      have s := O.Sg_list a
      rw [ha] at s
      omega
    have := (hb j hj).1
    rw [Int.emod_eq_of_lt (by omega) (by omega)]
  omega
set_option maxHeartbeats 4000000 in
theorem v_loanBest (l : List Of) (wl : ∀ f ∈ l, WfOf f) (units : Int) (w_units : (Lit.int .i64 units).wf = true) (a : List Int) (wa : ∀ x ∈ a, (Lit.int .i64 x).wf = true) : V.Fn Try.prog 5 [.arr 3 l.length (ga encO l), .arr 1 a.length (ga e1 a)] [.one (.ref 0), .one (.val (.int .i64 units)), .one (.ref 1)] (.bool true) := by
  clear wl w_units
  refine V.Fn.lim (by kernel_rfl) fun hl => ?_
  have hn : l.length ≤ 9223372036854775807 := by have := hl 0 _ _ _ rfl; omega
  have hna : a.length ≤ 9223372036854775807 := by have := hl 1 _ _ _ rfl; omega
  clear hl
  have c2 := v_lnBest l units hn
  by_cases h : O.err l units = 0
  · obtain ⟨ok, b, c, z⟩ := O.err_0 h
    have e2_ : O.bL l units = O.bst l units := if_pos h
    have e3_ : O.bC l units = O.cost l units := if_pos h
    have l2 := O.bst_len l units
    rw [e2_, e3_] at c2
    rw [h] at c2
    have le := ok.le
    clear e2_ e3_
    by_cases hc : a.length = l.length ∧ units ≤ 32768
    · obtain ⟨ha, hu⟩ := hc
      have cm := O.cost_mine ok units
      have pb := fun n => O.pts_bd l units n
      have bm := fun hb e => O.best_mod (a := a) ok ⟨b.1, hu⟩ c ha hb e
      have emn : O.mine l units = O.Sg l.length fun i => O.tk l units i * O.pr l i := rfl
      have cn : 0 ≤ O.cost l units := O.Sg_nn fun i hi => (O.cs_bd ok hi).1
      refine V.Fn.mk_ V.Tok V.mixed Try.func5 rfl Try.ntmps5 (by kernel_rfl) rfl rfl ?_
      repeat' ((conv => whnf); first | (refine V.NIf.yes ?_ ?_; · (decide; done)) | (refine V.NIf.no ?_ ?_; · (decide; done)) | refine V.NCond.mk ?_ | refine V.NIf.not_ ?_ | refine V.NIf.dec_ ?_ | refine V.NIf.no (by omega) ?_ | refine V.NIf.yes (by omega) ?_ | refine V.NIf.mk (fun _ => ?_) (fun _ => ?_) | refine V.NWrap.ok (by omega) (by omega) ?_ | refine V.NWrap.u64 (by omega) (by omega) ?_ | refine V.NLt.mk (by omega) ?_ | refine V.NBoth.mk ?_ ?_ | refine V.NTF.yes (by omega) ?_ | refine V.NTF.no (by omega) ?_ | refine V.NTF.dec ?_ | refine V.NDraw.q (by exact rfl) (by kernel_rfl) ?_ | refine V.NApp.one (by first | omega | (simp; omega)) (by first | omega | (simp; omega)) ?_ | (first | refine V.Fn.k0 (v_lnBegun) rfl ?_ | refine V.Fn.q0 (v_lnBegun) rfl ?_ | refine V.Fn.a0 (v_lnBegun) rfl ?_) | ((first | refine V.FnR.k_ (c2) [0] rfl ?_ ?_ | refine V.FnR.a_ (c2) [0] rfl ?_ ?_); · ((repeat' (first | exact rfl | exact Iff.rfl | exact trivial | exact (fun _ _ => rfl) | exact (fun _ h => absurd h (Nat.not_lt_zero _)) | refine ⟨?_, ?_⟩ | exact Iff.rfl | exact congrArg (fun z => V.SV.one (V.At.val (Value.int .i64 z))) (by omega))); done)) | (refine V.NDraw.any (by kernel_rfl) ?_) | fail)
      all_goals (conv => whnf)
      refine V.NLoop.auto (fun (k : Nat) => [(14, .one (.val (.int .i64 k))), (10, .one (.val (.int .i64 (O.Sg k fun j => a.getD j default)))), (11, .one (.val (.int .i64 (O.Sg k fun j => O.tk l units j * O.pr l j)))), (12, .one (.val (.int .i64 (O.Sg k fun j => a.getD j default % 65536 * O.pr l j)))), (13, .one (.val (.int .i64 (O.pts l units k))))]) (fun (k : Nat) => []) [] [] (fun (k : Nat) => l.length - k) (fun (k : Nat) => k ≤ l.length ∧ (∀ j, j < k → 0 ≤ a.getD j default ∧ a.getD j default ≤ O.U l j) ∧ (0 ≤ (O.Sg k fun j => a.getD j default) ∧ (O.Sg k fun j => a.getD j default) ≤ 1073741824 * k) ∧ (0 ≤ (O.Sg k fun j => O.tk l units j * O.pr l j) ∧ (O.Sg k fun j => O.tk l units j * O.pr l j) ≤ 36028797018963968 * k) ∧ (0 ≤ (O.Sg k fun j => a.getD j default % 65536 * O.pr l j) ∧ (O.Sg k fun j => a.getD j default % 65536 * O.pr l j) ≤ 72057594037927936 * k)) 0 ⟨Nat.zero_le _, fun j h => absurd h (Nat.not_lt_zero _), by rw [O.Sg_0]; omega, by rw [O.Sg_0]; omega, by rw [O.Sg_0]; omega⟩ (by repeat' (first | exact rfl | exact Iff.rfl | exact trivial | exact (fun _ _ => rfl) | exact (fun _ h => absurd h (Nat.not_lt_zero _)) | refine ⟨?_, ?_⟩ | exact Iff.rfl | exact congrArg (fun z => V.SV.one (V.At.val (Value.int .i64 z))) (by omega))) (by repeat' (first | exact rfl | exact Iff.rfl | exact trivial | exact (fun _ _ => rfl) | exact (fun _ h => absurd h (Nat.not_lt_zero _)) | refine ⟨?_, ?_⟩ | exact Iff.rfl | exact congrArg (fun z => V.SV.one (V.At.val (Value.int .i64 z))) (by omega))) (fun _ => ⟨rfl, rfl⟩) ?_; (conv => whnf); refine ⟨⟨rfl, rfl⟩, ?_⟩
      rintro k ⟨hk, hJ, J1, J2, J3⟩
      have pk := pb k
      by_cases hlt : k < l.length
      · have u := O.U_bd ok hlt
        have eU : O.U l k = (l.getD k default).un := rfl
        have eP : O.pr l k = (l.getD k default).pr := rfl
        have p := O.pr_bd ok hlt
        unfold P.Ok at p
        have t := O.tk_bd (m := units) ok hlt
        have tu : O.tk l units k ≤ 32768 := by
          have ts := O.tk_sum (m := units) ok (by omega) c
          have s := Sh.sm_ge (l := O.bst l units) (fun x hx => by
            obtain ⟨i, hi, rfl⟩ := List.getElem_of_mem hx
            rw [← getD_at hi, O.bst_at (by omega)]
            exact (O.tk_le ok (by omega)).1) (getD_mem (l := O.bst l units) (k := k) (by omega))
          rw [O.bst_at hlt, O.bst_sum ok (by omega) c] at s
          exact Int.le_trans s hu
        have bk : (O.bst l units).getD k default = O.tk l units k := O.bst_at hlt
        have s1 := O.Sg_succ k fun j => a.getD j default
        have s2 := O.Sg_succ k fun j => O.tk l units j * O.pr l j
        have s3 := O.Sg_succ k fun j => a.getD j default % 65536 * O.pr l j
        have s4 : O.pts l units (k + 1) = O.pts l units k + (if 0 < O.tk l units k then 1 else 0) := O.Sg_succ k _
        rw [eP] at s2 s3
        rw [eU] at t u
        have q1 : 0 ≤ O.tk l units k * (l.getD k default).pr ∧ O.tk l units k * (l.getD k default).pr ≤ 32768 * 1099511627776 := ⟨Int.mul_nonneg t.1 p.1, Int.mul_le_mul tu p.2 p.1 (by decide)⟩
        have md : 0 ≤ a.getD k default % 65536 ∧ a.getD k default % 65536 ≤ 65536 := by omega
        have q2 : 0 ≤ a.getD k default % 65536 * (l.getD k default).pr ∧ a.getD k default % 65536 * (l.getD k default).pr ≤ 65536 * 1099511627776 := ⟨Int.mul_nonneg md.1 p.1, Int.mul_le_mul md.2 p.2 p.1 (by decide)⟩
        have on : 0 ≤ a.getD k default ∧ a.getD k default ≤ (l.getD k default).un → ∀ j, j < k + 1 → 0 ≤ a.getD j default ∧ a.getD j default ≤ O.U l j := fun q j hj => by
          by_cases z : j = k
          · subst z; exact q
          · exact hJ j (by omega)
        have w := wf64 (wa _ (getD_mem (l := a) (k := k) (by omega)))
        clear hJ bm pb cm emn c2
        rw [← bk] at q1 s2 s4 t tu
        generalize hS1 : (O.Sg (k + 1) fun j => a.getD j default) = S1 at *
        generalize hS2 : (O.Sg (k + 1) fun j => O.tk l units j * O.pr l j) = S2 at *
        generalize hS3 : (O.Sg (k + 1) fun j => a.getD j default % 65536 * O.pr l j) = S3 at *
        generalize hS4 : O.pts l units (k + 1) = S4 at *
        generalize (O.Sg k fun j => a.getD j default) = T1 at *
        generalize (O.Sg k fun j => O.tk l units j * O.pr l j) = T2 at *
        generalize (O.Sg k fun j => a.getD j default % 65536 * O.pr l j) = T3 at *
        generalize O.pts l units k = T4 at *
        by_cases tp : 0 < (O.bst l units).getD k default
        · rw [if_pos tp] at s4
          repeat' ((conv => whnf); first | (refine V.NIf.yes ?_ ?_; · (decide; done)) | (refine V.NIf.no ?_ ?_; · (decide; done)) | refine V.NCond.mk ?_ | refine V.NIf.not_ ?_ | refine V.NIf.dec_ ?_ | refine V.NIf.no (by omega) ?_ | refine V.NIf.yes (by omega) ?_ | refine V.NIf.mk (fun _ => ?_) (fun _ => ?_) | refine V.NWrap.ok (by omega) (by omega) ?_ | refine V.NWrap.u64 (by omega) (by omega) ?_ | refine V.NLt.mk (by omega) ?_ | refine V.NBoth.mk ?_ ?_ | refine V.NTF.yes (by omega) ?_ | refine V.NTF.no (by omega) ?_ | refine V.NTF.dec ?_ | refine V.NDraw.q (by exact rfl) (by kernel_rfl) ?_ | refine V.NApp.one (by first | omega | (simp; omega)) (by first | omega | (simp; omega)) ?_ | (refine NIdx.mk ⟨k, rfl, by omega, ?_⟩) | (refine NRem.pos (by omega) (by omega) ?_; intro z hz hz0 hz1; subst hz) | (refine V.NDraw.any (by kernel_rfl) ?_) | fail)
          all_goals (conv => whnf)
          all_goals first
            | rfl
            | exact ⟨true, rfl, iff_of_true rfl rfl⟩
            | (exfalso; omega)
            | exact V.NBack.at_ (k + 1) [] ⟨by omega, on (by omega), by omega, by omega, by omega⟩ (by omega) ⟨(by repeat' (first | exact rfl | exact Iff.rfl | exact trivial | exact (fun _ _ => rfl) | exact (fun _ h => absurd h (Nat.not_lt_zero _)) | refine ⟨?_, ?_⟩ | exact Iff.rfl | exact congrArg (fun z => V.SV.one (V.At.val (Value.int .i64 z))) (by omega))), congrArg (fun z => V.SV.one (V.At.val (Value.int .i64 z))) (by omega), congrArg (fun z => V.SV.one (V.At.val (Value.int .i64 z))) (by omega), congrArg (fun z => V.SV.one (V.At.val (Value.int .i64 z))) (by omega), congrArg (fun z => V.SV.one (V.At.val (Value.int .i64 z))) (by omega), trivial⟩ rfl (by repeat' (first | exact rfl | exact Iff.rfl | exact trivial | exact (fun _ _ => rfl) | exact (fun _ h => absurd h (Nat.not_lt_zero _)) | refine ⟨?_, ?_⟩ | exact Iff.rfl | exact congrArg (fun z => V.SV.one (V.At.val (Value.int .i64 z))) (by omega))) (by repeat' (first | exact rfl | exact Iff.rfl | exact trivial | exact (fun _ _ => rfl) | exact (fun _ h => absurd h (Nat.not_lt_zero _)) | refine ⟨?_, ?_⟩ | exact Iff.rfl | exact congrArg (fun z => V.SV.one (V.At.val (Value.int .i64 z))) (by omega))) (by repeat' (first | exact rfl | exact Iff.rfl | exact trivial | exact (fun _ _ => rfl) | exact (fun _ h => absurd h (Nat.not_lt_zero _)) | refine ⟨?_, ?_⟩ | exact Iff.rfl | exact congrArg (fun z => V.SV.one (V.At.val (Value.int .i64 z))) (by omega)))
        · rw [if_neg tp] at s4
          repeat' ((conv => whnf); first | (refine V.NIf.yes ?_ ?_; · (decide; done)) | (refine V.NIf.no ?_ ?_; · (decide; done)) | refine V.NCond.mk ?_ | refine V.NIf.not_ ?_ | refine V.NIf.dec_ ?_ | refine V.NIf.no (by omega) ?_ | refine V.NIf.yes (by omega) ?_ | refine V.NIf.mk (fun _ => ?_) (fun _ => ?_) | refine V.NWrap.ok (by omega) (by omega) ?_ | refine V.NWrap.u64 (by omega) (by omega) ?_ | refine V.NLt.mk (by omega) ?_ | refine V.NBoth.mk ?_ ?_ | refine V.NTF.yes (by omega) ?_ | refine V.NTF.no (by omega) ?_ | refine V.NTF.dec ?_ | refine V.NDraw.q (by exact rfl) (by kernel_rfl) ?_ | refine V.NApp.one (by first | omega | (simp; omega)) (by first | omega | (simp; omega)) ?_ | (refine NIdx.mk ⟨k, rfl, by omega, ?_⟩) | (refine NRem.pos (by omega) (by omega) ?_; intro z hz hz0 hz1; subst hz) | (refine V.NDraw.any (by kernel_rfl) ?_) | fail)
          all_goals (conv => whnf)
          all_goals first
            | rfl
            | exact ⟨true, rfl, iff_of_true rfl rfl⟩
            | (exfalso; omega)
            | exact V.NBack.at_ (k + 1) [] ⟨by omega, on (by omega), by omega, by omega, by omega⟩ (by omega) ⟨(by repeat' (first | exact rfl | exact Iff.rfl | exact trivial | exact (fun _ _ => rfl) | exact (fun _ h => absurd h (Nat.not_lt_zero _)) | refine ⟨?_, ?_⟩ | exact Iff.rfl | exact congrArg (fun z => V.SV.one (V.At.val (Value.int .i64 z))) (by omega))), congrArg (fun z => V.SV.one (V.At.val (Value.int .i64 z))) (by omega), congrArg (fun z => V.SV.one (V.At.val (Value.int .i64 z))) (by omega), congrArg (fun z => V.SV.one (V.At.val (Value.int .i64 z))) (by omega), congrArg (fun z => V.SV.one (V.At.val (Value.int .i64 z))) (by omega), trivial⟩ rfl (by repeat' (first | exact rfl | exact Iff.rfl | exact trivial | exact (fun _ _ => rfl) | exact (fun _ h => absurd h (Nat.not_lt_zero _)) | refine ⟨?_, ?_⟩ | exact Iff.rfl | exact congrArg (fun z => V.SV.one (V.At.val (Value.int .i64 z))) (by omega))) (by repeat' (first | exact rfl | exact Iff.rfl | exact trivial | exact (fun _ _ => rfl) | exact (fun _ h => absurd h (Nat.not_lt_zero _)) | refine ⟨?_, ?_⟩ | exact Iff.rfl | exact congrArg (fun z => V.SV.one (V.At.val (Value.int .i64 z))) (by omega))) (by repeat' (first | exact rfl | exact Iff.rfl | exact trivial | exact (fun _ _ => rfl) | exact (fun _ h => absurd h (Nat.not_lt_zero _)) | refine ⟨?_, ?_⟩ | exact Iff.rfl | exact congrArg (fun z => V.SV.one (V.At.val (Value.int .i64 z))) (by omega)))
      · obtain rfl : k = l.length := by omega
        have fin := bm hJ
        rw [← emn] at J2 ⊢
        clear hJ bm pb c2
        generalize (O.Sg l.length fun j => a.getD j default) = T1 at *
        generalize (O.Sg l.length fun j => a.getD j default % 65536 * O.pr l j) = T3 at *
        generalize O.mine l units = M at *
        generalize O.pts l units l.length = T4 at *
        generalize O.cost l units = C at *
        repeat' ((conv => whnf); first | (refine V.NIf.yes ?_ ?_; · (decide; done)) | (refine V.NIf.no ?_ ?_; · (decide; done)) | refine V.NCond.mk ?_ | refine V.NIf.not_ ?_ | refine V.NIf.dec_ ?_ | refine V.NIf.no (by omega) ?_ | refine V.NIf.yes (by omega) ?_ | refine V.NIf.mk (fun _ => ?_) (fun _ => ?_) | refine V.NWrap.ok (by omega) (by omega) ?_ | refine V.NWrap.u64 (by omega) (by omega) ?_ | refine V.NLt.mk (by omega) ?_ | refine V.NBoth.mk ?_ ?_ | refine V.NTF.yes (by omega) ?_ | refine V.NTF.no (by omega) ?_ | refine V.NTF.dec ?_ | refine V.NDraw.q (by exact rfl) (by kernel_rfl) ?_ | refine V.NApp.one (by first | omega | (simp; omega)) (by first | omega | (simp; omega)) ?_ | (refine NQuo.pos (by omega) (by omega) (by omega) ?_; intro z hz hz0 hz1) | (refine V.NDraw.any (by kernel_rfl) ?_) | fail)
        all_goals (conv => whnf)
        all_goals first
          | rfl
          | exact ⟨true, rfl, iff_of_true rfl rfl⟩
          | (exfalso; omega)
          | (first | exact ⟨_, rfl, iff_of_true (by omega) rfl⟩ | (exfalso; omega) | exact ⟨_, rfl, by simp; omega⟩ | exact ⟨_, rfl, by simp⟩)
          | (exfalso; have := fin (by omega); omega)
          | (have := fin (by omega); exact ⟨_, rfl, iff_of_true (by omega) rfl⟩)
          | trace_state
    · generalize O.bst l units = R2 at *
      generalize O.cost l units = C2 at *
      refine V.Fn.mk_ V.Tok V.mixed Try.func5 rfl Try.ntmps5 (by kernel_rfl) rfl rfl ?_
      repeat' ((conv => whnf); first | (refine V.NIf.yes ?_ ?_; · (decide; done)) | (refine V.NIf.no ?_ ?_; · (decide; done)) | refine V.NCond.mk ?_ | refine V.NIf.not_ ?_ | refine V.NIf.dec_ ?_ | refine V.NIf.no (by omega) ?_ | refine V.NIf.yes (by omega) ?_ | refine V.NIf.mk (fun _ => ?_) (fun _ => ?_) | refine V.NWrap.ok (by omega) (by omega) ?_ | refine V.NWrap.u64 (by omega) (by omega) ?_ | refine V.NLt.mk (by omega) ?_ | refine V.NBoth.mk ?_ ?_ | refine V.NTF.yes (by omega) ?_ | refine V.NTF.no (by omega) ?_ | refine V.NTF.dec ?_ | refine V.NDraw.q (by exact rfl) (by kernel_rfl) ?_ | refine V.NApp.one (by first | omega | (simp; omega)) (by first | omega | (simp; omega)) ?_ | (first | refine V.Fn.k0 (v_lnBegun) rfl ?_ | refine V.Fn.q0 (v_lnBegun) rfl ?_ | refine V.Fn.a0 (v_lnBegun) rfl ?_) | ((first | refine V.FnR.k_ (c2) [0] rfl ?_ ?_ | refine V.FnR.a_ (c2) [0] rfl ?_ ?_); · ((repeat' (first | exact rfl | exact Iff.rfl | exact trivial | exact (fun _ _ => rfl) | exact (fun _ h => absurd h (Nat.not_lt_zero _)) | refine ⟨?_, ?_⟩ | exact Iff.rfl | exact congrArg (fun z => V.SV.one (V.At.val (Value.int .i64 z))) (by omega))); done)) | (refine V.NDraw.any (by kernel_rfl) ?_) | fail)
      all_goals (conv => whnf)
      all_goals first
        | rfl
        | exact ⟨true, rfl, iff_of_true rfl rfl⟩
        | (exfalso; omega)
        | trace_state
  · have e2_ : O.bL l units = [] := if_neg h
    have e3_ : O.bC l units = 0 := if_neg h
    rw [e2_, e3_] at c2
    generalize O.err l units = E at *
    refine V.Fn.mk_ V.Tok V.mixed Try.func5 rfl Try.ntmps5 (by kernel_rfl) rfl rfl ?_
    repeat' ((conv => whnf); first | (refine V.NIf.yes ?_ ?_; · (decide; done)) | (refine V.NIf.no ?_ ?_; · (decide; done)) | refine V.NCond.mk ?_ | refine V.NIf.not_ ?_ | refine V.NIf.dec_ ?_ | refine V.NIf.no (by omega) ?_ | refine V.NIf.yes (by omega) ?_ | refine V.NIf.mk (fun _ => ?_) (fun _ => ?_) | refine V.NWrap.ok (by omega) (by omega) ?_ | refine V.NWrap.u64 (by omega) (by omega) ?_ | refine V.NLt.mk (by omega) ?_ | refine V.NBoth.mk ?_ ?_ | refine V.NTF.yes (by omega) ?_ | refine V.NTF.no (by omega) ?_ | refine V.NTF.dec ?_ | refine V.NDraw.q (by exact rfl) (by kernel_rfl) ?_ | refine V.NApp.one (by first | omega | (simp; omega)) (by first | omega | (simp; omega)) ?_ | (first | refine V.Fn.k0 (v_lnBegun) rfl ?_ | refine V.Fn.q0 (v_lnBegun) rfl ?_ | refine V.Fn.a0 (v_lnBegun) rfl ?_) | ((first | refine V.FnR.k_ (c2) [0] rfl ?_ ?_ | refine V.FnR.a_ (c2) [0] rfl ?_ ?_); · ((repeat' (first | exact rfl | exact Iff.rfl | exact trivial | exact (fun _ _ => rfl) | exact (fun _ h => absurd h (Nat.not_lt_zero _)) | refine ⟨?_, ?_⟩ | exact Iff.rfl | exact congrArg (fun z => V.SV.one (V.At.val (Value.int .i64 z))) (by omega))); done)) | (refine V.NDraw.any (by kernel_rfl) ?_) | fail)
    all_goals (conv => whnf)
    all_goals first
      | exact ⟨true, rfl, iff_of_true rfl rfl⟩
      | rfl
      | (first | exact ⟨_, rfl, iff_of_true (by omega) rfl⟩ | (exfalso; omega) | exact ⟨_, rfl, by simp; omega⟩ | exact ⟨_, rfl, by simp⟩)
      | trace_state
end Go.Proofs.Ythimkklcphoohaa

/- The statement of LoanBest: for every input the call returns true and its input reads as it did. No condition. -/
namespace Go.Proofs.Ythimkklcphoohaa.loanBest
open Go.ChangeShapes Go.WideShapes Go.ChangeAt Go.RowKit

theorem own : ownKnob Try.prog.godebug = none := by kernel_rfl

set_option maxRecDepth 100000 in
theorem lifted (os : Os) (started : os.Started) (H : Type) (enc : TypeId × Value → H) :
    ReturnsInHanded {} Try.checked os 5 .any (Rows.loanBestSpec.pre6 enc Try.prog Try.f5 Rows.loanBestRow.domain false) (Rows.loanBestSpec.post enc Try.prog Try.f5 false true false false) := by
  refine returnsInHanded_of_change (C := Try.checked) own started (by kernel_rfl) Try.func5
    (ChangeSpec.witness6 (enc := enc) (C := Try.checked) false ⟨#[], #[.slice none 0 0, .int .i64 0, .slice none 0 0], []⟩ 8 (by kernel_rfl) (by kernel_rfl) (by kernel_rfl) (by kernel_rfl)) ?_
  intro W base args ds gs before hval0 hW _ _
  have hval : ∀ (j : Nat) t v, Try.f5.params[j]? = some t → args[j]? = some v → Value.okWide Try.prog W .any base t v := hval0
  have hW' := hW
  obtain ⟨p, q, hA0, hV, rfl, hfz, hnd⟩ := hW
  have hA : DataW.TrodAll enc Try.prog W 0 (fun _ => true) true Try.f5.params.toList args.toList ds p := hA0
  rw [Try.params5] at hA hval
  obtain ⟨v0, vs0, d0, ds0, p0, q0, hargs, rfl, rfl, h0, r0⟩ := trodAll_cons hA
  obtain ⟨v1, vs1, d1, ds1, p1, q1, rfl, rfl, rfl, h1, r1⟩ := trodAll_cons r0
  obtain ⟨v2, vs2, d2, ds2, p2, q2, rfl, rfl, rfl, h2, r2⟩ := trodAll_cons r1
  obtain ⟨rfl, rfl, rfl⟩ := trodAll_nil r2
  obtain rfl : args = #[v0, v1, v2] := by cases args; simp_all
  obtain ⟨rfl, rfl⟩ := trodVars_none hV
  obtain ⟨l0, hl0, w0⟩ := open_ofs Try.underlying22 (hval 0 22 v0 rfl rfl) h0
  obtain ⟨a1, rfl, rfl, rfl, w1⟩ := open_int Try.underlying3 (hval 1 3 v1 rfl rfl) h1
  obtain ⟨l2, hl2, w2⟩ := open_il (hval 2 23 v2 rfl rfl) h2
  clear hval0
  simp only [List.append_nil] at hW'
  refine ((v_loanBest l0 w0 a1 w1 l2 w2).c W (fun i => [v0, v2][i]?) [_, _, _] (fun i o ho => by
      rcases i with _ | i
      · obtain rfl := Option.some.inj ho
        exact ⟨v0, rfl, hl0⟩
      rcases i with _ | i
      · obtain rfl := Option.some.inj ho
        exact ⟨v2, rfl, hl2⟩
      simp at ho
) ⟨_, _, rfl, ⟨rfl, hl0.one⟩, ⟨_, _, rfl, rfl, ⟨_, _, rfl, ⟨rfl, hl2.one⟩, rfl⟩⟩⟩).mono fun e W' ⟨he, hg⟩ => ?_
  subst he
  exact ⟨_, rfl, post_of_below (pa := _) (pv := []) hW' (fun _ _ _ => (trodAll_cons_mk (shut_bool Try.underlying4 _) trodAll_mk0)) (fun sp hsp => all_stays laidOut (by kernel_rfl) hA0 (fun x hx => hg.same (hW'.lt x (by revert hx; simp))) (fun x hx => hsp x (by revert hx; simp))) (fun _ _ => rfl) (by simp)
    hg (ok_one (by kernel_rfl) rfl (okWide_bool_mk Try.underlying4 _))⟩

theorem over : Rows.loanBestRow.holds Try.pinned (OpenSpec.ofChange Rows.loanBestSpec) :=
  OpenClaim.holds_of_wide 5 Try.f5 rfl rfl rfl rfl rfl rfl rfl ⟨rfl, rfl, rfl, rfl, rfl⟩ rfl rfl rfl rfl rfl (by kernel_rfl) Try.func5 (by kernel_rfl)
    (of_decide_eq_true (by kernel_rfl)) (by unfold Func.isWrapper; first | (rw [if_pos (by decide +kernel)]; kernel_rfl) | (rw [if_neg (by decide +kernel)]; exact ⟨rfl, rfl⟩))
    (fun os started H enc _ => lifted os started H enc)

theorem proved : Rows.LoanBestSaid :=
  over
end Go.Proofs.Ythimkklcphoohaa.loanBest
