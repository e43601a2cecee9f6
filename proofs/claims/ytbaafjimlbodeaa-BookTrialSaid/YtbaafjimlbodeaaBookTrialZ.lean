/- The statement of BookTrial: the call returns true for every input, and its input reads as it did. No condition. -/
import Derived.Test.YtbaafjimlbodeaaRows
import Derived.WalkKit
import Derived.ProofKit
import Derived.OpenShut
import Derived.Test.YtbaafjimlbodeaaZ1
import Derived.Test.YtbaafjimlbodeaaZ2
import Derived.Test.YtbaafjimlbodeaaZ3
import Derived.Test.YtbaafjimlbodeaaZ4
import Derived.Test.YtbaafjimlbodeaaZ5

/- What BookTrial answers: true. -/
namespace Go.Proofs.Ytbaafjimlbodeaa
open Go Go.RowKit V
set_option maxRecDepth 100000
set_option linter.unusedVariables false
set_option linter.unusedSimpArgs false
/-- what stands below, turned -/
def lows (l : List Po) (u : Nat) : List Int := (l.filter fun p => decide (p.ut = (u : Int) ∧ p.am < 0)).map fun p => 0 - p.am
theorem lows_snoc (l : List Po) (p : Po) (u : Nat) : lows (l ++ [p]) u = lows l u ++ if p.ut = (u : Int) ∧ p.am < 0 then [0 - p.am] else [] := by
  unfold lows
  rw [List.filter_append, List.map_append]
  congr 1
  by_cases h : p.ut = (u : Int) ∧ p.am < 0
  · rw [if_pos h]; simp [h]
  · rw [if_neg h]; simp [h]
theorem lows_len (l : List Po) (u : Nat) : (lows l u).length ≤ l.length := by
  unfold lows
  rw [List.length_map]
  exact List.length_filter_le _ _
theorem lows_sum (u : Nat) : ∀ l : List Po, M.sum (lows l u) = Bk.ts l u - M.sum (Bk.amu l u)
  | [] => rfl
  | p :: r => by
    have i := lows_sum u r
    have e1 : lows (p :: r) u = lows [p] u ++ lows r u := by
      unfold lows
      rw [show p :: r = [p] ++ r from rfl, List.filter_append, List.map_append]
    have e2 : Bk.amu (p :: r) u = Bk.amu [p] u ++ Bk.amu r u := by
      unfold Bk.amu
      rw [show p :: r = [p] ++ r from rfl, List.filter_append, List.map_append]
    have e3 : Bk.ts (p :: r) u = M.sum (Bk.pos (Bk.amu [p] u)) + Bk.ts r u := by
      unfold Bk.ts
      rw [e2, ← M.sum_append]
      unfold Bk.pos
      rw [List.filter_append]
    rw [e1, e2, e3, M.sum_append, M.sum_append, i]
    have z : M.sum (lows [p] u) = M.sum (Bk.pos (Bk.amu [p] u)) - M.sum (Bk.amu [p] u) := by
      by_cases q : p.ut = (u : Int)
      · have a : Bk.amu [p] u = [p.am] := by simp [Bk.amu, q]
        rw [a]
        by_cases q2 : p.am < 0
        · have l1 : lows [p] u = [0 - p.am] := by
            have := lows_snoc [] p u
            rw [if_pos ⟨q, q2⟩] at this
            exact this
          have p1 : Bk.pos [p.am] = [] := List.filter_cons_of_neg (by rw [decide_eq_true_eq]; omega)
          rw [l1, p1]
          show 0 - p.am + 0 = 0 - (p.am + 0)
          omega
        · have l1 : lows [p] u = [] := by
            have := lows_snoc [] p u
            rw [if_neg (fun z => q2 z.2)] at this
            exact this
          by_cases q3 : 0 < p.am
          · have p1 : Bk.pos [p.am] = [p.am] := List.filter_cons_of_pos (decide_eq_true q3)
            rw [l1, p1]
            show (0 : Int) = p.am + 0 - (p.am + 0)
            omega
          · have p1 : Bk.pos [p.am] = [] := List.filter_cons_of_neg (by rw [decide_eq_true_eq]; omega)
            rw [l1, p1]
            show (0 : Int) = 0 - (p.am + 0)
            omega
      · have a : Bk.amu [p] u = [] := by simp [Bk.amu, q]
        have l1 : lows [p] u = [] := by
          have := lows_snoc [] p u
          rw [if_neg (fun z => q z.1)] at this
          exact this
        rw [a, l1]
        rfl
    omega
set_option maxHeartbeats 4000000 in
theorem v_bookTrial (b : List Po) (wb : ∀ f ∈ b, WfPo f) : V.Fn Try.prog 7 [.arr 3 b.length (ga encP b)] [.one (.ref 0)] (.bool true) := by
  clear wb
  refine V.Fn.lim (by kernel_rfl) fun hl => ?_
  have hb : b.length ≤ 9223372036854775807 := by have := hl 0 _ _ _ rfl; omega
  clear hl
  have c1 := v_bkTrial b hb
  by_cases hT : Bk.tE b = 0
  · have hL : Bk.lines b = 0 := Classical.byContradiction fun z => z ((if_pos z : Bk.tE b = Bk.lines b).symm.trans hT)
    have tw : Bk.tw b = false := by
      cases q : Bk.tw b
      · rfl
      · have : Bk.tE b = 8 := (if_neg (fun z => z hL)).trans (if_pos q)
        omega
    obtain ⟨ln, ev⟩ := Bk.lines_0 hL
    have tv : Bk.tV b = (List.range 21).map (Bk.ts b) := if_pos hT
    have l4 := ln.le
    have lr := ln.r
    have ta : ∀ u, u < 21 → M.Amt (Bk.ts b u) := fun u hu => Classical.byContradiction fun z => by rw [Bk.tw_yes hu z] at tw; cases tw
    have cs : ∀ u, u < 21 → V.Fn Try.prog 24 [.arr 1 (lows b u).length (ga e1 (lows b u))] [.one (.ref 0)] (.tuple #[.int .i64 (Bk.ts b u), .bool true]) := fun u hu => by
      have c := v_sumof (lows b u) (by have := lows_len b u; omega) (fun a ha => by
        obtain ⟨p, hp, rfl⟩ := List.mem_map.1 ha
        have := (lr p (List.mem_filter.1 hp).1).2.1
        unfold M.Amt at *
        omega)
      have es := sofV_eq (lows b u)
      rw [lows_sum, (Bk.even_iff b).1 ev u hu, Int.sub_zero] at c es
      rw [es.resolve_right (fun z => z (ta u hu)), decide_eq_true (ta u hu)] at c
      exact c
    rw [hT, tv] at c1
    have tn : ((List.range 21).map (Bk.ts b)).length = 21 := by simp
    have tg : ∀ u, u < 21 → ga e1 ((List.range 21).map (Bk.ts b)) u = [.int .i64 (Bk.ts b u)] := fun u hu => by
      unfold ga
      rw [getD_at (by rw [tn]; exact hu)]
      simp [e1]
    have tg2 : ∀ u, u < 21 → ((List.range 21).map (Bk.ts b)).getD u default = Bk.ts b u := fun u hu => by
      rw [getD_at (by rw [tn]; exact hu)]
      simp
    clear ln ev tv hL tw ta hT
    generalize (List.range 21).map (Bk.ts b) = TV at *
    refine V.Fn.mk_ V.Tok V.mixed Try.func7 rfl Try.ntmps7 (by kernel_rfl) rfl rfl ?_
    repeat' ((conv => whnf); first | (refine V.NIf.yes ?_ ?_; · (decide; done)) | (refine V.NIf.no ?_ ?_; · (decide; done)) | (refine V.NIf.yes ?_ ?_; · (simp only [true_and, and_true, and_self]; done)) | refine V.NCond.mk ?_ | refine V.NIf.not_ ?_ | refine V.NIf.dec_ ?_ | refine V.NIf.no (by omega) ?_ | refine V.NIf.yes (by omega) ?_ | refine V.NIf.mk (fun _ => ?_) (fun _ => ?_) | refine V.NWrap.ok (by omega) (by omega) ?_ | refine V.NWrap.u64 (by omega) (by omega) ?_ | refine V.NLt.mk (by omega) ?_ | refine V.NBoth.mk ?_ ?_ | refine V.NTF.yes (by omega) ?_ | refine V.NTF.no (by omega) ?_ | refine V.NTF.dec ?_ | refine V.NDraw.q (by exact rfl) (by kernel_rfl) ?_ | refine V.NApp.one (by first | omega | (simp; omega)) (by first | omega | (simp; omega)) ?_ | (first | refine V.Fn.k0 (v_bkBegun) rfl ?_ | refine V.Fn.q0 (v_bkBegun) rfl ?_ | refine V.Fn.a0 (v_bkBegun) rfl ?_) | ((first | refine V.FnR.k_ (c1) [0] rfl ?_ ?_ | refine V.FnR.a_ (c1) [0] rfl ?_ ?_); · ((repeat' (first | exact rfl | exact Iff.rfl | exact trivial | exact (fun _ _ => rfl) | exact (fun _ h => absurd h (Nat.not_lt_zero _)) | refine ⟨?_, ?_⟩ | exact Iff.rfl | exact congrArg (fun z => V.SV.one (V.At.val (Value.int .i64 z))) (by omega))); done)) | (refine V.NDraw.any (by kernel_rfl) ?_) | fail)
    all_goals (conv => whnf)
    refine V.NLoop.auto (fun (u : Nat) => [(5, .one (.val (.int .i64 u)))]) (fun (u : Nat) => []) [] [] (fun (u : Nat) => 21 - u) (fun (u : Nat) => u ≤ 21) 0 (Nat.zero_le _) (by repeat' (first | exact rfl | exact Iff.rfl | exact trivial | exact (fun _ _ => rfl) | exact (fun _ h => absurd h (Nat.not_lt_zero _)) | refine ⟨?_, ?_⟩ | exact Iff.rfl | exact congrArg (fun z => V.SV.one (V.At.val (Value.int .i64 z))) (by omega))) (by repeat' (first | exact rfl | exact Iff.rfl | exact trivial | exact (fun _ _ => rfl) | exact (fun _ h => absurd h (Nat.not_lt_zero _)) | refine ⟨?_, ?_⟩ | exact Iff.rfl | exact congrArg (fun z => V.SV.one (V.At.val (Value.int .i64 z))) (by omega))) (fun _ => ⟨rfl, rfl⟩) ?_; (conv => whnf); refine ⟨⟨rfl, rfl⟩, ?_⟩
    rintro u hu
    by_cases u1 : u < 21
    · have cs := cs u u1
      have tg2 := tg2 u u1
      repeat' ((conv => whnf); first | refine V.NCond.mk ?_ | refine V.NIf.not_ ?_ | refine V.NIf.dec_ ?_ | refine V.NIf.no (by omega) ?_ | refine V.NIf.yes (by omega) ?_ | refine V.NIf.mk (fun _ => ?_) (fun _ => ?_) | refine V.NWrap.ok (by omega) (by omega) ?_ | refine V.NWrap.u64 (by omega) (by omega) ?_ | refine V.NLt.mk (by omega) ?_ | refine V.NBoth.mk ?_ ?_ | refine V.NTF.yes (by omega) ?_ | refine V.NTF.no (by omega) ?_ | refine V.NTF.dec ?_ | refine V.NDraw.q (by exact rfl) (by kernel_rfl) ?_ | refine V.NApp.one (by first | omega | (simp; omega)) (by first | omega | (simp; omega)) ?_ | (refine V.NDraw.any (by kernel_rfl) ?_) | fail)
      all_goals (conv => whnf)
      refine V.NLoop.auto (fun (i : Nat) => [(7, .one (.val (.int .i64 i))), (6, .one (.ref 2))]) (fun (i : Nat) => [(2, .row 3 1 (lows (b.take i) u).length (ga e1 (lows (b.take i) u)))]) [] [] (fun (i : Nat) => b.length - i) (fun (i : Nat) => i ≤ b.length) 0 (Nat.zero_le _) (by repeat' (first | exact rfl | exact Iff.rfl | exact trivial | exact (fun _ _ => rfl) | exact (fun _ h => absurd h (Nat.not_lt_zero _)) | refine ⟨?_, ?_⟩ | exact Iff.rfl | exact congrArg (fun z => V.SV.one (V.At.val (Value.int .i64 z))) (by omega))) (by repeat' (first | exact rfl | exact Iff.rfl | exact trivial | exact (fun _ _ => rfl) | exact (fun _ h => absurd h (Nat.not_lt_zero _)) | refine ⟨?_, ?_⟩ | exact Iff.rfl | exact congrArg (fun z => V.SV.one (V.At.val (Value.int .i64 z))) (by omega))) (fun _ => ⟨rfl, rfl⟩) ?_; (conv => whnf); refine ⟨⟨rfl, rfl⟩, ?_⟩
      rintro i hi
      have ll := lows_len (b.take i) u
      have tl : (b.take i).length = i := by rw [List.length_take]; omega
      by_cases i1 : i < b.length
      · have sn : lows (b.take (i + 1)) u = lows (b.take i) u ++ if (b.getD i default).ut = (u : Int) ∧ (b.getD i default).am < 0 then [0 - (b.getD i default).am] else [] := by rw [← lows_snoc, getD_at i1, List.take_succ_eq_append_getElem i1]
        have am := (lr _ (getD_mem i1)).2.1
        unfold M.Amt at am
        repeat' ((conv => whnf); first | refine V.NCond.mk ?_ | refine V.NIf.not_ ?_ | refine V.NIf.dec_ ?_ | refine V.NIf.no (by omega) ?_ | refine V.NIf.yes (by omega) ?_ | refine V.NIf.mk (fun _ => ?_) (fun _ => ?_) | refine V.NWrap.ok (by omega) (by omega) ?_ | refine V.NWrap.u64 (by omega) (by omega) ?_ | refine V.NLt.mk (by omega) ?_ | refine V.NBoth.mk ?_ ?_ | refine V.NTF.yes (by omega) ?_ | refine V.NTF.no (by omega) ?_ | refine V.NTF.dec ?_ | refine V.NDraw.q (by exact rfl) (by kernel_rfl) ?_ | refine V.NApp.one (by first | omega | (simp; omega)) (by first | omega | (simp; omega)) ?_ | (refine NIdx.mk ⟨i, rfl, by omega, ?_⟩) | (refine V.NDraw.any (by kernel_rfl) ?_) | fail)
        all_goals (conv => whnf)
        all_goals first
          | exact V.NBack.at_ (i + 1) [(2, 4)] (by omega) (by omega) (by repeat' (first | exact rfl | exact Iff.rfl | exact trivial | exact (fun _ _ => rfl) | exact (fun _ h => absurd h (Nat.not_lt_zero _)) | refine ⟨?_, ?_⟩ | exact Iff.rfl | exact congrArg (fun z => V.SV.one (V.At.val (Value.int .i64 z))) (by omega))) rfl ⟨ObLe.as_ (sn.trans (by rw [if_pos (by omega)])), trivial⟩ (by repeat' (first | exact rfl | exact Iff.rfl | exact trivial | exact (fun _ _ => rfl) | exact (fun _ h => absurd h (Nat.not_lt_zero _)) | refine ⟨?_, ?_⟩ | exact Iff.rfl | exact congrArg (fun z => V.SV.one (V.At.val (Value.int .i64 z))) (by omega))) (by repeat' (first | exact rfl | exact Iff.rfl | exact trivial | exact (fun _ _ => rfl) | exact (fun _ h => absurd h (Nat.not_lt_zero _)) | refine ⟨?_, ?_⟩ | exact Iff.rfl | exact congrArg (fun z => V.SV.one (V.At.val (Value.int .i64 z))) (by omega)))
          | exact V.NBack.at_ (i + 1) [] (by omega) (by omega) (by repeat' (first | exact rfl | exact Iff.rfl | exact trivial | exact (fun _ _ => rfl) | exact (fun _ h => absurd h (Nat.not_lt_zero _)) | refine ⟨?_, ?_⟩ | exact Iff.rfl | exact congrArg (fun z => V.SV.one (V.At.val (Value.int .i64 z))) (by omega))) rfl ⟨ObLe.as_ (sn.trans (by rw [if_neg (by omega), List.append_nil])), trivial⟩ (by repeat' (first | exact rfl | exact Iff.rfl | exact trivial | exact (fun _ _ => rfl) | exact (fun _ h => absurd h (Nat.not_lt_zero _)) | refine ⟨?_, ?_⟩ | exact Iff.rfl | exact congrArg (fun z => V.SV.one (V.At.val (Value.int .i64 z))) (by omega))) (by repeat' (first | exact rfl | exact Iff.rfl | exact trivial | exact (fun _ _ => rfl) | exact (fun _ h => absurd h (Nat.not_lt_zero _)) | refine ⟨?_, ?_⟩ | exact Iff.rfl | exact congrArg (fun z => V.SV.one (V.At.val (Value.int .i64 z))) (by omega)))
          | trace_state
      · obtain rfl : i = b.length := by omega
        rw [List.take_length]
        repeat' ((conv => whnf); first | refine V.NCond.mk ?_ | refine V.NIf.not_ ?_ | refine V.NIf.dec_ ?_ | refine V.NIf.no (by omega) ?_ | refine V.NIf.yes (by omega) ?_ | refine V.NIf.mk (fun _ => ?_) (fun _ => ?_) | refine V.NWrap.ok (by omega) (by omega) ?_ | refine V.NWrap.u64 (by omega) (by omega) ?_ | refine V.NLt.mk (by omega) ?_ | refine V.NBoth.mk ?_ ?_ | refine V.NTF.yes (by omega) ?_ | refine V.NTF.no (by omega) ?_ | refine V.NTF.dec ?_ | refine V.NDraw.q (by exact rfl) (by kernel_rfl) ?_ | refine V.NApp.one (by first | omega | (simp; omega)) (by first | omega | (simp; omega)) ?_ | ((first | refine V.Fn.k (cs) [2] rfl ?_ ?_ | refine V.Fn.q (cs) [2] rfl ?_ ?_ | refine V.Fn.a (cs) [2] rfl ?_ ?_); · ((repeat' (first | exact rfl | exact Iff.rfl | exact trivial | exact (fun _ _ => rfl) | exact (fun _ h => absurd h (Nat.not_lt_zero _)) | refine ⟨?_, ?_⟩ | exact Iff.rfl | exact congrArg (fun z => V.SV.one (V.At.val (Value.int .i64 z))) (by omega))); done)) | (refine NIdx.mk ⟨u, rfl, by omega, ?_⟩) | (refine V.NDraw.any (by kernel_rfl) ?_) | fail)
        all_goals (conv => whnf)
        all_goals first
          | exact V.NBack.at_ (u + 1) [] (by omega) (by omega) (by repeat' (first | exact rfl | exact Iff.rfl | exact trivial | exact (fun _ _ => rfl) | exact (fun _ h => absurd h (Nat.not_lt_zero _)) | refine ⟨?_, ?_⟩ | exact Iff.rfl | exact congrArg (fun z => V.SV.one (V.At.val (Value.int .i64 z))) (by omega))) rfl (by repeat' (first | exact rfl | exact Iff.rfl | exact trivial | exact (fun _ _ => rfl) | exact (fun _ h => absurd h (Nat.not_lt_zero _)) | refine ⟨?_, ?_⟩ | exact Iff.rfl | exact congrArg (fun z => V.SV.one (V.At.val (Value.int .i64 z))) (by omega))) (by repeat' (first | exact rfl | exact Iff.rfl | exact trivial | exact (fun _ _ => rfl) | exact (fun _ h => absurd h (Nat.not_lt_zero _)) | refine ⟨?_, ?_⟩ | exact Iff.rfl | exact congrArg (fun z => V.SV.one (V.At.val (Value.int .i64 z))) (by omega))) (by repeat' (first | exact rfl | exact Iff.rfl | exact trivial | exact (fun _ _ => rfl) | exact (fun _ h => absurd h (Nat.not_lt_zero _)) | refine ⟨?_, ?_⟩ | exact Iff.rfl | exact congrArg (fun z => V.SV.one (V.At.val (Value.int .i64 z))) (by omega)))
          | exact absurd (rfl : true = true) (by assumption)
          | (exfalso; omega)
          | trace_state
    · obtain rfl : u = 21 := by omega
      repeat' ((conv => whnf); first | refine V.NCond.mk ?_ | refine V.NIf.not_ ?_ | refine V.NIf.dec_ ?_ | refine V.NIf.no (by omega) ?_ | refine V.NIf.yes (by omega) ?_ | refine V.NIf.mk (fun _ => ?_) (fun _ => ?_) | refine V.NWrap.ok (by omega) (by omega) ?_ | refine V.NWrap.u64 (by omega) (by omega) ?_ | refine V.NLt.mk (by omega) ?_ | refine V.NBoth.mk ?_ ?_ | refine V.NTF.yes (by omega) ?_ | refine V.NTF.no (by omega) ?_ | refine V.NTF.dec ?_ | refine V.NDraw.q (by exact rfl) (by kernel_rfl) ?_ | refine V.NApp.one (by first | omega | (simp; omega)) (by first | omega | (simp; omega)) ?_ | (refine V.NDraw.any (by kernel_rfl) ?_) | fail)
      all_goals (conv => whnf)
      all_goals first
        | (first | exact ⟨_, rfl, iff_of_true (by omega) rfl⟩ | (exfalso; omega) | exact ⟨_, rfl, by simp; omega⟩ | exact ⟨_, rfl, by simp⟩)
        | trace_state
  · rw [show Bk.tV b = [] from if_neg hT] at c1
    generalize Bk.tE b = E at *
    refine V.Fn.mk_ V.Tok V.mixed Try.func7 rfl Try.ntmps7 (by kernel_rfl) rfl rfl ?_
    repeat' ((conv => whnf); first | (refine V.NIf.yes ?_ ?_; · (decide; done)) | (refine V.NIf.no ?_ ?_; · (decide; done)) | (refine V.NIf.yes ?_ ?_; · (simp only [true_and, and_true, and_self]; done)) | refine V.NCond.mk ?_ | refine V.NIf.not_ ?_ | refine V.NIf.dec_ ?_ | refine V.NIf.no (by omega) ?_ | refine V.NIf.yes (by omega) ?_ | refine V.NIf.mk (fun _ => ?_) (fun _ => ?_) | refine V.NWrap.ok (by omega) (by omega) ?_ | refine V.NWrap.u64 (by omega) (by omega) ?_ | refine V.NLt.mk (by omega) ?_ | refine V.NBoth.mk ?_ ?_ | refine V.NTF.yes (by omega) ?_ | refine V.NTF.no (by omega) ?_ | refine V.NTF.dec ?_ | refine V.NDraw.q (by exact rfl) (by kernel_rfl) ?_ | refine V.NApp.one (by first | omega | (simp; omega)) (by first | omega | (simp; omega)) ?_ | (first | refine V.Fn.k0 (v_bkBegun) rfl ?_ | refine V.Fn.q0 (v_bkBegun) rfl ?_ | refine V.Fn.a0 (v_bkBegun) rfl ?_) | ((first | refine V.FnR.k_ (c1) [0] rfl ?_ ?_ | refine V.FnR.a_ (c1) [0] rfl ?_ ?_); · ((repeat' (first | exact rfl | exact Iff.rfl | exact trivial | exact (fun _ _ => rfl) | exact (fun _ h => absurd h (Nat.not_lt_zero _)) | refine ⟨?_, ?_⟩ | exact Iff.rfl | exact congrArg (fun z => V.SV.one (V.At.val (Value.int .i64 z))) (by omega))); done)) | (refine V.NDraw.any (by kernel_rfl) ?_) | fail)
    all_goals (conv => whnf)
    all_goals first
      | (first | exact ⟨_, rfl, iff_of_true (by omega) rfl⟩ | (exfalso; omega) | exact ⟨_, rfl, by simp; omega⟩ | exact ⟨_, rfl, by simp⟩)
      | trace_state
end Go.Proofs.Ytbaafjimlbodeaa

/- The statement of BookTrial: for every input the call returns true and its input reads as it did. No condition. -/
namespace Go.Proofs.Ytbaafjimlbodeaa.bookTrial
open Go.ChangeShapes Go.WideShapes Go.ChangeAt Go.RowKit

theorem own : ownKnob Try.prog.godebug = none := by kernel_rfl

set_option maxRecDepth 100000 in
theorem lifted (os : Os) (started : os.Started) (H : Type) (enc : TypeId × Value → H) :
    ReturnsInHanded {} Try.checked os 7 .any (Rows.bookTrialSpec.pre6 enc Try.prog Try.f7 Rows.bookTrialRow.domain false) (Rows.bookTrialSpec.post enc Try.prog Try.f7 false true false false) := by
  refine returnsInHanded_of_change (C := Try.checked) own started (by kernel_rfl) Try.func7
    (ChangeSpec.witness6 (enc := enc) (C := Try.checked) false ⟨#[], #[.slice none 0 0], []⟩ 8 (by kernel_rfl) (by kernel_rfl) (by kernel_rfl) (by kernel_rfl)) ?_
  intro W base args ds gs before hval0 hW _ _
  have hval : ∀ (j : Nat) t v, Try.f7.params[j]? = some t → args[j]? = some v → Value.okWide Try.prog W .any base t v := hval0
  have hW' := hW
  obtain ⟨p, q, hA0, hV, rfl, hfz, hnd⟩ := hW
  have hA : DataW.TrodAll enc Try.prog W 0 (fun _ => true) true Try.f7.params.toList args.toList ds p := hA0
  rw [Try.params7] at hA hval
  obtain ⟨v0, vs0, d0, ds0, p0, q0, hargs, rfl, rfl, h0, r0⟩ := trodAll_cons hA
  obtain ⟨rfl, rfl, rfl⟩ := trodAll_nil r0
  obtain rfl : args = #[v0] := by cases args; simp_all
  obtain ⟨rfl, rfl⟩ := trodVars_none hV
  obtain ⟨l0, hl0, w0⟩ := open_pos Try.underlying22 (hval 0 22 v0 rfl rfl) h0
  clear hval0
  simp only [List.append_nil] at hW'
  refine ((v_bookTrial l0 w0).c W (fun i => [v0][i]?) [_] (fun i o ho => by
      rcases i with _ | i
      · obtain rfl := Option.some.inj ho
        exact ⟨v0, rfl, hl0⟩
      simp at ho
) ⟨_, _, rfl, ⟨rfl, hl0.one⟩, rfl⟩).mono fun e W' ⟨he, hg⟩ => ?_
  subst he
  exact ⟨_, rfl, post_of_below (pa := _) (pv := []) hW' (fun _ _ _ => (trodAll_cons_mk (shut_bool Try.underlying4 _) trodAll_mk0)) (fun sp hsp => all_stays laidOut (by kernel_rfl) hA0 (fun x hx => hg.same (hW'.lt x (by revert hx; simp))) (fun x hx => hsp x (by revert hx; simp))) (fun _ _ => rfl) (by simp)
    hg (ok_one (by kernel_rfl) rfl (okWide_bool_mk Try.underlying4 _))⟩

theorem over : Rows.bookTrialRow.holds Try.pinned (OpenSpec.ofChange Rows.bookTrialSpec) :=
  OpenClaim.holds_of_wide 7 Try.f7 rfl rfl rfl rfl rfl rfl rfl ⟨rfl, rfl, rfl, rfl, rfl⟩ rfl rfl rfl rfl rfl (by kernel_rfl) Try.func7 (by kernel_rfl)
    (of_decide_eq_true (by kernel_rfl)) (by unfold Func.isWrapper; first | (rw [if_pos (by decide +kernel)]; kernel_rfl) | (rw [if_neg (by decide +kernel)]; exact ⟨rfl, rfl⟩))
    (fun os started H enc _ => lifted os started H enc)

theorem proved : Rows.BookTrialSaid :=
  over
end Go.Proofs.Ytbaafjimlbodeaa.bookTrial
