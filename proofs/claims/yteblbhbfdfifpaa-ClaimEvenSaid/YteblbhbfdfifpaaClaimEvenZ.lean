/- The statement of ClaimEven: the call returns true for every input, and its input reads as it did. No condition. -/
import Derived.Test.YteblbhbfdfifpaaRows
import Derived.WalkKit
import Derived.ProofKit
import Derived.OpenShut
import Derived.Test.YteblbhbfdfifpaaZ1
import Derived.Test.YteblbhbfdfifpaaZ2
import Derived.Test.YteblbhbfdfifpaaZ3
import Derived.Test.YteblbhbfdfifpaaZ4
import Derived.Test.YteblbhbfdfifpaaZ5
import Derived.Test.YteblbhbfdfifpaaZ6

/- What ClaimEven answers: true. -/
namespace Go.Proofs.Yteblbhbfdfifpaa
open Go Go.RowKit V
set_option maxRecDepth 100000
set_option linter.unusedVariables false
set_option linter.unusedSimpArgs false
set_option maxHeartbeats 4000000 in
theorem v_claimEven (v : Ev) (wv : WfEv v) (l : List Fl) (wl : ∀ f ∈ l, WfF f) : V.Fn Try.prog 7 [.arr 10 l.length (ga encF l)] [.agg [.val (.int .i64 v.pa), .val (.int .i64 v.ca), .val (.int .i64 v.gi), .val (.int .i64 v.fo)], .one (.ref 0)] (.bool true) := by
  clear wv wl
  have c1 := v_Claims v l
  by_cases h : C.xE v l = 0
  · obtain ⟨h1, h2⟩ := C.xE_ok h
    obtain ⟨n60, all, _⟩ := K.checks_all h2
    have ok := (C.ev_ok h1).1
    have eD : C.dV v l = C.dus v l := if_pos h
    have eP : C.pV v l = C.pos v l := if_pos h
    rw [eD, eP, h] at c1
    have ce : (Bk.chk (C.pos v l) = 0 ∨ Bk.chk (C.pos v l) = 2) ∨ (Bk.chk (C.pos v l) = 1 ∧ (C.pos v l).length = 0) := (Bk.chk_even (C.pos_right ok all) (C.pos_even v l)).imp id fun q => ⟨q.1, by rw [q.2]; rfl⟩
    have cl := C.claimed ok all
    have dl := C.dus_len v l
    have pl := C.pos_len v l
    have c2 := v_bkCheck (C.pos v l) (by omega)
    have so := fun k => @C.snoc_own v l k
    have sc := fun k => @C.snoc_csum (C.dus v l) k
    have sp := fun k => @C.snoc_psum (C.pos v l) k
    have bo : ∀ k, 0 ≤ C.own v (l.take k) ∧ C.own v (l.take k) ≤ 64424509440 := fun k => by
      have := C.sum_bd (l := l.take k) (g := C.own1 v) (b := 1073741824) fun f hf => C.own_nn (all f (List.mem_of_mem_take hf))
      unfold C.own
      rw [List.length_take] at this
      omega
    have bc : ∀ k, 0 ≤ C.csum ((C.dus v l).take k) ∧ C.csum ((C.dus v l).take k) ≤ 7083549724304467800 := fun k => by
      have := C.sum_bd (l := (C.dus v l).take k) (g := fun d => d.am) (b := 118059162071741130) fun d hd => C.du_bd ok all d (List.mem_of_mem_take hd)
      unfold C.csum
      rw [List.length_take] at this
      omega
    have bp : ∀ k, 0 ≤ C.psum ((C.pos v l).take k) ∧ C.psum ((C.pos v l).take k) ≤ 128849018880000 := fun k => by
      have := C.sum_bd (l := (C.pos v l).take k) (g := C.pm) (b := 1073741824000) fun d hd => C.po_bd ok all d (List.mem_of_mem_take hd)
      unfold C.psum
      rw [List.length_take] at this
      omega
    have ek : ∀ k, k < l.length → F.chk (l.getD k default) = 0 ∧ F.opn (l.getD k default) = F.left (l.getD k default) := fun k hk => by
      have e := F.chk_of (all _ (getD_mem hk))
      exact ⟨e, F.opn_yes e⟩
    have e1 : C.csum ((C.dus v l).take (C.dus v l).length) = C.csum (C.dus v l) := by rw [List.take_length]
    have e2 : C.psum ((C.pos v l).take (C.pos v l).length) = C.psum (C.pos v l) := by rw [List.take_length]
    have e3 : C.own v (l.take l.length) = C.own v l := by rw [List.take_length]
    have z0 : C.own v (l.take 0) = 0 := rfl
    have z1 : C.csum ((C.dus v l).take 0) = 0 := rfl
    have z2 : C.psum ((C.pos v l).take 0) = 0 := rfl
    have c3 := v_clCash v (C.own v l)
    have c4 := v_clFresh v (C.own v l)
    have u0 : (0 ≤ C.own v l ∧ C.own v l ≤ 1073741824) → C.uE v (C.own v l) = 0 ∧ C.cV v (C.own v l) = C.cash v (C.own v l) ∧ C.fV v (C.own v l) = C.fr v (C.own v l) := fun q => by
      have e := C.uE_3 h1 q
      exact ⟨e, if_pos e, if_pos e⟩
    have bo0 := bo l.length
    rw [e3] at bo0
    have cb := fun q => C.cash_bd (u := C.own v l) ok q
    have fb := fun q => C.fr_bd (u := C.own v l) ok q
    clear ok all h h1 h2 eD eP
    generalize C.dus v l = DL at *
    generalize C.pos v l = PL at *
    generalize Bk.chk PL = BC at *
    generalize C.cV v (C.own v l) = CV at *
    generalize C.fV v (C.own v l) = FV at *
    generalize C.uE v (C.own v l) = UE at *
    refine V.Fn.mk_ V.Tok V.mixed Try.func7 rfl Try.ntmps7 (by kernel_rfl) rfl rfl ?_
    repeat' ((conv => whnf); first | (refine V.NIf.yes ?_ ?_; · (decide; done)) | (refine V.NIf.no ?_ ?_; · (decide; done)) | (refine V.NIf.yes ?_ ?_; · (simp only [true_and, and_true, and_self]; done)) | refine V.NCond.mk ?_ | refine V.NIf.not_ ?_ | refine V.NIf.dec_ ?_ | refine V.NIf.no (by omega) ?_ | refine V.NIf.yes (by omega) ?_ | refine V.NIf.mk (fun _ => ?_) (fun _ => ?_) | refine V.NWrap.ok (by omega) (by omega) ?_ | refine V.NWrap.u64 (by omega) (by omega) ?_ | refine V.NLt.mk (by omega) ?_ | refine V.NBoth.mk ?_ ?_ | refine V.NTF.yes (by omega) ?_ | refine V.NTF.no (by omega) ?_ | refine V.NTF.dec ?_ | refine V.NDraw.q (by exact rfl) (by kernel_rfl) ?_ | refine V.NApp.one (by first | omega | (simp; omega)) (by first | omega | (simp; omega)) ?_ | ((first | refine V.FnR.k_ (c1) [0] rfl ?_ ?_ | refine V.FnR.a_ (c1) [0] rfl ?_ ?_); · ((repeat' (first | exact rfl | exact Iff.rfl | exact trivial | exact (fun _ _ => rfl) | exact (fun _ h => absurd h (Nat.not_lt_zero _)) | refine ⟨?_, ?_⟩ | exact Iff.rfl | exact congrArg (fun z => V.SV.one (V.At.val (Value.int .i64 z))) (by omega))); done)) | (first | refine V.Fn.k0 (v_clbegun) rfl ?_ | refine V.Fn.q0 (v_clbegun) rfl ?_ | refine V.Fn.a0 (v_clbegun) rfl ?_) | (first | refine V.Fn.k0 (v_bkBegun) rfl ?_ | refine V.Fn.q0 (v_bkBegun) rfl ?_ | refine V.Fn.a0 (v_bkBegun) rfl ?_) | (first | refine V.Fn.k0 (v_fbegun) rfl ?_ | refine V.Fn.q0 (v_fbegun) rfl ?_ | refine V.Fn.a0 (v_fbegun) rfl ?_) | ((first | refine V.Fn.k (c2) [3] rfl ?_ ?_ | refine V.Fn.q (c2) [3] rfl ?_ ?_ | refine V.Fn.a (c2) [3] rfl ?_ ?_); · ((repeat' (first | exact rfl | exact Iff.rfl | exact trivial | exact (fun _ _ => rfl) | exact (fun _ h => absurd h (Nat.not_lt_zero _)) | refine ⟨?_, ?_⟩ | exact Iff.rfl | exact congrArg (fun z => V.SV.one (V.At.val (Value.int .i64 z))) (by omega))); done)) | (refine V.NDraw.any (by kernel_rfl) ?_) | fail)
    all_goals (conv => whnf)
    all_goals try (exact ⟨true, rfl, iff_of_true (by omega) rfl⟩)
    all_goals try (exfalso; omega)
    all_goals refine V.NLoop.auto (fun (k : Nat) => [(12, .one (.val (.int .i64 k))), (9, .one (.val (.int .i64 (C.own v (l.take k)))))]) (fun (k : Nat) => []) [] [] (fun (k : Nat) => l.length - k) (fun (k : Nat) => k ≤ l.length) 0 (Nat.zero_le _) (by repeat' (first | exact rfl | exact Iff.rfl | exact trivial | exact (fun _ _ => rfl) | exact (fun _ h => absurd h (Nat.not_lt_zero _)) | refine ⟨?_, ?_⟩ | exact Iff.rfl | exact congrArg (fun z => V.SV.one (V.At.val (Value.int .i64 z))) (by omega))) (by repeat' (first | exact rfl | exact Iff.rfl | exact trivial | exact (fun _ _ => rfl) | exact (fun _ h => absurd h (Nat.not_lt_zero _)) | refine ⟨?_, ?_⟩ | exact Iff.rfl | exact congrArg (fun z => V.SV.one (V.At.val (Value.int .i64 z))) (by omega))) (fun _ => ⟨rfl, rfl⟩) ?_; (conv => whnf); refine ⟨⟨rfl, rfl⟩, ?_⟩
    all_goals (rintro k hk)
    all_goals have b1 := bo k
    all_goals by_cases hlt : k < l.length
    all_goals first
      | (obtain ⟨q1, q2⟩ := ek k hlt
         have so := so k hlt
         have co := v_open (l.getD k default)
         rw [q1, q2] at co
         have o1 : (l.getD k default).pa = v.pa → C.own1 v (l.getD k default) = F.left (l.getD k default) := fun z => if_pos z
         have o2 : ¬ (l.getD k default).pa = v.pa → C.own1 v (l.getD k default) = 0 := fun z => if_neg z
         have b2 := bo (k + 1)
         clear c1 c2 c3 c4 sc sp bc bp cb fb u0 ce cl
         repeat' ((conv => whnf); first | (refine V.NIf.yes ?_ ?_; · (decide; done)) | (refine V.NIf.no ?_ ?_; · (decide; done)) | (refine V.NIf.yes ?_ ?_; · (simp only [true_and, and_true, and_self]; done)) | refine V.NCond.mk ?_ | refine V.NIf.not_ ?_ | refine V.NIf.dec_ ?_ | refine V.NIf.no (by omega) ?_ | refine V.NIf.yes (by omega) ?_ | refine V.NIf.mk (fun _ => ?_) (fun _ => ?_) | refine V.NWrap.ok (by omega) (by omega) ?_ | refine V.NWrap.u64 (by omega) (by omega) ?_ | refine V.NLt.mk (by omega) ?_ | refine V.NBoth.mk ?_ ?_ | refine V.NTF.yes (by omega) ?_ | refine V.NTF.no (by omega) ?_ | refine V.NTF.dec ?_ | refine V.NDraw.q (by exact rfl) (by kernel_rfl) ?_ | refine V.NApp.one (by first | omega | (simp; omega)) (by first | omega | (simp; omega)) ?_ | (refine NIdx.mk ⟨k, rfl, by omega, ?_⟩) | (first | refine V.Fn.k0 (co) rfl ?_ | refine V.Fn.q0 (co) rfl ?_ | refine V.Fn.a0 (co) rfl ?_) | (refine V.NDraw.any (by kernel_rfl) ?_) | fail)
         all_goals (conv => whnf)
         all_goals exact V.NBack.at_ (k + 1) [] (by omega) (by omega) (by repeat' (first | exact rfl | exact Iff.rfl | exact trivial | exact (fun _ _ => rfl) | exact (fun _ h => absurd h (Nat.not_lt_zero _)) | refine ⟨?_, ?_⟩ | exact Iff.rfl | exact congrArg (fun z => V.SV.one (V.At.val (Value.int .i64 z))) (by omega))) rfl (by repeat' (first | exact rfl | exact Iff.rfl | exact trivial | exact (fun _ _ => rfl) | exact (fun _ h => absurd h (Nat.not_lt_zero _)) | refine ⟨?_, ?_⟩ | exact Iff.rfl | exact congrArg (fun z => V.SV.one (V.At.val (Value.int .i64 z))) (by omega))) (by repeat' (first | exact rfl | exact Iff.rfl | exact trivial | exact (fun _ _ => rfl) | exact (fun _ h => absurd h (Nat.not_lt_zero _)) | refine ⟨?_, ?_⟩ | exact Iff.rfl | exact congrArg (fun z => V.SV.one (V.At.val (Value.int .i64 z))) (by omega))) (by repeat' (first | exact rfl | exact Iff.rfl | exact trivial | exact (fun _ _ => rfl) | exact (fun _ h => absurd h (Nat.not_lt_zero _)) | refine ⟨?_, ?_⟩ | exact Iff.rfl | exact congrArg (fun z => V.SV.one (V.At.val (Value.int .i64 z))) (by omega))))
      | (obtain rfl : k = l.length := by omega
         rw [e3] at *
         repeat' ((conv => whnf); first | (refine V.NIf.yes ?_ ?_; · (decide; done)) | (refine V.NIf.no ?_ ?_; · (decide; done)) | refine V.NCond.mk ?_ | refine V.NIf.not_ ?_ | refine V.NIf.dec_ ?_ | refine V.NIf.no (by omega) ?_ | refine V.NIf.yes (by omega) ?_ | refine V.NIf.mk (fun _ => ?_) (fun _ => ?_) | refine V.NWrap.ok (by omega) (by omega) ?_ | refine V.NWrap.u64 (by omega) (by omega) ?_ | refine V.NLt.mk (by omega) ?_ | refine V.NBoth.mk ?_ ?_ | refine V.NTF.yes (by omega) ?_ | refine V.NTF.no (by omega) ?_ | refine V.NTF.dec ?_ | refine V.NDraw.q (by exact rfl) (by kernel_rfl) ?_ | refine V.NApp.one (by first | omega | (simp; omega)) (by first | omega | (simp; omega)) ?_ | (refine V.NDraw.any (by kernel_rfl) ?_) | fail)
         all_goals (conv => whnf)
         refine V.NLoop.auto (fun (j : Nat) => [(15, .one (.val (.int .i64 j))), (10, .one (.val (.int .i64 (C.csum (DL.take j)))))]) (fun (j : Nat) => []) [] [] (fun (j : Nat) => DL.length - j) (fun (j : Nat) => j ≤ DL.length) 0 (Nat.zero_le _) (by repeat' (first | exact rfl | exact Iff.rfl | exact trivial | exact (fun _ _ => rfl) | exact (fun _ h => absurd h (Nat.not_lt_zero _)) | refine ⟨?_, ?_⟩ | exact Iff.rfl | exact congrArg (fun z => V.SV.one (V.At.val (Value.int .i64 z))) (by omega))) (by repeat' (first | exact rfl | exact Iff.rfl | exact trivial | exact (fun _ _ => rfl) | exact (fun _ h => absurd h (Nat.not_lt_zero _)) | refine ⟨?_, ?_⟩ | exact Iff.rfl | exact congrArg (fun z => V.SV.one (V.At.val (Value.int .i64 z))) (by omega))) (fun _ => ⟨rfl, rfl⟩) ?_; (conv => whnf); refine ⟨⟨rfl, rfl⟩, ?_⟩
         rintro j hj
         have b2 := bc j
         by_cases hlt2 : j < DL.length
         · have sc := sc j hlt2
           have b3 := bc (j + 1)
           clear c1 c2 c3 c4 sp bp cb fb u0 ce cl
           repeat' ((conv => whnf); first | (refine V.NIf.yes ?_ ?_; · (decide; done)) | (refine V.NIf.no ?_ ?_; · (decide; done)) | refine V.NCond.mk ?_ | refine V.NIf.not_ ?_ | refine V.NIf.dec_ ?_ | refine V.NIf.no (by omega) ?_ | refine V.NIf.yes (by omega) ?_ | refine V.NIf.mk (fun _ => ?_) (fun _ => ?_) | refine V.NWrap.ok (by omega) (by omega) ?_ | refine V.NWrap.u64 (by omega) (by omega) ?_ | refine V.NLt.mk (by omega) ?_ | refine V.NBoth.mk ?_ ?_ | refine V.NTF.yes (by omega) ?_ | refine V.NTF.no (by omega) ?_ | refine V.NTF.dec ?_ | refine V.NDraw.q (by exact rfl) (by kernel_rfl) ?_ | refine V.NApp.one (by first | omega | (simp; omega)) (by first | omega | (simp; omega)) ?_ | (refine NIdx.mk ⟨j, rfl, by omega, ?_⟩) | (refine V.NDraw.any (by kernel_rfl) ?_) | fail)
           all_goals (conv => whnf)
           all_goals exact V.NBack.at_ (j + 1) [] (by omega) (by omega) (by repeat' (first | exact rfl | exact Iff.rfl | exact trivial | exact (fun _ _ => rfl) | exact (fun _ h => absurd h (Nat.not_lt_zero _)) | refine ⟨?_, ?_⟩ | exact Iff.rfl | exact congrArg (fun z => V.SV.one (V.At.val (Value.int .i64 z))) (by omega))) rfl (by repeat' (first | exact rfl | exact Iff.rfl | exact trivial | exact (fun _ _ => rfl) | exact (fun _ h => absurd h (Nat.not_lt_zero _)) | refine ⟨?_, ?_⟩ | exact Iff.rfl | exact congrArg (fun z => V.SV.one (V.At.val (Value.int .i64 z))) (by omega))) (by repeat' (first | exact rfl | exact Iff.rfl | exact trivial | exact (fun _ _ => rfl) | exact (fun _ h => absurd h (Nat.not_lt_zero _)) | refine ⟨?_, ?_⟩ | exact Iff.rfl | exact congrArg (fun z => V.SV.one (V.At.val (Value.int .i64 z))) (by omega))) (by repeat' (first | exact rfl | exact Iff.rfl | exact trivial | exact (fun _ _ => rfl) | exact (fun _ h => absurd h (Nat.not_lt_zero _)) | refine ⟨?_, ?_⟩ | exact Iff.rfl | exact congrArg (fun z => V.SV.one (V.At.val (Value.int .i64 z))) (by omega)))
         · obtain rfl : j = DL.length := by omega
           rw [e1] at *
           repeat' ((conv => whnf); first | (refine V.NIf.yes ?_ ?_; · (decide; done)) | (refine V.NIf.no ?_ ?_; · (decide; done)) | refine V.NCond.mk ?_ | refine V.NIf.not_ ?_ | refine V.NIf.dec_ ?_ | refine V.NIf.no (by omega) ?_ | refine V.NIf.yes (by omega) ?_ | refine V.NIf.mk (fun _ => ?_) (fun _ => ?_) | refine V.NWrap.ok (by omega) (by omega) ?_ | refine V.NWrap.u64 (by omega) (by omega) ?_ | refine V.NLt.mk (by omega) ?_ | refine V.NBoth.mk ?_ ?_ | refine V.NTF.yes (by omega) ?_ | refine V.NTF.no (by omega) ?_ | refine V.NTF.dec ?_ | refine V.NDraw.q (by exact rfl) (by kernel_rfl) ?_ | refine V.NApp.one (by first | omega | (simp; omega)) (by first | omega | (simp; omega)) ?_ | (refine V.NDraw.any (by kernel_rfl) ?_) | fail)
           all_goals (conv => whnf)
           refine V.NLoop.auto (fun (i : Nat) => [(16, .one (.val (.int .i64 i))), (11, .one (.val (.int .i64 (C.psum (PL.take i)))))]) (fun (i : Nat) => []) [] [] (fun (i : Nat) => PL.length - i) (fun (i : Nat) => i ≤ PL.length) 0 (Nat.zero_le _) (by repeat' (first | exact rfl | exact Iff.rfl | exact trivial | exact (fun _ _ => rfl) | exact (fun _ h => absurd h (Nat.not_lt_zero _)) | refine ⟨?_, ?_⟩ | exact Iff.rfl | exact congrArg (fun z => V.SV.one (V.At.val (Value.int .i64 z))) (by omega))) (by repeat' (first | exact rfl | exact Iff.rfl | exact trivial | exact (fun _ _ => rfl) | exact (fun _ h => absurd h (Nat.not_lt_zero _)) | refine ⟨?_, ?_⟩ | exact Iff.rfl | exact congrArg (fun z => V.SV.one (V.At.val (Value.int .i64 z))) (by omega))) (fun _ => ⟨rfl, rfl⟩) ?_; (conv => whnf); refine ⟨⟨rfl, rfl⟩, ?_⟩
           rintro i hi
           have b3 := bp i
           by_cases hlt3 : i < PL.length
           · have sp := sp i hlt3
             have b4 := bp (i + 1)
             have m1 : (if (PL.getD i default).am < 0 then 0 else (PL.getD i default).am) = C.pm (PL.getD i default) := rfl
             clear c1 c2 c3 c4 cb fb u0 ce cl
             repeat' ((conv => whnf); first | (refine V.NIf.yes ?_ ?_; · (decide; done)) | (refine V.NIf.no ?_ ?_; · (decide; done)) | refine V.NCond.mk ?_ | refine V.NIf.not_ ?_ | refine V.NIf.dec_ ?_ | refine V.NIf.no (by omega) ?_ | refine V.NIf.yes (by omega) ?_ | refine V.NIf.mk (fun _ => ?_) (fun _ => ?_) | refine V.NWrap.ok (by omega) (by omega) ?_ | refine V.NWrap.u64 (by omega) (by omega) ?_ | refine V.NLt.mk (by omega) ?_ | refine V.NBoth.mk ?_ ?_ | refine V.NTF.yes (by omega) ?_ | refine V.NTF.no (by omega) ?_ | refine V.NTF.dec ?_ | refine V.NDraw.q (by exact rfl) (by kernel_rfl) ?_ | refine V.NApp.one (by first | omega | (simp; omega)) (by first | omega | (simp; omega)) ?_ | (refine NIdx.mk ⟨i, rfl, by omega, ?_⟩) | (refine V.NDraw.any (by kernel_rfl) ?_) | fail)
             all_goals (conv => whnf)
             all_goals first
               | exact V.NBack.at_ (i + 1) [] (by omega) (by omega) (by repeat' (first | exact rfl | exact Iff.rfl | exact trivial | exact (fun _ _ => rfl) | exact (fun _ h => absurd h (Nat.not_lt_zero _)) | refine ⟨?_, ?_⟩ | exact Iff.rfl | exact congrArg (fun z => V.SV.one (V.At.val (Value.int .i64 z))) (by omega))) rfl (by repeat' (first | exact rfl | exact Iff.rfl | exact trivial | exact (fun _ _ => rfl) | exact (fun _ h => absurd h (Nat.not_lt_zero _)) | refine ⟨?_, ?_⟩ | exact Iff.rfl | exact congrArg (fun z => V.SV.one (V.At.val (Value.int .i64 z))) (by omega))) (by repeat' (first | exact rfl | exact Iff.rfl | exact trivial | exact (fun _ _ => rfl) | exact (fun _ h => absurd h (Nat.not_lt_zero _)) | refine ⟨?_, ?_⟩ | exact Iff.rfl | exact congrArg (fun z => V.SV.one (V.At.val (Value.int .i64 z))) (by omega))) (by repeat' (first | exact rfl | exact Iff.rfl | exact trivial | exact (fun _ _ => rfl) | exact (fun _ h => absurd h (Nat.not_lt_zero _)) | refine ⟨?_, ?_⟩ | exact Iff.rfl | exact congrArg (fun z => V.SV.one (V.At.val (Value.int .i64 z))) (by omega)))
               | (exfalso; omega)
               | trace_state
           · obtain rfl : i = PL.length := by omega
             rw [e2] at *
             repeat' ((conv => whnf); first | (refine V.NIf.yes ?_ ?_; · (decide; done)) | (refine V.NIf.no ?_ ?_; · (decide; done)) | (refine V.NIf.yes ?_ ?_; · (simp only [true_and, and_true, and_self]; done)) | refine V.NCond.mk ?_ | refine V.NIf.not_ ?_ | refine V.NIf.dec_ ?_ | refine V.NIf.no (by omega) ?_ | refine V.NIf.yes (by omega) ?_ | refine V.NIf.mk (fun _ => ?_) (fun _ => ?_) | refine V.NWrap.ok (by omega) (by omega) ?_ | refine V.NWrap.u64 (by omega) (by omega) ?_ | refine V.NLt.mk (by omega) ?_ | refine V.NBoth.mk ?_ ?_ | refine V.NTF.yes (by omega) ?_ | refine V.NTF.no (by omega) ?_ | refine V.NTF.dec ?_ | refine V.NDraw.q (by exact rfl) (by kernel_rfl) ?_ | refine V.NApp.one (by first | omega | (simp; omega)) (by first | omega | (simp; omega)) ?_ | (first | refine V.Fn.k0 (c3) rfl ?_ | refine V.Fn.q0 (c3) rfl ?_ | refine V.Fn.a0 (c3) rfl ?_) | (first | refine V.Fn.k0 (c4) rfl ?_ | refine V.Fn.q0 (c4) rfl ?_ | refine V.Fn.a0 (c4) rfl ?_) | (refine V.NDraw.any (by kernel_rfl) ?_) | fail)
             all_goals (conv => whnf)
             all_goals first
               | (first | exact ⟨_, rfl, iff_of_true (by omega) rfl⟩ | (exfalso; omega) | exact ⟨_, rfl, by simp; omega⟩ | exact ⟨_, rfl, by simp⟩)
               | trace_state)
      | trace_state
  · have eD : C.dV v l = [] := if_neg h
    have eP : C.pV v l = [] := if_neg h
    rw [eD, eP] at c1
    generalize C.xE v l = E at *
    refine V.Fn.mk_ V.Tok V.mixed Try.func7 rfl Try.ntmps7 (by kernel_rfl) rfl rfl ?_
    repeat' ((conv => whnf); first | (refine V.NIf.yes ?_ ?_; · (decide; done)) | (refine V.NIf.no ?_ ?_; · (decide; done)) | (refine V.NIf.yes ?_ ?_; · (simp only [true_and, and_true, and_self]; done)) | refine V.NCond.mk ?_ | refine V.NIf.not_ ?_ | refine V.NIf.dec_ ?_ | refine V.NIf.no (by omega) ?_ | refine V.NIf.yes (by omega) ?_ | refine V.NIf.mk (fun _ => ?_) (fun _ => ?_) | refine V.NWrap.ok (by omega) (by omega) ?_ | refine V.NWrap.u64 (by omega) (by omega) ?_ | refine V.NLt.mk (by omega) ?_ | refine V.NBoth.mk ?_ ?_ | refine V.NTF.yes (by omega) ?_ | refine V.NTF.no (by omega) ?_ | refine V.NTF.dec ?_ | refine V.NDraw.q (by exact rfl) (by kernel_rfl) ?_ | refine V.NApp.one (by first | omega | (simp; omega)) (by first | omega | (simp; omega)) ?_ | ((first | refine V.FnR.k_ (c1) [0] rfl ?_ ?_ | refine V.FnR.a_ (c1) [0] rfl ?_ ?_); · ((repeat' (first | exact rfl | exact Iff.rfl | exact trivial | exact (fun _ _ => rfl) | exact (fun _ h => absurd h (Nat.not_lt_zero _)) | refine ⟨?_, ?_⟩ | exact Iff.rfl | exact congrArg (fun z => V.SV.one (V.At.val (Value.int .i64 z))) (by omega))); done)) | (first | refine V.Fn.k0 (v_clbegun) rfl ?_ | refine V.Fn.q0 (v_clbegun) rfl ?_ | refine V.Fn.a0 (v_clbegun) rfl ?_) | (first | refine V.Fn.k0 (v_bkBegun) rfl ?_ | refine V.Fn.q0 (v_bkBegun) rfl ?_ | refine V.Fn.a0 (v_bkBegun) rfl ?_) | (first | refine V.Fn.k0 (v_fbegun) rfl ?_ | refine V.Fn.q0 (v_fbegun) rfl ?_ | refine V.Fn.a0 (v_fbegun) rfl ?_) | (refine V.NDraw.any (by kernel_rfl) ?_) | fail)
    all_goals (conv => whnf)
    all_goals first
      | exact ⟨true, rfl, iff_of_true rfl rfl⟩
      | (first | exact ⟨_, rfl, iff_of_true (by omega) rfl⟩ | (exfalso; omega) | exact ⟨_, rfl, by simp; omega⟩ | exact ⟨_, rfl, by simp⟩)
      | trace_state
end Go.Proofs.Yteblbhbfdfifpaa

/- The statement of ClaimEven: for every input the call returns true and its input reads as it did. No condition. -/
namespace Go.Proofs.Yteblbhbfdfifpaa.claimEven
open Go.ChangeShapes Go.WideShapes Go.ChangeAt Go.RowKit

theorem own : ownKnob Try.prog.godebug = none := by kernel_rfl

set_option maxRecDepth 100000 in
theorem lifted (os : Os) (started : os.Started) (H : Type) (enc : TypeId × Value → H) :
    ReturnsInHanded {} Try.checked os 7 .any (Rows.claimEvenSpec.pre6 enc Try.prog Try.f7 Rows.claimEvenRow.domain false) (Rows.claimEvenSpec.post enc Try.prog Try.f7 false true false false) := by
  refine returnsInHanded_of_change (C := Try.checked) own started (by kernel_rfl) Try.func7
    (ChangeSpec.witness6 (enc := enc) (C := Try.checked) false ⟨#[], #[.agg #[.int .i64 0, .int .i64 0, .int .i64 0, .int .i64 0], .slice none 0 0], []⟩ 8 (by kernel_rfl) (by kernel_rfl) (by kernel_rfl) (by kernel_rfl)) ?_
  intro W base args ds gs before hval0 hW _ _
  have hval : ∀ (j : Nat) t v, Try.f7.params[j]? = some t → args[j]? = some v → Value.okWide Try.prog W .any base t v := hval0
  have hW' := hW
  obtain ⟨p, q, hA0, hV, rfl, hfz, hnd⟩ := hW
  have hA : DataW.TrodAll enc Try.prog W 0 (fun _ => true) true Try.f7.params.toList args.toList ds p := hA0
  rw [Try.params7] at hA hval
  obtain ⟨v0, vs0, d0, ds0, p0, q0, hargs, rfl, rfl, h0, r0⟩ := trodAll_cons hA
  obtain ⟨v1, vs1, d1, ds1, p1, q1, rfl, rfl, rfl, h1, r1⟩ := trodAll_cons r0
  obtain ⟨rfl, rfl, rfl⟩ := trodAll_nil r1
  obtain rfl : args = #[v0, v1] := by cases args; simp_all
  obtain ⟨rfl, rfl⟩ := trodVars_none hV
  obtain ⟨f0, rfl, w0⟩ := open_ev (hval 0 23 v0 rfl rfl) h0
  obtain ⟨l1, hl1, w1⟩ := open_fls (hval 1 24 v1 rfl rfl) h1
  clear hval0
  simp only [List.append_nil] at hW'
  refine ((v_claimEven f0 w0 l1 w1).c W (fun i => [v1][i]?) [_, _] (fun i o ho => by
      rcases i with _ | i
      · obtain rfl := Option.some.inj ho
        exact ⟨v1, rfl, hl1⟩
      simp at ho
) ⟨_, _, rfl, ⟨_, V.Ats.vals _ [_, _, _, _], rfl⟩, ⟨_, _, rfl, ⟨rfl, hl1.one⟩, rfl⟩⟩).mono fun e W' ⟨he, hg⟩ => ?_
  subst he
  exact ⟨_, rfl, post_of_below (pa := _) (pv := []) hW' (fun _ _ _ => (trodAll_cons_mk (shut_bool Try.underlying4 _) trodAll_mk0)) (fun sp hsp => all_stays laidOut (by kernel_rfl) hA0 (fun x hx => hg.same (hW'.lt x (by revert hx; simp))) (fun x hx => hsp x (by revert hx; simp))) (fun _ _ => rfl) (by simp)
    hg (ok_one (by kernel_rfl) rfl (okWide_bool_mk Try.underlying4 _))⟩

theorem over : Rows.claimEvenRow.holds Try.pinned (OpenSpec.ofChange Rows.claimEvenSpec) :=
  OpenClaim.holds_of_wide 7 Try.f7 rfl rfl rfl rfl rfl rfl rfl ⟨rfl, rfl, rfl, rfl, rfl⟩ rfl rfl rfl rfl rfl (by kernel_rfl) Try.func7 (by kernel_rfl)
    (of_decide_eq_true (by kernel_rfl)) (by unfold Func.isWrapper; first | (rw [if_pos (by decide +kernel)]; kernel_rfl) | (rw [if_neg (by decide +kernel)]; exact ⟨rfl, rfl⟩))
    (fun os started H enc _ => lifted os started H enc)

theorem proved : Rows.ClaimEvenSaid :=
  over
end Go.Proofs.Yteblbhbfdfifpaa.claimEven
