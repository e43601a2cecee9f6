/- What the sum of some amounts is, by the document. -/
import Derived.Test.YtmmfgepmochmeaaVT
import Derived.Test.YtmmfgepmochmeaaVRef
import Derived.Test.YtmmfgepmochmeaaVOpen
import Derived.Test.YtmmfgepmochmeaaMoneyPl2
namespace Go.Proofs.Ytmmfgepmochmeaa
open Go Go.RowKit V
set_option maxRecDepth 100000
set_option linter.unusedVariables false
theorem v_amcheck (a : Int) : V.Fn Try.prog 47 [] [.one (.val (.int .i64 a))] (.int .i64 (M.chk a)) := by
  refine V.Fn.mk_ V.Tok V.mixed Try.func47 rfl Try.ntmps47 (by kernel_rfl) rfl rfl ?_
  repeat' ((conv => whnf); first | refine V.NCond.mk ?_ | refine V.NIf.not_ ?_ | refine V.NIf.dec_ ?_ | refine V.NIf.no (by omega) ?_ | refine V.NIf.yes (by omega) ?_ | refine V.NIf.mk (fun _ => ?_) (fun _ => ?_) | refine V.NWrap.ok (by omega) (by omega) ?_ | refine V.NWrap.u64 (by omega) (by omega) ?_ | refine V.NLt.mk (by omega) ?_ | refine V.NBoth.mk ?_ ?_ | refine V.NTF.yes (by omega) ?_ | refine V.NTF.no (by omega) ?_ | refine V.NTF.dec ?_ | refine V.NDraw.q (by exact rfl) (by kernel_rfl) ?_ | refine V.NApp.one (by first | omega | (simp; omega)) (by first | omega | (simp; omega)) ?_ | (first | refine V.Fn.k0 (v_rbetween _ _ _) rfl ?_ | refine V.Fn.q0 (v_rbetween _ _ _) rfl ?_ | refine V.Fn.a0 (v_rbetween _ _ _) rfl ?_) | (refine V.NDraw.any (by kernel_rfl) ?_) | fail)
  all_goals ((conv => whnf); refine congrArg _ ?_; unfold M.chk M.Amt; (repeat' split) <;> first | rfl | omega | (exfalso; omega) | (simp_all; done) | (simp_all; omega))
theorem fin_ib {x u : Int} {p : Prop} {b : Bool} (h1 : u = x) (h2 : b = true ↔ p) : Fin1 (.one (.val (.int .i64 x))) (.int .i64 u) ∧ FinL [.one (.prop p)] [.bool b] := ⟨V.fin1 h1, ⟨b, rfl, h2.symm⟩, trivial⟩
set_option maxHeartbeats 1000000 in
theorem v_sumof (l : List Int) (hn : l.length ≤ 100000) (hJ : ∀ a ∈ l, M.Amt a) : V.Fn Try.prog 30 [.arr 1 l.length (ga e1 l)] [.one (.ref 0)] (.tuple #[.int .i64 (M.sofV l), .bool (decide (M.Amt (M.sum l)))]) := by
  refine V.Fn.mk_ V.Tok V.mixed Try.func30 rfl Try.ntmps30 (by kernel_rfl) rfl rfl ?_
  repeat' ((conv => whnf); first | refine V.NCond.mk ?_ | refine V.NIf.not_ ?_ | refine V.NIf.dec_ ?_ | refine V.NIf.no (by omega) ?_ | refine V.NIf.yes (by omega) ?_ | refine V.NIf.mk (fun _ => ?_) (fun _ => ?_) | refine V.NWrap.ok (by omega) (by omega) ?_ | refine V.NWrap.u64 (by omega) (by omega) ?_ | refine V.NLt.mk (by omega) ?_ | refine V.NBoth.mk ?_ ?_ | refine V.NTF.yes (by omega) ?_ | refine V.NTF.no (by omega) ?_ | refine V.NTF.dec ?_ | refine V.NDraw.q (by exact rfl) (by kernel_rfl) ?_ | refine V.NApp.one (by first | omega | (simp; omega)) (by first | omega | (simp; omega)) ?_ | (refine V.NDraw.any (by kernel_rfl) ?_) | fail)
  refine V.NLoop.auto (fun (k : Nat) => [(6, .one (.val (.int .i64 k))), (4, .one (.ref 1)), (5, .one (.ref 2))]) (fun (k : Nat) => [(1, .row 3 1 (M.mo (l.take k)).length (ga e1 (M.mo (l.take k)))), (2, .row 3 1 (M.le (l.take k)).length (ga e1 (M.le (l.take k))))]) [] [] (fun (k : Nat) => l.length - k) (fun (k : Nat) => k ≤ l.length) 0 (Nat.zero_le _) (by repeat' (first | exact rfl | exact Iff.rfl | exact trivial | exact (fun _ _ => rfl) | exact (fun _ h => absurd h (Nat.not_lt_zero _)) | refine ⟨?_, ?_⟩ | exact Iff.rfl | exact congrArg (fun z => V.SV.one (V.At.val (Value.int .i64 z))) (by omega))) (by repeat' (first | exact rfl | exact Iff.rfl | exact trivial | exact (fun _ _ => rfl) | exact (fun _ h => absurd h (Nat.not_lt_zero _)) | refine ⟨?_, ?_⟩ | exact Iff.rfl | exact congrArg (fun z => V.SV.one (V.At.val (Value.int .i64 z))) (by omega))) (fun _ => ⟨rfl, rfl⟩) ?_; (conv => whnf); refine ⟨⟨rfl, rfl⟩, ?_⟩
  rintro k hk
  obtain ⟨m1, m2⟩ := M.mole_len l k hk
  repeat' ((conv => whnf); first | refine V.NCond.mk ?_ | refine V.NIf.not_ ?_ | refine V.NIf.dec_ ?_ | refine V.NIf.no (by omega) ?_ | refine V.NIf.yes (by omega) ?_ | refine V.NIf.mk (fun _ => ?_) (fun _ => ?_) | refine V.NWrap.ok (by omega) (by omega) ?_ | refine V.NWrap.u64 (by omega) (by omega) ?_ | refine V.NLt.mk (by omega) ?_ | refine V.NBoth.mk ?_ ?_ | refine V.NTF.yes (by omega) ?_ | refine V.NTF.no (by omega) ?_ | refine V.NTF.dec ?_ | refine V.NDraw.q (by exact rfl) (by kernel_rfl) ?_ | refine V.NApp.one (by first | omega | (simp; omega)) (by first | omega | (simp; omega)) ?_ | (refine NIdx.mk ⟨_, rfl, by omega, ?_⟩) | (refine V.NDraw.any (by kernel_rfl) ?_) | fail)
  all_goals (conv => whnf)
  · rename_i hlt h0
    have hlt : k < l.length := by omega
    rw [getD_at hlt] at h0
    exact V.NBack.at_ (k + 1) [(1, 4)] (by omega) (by omega) (by repeat' (first | exact rfl | exact Iff.rfl | exact trivial | exact (fun _ _ => rfl) | exact (fun _ h => absurd h (Nat.not_lt_zero _)) | refine ⟨?_, ?_⟩ | exact Iff.rfl | exact congrArg (fun z => V.SV.one (V.At.val (Value.int .i64 z))) (by omega))) rfl ⟨ObLe.as_ ((M.mo_snoc hlt).trans ((if_pos h0).trans (by rw [getD_at hlt]))), ObLe.as_ ((M.le_snoc hlt).trans (if_pos h0)), trivial⟩ (by repeat' (first | exact rfl | exact Iff.rfl | exact trivial | exact (fun _ _ => rfl) | exact (fun _ h => absurd h (Nat.not_lt_zero _)) | refine ⟨?_, ?_⟩ | exact Iff.rfl | exact congrArg (fun z => V.SV.one (V.At.val (Value.int .i64 z))) (by omega))) (by repeat' (first | exact rfl | exact Iff.rfl | exact trivial | exact (fun _ _ => rfl) | exact (fun _ h => absurd h (Nat.not_lt_zero _)) | refine ⟨?_, ?_⟩ | exact Iff.rfl | exact congrArg (fun z => V.SV.one (V.At.val (Value.int .i64 z))) (by omega)))
  · rename_i hlt h0
    have hlt : k < l.length := by omega
    rw [getD_at hlt] at h0
    exact V.NBack.at_ (k + 1) [(2, 4)] (by omega) (by omega) (by repeat' (first | exact rfl | exact Iff.rfl | exact trivial | exact (fun _ _ => rfl) | exact (fun _ h => absurd h (Nat.not_lt_zero _)) | refine ⟨?_, ?_⟩ | exact Iff.rfl | exact congrArg (fun z => V.SV.one (V.At.val (Value.int .i64 z))) (by omega))) rfl ⟨ObLe.as_ ((M.mo_snoc hlt).trans (if_neg h0)), ObLe.as_ ((M.le_snoc hlt).trans ((if_neg h0).trans (by rw [getD_at hlt]))), trivial⟩ (by repeat' (first | exact rfl | exact Iff.rfl | exact trivial | exact (fun _ _ => rfl) | exact (fun _ h => absurd h (Nat.not_lt_zero _)) | refine ⟨?_, ?_⟩ | exact Iff.rfl | exact congrArg (fun z => V.SV.one (V.At.val (Value.int .i64 z))) (by omega))) (by repeat' (first | exact rfl | exact Iff.rfl | exact trivial | exact (fun _ _ => rfl) | exact (fun _ h => absurd h (Nat.not_lt_zero _)) | refine ⟨?_, ?_⟩ | exact Iff.rfl | exact congrArg (fun z => V.SV.one (V.At.val (Value.int .i64 z))) (by omega)))
  obtain rfl : k = l.length := by omega
  have eT : l.take l.length = l := List.take_length
  generalize l.take l.length = T at *
  replace eT := eT.symm
  subst eT
  have hs := M.mole_sum l
  have b1 : ∀ i : Nat, i < (M.mo l).length → 0 ≤ (M.mo l).getD (0 + i) default ∧ (M.mo l).getD (0 + i) default ≤ 1152921504606846976 := fun i h => by
    rw [Nat.zero_add, getD_at h]; exact ⟨M.mo_pos l _ (List.getElem_mem h), (hJ _ (List.mem_filter.1 (List.getElem_mem h)).1).2⟩
  have b2 : ∀ i : Nat, i < (M.le l).length → (M.le l).getD (0 + i) default ≤ 0 ∧ -1152921504606846976 ≤ (M.le l).getD (0 + i) default := fun i h => by
    rw [Nat.zero_add, getD_at h]; exact ⟨M.le_neg l _ (List.getElem_mem h), (hJ _ (List.mem_filter.1 (List.getElem_mem h)).1).1⟩
  refine V.NLoop.auto (fun (⟨i, j, s⟩ : Nat × Nat × Int) => [(7, .one (.val (.int .i64 s))), (4, .one (.ref 1)), (5, .one (.ref 2))]) (fun (⟨i, j, s⟩ : Nat × Nat × Int) => [(1, .arr 1 ((M.mo l).length - i) fun k => e1 ((M.mo l).getD (k + i) default)), (2, .arr 1 ((M.le l).length - j) fun k => e1 ((M.le l).getD (k + j) default))]) [] [] (fun (⟨i, j, s⟩ : Nat × Nat × Int) => (M.mo l).length + (M.le l).length - i - j) (fun (⟨i, j, s⟩ : Nat × Nat × Int) => (i ≤ (M.mo l).length ∧ j ≤ (M.le l).length) ∧ s = M.sum ((M.mo l).take i) + M.sum ((M.le l).take j) ∧ -2305843009213693952 ≤ s ∧ s ≤ 2305843009213693952) (0, 0, 0) ⟨by simp, by simp [M.sum], by omega, by omega⟩ (by repeat' (first | exact rfl | exact Iff.rfl | exact trivial | exact (fun _ _ => rfl) | exact (fun _ h => absurd h (Nat.not_lt_zero _)) | refine ⟨?_, ?_⟩ | exact Iff.rfl | exact congrArg (fun z => V.SV.one (V.At.val (Value.int .i64 z))) (by omega))) (by repeat' (first | exact rfl | exact Iff.rfl | exact trivial | exact (fun _ _ => rfl) | exact (fun _ h => absurd h (Nat.not_lt_zero _)) | refine ⟨?_, ?_⟩ | exact Iff.rfl | exact congrArg (fun z => V.SV.one (V.At.val (Value.int .i64 z))) (by omega))) (fun _ => ⟨rfl, rfl⟩) ?_; (conv => whnf); refine ⟨⟨rfl, rfl⟩, ?_⟩
  rintro ⟨i, j, s⟩ ⟨hij, hs1, hs2⟩
  repeat' ((conv => whnf); first | refine V.NCond.mk ?_ | refine V.NIf.not_ ?_ | refine V.NIf.dec_ ?_ | refine V.NIf.no (by omega) ?_ | refine V.NIf.yes (by omega) ?_ | refine V.NIf.mk (fun _ => ?_) (fun _ => ?_) | refine V.NWrap.ok (by omega) (by omega) ?_ | refine V.NWrap.u64 (by omega) (by omega) ?_ | refine V.NLt.mk (by omega) ?_ | refine V.NBoth.mk ?_ ?_ | refine V.NTF.yes (by omega) ?_ | refine V.NTF.no (by omega) ?_ | refine V.NTF.dec ?_ | refine V.NDraw.q (by exact rfl) (by kernel_rfl) ?_ | refine V.NApp.one (by first | omega | (simp; omega)) (by first | omega | (simp; omega)) ?_ | (refine NIdx.mk ⟨0, rfl, by omega, ?_⟩) | (first | refine V.Fn.k0 (v_amcheck _) rfl ?_ | refine V.Fn.q0 (v_amcheck _) rfl ?_ | refine V.Fn.a0 (v_amcheck _) rfl ?_) | (first | refine V.Fn.k0 (v_rbetween _ _ _) rfl ?_ | refine V.Fn.q0 (v_rbetween _ _ _) rfl ?_ | refine V.Fn.a0 (v_rbetween _ _ _) rfl ?_) | (refine NCut.mk ⟨1, _, rfl, rfl, by omega, by omega, ?_⟩) | (refine V.NWrap.ok (by have := b1 i (by omega); omega) (by have := b1 i (by omega); omega) ?_) | (refine V.NWrap.ok (by have := b2 j (by omega); omega) (by have := b2 j (by omega); omega) ?_) | (refine V.NDraw.any (by kernel_rfl) ?_) | fail)
  all_goals (conv => whnf)
  all_goals have d1 := M.sum_drop_pos (M.mo_pos l) i
  all_goals have d2 := M.sum_drop_neg (M.le_neg l) j
  all_goals first
    | (refine V.NBack.at_ (i + 1, j, s + (M.mo l).getD (0 + i) default) [(1, 3)] ⟨⟨by omega, by omega⟩, ?_, by omega, by omega⟩ (by simp only; omega) (by repeat' (first | exact rfl | exact Iff.rfl | exact trivial | exact (fun _ _ => rfl) | exact (fun _ h => absurd h (Nat.not_lt_zero _)) | refine ⟨?_, ?_⟩ | exact Iff.rfl | exact congrArg (fun z => V.SV.one (V.At.val (Value.int .i64 z))) (by omega))) rfl ⟨ObLe.cut_ (by omega) (by omega), ⟨rfl, rfl, fun _ _ => rfl⟩, trivial⟩ (by repeat' (first | exact rfl | exact Iff.rfl | exact trivial | exact (fun _ _ => rfl) | exact (fun _ h => absurd h (Nat.not_lt_zero _)) | refine ⟨?_, ?_⟩ | exact Iff.rfl | exact congrArg (fun z => V.SV.one (V.At.val (Value.int .i64 z))) (by omega))) (by repeat' (first | exact rfl | exact Iff.rfl | exact trivial | exact (fun _ _ => rfl) | exact (fun _ h => absurd h (Nat.not_lt_zero _)) | refine ⟨?_, ?_⟩ | exact Iff.rfl | exact congrArg (fun z => V.SV.one (V.At.val (Value.int .i64 z))) (by omega))); omega)
    | (refine V.NBack.at_ (i, j + 1, s + (M.le l).getD (0 + j) default) [(2, 3)] ⟨⟨by omega, by omega⟩, ?_, by omega, by omega⟩ (by simp only; omega) (by repeat' (first | exact rfl | exact Iff.rfl | exact trivial | exact (fun _ _ => rfl) | exact (fun _ h => absurd h (Nat.not_lt_zero _)) | refine ⟨?_, ?_⟩ | exact Iff.rfl | exact congrArg (fun z => V.SV.one (V.At.val (Value.int .i64 z))) (by omega))) rfl ⟨⟨rfl, rfl, fun _ _ => rfl⟩, ObLe.cut_ (by omega) (by omega), trivial⟩ (by repeat' (first | exact rfl | exact Iff.rfl | exact trivial | exact (fun _ _ => rfl) | exact (fun _ h => absurd h (Nat.not_lt_zero _)) | refine ⟨?_, ?_⟩ | exact Iff.rfl | exact congrArg (fun z => V.SV.one (V.At.val (Value.int .i64 z))) (by omega))) (by repeat' (first | exact rfl | exact Iff.rfl | exact trivial | exact (fun _ _ => rfl) | exact (fun _ h => absurd h (Nat.not_lt_zero _)) | refine ⟨?_, ?_⟩ | exact Iff.rfl | exact congrArg (fun z => V.SV.one (V.At.val (Value.int .i64 z))) (by omega))); omega)
    | (refine fin_ib ?_ ?_
       · unfold M.sofV; split <;> omega
       · have q := @M.chk_yes s; have q2 := @M.chk_no s
         have e : s = M.sum l := by omega
         rw [← e]
         by_cases z : M.Amt s
         · simp [z, q z]
         · simp [z, q2 z])
    | (refine ⟨V.fin1 ?_, congrArg Value.bool (decide_eq_false ?_).symm, trivial⟩
       · unfold M.sofV; rw [if_neg]; have := b1 i; have := b2 j; omega
       · unfold M.Amt; have := b1 i; have := b2 j; omega)
end Go.Proofs.Ytmmfgepmochmeaa
