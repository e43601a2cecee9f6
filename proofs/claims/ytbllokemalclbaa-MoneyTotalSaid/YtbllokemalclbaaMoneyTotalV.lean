/- What MoneyTotal answers: true. -/
import Derived.Test.YtbllokemalclbaaVMoneyB
import Derived.Test.YtbllokemalclbaaVRef
import Derived.Test.YtbllokemalclbaaVOpen
namespace Go.Proofs.Ytbllokemalclbaa
open Go Go.RowKit V
set_option maxRecDepth 100000
set_option linter.unusedVariables false
set_option maxHeartbeats 4000000 in
theorem v_moneyTotal (l : List Int) (wl : ∀ f ∈ l, (Lit.int .i64 f).wf = true) : V.Fn Try.prog 8 [.arr 1 l.length (ga e1 l)] [.one (.ref 0)] (.bool true) := by
  clear wl
  have h40 : M.toE l = 0 → l.length ≤ 40 := fun h => (M.to_ok h).1
  have hz : M.toE l ≠ 0 → M.toV l = 0 := fun h => if_neg h
  have hv : M.toE l = 0 → M.toV l = M.sum l := fun h => if_pos h
  refine V.Fn.mk_ V.Tok V.mixed Try.func8 rfl Try.ntmps8 (by kernel_rfl) rfl rfl ?_
  repeat' ((conv => whnf); first | (refine V.NIf.yes ?_ ?_; · (simp only [true_and, and_true, and_self]; done)) | refine V.NIf.not_ ?_ | refine V.NIf.dec_ ?_ | refine V.NIf.no (by omega) ?_ | refine V.NIf.yes (by omega) ?_ | refine V.NIf.mk (fun _ => ?_) (fun _ => ?_) | refine V.NWrap.ok (by omega) (by omega) ?_ | refine V.NWrap.u64 (by omega) (by omega) ?_ | refine V.NLt.mk (by omega) ?_ | refine V.NApp.one (by first | omega | (simp; omega)) (by first | omega | (simp; omega)) ?_ | (first | refine V.Fn.k0 (v_mbegun) rfl ?_ | refine V.Fn.q0 (v_mbegun) rfl ?_) | ((first | refine V.Fn.k (v_total l) [0] rfl ?_ ?_ | refine V.Fn.q (v_total l) [0] rfl ?_ ?_); · ((repeat' (first | exact rfl | exact trivial | exact (fun _ _ => rfl) | exact (fun _ h => absurd h (Nat.not_lt_zero _)) | refine ⟨?_, ?_⟩ | exact Iff.rfl | exact congrArg (fun z => V.SV.one (V.At.val (Value.int .i64 z))) (by omega))); done)) | fail)
  all_goals (conv => whnf)
  rotate_left
  · (first | exact ⟨_, rfl, iff_of_true (by omega) rfl⟩ | (exfalso; omega) | exact ⟨_, rfl, by simp; omega⟩ | exact ⟨_, rfl, by simp⟩)
  have hn := h40 (by assumption)
  obtain ⟨_, o1, o2⟩ := M.to_ok (by assumption)
  refine V.NLoop.auto (fun (k : Nat) => [(6, .one (.val (.int .i64 ((l.length : Int) - 1 - k)))), (5, .one (.ref 1))]) (fun (k : Nat) => [(1, .row 3 1 (l.reverse.take k).length (ga e1 (l.reverse.take k)))]) [] [] (fun (k : Nat) => l.length - k) (fun (k : Nat) => k ≤ l.length) 0 (Nat.zero_le _) (by repeat' (first | exact rfl | exact trivial | exact (fun _ _ => rfl) | exact (fun _ h => absurd h (Nat.not_lt_zero _)) | refine ⟨?_, ?_⟩ | exact Iff.rfl | exact congrArg (fun z => V.SV.one (V.At.val (Value.int .i64 z))) (by omega))) (by repeat' (first | exact rfl | exact trivial | exact (fun _ _ => rfl) | exact (fun _ h => absurd h (Nat.not_lt_zero _)) | refine ⟨?_, ?_⟩ | exact Iff.rfl | exact congrArg (fun z => V.SV.one (V.At.val (Value.int .i64 z))) (by omega))) (fun _ => ⟨rfl, rfl⟩) ?_; (conv => whnf); refine ⟨⟨rfl, rfl⟩, ?_⟩
  rintro k hk
  have hlen : (l.reverse.take k).length = k := by simp; omega
  have hs : k < l.length → l.reverse.take (k + 1) = l.reverse.take k ++ [l.getD (l.length - 1 - k) default] := fun h => by
    rw [List.take_succ_eq_append_getElem (by simpa using h), List.getElem_reverse, getD_at (by omega)]
  have m : ∀ T : List Int, T = l.reverse → M.toE T = 0 ∧ M.toV T = M.toV l := fun T h => by
    subst h
    obtain ⟨e1, e2⟩ := M.to_of (l := l.reverse) (by simpa using hn) (fun a ha => o1 a (by simpa using ha)) (by rw [M.sum_reverse]; exact o2)
    exact ⟨e1, by rw [e2, hv (by assumption), M.sum_reverse]⟩
  have m2 : ∀ T : List Int, T = l.reverse → (M.toE (T ++ [0 - M.toV l]) = 2 ∧ (l.length : Int) = 40) ∨ (M.toE (T ++ [0 - M.toV l]) = 0 ∧ M.toV (T ++ [0 - M.toV l]) = 0) := fun T h => by
    subst h
    by_cases q : l.length = 40
    · left; exact ⟨(M.to_1 (by simp; omega)).2, by omega⟩
    · right
      have e : M.sum (l.reverse ++ [0 - M.toV l]) = 0 := by rw [M.sum_append, M.sum_reverse, hv (by assumption)]; simp only [M.sum]; omega
      obtain ⟨e1, e2⟩ := M.to_of (l := l.reverse ++ [0 - M.toV l]) (by simp; omega) (fun a ha => by
        rcases List.mem_append.1 ha with h | h
        · exact o1 a (by simpa using h)
        · rw [List.mem_singleton.1 h, hv (by assumption)]; unfold M.Amt at *; omega) (by rw [e]; decide)
      exact ⟨e1, e2.trans e⟩
  have b : -1152921504606846976 ≤ M.toV l ∧ M.toV l ≤ 1152921504606846976 := by rw [hv (by assumption)]; exact o2
  by_cases hlt : k < l.length
  · repeat' ((conv => whnf); first | refine V.NIf.not_ ?_ | refine V.NIf.dec_ ?_ | refine V.NIf.no (by omega) ?_ | refine V.NIf.yes (by omega) ?_ | refine V.NIf.mk (fun _ => ?_) (fun _ => ?_) | refine V.NWrap.ok (by omega) (by omega) ?_ | refine V.NWrap.u64 (by omega) (by omega) ?_ | refine V.NLt.mk (by omega) ?_ | refine V.NApp.one (by first | omega | (simp; omega)) (by first | omega | (simp; omega)) ?_ | (refine NIdx.mk ⟨l.length - 1 - k, by omega, by omega, ?_⟩) | fail)
    (conv => whnf)
    exact V.NBack.at_ (k + 1) [(1, 3)] (by omega) (by omega) (by repeat' (first | exact rfl | exact trivial | exact (fun _ _ => rfl) | exact (fun _ h => absurd h (Nat.not_lt_zero _)) | refine ⟨?_, ?_⟩ | exact Iff.rfl | exact congrArg (fun z => V.SV.one (V.At.val (Value.int .i64 z))) (by omega))) rfl ⟨ObLe.as_ (hs hlt), trivial⟩ (by repeat' (first | exact rfl | exact trivial | exact (fun _ _ => rfl) | exact (fun _ h => absurd h (Nat.not_lt_zero _)) | refine ⟨?_, ?_⟩ | exact Iff.rfl | exact congrArg (fun z => V.SV.one (V.At.val (Value.int .i64 z))) (by omega))) (by repeat' (first | exact rfl | exact trivial | exact (fun _ _ => rfl) | exact (fun _ h => absurd h (Nat.not_lt_zero _)) | refine ⟨?_, ?_⟩ | exact Iff.rfl | exact congrArg (fun z => V.SV.one (V.At.val (Value.int .i64 z))) (by omega)))
  · obtain rfl : k = l.length := by omega
    have eT : l.reverse.take l.length = l.reverse := by rw [List.take_of_length_le (by simp)]
    generalize l.reverse.take l.length = T at *
    have n1 := m T eT
    have n2 := m2 T eT
    repeat' ((conv => whnf); first | (refine V.NIf.yes ?_ ?_; · (simp only [true_and, and_true, and_self]; done)) | refine V.NIf.not_ ?_ | refine V.NIf.dec_ ?_ | refine V.NIf.no (by omega) ?_ | refine V.NIf.yes (by omega) ?_ | refine V.NIf.mk (fun _ => ?_) (fun _ => ?_) | refine V.NWrap.ok (by omega) (by omega) ?_ | refine V.NWrap.u64 (by omega) (by omega) ?_ | refine V.NLt.mk (by omega) ?_ | refine V.NApp.one (by first | omega | (simp; omega)) (by first | omega | (simp; omega)) ?_ | ((first | refine V.Fn.k (v_total T) [1] rfl ?_ ?_ | refine V.Fn.q (v_total T) [1] rfl ?_ ?_); · ((repeat' (first | exact rfl | exact trivial | exact (fun _ _ => rfl) | exact (fun _ h => absurd h (Nat.not_lt_zero _)) | refine ⟨?_, ?_⟩ | exact Iff.rfl | exact congrArg (fun z => V.SV.one (V.At.val (Value.int .i64 z))) (by omega))); done)) | ((first | refine V.Fn.k (v_total (T ++ [0 - M.toV l])) [3] rfl ?_ ?_ | refine V.Fn.q (v_total (T ++ [0 - M.toV l])) [3] rfl ?_ ?_); · ((repeat' (first | exact rfl | exact trivial | exact (fun _ _ => rfl) | exact (fun _ h => absurd h (Nat.not_lt_zero _)) | refine ⟨?_, ?_⟩ | exact Iff.rfl | exact congrArg (fun z => V.SV.one (V.At.val (Value.int .i64 z))) (by omega))); done)) | fail)
    all_goals (conv => whnf)
    all_goals (first | exact ⟨_, rfl, iff_of_true (by omega) rfl⟩ | (exfalso; omega) | exact ⟨_, rfl, by simp; omega⟩ | exact ⟨_, rfl, by simp⟩)
end Go.Proofs.Ytbllokemalclbaa
