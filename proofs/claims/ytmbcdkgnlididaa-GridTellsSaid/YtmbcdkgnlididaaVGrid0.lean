/- What the functions that check money and dues answer. -/
import Derived.Test.YtmbcdkgnlididaaGridPl
import Derived.Test.YtmbcdkgnlididaaVSlI
namespace Go.Proofs.Ytmbcdkgnlididaa
open Go Go.RowKit V
set_option maxRecDepth 100000
set_option linter.unusedVariables false
theorem v_gbad (n : Int) : V.Fn Try.prog 30 [] [.one (.val (.int .i64 n))] (.bool (G.bad n)) := by
  refine V.Fn.mk_ V.Tok V.mixed Try.func30 rfl Try.ntmps30 (by kernel_rfl) rfl rfl ?_
  repeat' ((conv => whnf); first | refine V.NCond.mk ?_ | refine V.NIf.not_ ?_ | refine V.NIf.dec_ ?_ | refine V.NIf.no (by omega) ?_ | refine V.NIf.yes (by omega) ?_ | refine V.NIf.mk (fun _ => ?_) (fun _ => ?_) | refine V.NWrap.ok (by omega) (by omega) ?_ | refine V.NWrap.u64 (by omega) (by omega) ?_ | refine V.NLt.mk (by omega) ?_ | refine V.NBoth.mk ?_ ?_ | refine V.NTF.yes (by omega) ?_ | refine V.NTF.no (by omega) ?_ | refine V.NTF.dec ?_ | refine V.NDraw.q (by exact rfl) (by kernel_rfl) ?_ | refine V.NApp.one (by first | omega | (simp; omega)) (by first | omega | (simp; omega)) ?_ | (refine V.NDraw.any (by kernel_rfl) ?_) | fail)
  all_goals (conv => whnf)
  · exact congrArg Value.bool (decide_eq_true (.inl (by assumption))).symm
  · exact ⟨_, rfl, by unfold G.bad; simp; omega⟩
theorem v_gcontains (l : List Int) (hn : l.length ≤ 9223372036854775807) : V.Fn Try.prog 29 [.arr 1 l.length (ga e1 l)] [.one (.ref 0), .one (.clo 30 [])] (.bool (decide (ixf G.bad l ≠ -1))) := by
  have h := ixf_cases G.bad l
  have q : ixf G.bad l = -1 ∨ 0 ≤ ixf G.bad l := by
    rcases h with ⟨e, _⟩ | ⟨k, e, _⟩
    · exact .inl e
    · exact .inr (by omega)
  refine V.Fn.mk_ V.Tok V.mixed Try.func29 rfl Try.ntmps29 (by kernel_rfl) rfl rfl ?_
  repeat' ((conv => whnf); first | refine V.NCond.mk ?_ | refine V.NIf.not_ ?_ | refine V.NIf.dec_ ?_ | refine V.NIf.no (by omega) ?_ | refine V.NIf.yes (by omega) ?_ | refine V.NIf.mk (fun _ => ?_) (fun _ => ?_) | refine V.NWrap.ok (by omega) (by omega) ?_ | refine V.NWrap.u64 (by omega) (by omega) ?_ | refine V.NLt.mk (by omega) ?_ | refine V.NBoth.mk ?_ ?_ | refine V.NTF.yes (by omega) ?_ | refine V.NTF.no (by omega) ?_ | refine V.NTF.dec ?_ | refine V.NDraw.q (by exact rfl) (by kernel_rfl) ?_ | refine V.NApp.one (by first | omega | (simp; omega)) (by first | omega | (simp; omega)) ?_ | ((first | refine V.Fn.k (v_indexI l 30 G.bad hn (fun k _ => v_gbad _)) [0] rfl ?_ ?_ | refine V.Fn.q (v_indexI l 30 G.bad hn (fun k _ => v_gbad _)) [0] rfl ?_ ?_ | refine V.Fn.a (v_indexI l 30 G.bad hn (fun k _ => v_gbad _)) [0] rfl ?_ ?_); · ((repeat' (first | exact rfl | exact Iff.rfl | exact trivial | exact (fun _ _ => rfl) | exact (fun _ h => absurd h (Nat.not_lt_zero _)) | refine ⟨?_, ?_⟩ | exact Iff.rfl | exact congrArg (fun z => V.SV.one (V.At.val (Value.int .i64 z))) (by omega))); done)) | (refine V.NDraw.any (by kernel_rfl) ?_) | fail)
  exact ⟨_, rfl, by simp; omega⟩
theorem v_gcheck (has : List Int) (l : List Du) (h1 : has.length ≤ 9223372036854775807) (h2 : l.length ≤ 9223372036854775807) : V.Fn Try.prog 16 [.arr 1 has.length (ga e1 has), .arr 3 l.length (ga encD l)] [.one (.ref 0), .one (.ref 1)] (.int .i64 (G.chk has l)) := by
  have hb : ixf G.bad has = -1 → _ := G.bad_no
  refine V.Fn.mk_ V.Tok V.mixed Try.func16 rfl Try.ntmps16 (by kernel_rfl) rfl rfl ?_
  repeat' ((conv => whnf); first | refine V.NCond.mk ?_ | refine V.NIf.not_ ?_ | refine V.NIf.dec_ ?_ | refine V.NIf.no (by omega) ?_ | refine V.NIf.yes (by omega) ?_ | refine V.NIf.mk (fun _ => ?_) (fun _ => ?_) | refine V.NWrap.ok (by omega) (by omega) ?_ | refine V.NWrap.u64 (by omega) (by omega) ?_ | refine V.NLt.mk (by omega) ?_ | refine V.NBoth.mk ?_ ?_ | refine V.NTF.yes (by omega) ?_ | refine V.NTF.no (by omega) ?_ | refine V.NTF.dec ?_ | refine V.NDraw.q (by exact rfl) (by kernel_rfl) ?_ | refine V.NApp.one (by first | omega | (simp; omega)) (by first | omega | (simp; omega)) ?_ | ((first | refine V.Fn.k (v_gcontains has h1) [0] rfl ?_ ?_ | refine V.Fn.q (v_gcontains has h1) [0] rfl ?_ ?_ | refine V.Fn.a (v_gcontains has h1) [0] rfl ?_ ?_); · ((repeat' (first | exact rfl | exact Iff.rfl | exact trivial | exact (fun _ _ => rfl) | exact (fun _ h => absurd h (Nat.not_lt_zero _)) | refine ⟨?_, ?_⟩ | exact Iff.rfl | exact congrArg (fun z => V.SV.one (V.At.val (Value.int .i64 z))) (by omega))); done)) | ((first | refine V.Fn.k (v_ncheck l h2) [1] rfl ?_ ?_ | refine V.Fn.q (v_ncheck l h2) [1] rfl ?_ ?_ | refine V.Fn.a (v_ncheck l h2) [1] rfl ?_ ?_); · ((repeat' (first | exact rfl | exact Iff.rfl | exact trivial | exact (fun _ _ => rfl) | exact (fun _ h => absurd h (Nat.not_lt_zero _)) | refine ⟨?_, ?_⟩ | exact Iff.rfl | exact congrArg (fun z => V.SV.one (V.At.val (Value.int .i64 z))) (by omega))); done)) | (refine V.NDraw.any (by kernel_rfl) ?_) | fail)
  all_goals (conv => whnf)
  · have hh := hb (by assumption)
    have hd := (N.chk_ok (by assumption : N.chk l = 0))
    have am : ∀ d ∈ l, 0 ≤ d.am := fun d q => by have := N.ck_ok (hd.2 d q); omega
    have p1 : ∀ k, 0 ≤ M.sum (has.take k) := fun k => G.sum_pos fun a ha => (hh a (List.mem_of_mem_take ha)).1
    have p2 : ∀ k, 0 ≤ G.sumD (l.take k) := fun k => G.sumD_pos fun a ha => am a (List.mem_of_mem_take ha)
    have p0 : 0 ≤ M.sum has := G.sum_pos fun a ha => (hh a ha).1
    refine V.NLoop.auto (fun (k : Nat) => [(25, .one (.val (.int .i64 k))), (6, .one (.val (.int .i64 (G.lf (M.sum (has.take k))))))]) (fun (k : Nat) => []) [] [] (fun (k : Nat) => has.length - k) (fun (k : Nat) => k ≤ has.length) 0 (Nat.zero_le _) (by repeat' (first | exact rfl | exact Iff.rfl | exact trivial | exact (fun _ _ => rfl) | exact (fun _ h => absurd h (Nat.not_lt_zero _)) | refine ⟨?_, ?_⟩ | exact Iff.rfl | exact congrArg (fun z => V.SV.one (V.At.val (Value.int .i64 z))) (by omega))) (by repeat' (first | exact rfl | exact Iff.rfl | exact trivial | exact (fun _ _ => rfl) | exact (fun _ h => absurd h (Nat.not_lt_zero _)) | refine ⟨?_, ?_⟩ | exact Iff.rfl | exact congrArg (fun z => V.SV.one (V.At.val (Value.int .i64 z))) (by omega))) (fun _ => ⟨rfl, rfl⟩) ?_; (conv => whnf); refine ⟨⟨rfl, rfl⟩, ?_⟩
    rintro k hk
    have b := G.lf_bd (p1 k)
    repeat' ((conv => whnf); first | refine V.NCond.mk ?_ | refine V.NIf.not_ ?_ | refine V.NIf.dec_ ?_ | refine V.NIf.no (by omega) ?_ | refine V.NIf.yes (by omega) ?_ | refine V.NIf.mk (fun _ => ?_) (fun _ => ?_) | refine V.NWrap.ok (by omega) (by omega) ?_ | refine V.NWrap.u64 (by omega) (by omega) ?_ | refine V.NLt.mk (by omega) ?_ | refine V.NBoth.mk ?_ ?_ | refine V.NTF.yes (by omega) ?_ | refine V.NTF.no (by omega) ?_ | refine V.NTF.dec ?_ | refine V.NDraw.q (by exact rfl) (by kernel_rfl) ?_ | refine V.NApp.one (by first | omega | (simp; omega)) (by first | omega | (simp; omega)) ?_ | (refine NIdx.mk ⟨_, rfl, by omega, ?_⟩) | (refine V.NWrap.ok (by have := (hh _ (getD_mem (by omega : k < has.length))); split <;> omega) (by have := (hh _ (getD_mem (by omega : k < has.length))); split <;> omega) ?_) | (refine V.NDraw.any (by kernel_rfl) ?_) | fail)
    · (conv => whnf)
      have hlt : k < has.length := by omega
      refine V.NBack.at_ (k + 1) [] (by omega) (by omega) ⟨(by repeat' (first | exact rfl | exact Iff.rfl | exact trivial | exact (fun _ _ => rfl) | exact (fun _ h => absurd h (Nat.not_lt_zero _)) | refine ⟨?_, ?_⟩ | exact Iff.rfl | exact congrArg (fun z => V.SV.one (V.At.val (Value.int .i64 z))) (by omega))), ?_, trivial⟩ rfl (by repeat' (first | exact rfl | exact Iff.rfl | exact trivial | exact (fun _ _ => rfl) | exact (fun _ h => absurd h (Nat.not_lt_zero _)) | refine ⟨?_, ?_⟩ | exact Iff.rfl | exact congrArg (fun z => V.SV.one (V.At.val (Value.int .i64 z))) (by omega))) (by repeat' (first | exact rfl | exact Iff.rfl | exact trivial | exact (fun _ _ => rfl) | exact (fun _ h => absurd h (Nat.not_lt_zero _)) | refine ⟨?_, ?_⟩ | exact Iff.rfl | exact congrArg (fun z => V.SV.one (V.At.val (Value.int .i64 z))) (by omega))) (by repeat' (first | exact rfl | exact Iff.rfl | exact trivial | exact (fun _ _ => rfl) | exact (fun _ h => absurd h (Nat.not_lt_zero _)) | refine ⟨?_, ?_⟩ | exact Iff.rfl | exact congrArg (fun z => V.SV.one (V.At.val (Value.int .i64 z))) (by omega)))
      exact congrArg (fun z => V.SV.one (V.At.val (Value.int .i64 z))) (by rw [G.sum_snoc hlt, G.lf_more (p1 k) (hh _ (getD_mem hlt)).1])
    obtain rfl : k = has.length := by omega
    have eT : has.take has.length = has := List.take_length
    have eS : M.sum (has.take has.length) = M.sum has := by rw [eT]
    rw [show G.lf (M.sum (has.take has.length)) = G.lf (M.sum (has.take has.length) + G.sumD (l.take 0)) by rw [show G.sumD (l.take 0) = 0 from rfl, Int.add_zero]]
    refine V.NLoop.auto (fun (k : Nat) => [(38, .one (.val (.int .i64 k))), (6, .one (.val (.int .i64 (G.lf (M.sum (has.take has.length) + G.sumD (l.take k))))))]) (fun (k : Nat) => []) [] [] (fun (k : Nat) => l.length - k) (fun (k : Nat) => k ≤ l.length) 0 (Nat.zero_le _) (by repeat' (first | exact rfl | exact Iff.rfl | exact trivial | exact (fun _ _ => rfl) | exact (fun _ h => absurd h (Nat.not_lt_zero _)) | refine ⟨?_, ?_⟩ | exact Iff.rfl | exact congrArg (fun z => V.SV.one (V.At.val (Value.int .i64 z))) (by omega))) (by repeat' (first | exact rfl | exact Iff.rfl | exact trivial | exact (fun _ _ => rfl) | exact (fun _ h => absurd h (Nat.not_lt_zero _)) | refine ⟨?_, ?_⟩ | exact Iff.rfl | exact congrArg (fun z => V.SV.one (V.At.val (Value.int .i64 z))) (by omega))) (fun _ => ⟨rfl, rfl⟩) ?_; (conv => whnf); refine ⟨⟨rfl, rfl⟩, ?_⟩
    rintro k hk
    have b := G.lf_bd (Int.add_nonneg (p1 has.length) (p2 k))
    repeat' ((conv => whnf); first | refine V.NCond.mk ?_ | refine V.NIf.not_ ?_ | refine V.NIf.dec_ ?_ | refine V.NIf.no (by omega) ?_ | refine V.NIf.yes (by omega) ?_ | refine V.NIf.mk (fun _ => ?_) (fun _ => ?_) | refine V.NWrap.ok (by omega) (by omega) ?_ | refine V.NWrap.u64 (by omega) (by omega) ?_ | refine V.NLt.mk (by omega) ?_ | refine V.NBoth.mk ?_ ?_ | refine V.NTF.yes (by omega) ?_ | refine V.NTF.no (by omega) ?_ | refine V.NTF.dec ?_ | refine V.NDraw.q (by exact rfl) (by kernel_rfl) ?_ | refine V.NApp.one (by first | omega | (simp; omega)) (by first | omega | (simp; omega)) ?_ | (refine NIdx.mk ⟨_, rfl, by omega, ?_⟩) | (refine V.NWrap.ok (by have := (am _ (getD_mem (by omega : k < l.length))); split <;> omega) (by have := (am _ (getD_mem (by omega : k < l.length))); split <;> omega) ?_) | (refine V.NDraw.any (by kernel_rfl) ?_) | fail)
    all_goals (conv => whnf)
    · have hlt : k < l.length := by omega
      refine V.NBack.at_ (k + 1) [] (by omega) (by omega) ⟨(by repeat' (first | exact rfl | exact Iff.rfl | exact trivial | exact (fun _ _ => rfl) | exact (fun _ h => absurd h (Nat.not_lt_zero _)) | refine ⟨?_, ?_⟩ | exact Iff.rfl | exact congrArg (fun z => V.SV.one (V.At.val (Value.int .i64 z))) (by omega))), ?_, trivial⟩ rfl (by repeat' (first | exact rfl | exact Iff.rfl | exact trivial | exact (fun _ _ => rfl) | exact (fun _ h => absurd h (Nat.not_lt_zero _)) | refine ⟨?_, ?_⟩ | exact Iff.rfl | exact congrArg (fun z => V.SV.one (V.At.val (Value.int .i64 z))) (by omega))) (by repeat' (first | exact rfl | exact Iff.rfl | exact trivial | exact (fun _ _ => rfl) | exact (fun _ h => absurd h (Nat.not_lt_zero _)) | refine ⟨?_, ?_⟩ | exact Iff.rfl | exact congrArg (fun z => V.SV.one (V.At.val (Value.int .i64 z))) (by omega))) (by repeat' (first | exact rfl | exact Iff.rfl | exact trivial | exact (fun _ _ => rfl) | exact (fun _ h => absurd h (Nat.not_lt_zero _)) | refine ⟨?_, ?_⟩ | exact Iff.rfl | exact congrArg (fun z => V.SV.one (V.At.val (Value.int .i64 z))) (by omega)))
      exact congrArg (fun z => V.SV.one (V.At.val (Value.int .i64 z))) (by rw [G.sumD_snoc hlt, ← Int.add_assoc, G.lf_more (Int.add_nonneg (p1 _) (p2 k)) (am _ (getD_mem hlt))])
    all_goals obtain rfl : k = l.length := by omega
    all_goals rename_i q
    all_goals rw [eS, List.take_length] at q
    all_goals unfold G.lf at q
    all_goals refine V.fin1 ?_
    all_goals unfold G.chk
    all_goals rw [if_neg (by omega), if_neg (by omega), if_neg (by omega)]
    · exact if_pos (by split at q <;> omega)
    · exact if_neg (by split at q <;> omega)
  all_goals refine V.fin1 ?_
  all_goals unfold G.chk
  · rw [if_neg (by omega), if_neg (by omega), if_pos (by assumption)]
  · rw [if_neg (by omega), if_pos (by omega)]
  · rw [if_pos (by omega)]
end Go.Proofs.Ytmbcdkgnlididaa
