/- What GridMore answers: true. -/
import Derived.Test.YtmbcdkgnlididaaVGridX
import Derived.Test.YtmbcdkgnlididaaGridPl7
import Derived.Test.YtmbcdkgnlididaaVOpenD
import Derived.Test.YtmbcdkgnlididaaVOpenI
namespace Go.Proofs.Ytmbcdkgnlididaa
open Go Go.RowKit V
set_option maxRecDepth 100000
set_option linter.unusedVariables false
set_option linter.unusedSimpArgs false
set_option maxHeartbeats 4000000 in
theorem v_gridMore (has : List Int) (wh : ∀ f ∈ has, (Lit.int .i64 f).wf = true) (l : List Du) (wl : ∀ f ∈ l, WfD f) (p : Int) (w_p : (Lit.int .i64 p).wf = true) (more : Int) (w_more : (Lit.int .i64 more).wf = true) : V.Fn Try.prog 6 [.arr 1 has.length (ga e1 has), .arr 3 l.length (ga encD l)] [.one (.ref 0), .one (.ref 1), .one (.val (.int .i64 p)), .one (.val (.int .i64 more))] (.bool true) := by
  clear wh wl
  refine V.Fn.lim (by kernel_rfl) fun hl => ?_
  have nh := hl 0 _ _ _ rfl
  have nl := hl 1 _ _ _ rfl
  clear hl
  refine V.Fn.mk_ V.Tok V.mixed Try.func6 rfl Try.ntmps6 (by kernel_rfl) rfl rfl ?_
  have small : G.chk has l = 0 → has.length = 31 ∧ l.length ≤ 60 ∧ ∀ x ∈ has, 0 ≤ x ∧ x ≤ 1152921504606846976 := fun h => ⟨(G.chk_small h).1, (G.chk_small h).2, (G.chk_ok h).h⟩
  have hb : ∀ k, G.chk has l = 0 → k < 31 → 0 ≤ has.getD k default ∧ has.getD k default ≤ 1152921504606846976 := fun k h hk => (G.chk_ok h).h _ (getD_mem (by rw [(G.chk_ok h).n]; exact hk))
  repeat' ((conv => whnf); first | (refine V.NIf.yes ?_ ?_; · (simp only [true_and, and_true, and_self]; done)) | refine V.NCond.mk ?_ | refine V.NIf.not_ ?_ | refine V.NIf.dec_ ?_ | refine V.NIf.no (by omega) ?_ | refine V.NIf.yes (by omega) ?_ | refine V.NIf.mk (fun _ => ?_) (fun _ => ?_) | refine V.NWrap.ok (by omega) (by omega) ?_ | refine V.NWrap.u64 (by omega) (by omega) ?_ | refine V.NLt.mk (by omega) ?_ | refine V.NBoth.mk ?_ ?_ | refine V.NTF.yes (by omega) ?_ | refine V.NTF.no (by omega) ?_ | refine V.NTF.dec ?_ | refine V.NDraw.q (by exact rfl) (by kernel_rfl) ?_ | refine V.NApp.one (by first | omega | (simp; omega)) (by first | omega | (simp; omega)) ?_ | ((first | refine V.FnR.k_ (v_gsolve_ has l (by omega) (by omega)) [0, 1] rfl ?_ ?_ | refine V.FnR.a_ (v_gsolve_ has l (by omega) (by omega)) [0, 1] rfl ?_ ?_); · ((repeat' (first | exact rfl | exact Iff.rfl | exact trivial | exact (fun _ _ => rfl) | exact (fun _ h => absurd h (Nat.not_lt_zero _)) | refine ⟨?_, ?_⟩ | exact Iff.rfl | exact congrArg (fun z => V.SV.one (V.At.val (Value.int .i64 z))) (by omega))); done)) | (first | refine V.Fn.k0 (v_gbegun) rfl ?_ | refine V.Fn.q0 (v_gbegun) rfl ?_ | refine V.Fn.a0 (v_gbegun) rfl ?_) | (refine NOne.mk ?_ ?_; · (intro k hk; rfl)) | (refine NApp.all_ (en := e1) (by have := small (by assumption); first | omega | (simp; omega)) (by have := small (by assumption); omega) ?_) | (refine NIdx.mk ⟨p.toNat, by omega, by omega, ?_⟩) | (refine NPut.to _ (by first | rfl | simp) rfl ?_) | (refine V.NWrap.ok (by have := hb p.toNat (by assumption) (by omega); omega) (by have := hb p.toNat (by assumption) (by omega); omega) ?_) | ((refine V.FnR.k_ (v_gsolve_ (has.set p.toNat (has.getD p.toNat default + more)) l (by rw [List.length_set]; omega) (by omega)) [4, 1] rfl ?_ ?_); · exact ⟨⟨rfl, List.length_set.symm, fun _ _ => rfl⟩, ⟨rfl, rfl, fun _ _ => rfl⟩, trivial⟩) | (refine V.NDraw.any (by kernel_rfl) ?_) | fail)
  all_goals (conv => whnf)
  rotate_left
  · have := G.more_chk (has' := has.set p.toNat (has.getD p.toNat default + more)) (by assumption) (by rw [List.length_set]; exact (small (by assumption)).1)
    exact ⟨_, rfl, iff_of_true (by omega) rfl⟩
  have sm := small (by assumption)
  have sub := G.more_sub (has := has) (p := p.toNat) (x := more) (by assumption) (by omega) (by omega) (by assumption)
  have s1 := G.sol_sorted (has := has) (l := l)
  have s2 := G.sol_sorted (has := has.set p.toNat (has.getD p.toNat default + more)) (l := l)
  have l1 := G.sol_len has l
  have l2 := G.sol_len (has.set p.toNat (has.getD p.toNat default + more)) l
  generalize G.sol has l = d at *
  generalize G.sol (has.set p.toNat (has.getD p.toNat default + more)) l = c at *
  refine V.NLoop.auto (fun (v : Nat × Nat) => [(15, .one (.val (.int .i64 v.1))), (14, .one (.val (.int .i64 v.2)))]) (fun (v : Nat × Nat) => []) [] [] (fun (v : Nat × Nat) => d.length - v.1) (fun (v : Nat × Nat) => v.1 ≤ d.length ∧ v.2 ≤ c.length ∧ ∀ m, m < v.2 → v.1 < d.length → c.getD m default < d.getD v.1 default) (0, 0) ⟨Nat.zero_le _, Nat.zero_le _, fun m hm => absurd hm (Nat.not_lt_zero _)⟩ (by repeat' (first | exact rfl | exact Iff.rfl | exact trivial | exact (fun _ _ => rfl) | exact (fun _ h => absurd h (Nat.not_lt_zero _)) | refine ⟨?_, ?_⟩ | exact Iff.rfl | exact congrArg (fun z => V.SV.one (V.At.val (Value.int .i64 z))) (by omega))) (by repeat' (first | exact rfl | exact Iff.rfl | exact trivial | exact (fun _ _ => rfl) | exact (fun _ h => absurd h (Nat.not_lt_zero _)) | refine ⟨?_, ?_⟩ | exact Iff.rfl | exact congrArg (fun z => V.SV.one (V.At.val (Value.int .i64 z))) (by omega))) (fun _ => ⟨rfl, rfl⟩) ?_; (conv => whnf); refine ⟨⟨rfl, rfl⟩, ?_⟩
  rintro ⟨i, k⟩ ⟨hi, hk, hJ⟩
  dsimp only at hi hk hJ
  by_cases hlt : i < d.length
  · obtain ⟨q, hq, eq⟩ := G.sorted_at (sub _ (getD_mem hlt))
    repeat' ((conv => whnf); first | refine V.NCond.mk ?_ | refine V.NIf.not_ ?_ | refine V.NIf.dec_ ?_ | refine V.NIf.no (by omega) ?_ | refine V.NIf.yes (by omega) ?_ | refine V.NIf.mk (fun _ => ?_) (fun _ => ?_) | refine V.NWrap.ok (by omega) (by omega) ?_ | refine V.NWrap.u64 (by omega) (by omega) ?_ | refine V.NLt.mk (by omega) ?_ | refine V.NBoth.mk ?_ ?_ | refine V.NTF.yes (by omega) ?_ | refine V.NTF.no (by omega) ?_ | refine V.NTF.dec ?_ | refine V.NDraw.q (by exact rfl) (by kernel_rfl) ?_ | refine V.NApp.one (by first | omega | (simp; omega)) (by first | omega | (simp; omega)) ?_ | (refine V.NDraw.any (by kernel_rfl) ?_) | fail)
    all_goals (conv => whnf)
    refine V.NLoop.auto (fun (k : Nat) => [(14, .one (.val (.int .i64 k)))]) (fun (k : Nat) => []) [] [] (fun (k : Nat) => c.length - k) (fun (k : Nat) => k ≤ c.length ∧ ∀ m, m < k → c.getD m default < d.getD i default) k ⟨hk, fun m hm => hJ m hm hlt⟩ (by repeat' (first | exact rfl | exact Iff.rfl | exact trivial | exact (fun _ _ => rfl) | exact (fun _ h => absurd h (Nat.not_lt_zero _)) | refine ⟨?_, ?_⟩ | exact Iff.rfl | exact congrArg (fun z => V.SV.one (V.At.val (Value.int .i64 z))) (by omega))) (by repeat' (first | exact rfl | exact Iff.rfl | exact trivial | exact (fun _ _ => rfl) | exact (fun _ h => absurd h (Nat.not_lt_zero _)) | refine ⟨?_, ?_⟩ | exact Iff.rfl | exact congrArg (fun z => V.SV.one (V.At.val (Value.int .i64 z))) (by omega))) (fun _ => ⟨rfl, rfl⟩) ?_; (conv => whnf); refine ⟨⟨rfl, rfl⟩, ?_⟩
    rintro k ⟨hk, hJ⟩
    repeat' ((conv => whnf); first | refine V.NCond.mk ?_ | refine V.NIf.not_ ?_ | refine V.NIf.dec_ ?_ | refine V.NIf.no (by omega) ?_ | refine V.NIf.yes (by omega) ?_ | refine V.NIf.mk (fun _ => ?_) (fun _ => ?_) | refine V.NWrap.ok (by omega) (by omega) ?_ | refine V.NWrap.u64 (by omega) (by omega) ?_ | refine V.NLt.mk (by omega) ?_ | refine V.NBoth.mk ?_ ?_ | refine V.NTF.yes (by omega) ?_ | refine V.NTF.no (by omega) ?_ | refine V.NTF.dec ?_ | refine V.NDraw.q (by exact rfl) (by kernel_rfl) ?_ | refine V.NApp.one (by first | omega | (simp; omega)) (by first | omega | (simp; omega)) ?_ | (refine NIdx.mk ⟨k, rfl, by omega, ?_⟩) | (refine NIdx.mk ⟨i, rfl, by omega, ?_⟩) | (refine V.NDraw.any (by kernel_rfl) ?_) | fail)
    all_goals (conv => whnf)
    · refine V.NBack.at_ (i + 1, k) [] ⟨by dsimp only; omega, by dsimp only; omega, fun m hm h => ?_⟩ (by dsimp only; omega) (by repeat' (first | exact rfl | exact Iff.rfl | exact trivial | exact (fun _ _ => rfl) | exact (fun _ h => absurd h (Nat.not_lt_zero _)) | refine ⟨?_, ?_⟩ | exact Iff.rfl | exact congrArg (fun z => V.SV.one (V.At.val (Value.int .i64 z))) (by omega))) rfl (by repeat' (first | exact rfl | exact Iff.rfl | exact trivial | exact (fun _ _ => rfl) | exact (fun _ h => absurd h (Nat.not_lt_zero _)) | refine ⟨?_, ?_⟩ | exact Iff.rfl | exact congrArg (fun z => V.SV.one (V.At.val (Value.int .i64 z))) (by omega))) (by repeat' (first | exact rfl | exact Iff.rfl | exact trivial | exact (fun _ _ => rfl) | exact (fun _ h => absurd h (Nat.not_lt_zero _)) | refine ⟨?_, ?_⟩ | exact Iff.rfl | exact congrArg (fun z => V.SV.one (V.At.val (Value.int .i64 z))) (by omega))) (by repeat' (first | exact rfl | exact Iff.rfl | exact trivial | exact (fun _ _ => rfl) | exact (fun _ h => absurd h (Nat.not_lt_zero _)) | refine ⟨?_, ?_⟩ | exact Iff.rfl | exact congrArg (fun z => V.SV.one (V.At.val (Value.int .i64 z))) (by omega)))
      have h1 := hJ m hm
      have h2 := G.sorted_lt s1 (Nat.lt_succ_self i) h
      dsimp only at h2 ⊢
      exact Int.lt_trans h1 h2
    · refine V.NBack.at_ (k + 1) [] ⟨by omega, fun m hm => ?_⟩ (by omega) (by repeat' (first | exact rfl | exact Iff.rfl | exact trivial | exact (fun _ _ => rfl) | exact (fun _ h => absurd h (Nat.not_lt_zero _)) | refine ⟨?_, ?_⟩ | exact Iff.rfl | exact congrArg (fun z => V.SV.one (V.At.val (Value.int .i64 z))) (by omega))) rfl (by repeat' (first | exact rfl | exact Iff.rfl | exact trivial | exact (fun _ _ => rfl) | exact (fun _ h => absurd h (Nat.not_lt_zero _)) | refine ⟨?_, ?_⟩ | exact Iff.rfl | exact congrArg (fun z => V.SV.one (V.At.val (Value.int .i64 z))) (by omega))) (by repeat' (first | exact rfl | exact Iff.rfl | exact trivial | exact (fun _ _ => rfl) | exact (fun _ h => absurd h (Nat.not_lt_zero _)) | refine ⟨?_, ?_⟩ | exact Iff.rfl | exact congrArg (fun z => V.SV.one (V.At.val (Value.int .i64 z))) (by omega))) (by repeat' (first | exact rfl | exact Iff.rfl | exact trivial | exact (fun _ _ => rfl) | exact (fun _ h => absurd h (Nat.not_lt_zero _)) | refine ⟨?_, ?_⟩ | exact Iff.rfl | exact congrArg (fun z => V.SV.one (V.At.val (Value.int .i64 z))) (by omega)))
      rcases Nat.lt_or_ge m k with h | h
      · exact hJ m h
      · obtain rfl : m = k := by omega
        have hqk : m < q := by
          rcases Nat.lt_or_ge q m with h | h
          · have := hJ q h; omega
          · rcases Nat.eq_or_lt_of_le h with h | h
            · subst h; exact absurd eq (by assumption)
            · exact h
        rw [← eq]; exact G.sorted_lt s2 hqk hq
    · have := hJ q (by omega); omega
  · repeat' ((conv => whnf); first | refine V.NCond.mk ?_ | refine V.NIf.not_ ?_ | refine V.NIf.dec_ ?_ | refine V.NIf.no (by omega) ?_ | refine V.NIf.yes (by omega) ?_ | refine V.NIf.mk (fun _ => ?_) (fun _ => ?_) | refine V.NWrap.ok (by omega) (by omega) ?_ | refine V.NWrap.u64 (by omega) (by omega) ?_ | refine V.NLt.mk (by omega) ?_ | refine V.NBoth.mk ?_ ?_ | refine V.NTF.yes (by omega) ?_ | refine V.NTF.no (by omega) ?_ | refine V.NTF.dec ?_ | refine V.NDraw.q (by exact rfl) (by kernel_rfl) ?_ | refine V.NApp.one (by first | omega | (simp; omega)) (by first | omega | (simp; omega)) ?_ | (refine V.NDraw.any (by kernel_rfl) ?_) | fail)
    all_goals (conv => whnf)
end Go.Proofs.Ytmbcdkgnlididaa
