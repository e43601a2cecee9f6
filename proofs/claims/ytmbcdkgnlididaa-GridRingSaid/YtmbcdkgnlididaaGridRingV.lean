/- What GridRing answers: true. -/
import Derived.Test.YtmbcdkgnlididaaVGridX
import Derived.Test.YtmbcdkgnlididaaGridPl9
namespace Go.Proofs.Ytmbcdkgnlididaa
open Go Go.RowKit V
set_option maxRecDepth 100000
set_option linter.unusedVariables false
set_option linter.unusedSimpArgs false
set_option maxHeartbeats 4000000 in
theorem v_gridRing (many : Int) (w_many : (Lit.int .i64 many).wf = true) (amount : Int) (w_amount : (Lit.int .i64 amount).wf = true) (out : Int) (w_out : (Lit.int .i64 out).wf = true) : V.Fn Try.prog 7 [] [.one (.val (.int .i64 many)), .one (.val (.int .i64 amount)), .one (.val (.int .i64 out))] (.bool true) := by
  refine V.Fn.mk_ V.Tok V.mixed Try.func7 rfl Try.ntmps7 (by kernel_rfl) rfl rfl ?_
  repeat' ((conv => whnf); first | (refine V.NIf.yes ?_ ?_; · (simp only [true_and, and_true, and_self]; done)) | refine V.NCond.mk ?_ | refine V.NIf.not_ ?_ | refine V.NIf.dec_ ?_ | refine V.NIf.no (by omega) ?_ | refine V.NIf.yes (by omega) ?_ | refine V.NIf.mk (fun _ => ?_) (fun _ => ?_) | refine V.NWrap.ok (by omega) (by omega) ?_ | refine V.NWrap.u64 (by omega) (by omega) ?_ | refine V.NLt.mk (by omega) ?_ | refine V.NBoth.mk ?_ ?_ | refine V.NTF.yes (by omega) ?_ | refine V.NTF.no (by omega) ?_ | refine V.NTF.dec ?_ | refine V.NDraw.q (by exact rfl) (by kernel_rfl) ?_ | refine V.NApp.one (by first | omega | (simp; omega)) (by first | omega | (simp; omega)) ?_ | (first | refine V.Fn.k0 (v_gbegun) rfl ?_ | refine V.Fn.q0 (v_gbegun) rfl ?_ | refine V.Fn.a0 (v_gbegun) rfl ?_) | (refine NMake.mk ⟨31, 31, rfl, rfl, by omega, by omega, by first | omega | decide | (simp; done) | (simp; omega), ?_⟩) | (refine V.NDraw.any (by kernel_rfl) ?_) | fail)
  all_goals (conv => whnf)
  have ha : 1 ≤ amount ∧ amount ≤ 1000000 := by omega
  obtain ⟨n, rfl⟩ := Int.eq_ofNat_of_zero_le (show 0 ≤ many by omega)
  have h2 : 2 ≤ n := by omega
  have h31 : n ≤ 31 := by omega
  refine V.NLoop.auto (fun (k : Nat) => [(10, .one (.val (.int .i64 k))), (8, .one (.ref 1)), (9, .one (.ref 2))]) (fun (k : Nat) => [(1, .row 38 3 (G.rng n amount k).length (ga encD (G.rng n amount k))), (2, .row 38 3 (G.rngx n amount out k).length (ga encD (G.rngx n amount out k)))]) [] [] (fun (k : Nat) => n - k) (fun (k : Nat) => k ≤ n) 0 (Nat.zero_le _) (by repeat' (first | exact rfl | exact Iff.rfl | exact trivial | exact (fun _ _ => rfl) | exact (fun _ h => absurd h (Nat.not_lt_zero _)) | refine ⟨?_, ?_⟩ | exact Iff.rfl | exact congrArg (fun z => V.SV.one (V.At.val (Value.int .i64 z))) (by omega))) (by repeat' (first | exact rfl | exact Iff.rfl | exact trivial | exact (fun _ _ => rfl) | exact (fun _ h => absurd h (Nat.not_lt_zero _)) | refine ⟨?_, ?_⟩ | exact Iff.rfl | exact congrArg (fun z => V.SV.one (V.At.val (Value.int .i64 z))) (by omega))) (fun _ => ⟨rfl, rfl⟩) ?_; (conv => whnf); refine ⟨⟨rfl, rfl⟩, ?_⟩
  rintro k hk
  have rl := G.rng_len n amount k
  have xl := G.rngx_le n amount out k
  by_cases hlt : k < n
  · have e1 := G.rng_succ n amount k
    have e2 := G.rngx_succ n amount out k
    have e3 := G.rng_at (n := n) (a := amount) (Nat.lt_succ_self k)
    have hm := Nat.mod_lt (k + 1) (show 0 < n by omega)
    have et : ((k : Int) + 1).tmod (n : Int) = ((k + 1) % n : Nat) := by
      rw [Int.tmod_eq_emod_of_nonneg (by omega)]; push_cast; rfl
    repeat' ((conv => whnf); first | refine V.NCond.mk ?_ | refine V.NIf.not_ ?_ | refine V.NIf.dec_ ?_ | refine V.NIf.no (by omega) ?_ | refine V.NIf.yes (by omega) ?_ | refine V.NIf.mk (fun _ => ?_) (fun _ => ?_) | refine V.NWrap.ok (by omega) (by omega) ?_ | refine V.NWrap.u64 (by omega) (by omega) ?_ | refine V.NLt.mk (by omega) ?_ | refine V.NBoth.mk ?_ ?_ | refine V.NTF.yes (by omega) ?_ | refine V.NTF.no (by omega) ?_ | refine V.NTF.dec ?_ | refine V.NDraw.q (by exact rfl) (by kernel_rfl) ?_ | refine V.NApp.one (by first | omega | (simp; omega)) (by first | omega | (simp; omega)) ?_ | (refine NApp.one (en := encD) (l := G.rng n amount k) (x := G.edge n amount k) (by first | omega | (simp; omega)) (by first | omega | (simp; omega)) ?_; rw [← e1]) | (refine V.NLt.mk (by rw [G.rng_len]; omega) ?_) | (refine NRem.mk (by omega) ?_; rw [et]) | (refine NIdx.mk ⟨k, rfl, by first | omega | (rw [G.rng_len]; omega), ?_⟩) | (refine V.NDraw.any (by kernel_rfl) ?_) | fail)
    all_goals (conv => whnf)
    · have : ¬ (k : Int) ≠ out := fun q => q (by assumption)
      exact V.NBack.at_ (k + 1) [(1, 4)] (by omega) (by omega) (by repeat' (first | exact rfl | exact Iff.rfl | exact trivial | exact (fun _ _ => rfl) | exact (fun _ h => absurd h (Nat.not_lt_zero _)) | refine ⟨?_, ?_⟩ | exact Iff.rfl | exact congrArg (fun z => V.SV.one (V.At.val (Value.int .i64 z))) (by omega))) rfl ⟨ObLe.as_ rfl, ObLe.as_ (e2.trans (if_neg this)), trivial⟩ (by repeat' (first | exact rfl | exact Iff.rfl | exact trivial | exact (fun _ _ => rfl) | exact (fun _ h => absurd h (Nat.not_lt_zero _)) | refine ⟨?_, ?_⟩ | exact Iff.rfl | exact congrArg (fun z => V.SV.one (V.At.val (Value.int .i64 z))) (by omega))) (by repeat' (first | exact rfl | exact Iff.rfl | exact trivial | exact (fun _ _ => rfl) | exact (fun _ h => absurd h (Nat.not_lt_zero _)) | refine ⟨?_, ?_⟩ | exact Iff.rfl | exact congrArg (fun z => V.SV.one (V.At.val (Value.int .i64 z))) (by omega)))
    · exact V.NBack.at_ (k + 1) [(1, 4), (2, 6)] (by omega) (by omega) (by repeat' (first | exact rfl | exact Iff.rfl | exact trivial | exact (fun _ _ => rfl) | exact (fun _ h => absurd h (Nat.not_lt_zero _)) | refine ⟨?_, ?_⟩ | exact Iff.rfl | exact congrArg (fun z => V.SV.one (V.At.val (Value.int .i64 z))) (by omega))) rfl ⟨ObLe.as_ rfl, ObLe.as_ ((e2.trans (if_pos (by assumption))).trans (by rw [e3])), trivial⟩ (by repeat' (first | exact rfl | exact Iff.rfl | exact trivial | exact (fun _ _ => rfl) | exact (fun _ h => absurd h (Nat.not_lt_zero _)) | refine ⟨?_, ?_⟩ | exact Iff.rfl | exact congrArg (fun z => V.SV.one (V.At.val (Value.int .i64 z))) (by omega))) (by repeat' (first | exact rfl | exact Iff.rfl | exact trivial | exact (fun _ _ => rfl) | exact (fun _ h => absurd h (Nat.not_lt_zero _)) | refine ⟨?_, ?_⟩ | exact Iff.rfl | exact congrArg (fun z => V.SV.one (V.At.val (Value.int .i64 z))) (by omega)))
  have hh : n = k := by omega
  subst hh
  have c1 := G.few_chk h2 h31 ha (l := G.rng n amount n) (by omega) fun d hd => G.mem_rng.1 hd
  have c2 := G.few_chk h2 h31 ha (l := G.rngx n amount out n) xl fun d hd => by
    obtain ⟨i, hi, _, e⟩ := G.mem_rngx.1 hd
    exact ⟨i, hi, e⟩
  have s1 := G.sol_yes c1 (G.ring_adm n amount)
  have s2 : (G.sol G.none (G.rngx n amount out n)).length = 0 ∨ (G.rngx n amount out n).length = n := by
    by_cases q : ∃ o : Nat, o < n ∧ out = o
    · obtain ⟨o, ho, rfl⟩ := q
      left; rw [G.open_nil h2 h31 ha ho c2]; rfl
    · right; rw [G.rngx_all fun i hi e => q ⟨i, hi, e.symm⟩, rl]
  have g1 := v_gsolve_ G.none (G.rng n amount n) (by decide) (by omega)
  have g2 := v_gsolve_ G.none (G.rngx n amount out n) (by decide) (by omega)
  rw [c1] at g1
  rw [c2] at g2
  have ln : G.none.length = 31 := by decide
  repeat' ((conv => whnf); first | (refine V.NIf.yes ?_ ?_; · (simp only [true_and, and_true, and_self]; done)) | refine V.NCond.mk ?_ | refine V.NIf.not_ ?_ | refine V.NIf.dec_ ?_ | refine V.NIf.no (by omega) ?_ | refine V.NIf.yes (by omega) ?_ | refine V.NIf.mk (fun _ => ?_) (fun _ => ?_) | refine V.NWrap.ok (by omega) (by omega) ?_ | refine V.NWrap.u64 (by omega) (by omega) ?_ | refine V.NLt.mk (by omega) ?_ | refine V.NBoth.mk ?_ ?_ | refine V.NTF.yes (by omega) ?_ | refine V.NTF.no (by omega) ?_ | refine V.NTF.dec ?_ | refine V.NDraw.q (by exact rfl) (by kernel_rfl) ?_ | refine V.NApp.one (by first | omega | (simp; omega)) (by first | omega | (simp; omega)) ?_ | ((refine V.FnR.k_ g1 [0, 1] rfl ?_ ?_); · exact ⟨⟨rfl, ln.symm, G.none_ga⟩, ⟨rfl, rfl, fun _ _ => rfl⟩, trivial⟩) | ((refine V.FnR.k_ g2 [0, 2] rfl ?_ ?_); · exact ⟨⟨rfl, ln.symm, G.none_ga⟩, ⟨rfl, rfl, fun _ _ => rfl⟩, trivial⟩) | (refine V.NDraw.any (by kernel_rfl) ?_) | fail)
  all_goals (conv => whnf)
  exact ⟨true, rfl, iff_of_true (by omega) rfl⟩
end Go.Proofs.Ytmbcdkgnlididaa
