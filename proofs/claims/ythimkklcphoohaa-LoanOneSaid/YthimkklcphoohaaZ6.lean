/- Shared texts, one behind the other: VLoan7, StI7, VLoan3, VSh6, VLoan8, LoanPl3, VOpenOf -/
import Derived.Test.YthimkklcphoohaaZ1
import Derived.Test.YthimkklcphoohaaZ2
import Derived.Test.YthimkklcphoohaaZ3
import Derived.Test.YthimkklcphoohaaZ4
import Derived.Test.YthimkklcphoohaaZ5

/- What the document's functions on offers answer: what comes back. -/
namespace Go.Proofs.Ythimkklcphoohaa
open Go Go.RowKit V
set_option maxRecDepth 100000
set_option linter.unusedVariables false
set_option linter.unusedSimpArgs false
set_option maxHeartbeats 4000000
theorem v_rlnBack (l : List Of) (a : List Int) (m : Int) (hn : l.length ≤ 9223372036854775807) : V.FnR Try.prog 16 [.arr 3 l.length (ga encO l), .arr 1 a.length (ga e1 a)] [.one (.ref 0), .one (.ref 1), .one (.val (.int .i64 m))] (.tup [.one (.ref 2), .one (.val (.int .i64 (O.bE l a m)))]) [.row 3 1 (O.bB l a m).length (ga e1 (O.bB l a m))] := by
  have ck := v_rofCheck l hn
  have no : ∀ e, O.bE l a m = e → e ≠ 0 → O.bB l a m = [] := fun e h1 h2 => if_neg (by rw [h1]; exact h2)
  rcases O.bE_cases l a m with ⟨h1, e⟩ | ⟨h1, h2, e⟩ | ⟨h1, ln, bs, e⟩ | h
  · rw [no _ e h1, e]
    generalize O.chk l = C at *
    refine V.FnR.mk_ V.Tok V.mixed Try.func16 rfl Try.ntmps16 (by kernel_rfl) rfl rfl rfl rfl ?_
    repeat' ((conv => whnf); first | (refine V.NIf.yes ?_ ?_; · (decide; done)) | (refine V.NIf.no ?_ ?_; · (decide; done)) | refine V.NCond.mk ?_ | refine V.NIf.not_ ?_ | refine V.NIf.dec_ ?_ | refine V.NIf.no (by omega) ?_ | refine V.NIf.yes (by omega) ?_ | refine V.NIf.mk (fun _ => ?_) (fun _ => ?_) | refine V.NWrap.ok (by omega) (by omega) ?_ | refine V.NWrap.u64 (by omega) (by omega) ?_ | refine V.NLt.mk (by omega) ?_ | refine V.NBoth.mk ?_ ?_ | refine V.NTF.yes (by omega) ?_ | refine V.NTF.no (by omega) ?_ | refine V.NTF.dec ?_ | refine V.NDraw.q (by exact rfl) (by kernel_rfl) ?_ | refine V.NApp.one (by first | omega | (simp; omega)) (by first | omega | (simp; omega)) ?_ | ((first | refine V.Fn.k (ck) [0] rfl ?_ ?_ | refine V.Fn.q (ck) [0] rfl ?_ ?_ | refine V.Fn.a (ck) [0] rfl ?_ ?_); · ((repeat' (first | exact rfl | exact Iff.rfl | exact trivial | exact (fun _ _ => rfl) | exact (fun _ h => absurd h (Nat.not_lt_zero _)) | refine ⟨?_, ?_⟩ | exact Iff.rfl | exact congrArg (fun z => V.SV.one (V.At.val (Value.int .i64 z))) (by omega))); done)) | (refine V.NDraw.any (by kernel_rfl) ?_) | fail)
    all_goals (conv => whnf)
    refine V.NLoop.auto (fun (k : Nat) => [(9, .one (.val (.int .i64 0))), (8, .one (.val (.int .i64 C)))]) (fun (k : Nat) => []) [] [] (fun (k : Nat) => 0) (fun (k : Nat) => True) 0 trivial (by repeat' (first | exact rfl | exact Iff.rfl | exact trivial | exact (fun _ _ => rfl) | exact (fun _ h => absurd h (Nat.not_lt_zero _)) | refine ⟨?_, ?_⟩ | exact Iff.rfl | exact congrArg (fun z => V.SV.one (V.At.val (Value.int .i64 z))) (by omega))) (by repeat' (first | exact rfl | exact Iff.rfl | exact trivial | exact (fun _ _ => rfl) | exact (fun _ h => absurd h (Nat.not_lt_zero _)) | refine ⟨?_, ?_⟩ | exact Iff.rfl | exact congrArg (fun z => V.SV.one (V.At.val (Value.int .i64 z))) (by omega))) (fun _ => ⟨rfl, rfl⟩) ?_; (conv => whnf); refine ⟨⟨rfl, rfl⟩, ?_⟩
    rintro k _
    repeat' ((conv => whnf); first | refine V.NCond.mk ?_ | refine V.NIf.not_ ?_ | refine V.NIf.dec_ ?_ | refine V.NIf.no (by omega) ?_ | refine V.NIf.yes (by omega) ?_ | refine V.NIf.mk (fun _ => ?_) (fun _ => ?_) | refine V.NWrap.ok (by omega) (by omega) ?_ | refine V.NWrap.u64 (by omega) (by omega) ?_ | refine V.NLt.mk (by omega) ?_ | refine V.NBoth.mk ?_ ?_ | refine V.NTF.yes (by omega) ?_ | refine V.NTF.no (by omega) ?_ | refine V.NTF.dec ?_ | refine V.NDraw.q (by exact rfl) (by kernel_rfl) ?_ | refine V.NApp.one (by first | omega | (simp; omega)) (by first | omega | (simp; omega)) ?_ | (first | refine V.Fn.k0 (v_rbetween _ _ _) rfl ?_ | refine V.Fn.q0 (v_rbetween _ _ _) rfl ?_ | refine V.Fn.a0 (v_rbetween _ _ _) rfl ?_) | (refine V.NDraw.any (by kernel_rfl) ?_) | fail)
    all_goals (conv => whnf)
    all_goals exact NRet.mk_ [some 3] rfl ⟨rfl, rfl, trivial⟩ ⟨⟨rfl, rfl, rfl, fun k hk => absurd hk (Nat.not_lt_zero _)⟩, trivial⟩
  · rw [no _ e (by decide), e]
    rw [h1] at ck
    refine V.FnR.mk_ V.Tok V.mixed Try.func16 rfl Try.ntmps16 (by kernel_rfl) rfl rfl rfl rfl ?_
    repeat' ((conv => whnf); first | (refine V.NIf.yes ?_ ?_; · (decide; done)) | (refine V.NIf.no ?_ ?_; · (decide; done)) | refine V.NCond.mk ?_ | refine V.NIf.not_ ?_ | refine V.NIf.dec_ ?_ | refine V.NIf.no (by omega) ?_ | refine V.NIf.yes (by omega) ?_ | refine V.NIf.mk (fun _ => ?_) (fun _ => ?_) | refine V.NWrap.ok (by omega) (by omega) ?_ | refine V.NWrap.u64 (by omega) (by omega) ?_ | refine V.NLt.mk (by omega) ?_ | refine V.NBoth.mk ?_ ?_ | refine V.NTF.yes (by omega) ?_ | refine V.NTF.no (by omega) ?_ | refine V.NTF.dec ?_ | refine V.NDraw.q (by exact rfl) (by kernel_rfl) ?_ | refine V.NApp.one (by first | omega | (simp; omega)) (by first | omega | (simp; omega)) ?_ | ((first | refine V.Fn.k (ck) [0] rfl ?_ ?_ | refine V.Fn.q (ck) [0] rfl ?_ ?_ | refine V.Fn.a (ck) [0] rfl ?_ ?_); · ((repeat' (first | exact rfl | exact Iff.rfl | exact trivial | exact (fun _ _ => rfl) | exact (fun _ h => absurd h (Nat.not_lt_zero _)) | refine ⟨?_, ?_⟩ | exact Iff.rfl | exact congrArg (fun z => V.SV.one (V.At.val (Value.int .i64 z))) (by omega))); done)) | (refine V.NDraw.any (by kernel_rfl) ?_) | fail)
    all_goals (conv => whnf)
    refine V.NLoop.auto (fun (k : Nat) => [(9, .one (.val (.int .i64 0))), (8, .one (.val (.int .i64 1)))]) (fun (k : Nat) => []) [] [] (fun (k : Nat) => 0) (fun (k : Nat) => True) 0 trivial (by repeat' (first | exact rfl | exact Iff.rfl | exact trivial | exact (fun _ _ => rfl) | exact (fun _ h => absurd h (Nat.not_lt_zero _)) | refine ⟨?_, ?_⟩ | exact Iff.rfl | exact congrArg (fun z => V.SV.one (V.At.val (Value.int .i64 z))) (by omega))) (by repeat' (first | exact rfl | exact Iff.rfl | exact trivial | exact (fun _ _ => rfl) | exact (fun _ h => absurd h (Nat.not_lt_zero _)) | refine ⟨?_, ?_⟩ | exact Iff.rfl | exact congrArg (fun z => V.SV.one (V.At.val (Value.int .i64 z))) (by omega))) (fun _ => ⟨rfl, rfl⟩) ?_; (conv => whnf); refine ⟨⟨rfl, rfl⟩, ?_⟩
    rintro k _
    repeat' ((conv => whnf); first | (refine V.NIf.yes ?_ ?_; · (decide; done)) | (refine V.NIf.no ?_ ?_; · (decide; done)) | refine V.NCond.mk ?_ | refine V.NIf.not_ ?_ | refine V.NIf.dec_ ?_ | refine V.NIf.no (by omega) ?_ | refine V.NIf.yes (by omega) ?_ | refine V.NIf.mk (fun _ => ?_) (fun _ => ?_) | refine V.NWrap.ok (by omega) (by omega) ?_ | refine V.NWrap.u64 (by omega) (by omega) ?_ | refine V.NLt.mk (by omega) ?_ | refine V.NBoth.mk ?_ ?_ | refine V.NTF.yes (by omega) ?_ | refine V.NTF.no (by omega) ?_ | refine V.NTF.dec ?_ | refine V.NDraw.q (by exact rfl) (by kernel_rfl) ?_ | refine V.NApp.one (by first | omega | (simp; omega)) (by first | omega | (simp; omega)) ?_ | (first | refine V.Fn.k0 (v_rbetween _ _ _) rfl ?_ | refine V.Fn.q0 (v_rbetween _ _ _) rfl ?_ | refine V.Fn.a0 (v_rbetween _ _ _) rfl ?_) | (refine V.NDraw.any (by kernel_rfl) ?_) | fail)
    all_goals (conv => whnf)
    all_goals exact NRet.mk_ [some 3] rfl ⟨rfl, rfl, trivial⟩ ⟨⟨rfl, rfl, rfl, fun k hk => absurd hk (Nat.not_lt_zero _)⟩, trivial⟩
  · rw [no _ e (by decide), e]
    rw [h1] at ck
    have ok := O.chk_ok h1
    have le := ok.le
    have bd : ∀ i, O.bad l a i = decide (a.getD i default < 0 ∨ (l.getD i default).un < a.getD i default) := fun i => rfl
    have none := fun h => @O.bads_no l a h
    refine V.FnR.mk_ V.Tok V.mixed Try.func16 rfl Try.ntmps16 (by kernel_rfl) rfl rfl rfl rfl ?_
    repeat' ((conv => whnf); first | (refine V.NIf.yes ?_ ?_; · (decide; done)) | (refine V.NIf.no ?_ ?_; · (decide; done)) | refine V.NCond.mk ?_ | refine V.NIf.not_ ?_ | refine V.NIf.dec_ ?_ | refine V.NIf.no (by omega) ?_ | refine V.NIf.yes (by omega) ?_ | refine V.NIf.mk (fun _ => ?_) (fun _ => ?_) | refine V.NWrap.ok (by omega) (by omega) ?_ | refine V.NWrap.u64 (by omega) (by omega) ?_ | refine V.NLt.mk (by omega) ?_ | refine V.NBoth.mk ?_ ?_ | refine V.NTF.yes (by omega) ?_ | refine V.NTF.no (by omega) ?_ | refine V.NTF.dec ?_ | refine V.NDraw.q (by exact rfl) (by kernel_rfl) ?_ | refine V.NApp.one (by first | omega | (simp; omega)) (by first | omega | (simp; omega)) ?_ | ((first | refine V.Fn.k (ck) [0] rfl ?_ ?_ | refine V.Fn.q (ck) [0] rfl ?_ ?_ | refine V.Fn.a (ck) [0] rfl ?_ ?_); · ((repeat' (first | exact rfl | exact Iff.rfl | exact trivial | exact (fun _ _ => rfl) | exact (fun _ h => absurd h (Nat.not_lt_zero _)) | refine ⟨?_, ?_⟩ | exact Iff.rfl | exact congrArg (fun z => V.SV.one (V.At.val (Value.int .i64 z))) (by omega))); done)) | (refine V.NDraw.any (by kernel_rfl) ?_) | fail)
    all_goals (conv => whnf)
    refine V.NLoop.auto (fun (x : Nat × Int) => [(9, .one (.val (.int .i64 x.1))), (8, .one (.val (.int .i64 x.2)))]) (fun (x : Nat × Int) => []) [] [] (fun (x : Nat × Int) => l.length - x.1) (fun (x : Nat × Int) => x.1 ≤ l.length ∧ (x.2 = 3 ∨ (x.2 = 0 ∧ ∀ j, j < x.1 → O.bad l a j = false))) (0, 0) ⟨Nat.zero_le _, .inr ⟨rfl, fun j h => absurd h (Nat.not_lt_zero _)⟩⟩ (by repeat' (first | exact rfl | exact Iff.rfl | exact trivial | exact (fun _ _ => rfl) | exact (fun _ h => absurd h (Nat.not_lt_zero _)) | refine ⟨?_, ?_⟩ | exact Iff.rfl | exact congrArg (fun z => V.SV.one (V.At.val (Value.int .i64 z))) (by omega))) (by repeat' (first | exact rfl | exact Iff.rfl | exact trivial | exact (fun _ _ => rfl) | exact (fun _ h => absurd h (Nat.not_lt_zero _)) | refine ⟨?_, ?_⟩ | exact Iff.rfl | exact congrArg (fun z => V.SV.one (V.At.val (Value.int .i64 z))) (by omega))) (fun _ => ⟨rfl, rfl⟩) ?_; (conv => whnf); refine ⟨⟨rfl, rfl⟩, ?_⟩
    rintro ⟨k, E⟩ ⟨hk, hJ⟩
    dsimp only at hk hJ ⊢
    rcases hJ with rfl | ⟨rfl, hJ⟩
    · repeat' ((conv => whnf); first | (refine V.NIf.yes ?_ ?_; · (decide; done)) | (refine V.NIf.no ?_ ?_; · (decide; done)) | refine V.NCond.mk ?_ | refine V.NIf.not_ ?_ | refine V.NIf.dec_ ?_ | refine V.NIf.no (by omega) ?_ | refine V.NIf.yes (by omega) ?_ | refine V.NIf.mk (fun _ => ?_) (fun _ => ?_) | refine V.NWrap.ok (by omega) (by omega) ?_ | refine V.NWrap.u64 (by omega) (by omega) ?_ | refine V.NLt.mk (by omega) ?_ | refine V.NBoth.mk ?_ ?_ | refine V.NTF.yes (by omega) ?_ | refine V.NTF.no (by omega) ?_ | refine V.NTF.dec ?_ | refine V.NDraw.q (by exact rfl) (by kernel_rfl) ?_ | refine V.NApp.one (by first | omega | (simp; omega)) (by first | omega | (simp; omega)) ?_ | (first | refine V.Fn.k0 (v_rbetween _ _ _) rfl ?_ | refine V.Fn.q0 (v_rbetween _ _ _) rfl ?_ | refine V.Fn.a0 (v_rbetween _ _ _) rfl ?_) | (refine V.NDraw.any (by kernel_rfl) ?_) | fail)
      all_goals (conv => whnf)
      all_goals exact NRet.mk_ [some 3] rfl ⟨rfl, rfl, trivial⟩ ⟨⟨rfl, rfl, rfl, fun k hk => absurd hk (Nat.not_lt_zero _)⟩, trivial⟩
    · by_cases hlt : k < l.length
      · have bk := bd k
        have on : O.bad l a k = false → ∀ j, j < k + 1 → O.bad l a j = false := fun q j hj => by
          by_cases z : j = k
          · subst z; exact q
          · exact hJ j (by omega)
        by_cases q : a.getD k default < 0 ∨ (l.getD k default).un < a.getD k default
        · clear none on hJ no bd ck
          repeat' ((conv => whnf); first | (refine V.NIf.yes ?_ ?_; · (decide; done)) | (refine V.NIf.no ?_ ?_; · (decide; done)) | refine V.NCond.mk ?_ | refine V.NIf.not_ ?_ | refine V.NIf.dec_ ?_ | refine V.NIf.no (by omega) ?_ | refine V.NIf.yes (by omega) ?_ | refine V.NIf.mk (fun _ => ?_) (fun _ => ?_) | refine V.NWrap.ok (by omega) (by omega) ?_ | refine V.NWrap.u64 (by omega) (by omega) ?_ | refine V.NLt.mk (by omega) ?_ | refine V.NBoth.mk ?_ ?_ | refine V.NTF.yes (by omega) ?_ | refine V.NTF.no (by omega) ?_ | refine V.NTF.dec ?_ | refine V.NDraw.q (by exact rfl) (by kernel_rfl) ?_ | refine V.NApp.one (by first | omega | (simp; omega)) (by first | omega | (simp; omega)) ?_ | (refine NIdx.mk ⟨k, rfl, by omega, ?_⟩) | (first | refine V.Fn.k0 (v_rbetween _ _ _) rfl ?_ | refine V.Fn.q0 (v_rbetween _ _ _) rfl ?_ | refine V.Fn.a0 (v_rbetween _ _ _) rfl ?_) | (refine V.NDraw.any (by kernel_rfl) ?_) | fail)
          all_goals (conv => whnf)
          all_goals first
            | (exfalso; omega)
            | exact V.NBack.at_ (k + 1, 3) [] ⟨by dsimp only; omega, .inl rfl⟩ (by dsimp only; omega) (by repeat' (first | exact rfl | exact Iff.rfl | exact trivial | exact (fun _ _ => rfl) | exact (fun _ h => absurd h (Nat.not_lt_zero _)) | refine ⟨?_, ?_⟩ | exact Iff.rfl | exact congrArg (fun z => V.SV.one (V.At.val (Value.int .i64 z))) (by omega))) rfl (by repeat' (first | exact rfl | exact Iff.rfl | exact trivial | exact (fun _ _ => rfl) | exact (fun _ h => absurd h (Nat.not_lt_zero _)) | refine ⟨?_, ?_⟩ | exact Iff.rfl | exact congrArg (fun z => V.SV.one (V.At.val (Value.int .i64 z))) (by omega))) (by repeat' (first | exact rfl | exact Iff.rfl | exact trivial | exact (fun _ _ => rfl) | exact (fun _ h => absurd h (Nat.not_lt_zero _)) | refine ⟨?_, ?_⟩ | exact Iff.rfl | exact congrArg (fun z => V.SV.one (V.At.val (Value.int .i64 z))) (by omega))) (by repeat' (first | exact rfl | exact Iff.rfl | exact trivial | exact (fun _ _ => rfl) | exact (fun _ h => absurd h (Nat.not_lt_zero _)) | refine ⟨?_, ?_⟩ | exact Iff.rfl | exact congrArg (fun z => V.SV.one (V.At.val (Value.int .i64 z))) (by omega)))
        · have on := on (bk.trans (decide_eq_false q))
          clear none hJ no bd ck
          repeat' ((conv => whnf); first | (refine V.NIf.yes ?_ ?_; · (decide; done)) | (refine V.NIf.no ?_ ?_; · (decide; done)) | refine V.NCond.mk ?_ | refine V.NIf.not_ ?_ | refine V.NIf.dec_ ?_ | refine V.NIf.no (by omega) ?_ | refine V.NIf.yes (by omega) ?_ | refine V.NIf.mk (fun _ => ?_) (fun _ => ?_) | refine V.NWrap.ok (by omega) (by omega) ?_ | refine V.NWrap.u64 (by omega) (by omega) ?_ | refine V.NLt.mk (by omega) ?_ | refine V.NBoth.mk ?_ ?_ | refine V.NTF.yes (by omega) ?_ | refine V.NTF.no (by omega) ?_ | refine V.NTF.dec ?_ | refine V.NDraw.q (by exact rfl) (by kernel_rfl) ?_ | refine V.NApp.one (by first | omega | (simp; omega)) (by first | omega | (simp; omega)) ?_ | (refine NIdx.mk ⟨k, rfl, by omega, ?_⟩) | (first | refine V.Fn.k0 (v_rbetween _ _ _) rfl ?_ | refine V.Fn.q0 (v_rbetween _ _ _) rfl ?_ | refine V.Fn.a0 (v_rbetween _ _ _) rfl ?_) | (refine V.NDraw.any (by kernel_rfl) ?_) | fail)
          all_goals (conv => whnf)
          all_goals first
            | (exfalso; omega)
            | exact V.NBack.at_ (k + 1, 0) [] ⟨by dsimp only; omega, .inr ⟨rfl, on⟩⟩ (by dsimp only; omega) (by repeat' (first | exact rfl | exact Iff.rfl | exact trivial | exact (fun _ _ => rfl) | exact (fun _ h => absurd h (Nat.not_lt_zero _)) | refine ⟨?_, ?_⟩ | exact Iff.rfl | exact congrArg (fun z => V.SV.one (V.At.val (Value.int .i64 z))) (by omega))) rfl (by repeat' (first | exact rfl | exact Iff.rfl | exact trivial | exact (fun _ _ => rfl) | exact (fun _ h => absurd h (Nat.not_lt_zero _)) | refine ⟨?_, ?_⟩ | exact Iff.rfl | exact congrArg (fun z => V.SV.one (V.At.val (Value.int .i64 z))) (by omega))) (by repeat' (first | exact rfl | exact Iff.rfl | exact trivial | exact (fun _ _ => rfl) | exact (fun _ h => absurd h (Nat.not_lt_zero _)) | refine ⟨?_, ?_⟩ | exact Iff.rfl | exact congrArg (fun z => V.SV.one (V.At.val (Value.int .i64 z))) (by omega))) (by repeat' (first | exact rfl | exact Iff.rfl | exact trivial | exact (fun _ _ => rfl) | exact (fun _ h => absurd h (Nat.not_lt_zero _)) | refine ⟨?_, ?_⟩ | exact Iff.rfl | exact congrArg (fun z => V.SV.one (V.At.val (Value.int .i64 z))) (by omega)))
      · obtain rfl : k = l.length := by omega
        have := none hJ
        rw [bs] at this; cases this
  have h1 : O.chk l = 0 := by rcases h with h | h | h <;> exact h.1
  have lt : O.Lent l a := by rcases h with h | h | h <;> exact h.2.1
  have hb : ((m < 0 ∨ 1073741824 < m) ∧ O.bE l a m = 3) ∨ ((0 ≤ m ∧ m ≤ 1073741824) ∧ Sh.sm a < m ∧ O.bE l a m = 8) ∨ ((0 ≤ m ∧ m ≤ 1073741824) ∧ m ≤ Sh.sm a ∧ O.bE l a m = 0) := by
    rcases h with h | h | h
    · exact .inl h.2.2.2
    · exact .inr (.inl h.2.2.2)
    · exact .inr (.inr h.2.2.2)
  clear h
  have ln := lt.n
  have ok := O.chk_ok h1
  have le := ok.le
  rw [h1] at ck
  have sm := lt.sum ok
  have tg := v_shTog a (by omega) (fun k => by have := sm k; omega)
  refine V.FnR.mk_ V.Tok V.mixed Try.func16 rfl Try.ntmps16 (by kernel_rfl) rfl rfl rfl rfl ?_
  repeat' ((conv => whnf); first | (refine V.NIf.yes ?_ ?_; · (decide; done)) | (refine V.NIf.no ?_ ?_; · (decide; done)) | refine V.NCond.mk ?_ | refine V.NIf.not_ ?_ | refine V.NIf.dec_ ?_ | refine V.NIf.no (by omega) ?_ | refine V.NIf.yes (by omega) ?_ | refine V.NIf.mk (fun _ => ?_) (fun _ => ?_) | refine V.NWrap.ok (by omega) (by omega) ?_ | refine V.NWrap.u64 (by omega) (by omega) ?_ | refine V.NLt.mk (by omega) ?_ | refine V.NBoth.mk ?_ ?_ | refine V.NTF.yes (by omega) ?_ | refine V.NTF.no (by omega) ?_ | refine V.NTF.dec ?_ | refine V.NDraw.q (by exact rfl) (by kernel_rfl) ?_ | refine V.NApp.one (by first | omega | (simp; omega)) (by first | omega | (simp; omega)) ?_ | ((first | refine V.Fn.k (ck) [0] rfl ?_ ?_ | refine V.Fn.q (ck) [0] rfl ?_ ?_ | refine V.Fn.a (ck) [0] rfl ?_ ?_); · ((repeat' (first | exact rfl | exact Iff.rfl | exact trivial | exact (fun _ _ => rfl) | exact (fun _ h => absurd h (Nat.not_lt_zero _)) | refine ⟨?_, ?_⟩ | exact Iff.rfl | exact congrArg (fun z => V.SV.one (V.At.val (Value.int .i64 z))) (by omega))); done)) | (refine V.NDraw.any (by kernel_rfl) ?_) | fail)
  all_goals (conv => whnf)
  refine V.NLoop.auto (fun (k : Nat) => [(9, .one (.val (.int .i64 k))), (8, .one (.val (.int .i64 0)))]) (fun (k : Nat) => []) [] [] (fun (k : Nat) => l.length - k) (fun (k : Nat) => k ≤ l.length) 0 (Nat.zero_le _) (by repeat' (first | exact rfl | exact Iff.rfl | exact trivial | exact (fun _ _ => rfl) | exact (fun _ h => absurd h (Nat.not_lt_zero _)) | refine ⟨?_, ?_⟩ | exact Iff.rfl | exact congrArg (fun z => V.SV.one (V.At.val (Value.int .i64 z))) (by omega))) (by repeat' (first | exact rfl | exact Iff.rfl | exact trivial | exact (fun _ _ => rfl) | exact (fun _ h => absurd h (Nat.not_lt_zero _)) | refine ⟨?_, ?_⟩ | exact Iff.rfl | exact congrArg (fun z => V.SV.one (V.At.val (Value.int .i64 z))) (by omega))) (fun _ => ⟨rfl, rfl⟩) ?_; (conv => whnf); refine ⟨⟨rfl, rfl⟩, ?_⟩
  rintro k hk
  by_cases hlt : k < l.length
  · have b := lt.b k hlt
    have eU : O.U l k = (l.getD k default).un := rfl
    rw [eU] at b
    clear no hb sm tg ck
    repeat' ((conv => whnf); first | (refine V.NIf.yes ?_ ?_; · (decide; done)) | (refine V.NIf.no ?_ ?_; · (decide; done)) | refine V.NCond.mk ?_ | refine V.NIf.not_ ?_ | refine V.NIf.dec_ ?_ | refine V.NIf.no (by omega) ?_ | refine V.NIf.yes (by omega) ?_ | refine V.NIf.mk (fun _ => ?_) (fun _ => ?_) | refine V.NWrap.ok (by omega) (by omega) ?_ | refine V.NWrap.u64 (by omega) (by omega) ?_ | refine V.NLt.mk (by omega) ?_ | refine V.NBoth.mk ?_ ?_ | refine V.NTF.yes (by omega) ?_ | refine V.NTF.no (by omega) ?_ | refine V.NTF.dec ?_ | refine V.NDraw.q (by exact rfl) (by kernel_rfl) ?_ | refine V.NApp.one (by first | omega | (simp; omega)) (by first | omega | (simp; omega)) ?_ | (refine NIdx.mk ⟨k, rfl, by omega, ?_⟩) | (first | refine V.Fn.k0 (v_rbetween _ _ _) rfl ?_ | refine V.Fn.q0 (v_rbetween _ _ _) rfl ?_ | refine V.Fn.a0 (v_rbetween _ _ _) rfl ?_) | (refine V.NDraw.any (by kernel_rfl) ?_) | fail)
    all_goals (conv => whnf)
    all_goals first
      | (exfalso; omega)
      | exact V.NBack.at_ (k + 1) [] (by omega) (by omega) (by repeat' (first | exact rfl | exact Iff.rfl | exact trivial | exact (fun _ _ => rfl) | exact (fun _ h => absurd h (Nat.not_lt_zero _)) | refine ⟨?_, ?_⟩ | exact Iff.rfl | exact congrArg (fun z => V.SV.one (V.At.val (Value.int .i64 z))) (by omega))) rfl (by repeat' (first | exact rfl | exact Iff.rfl | exact trivial | exact (fun _ _ => rfl) | exact (fun _ h => absurd h (Nat.not_lt_zero _)) | refine ⟨?_, ?_⟩ | exact Iff.rfl | exact congrArg (fun z => V.SV.one (V.At.val (Value.int .i64 z))) (by omega))) (by repeat' (first | exact rfl | exact Iff.rfl | exact trivial | exact (fun _ _ => rfl) | exact (fun _ h => absurd h (Nat.not_lt_zero _)) | refine ⟨?_, ?_⟩ | exact Iff.rfl | exact congrArg (fun z => V.SV.one (V.At.val (Value.int .i64 z))) (by omega))) (by repeat' (first | exact rfl | exact Iff.rfl | exact trivial | exact (fun _ _ => rfl) | exact (fun _ h => absurd h (Nat.not_lt_zero _)) | refine ⟨?_, ?_⟩ | exact Iff.rfl | exact congrArg (fun z => V.SV.one (V.At.val (Value.int .i64 z))) (by omega)))
  · obtain rfl : k = l.length := by omega
    clear sm
    rcases hb with ⟨c, e⟩ | ⟨c, d, e⟩ | ⟨c, d, e⟩
    · rw [no _ e (by decide), e]
      clear no
      repeat' ((conv => whnf); first | (refine V.NIf.yes ?_ ?_; · (decide; done)) | (refine V.NIf.no ?_ ?_; · (decide; done)) | refine V.NCond.mk ?_ | refine V.NIf.not_ ?_ | refine V.NIf.dec_ ?_ | refine V.NIf.no (by omega) ?_ | refine V.NIf.yes (by omega) ?_ | refine V.NIf.mk (fun _ => ?_) (fun _ => ?_) | refine V.NWrap.ok (by omega) (by omega) ?_ | refine V.NWrap.u64 (by omega) (by omega) ?_ | refine V.NLt.mk (by omega) ?_ | refine V.NBoth.mk ?_ ?_ | refine V.NTF.yes (by omega) ?_ | refine V.NTF.no (by omega) ?_ | refine V.NTF.dec ?_ | refine V.NDraw.q (by exact rfl) (by kernel_rfl) ?_ | refine V.NApp.one (by first | omega | (simp; omega)) (by first | omega | (simp; omega)) ?_ | (first | refine V.Fn.k0 (v_rbetween _ _ _) rfl ?_ | refine V.Fn.q0 (v_rbetween _ _ _) rfl ?_ | refine V.Fn.a0 (v_rbetween _ _ _) rfl ?_) | ((first | refine V.Fn.k (tg) [1] rfl ?_ ?_ | refine V.Fn.q (tg) [1] rfl ?_ ?_ | refine V.Fn.a (tg) [1] rfl ?_ ?_); · ((repeat' (first | exact rfl | exact Iff.rfl | exact trivial | exact (fun _ _ => rfl) | exact (fun _ h => absurd h (Nat.not_lt_zero _)) | refine ⟨?_, ?_⟩ | exact Iff.rfl | exact congrArg (fun z => V.SV.one (V.At.val (Value.int .i64 z))) (by omega))); done)) | (refine V.NDraw.any (by kernel_rfl) ?_) | fail)
      all_goals (conv => whnf)
      all_goals first
        | (exfalso; omega)
        | exact NRet.mk_ [some 3] rfl ⟨rfl, rfl, trivial⟩ ⟨⟨rfl, rfl, rfl, fun k hk => absurd hk (Nat.not_lt_zero _)⟩, trivial⟩
    · rw [no _ e (by decide), e]
      clear no
      repeat' ((conv => whnf); first | (refine V.NIf.yes ?_ ?_; · (decide; done)) | (refine V.NIf.no ?_ ?_; · (decide; done)) | refine V.NCond.mk ?_ | refine V.NIf.not_ ?_ | refine V.NIf.dec_ ?_ | refine V.NIf.no (by omega) ?_ | refine V.NIf.yes (by omega) ?_ | refine V.NIf.mk (fun _ => ?_) (fun _ => ?_) | refine V.NWrap.ok (by omega) (by omega) ?_ | refine V.NWrap.u64 (by omega) (by omega) ?_ | refine V.NLt.mk (by omega) ?_ | refine V.NBoth.mk ?_ ?_ | refine V.NTF.yes (by omega) ?_ | refine V.NTF.no (by omega) ?_ | refine V.NTF.dec ?_ | refine V.NDraw.q (by exact rfl) (by kernel_rfl) ?_ | refine V.NApp.one (by first | omega | (simp; omega)) (by first | omega | (simp; omega)) ?_ | (first | refine V.Fn.k0 (v_rbetween _ _ _) rfl ?_ | refine V.Fn.q0 (v_rbetween _ _ _) rfl ?_ | refine V.Fn.a0 (v_rbetween _ _ _) rfl ?_) | ((first | refine V.Fn.k (tg) [1] rfl ?_ ?_ | refine V.Fn.q (tg) [1] rfl ?_ ?_ | refine V.Fn.a (tg) [1] rfl ?_ ?_); · ((repeat' (first | exact rfl | exact Iff.rfl | exact trivial | exact (fun _ _ => rfl) | exact (fun _ h => absurd h (Nat.not_lt_zero _)) | refine ⟨?_, ?_⟩ | exact Iff.rfl | exact congrArg (fun z => V.SV.one (V.At.val (Value.int .i64 z))) (by omega))); done)) | (refine V.NDraw.any (by kernel_rfl) ?_) | fail)
      all_goals (conv => whnf)
      all_goals first
        | (exfalso; omega)
        | exact NRet.mk_ [some 3] rfl ⟨rfl, rfl, trivial⟩ ⟨⟨rfl, rfl, rfl, fun k hk => absurd hk (Nat.not_lt_zero _)⟩, trivial⟩
    · rw [show O.bB l a m = O.bkL a m from if_pos e, e]
      clear no
      repeat' ((conv => whnf); first | (refine V.NIf.yes ?_ ?_; · (decide; done)) | (refine V.NIf.no ?_ ?_; · (decide; done)) | refine V.NCond.mk ?_ | refine V.NIf.not_ ?_ | refine V.NIf.dec_ ?_ | refine V.NIf.no (by omega) ?_ | refine V.NIf.yes (by omega) ?_ | refine V.NIf.mk (fun _ => ?_) (fun _ => ?_) | refine V.NWrap.ok (by omega) (by omega) ?_ | refine V.NWrap.u64 (by omega) (by omega) ?_ | refine V.NLt.mk (by omega) ?_ | refine V.NBoth.mk ?_ ?_ | refine V.NTF.yes (by omega) ?_ | refine V.NTF.no (by omega) ?_ | refine V.NTF.dec ?_ | refine V.NDraw.q (by exact rfl) (by kernel_rfl) ?_ | refine V.NApp.one (by first | omega | (simp; omega)) (by first | omega | (simp; omega)) ?_ | (first | refine V.Fn.k0 (v_rbetween _ _ _) rfl ?_ | refine V.Fn.q0 (v_rbetween _ _ _) rfl ?_ | refine V.Fn.a0 (v_rbetween _ _ _) rfl ?_) | ((first | refine V.Fn.k (tg) [1] rfl ?_ ?_ | refine V.Fn.q (tg) [1] rfl ?_ ?_ | refine V.Fn.a (tg) [1] rfl ?_ ?_); · ((repeat' (first | exact rfl | exact Iff.rfl | exact trivial | exact (fun _ _ => rfl) | exact (fun _ h => absurd h (Nat.not_lt_zero _)) | refine ⟨?_, ?_⟩ | exact Iff.rfl | exact congrArg (fun z => V.SV.one (V.At.val (Value.int .i64 z))) (by omega))); done)) | (refine NOne.mk ?_ ?_; · (intro k hk; rfl)) | (refine NApp.all_ (by first | omega | (simp; omega)) (by omega) ?_) | (refine V.NDraw.any (by kernel_rfl) ?_) | fail)
      all_goals (conv => whnf)
      have bn := O.bt_n (a := a) c.1
      have sn := O.bkS_n a m
      have bl := fun j => O.bkS_len (a := a) (m := m) (j := j)
      clear tg ck
      refine V.NLoop.auto (fun (j : Nat) => [(11, .one (.val (.int .i64 ((j : Int) - 1)))), (2, .one (.val (.int .i64 (O.bt a m j)))), (10, .one (.ref 4))]) (fun (j : Nat) => [(4, .row 3 1 a.length (ga e1 (O.bkS a m j)))]) [] [] (fun (j : Nat) => j) (fun (j : Nat) => j ≤ a.length) a.length (Nat.le_refl _) (by (conv => whnf); exact ⟨rfl, congrArg (fun z => V.SV.one (V.At.val (Value.int .i64 z))) bn.symm, rfl, trivial⟩) (by (conv => whnf); exact ⟨⟨rfl, rfl, rfl, fun _ _ => (by rw [sn])⟩, trivial⟩) (fun _ => ⟨rfl, rfl⟩) ?_; (conv => whnf); refine ⟨⟨rfl, rfl⟩, ?_⟩
      clear bn sn
      rintro j hj
      by_cases hz : 0 < j
      · obtain ⟨i, rfl⟩ : ∃ i, j = i + 1 := ⟨j - 1, by omega⟩
        have li := lt.b i (by omega)
        have bc := O.bk_cases (a := a) (m := m) (j := i) (by omega) li.1
        have ui := O.U_bd ok (k := i) (by omega)
        have t1 := O.bt_le (a := a) (m := m) (j := i + 1) lt.nn c.1
        have t2 := O.bt_nn a m (i + 1)
        have bat := O.bkS_at (a := a) (m := m) (j := i) (by omega)
        have bst := O.bkS_set (a := a) (m := m) (j := i) (by omega)
        have bsa := O.bkS_same (a := a) (m := m) (j := i) (by omega)
        have bl0 := bl i (by omega)
        have bl1 := bl (i + 1) (by omega)
        repeat' ((conv => whnf); first | refine V.NCond.mk ?_ | refine V.NIf.not_ ?_ | refine V.NIf.dec_ ?_ | refine V.NIf.no (by omega) ?_ | refine V.NIf.yes (by omega) ?_ | refine V.NIf.mk (fun _ => ?_) (fun _ => ?_) | refine V.NWrap.ok (by omega) (by omega) ?_ | refine V.NWrap.u64 (by omega) (by omega) ?_ | refine V.NLt.mk (by omega) ?_ | refine V.NBoth.mk ?_ ?_ | refine V.NTF.yes (by omega) ?_ | refine V.NTF.no (by omega) ?_ | refine V.NTF.dec ?_ | refine V.NDraw.q (by exact rfl) (by kernel_rfl) ?_ | refine V.NApp.one (by first | omega | (simp; omega)) (by first | omega | (simp; omega)) ?_ | (refine V.NDraw.any (by kernel_rfl) ?_) | fail)
        all_goals (conv => whnf)
        refine V.NLoop.auto (fun (p : Nat) => [(2, .one (.val (.int .i64 (O.bt a m (i + 1 - p))))), (10, .one (.ref 4))]) (fun (p : Nat) => [(4, .row 3 1 a.length (ga e1 (O.bkS a m (i + 1 - p))))]) [] [] (fun (p : Nat) => 1 - p) (fun (p : Nat) => p ≤ 1) 0 (Nat.zero_le _) (by repeat' (first | exact rfl | exact Iff.rfl | exact trivial | exact (fun _ _ => rfl) | exact (fun _ h => absurd h (Nat.not_lt_zero _)) | refine ⟨?_, ?_⟩ | exact Iff.rfl | exact congrArg (fun z => V.SV.one (V.At.val (Value.int .i64 z))) (by omega))) (by repeat' (first | exact rfl | exact Iff.rfl | exact trivial | exact (fun _ _ => rfl) | exact (fun _ h => absurd h (Nat.not_lt_zero _)) | refine ⟨?_, ?_⟩ | exact Iff.rfl | exact congrArg (fun z => V.SV.one (V.At.val (Value.int .i64 z))) (by omega))) (fun _ => ⟨rfl, rfl⟩) ?_; (conv => whnf); refine ⟨⟨rfl, rfl⟩, ?_⟩
        rintro p hp
        by_cases hp0 : p = 0
        · subst hp0
          rw [Nat.sub_zero]
          rcases bc with ⟨b1, b2, b3⟩ | ⟨b0, b0', b1, b2, b3⟩ | ⟨b0, b0', b1, b2, b3⟩
          · have same := bsa b2
            repeat' ((conv => whnf); first | refine V.NCond.mk ?_ | refine V.NIf.not_ ?_ | refine V.NIf.dec_ ?_ | refine V.NIf.no (by omega) ?_ | refine V.NIf.yes (by omega) ?_ | refine V.NIf.mk (fun _ => ?_) (fun _ => ?_) | refine V.NWrap.ok (by omega) (by omega) ?_ | refine V.NWrap.u64 (by omega) (by omega) ?_ | refine V.NLt.mk (by omega) ?_ | refine V.NBoth.mk ?_ ?_ | refine V.NTF.yes (by omega) ?_ | refine V.NTF.no (by omega) ?_ | refine V.NTF.dec ?_ | refine V.NDraw.q (by exact rfl) (by kernel_rfl) ?_ | refine V.NApp.one (by first | omega | (simp; omega)) (by first | omega | (simp; omega)) ?_ | (refine NIdx.mk ⟨i, by omega, by omega, ?_⟩) | (refine V.NDraw.any (by kernel_rfl) ?_) | fail)
            all_goals (conv => whnf)
            all_goals first
              | (exfalso; omega)
              | exact V.NBack.at_ i [] (by omega) (by omega) ⟨(by repeat' (first | exact rfl | exact Iff.rfl | exact trivial | exact (fun _ _ => rfl) | exact (fun _ h => absurd h (Nat.not_lt_zero _)) | refine ⟨?_, ?_⟩ | exact Iff.rfl | exact congrArg (fun z => V.SV.one (V.At.val (Value.int .i64 z))) (by omega))), congrArg (fun z => V.SV.one (V.At.val (Value.int .i64 z))) b3.symm, rfl, trivial⟩ rfl ⟨⟨rfl, rfl, rfl, fun _ _ => (by rw [same])⟩, trivial⟩ (by repeat' (first | exact rfl | exact Iff.rfl | exact trivial | exact (fun _ _ => rfl) | exact (fun _ h => absurd h (Nat.not_lt_zero _)) | refine ⟨?_, ?_⟩ | exact Iff.rfl | exact congrArg (fun z => V.SV.one (V.At.val (Value.int .i64 z))) (by omega))) (by repeat' (first | exact rfl | exact Iff.rfl | exact trivial | exact (fun _ _ => rfl) | exact (fun _ h => absurd h (Nat.not_lt_zero _)) | refine ⟨?_, ?_⟩ | exact Iff.rfl | exact congrArg (fun z => V.SV.one (V.At.val (Value.int .i64 z))) (by omega)))
          · rw [b2] at bst
            repeat' ((conv => whnf); first | (refine NPut.is_ (en := e1) (l := O.bkS a m (i + 1)) 0 (O.bkS a m i) bst (by omega) (congrArg (fun z => [Value.int .i64 z]) (by omega)) ?_) | refine V.NCond.mk ?_ | refine V.NIf.not_ ?_ | refine V.NIf.dec_ ?_ | refine V.NIf.no (by omega) ?_ | refine V.NIf.yes (by omega) ?_ | refine V.NIf.mk (fun _ => ?_) (fun _ => ?_) | refine V.NWrap.ok (by omega) (by omega) ?_ | refine V.NWrap.u64 (by omega) (by omega) ?_ | refine V.NLt.mk (by omega) ?_ | refine V.NBoth.mk ?_ ?_ | refine V.NTF.yes (by omega) ?_ | refine V.NTF.no (by omega) ?_ | refine V.NTF.dec ?_ | refine V.NDraw.q (by exact rfl) (by kernel_rfl) ?_ | refine V.NApp.one (by first | omega | (simp; omega)) (by first | omega | (simp; omega)) ?_ | (refine NIdx.mk ⟨i, by omega, by omega, ?_⟩) | (refine V.NDraw.any (by kernel_rfl) ?_) | fail)
            all_goals (conv => whnf)
            all_goals first
              | (exfalso; omega)
              | exact V.NBack.at_ 1 [] (by omega) (by omega) ⟨congrArg (fun z => V.SV.one (V.At.val (Value.int .i64 z))) (by rw [Nat.add_sub_cancel]; omega), rfl, trivial⟩ rfl ⟨⟨rfl, rfl, rfl, fun _ _ => (by rw [Nat.add_sub_cancel])⟩, trivial⟩ (by repeat' (first | exact rfl | exact Iff.rfl | exact trivial | exact (fun _ _ => rfl) | exact (fun _ h => absurd h (Nat.not_lt_zero _)) | refine ⟨?_, ?_⟩ | exact Iff.rfl | exact congrArg (fun z => V.SV.one (V.At.val (Value.int .i64 z))) (by omega))) (by repeat' (first | exact rfl | exact Iff.rfl | exact trivial | exact (fun _ _ => rfl) | exact (fun _ h => absurd h (Nat.not_lt_zero _)) | refine ⟨?_, ?_⟩ | exact Iff.rfl | exact congrArg (fun z => V.SV.one (V.At.val (Value.int .i64 z))) (by omega)))
          · rw [b2] at bst
            repeat' ((conv => whnf); first | (refine NPut.is_ (en := e1) (l := O.bkS a m (i + 1)) (a.getD i default - O.bt a m (i + 1)) (O.bkS a m i) bst (by omega) (congrArg (fun z => [Value.int .i64 z]) (by omega)) ?_) | refine V.NCond.mk ?_ | refine V.NIf.not_ ?_ | refine V.NIf.dec_ ?_ | refine V.NIf.no (by omega) ?_ | refine V.NIf.yes (by omega) ?_ | refine V.NIf.mk (fun _ => ?_) (fun _ => ?_) | refine V.NWrap.ok (by omega) (by omega) ?_ | refine V.NWrap.u64 (by omega) (by omega) ?_ | refine V.NLt.mk (by omega) ?_ | refine V.NBoth.mk ?_ ?_ | refine V.NTF.yes (by omega) ?_ | refine V.NTF.no (by omega) ?_ | refine V.NTF.dec ?_ | refine V.NDraw.q (by exact rfl) (by kernel_rfl) ?_ | refine V.NApp.one (by first | omega | (simp; omega)) (by first | omega | (simp; omega)) ?_ | (refine NIdx.mk ⟨i, by omega, by omega, ?_⟩) | (refine V.NDraw.any (by kernel_rfl) ?_) | fail)
            all_goals (conv => whnf)
            all_goals first
              | (exfalso; omega)
              | exact V.NBack.at_ 1 [] (by omega) (by omega) ⟨congrArg (fun z => V.SV.one (V.At.val (Value.int .i64 z))) (by rw [Nat.add_sub_cancel]; omega), rfl, trivial⟩ rfl ⟨⟨rfl, rfl, rfl, fun _ _ => (by rw [Nat.add_sub_cancel])⟩, trivial⟩ (by repeat' (first | exact rfl | exact Iff.rfl | exact trivial | exact (fun _ _ => rfl) | exact (fun _ h => absurd h (Nat.not_lt_zero _)) | refine ⟨?_, ?_⟩ | exact Iff.rfl | exact congrArg (fun z => V.SV.one (V.At.val (Value.int .i64 z))) (by omega))) (by repeat' (first | exact rfl | exact Iff.rfl | exact trivial | exact (fun _ _ => rfl) | exact (fun _ h => absurd h (Nat.not_lt_zero _)) | refine ⟨?_, ?_⟩ | exact Iff.rfl | exact congrArg (fun z => V.SV.one (V.At.val (Value.int .i64 z))) (by omega)))
        · obtain rfl : p = 1 := by omega
          rw [Nat.add_sub_cancel]
          repeat' ((conv => whnf); first | refine V.NCond.mk ?_ | refine V.NIf.not_ ?_ | refine V.NIf.dec_ ?_ | refine V.NIf.no (by omega) ?_ | refine V.NIf.yes (by omega) ?_ | refine V.NIf.mk (fun _ => ?_) (fun _ => ?_) | refine V.NWrap.ok (by omega) (by omega) ?_ | refine V.NWrap.u64 (by omega) (by omega) ?_ | refine V.NLt.mk (by omega) ?_ | refine V.NBoth.mk ?_ ?_ | refine V.NTF.yes (by omega) ?_ | refine V.NTF.no (by omega) ?_ | refine V.NTF.dec ?_ | refine V.NDraw.q (by exact rfl) (by kernel_rfl) ?_ | refine V.NApp.one (by first | omega | (simp; omega)) (by first | omega | (simp; omega)) ?_ | (refine NIdx.mk ⟨i, by omega, by omega, ?_⟩) | (refine V.NDraw.any (by kernel_rfl) ?_) | fail)
          all_goals (conv => whnf)
          all_goals first
            | (exfalso; omega)
            | exact V.NBack.at_ i [] (by omega) (by omega) (by repeat' (first | exact rfl | exact Iff.rfl | exact trivial | exact (fun _ _ => rfl) | exact (fun _ h => absurd h (Nat.not_lt_zero _)) | refine ⟨?_, ?_⟩ | exact Iff.rfl | exact congrArg (fun z => V.SV.one (V.At.val (Value.int .i64 z))) (by omega))) rfl (by repeat' (first | exact rfl | exact Iff.rfl | exact trivial | exact (fun _ _ => rfl) | exact (fun _ h => absurd h (Nat.not_lt_zero _)) | refine ⟨?_, ?_⟩ | exact Iff.rfl | exact congrArg (fun z => V.SV.one (V.At.val (Value.int .i64 z))) (by omega))) (by repeat' (first | exact rfl | exact Iff.rfl | exact trivial | exact (fun _ _ => rfl) | exact (fun _ h => absurd h (Nat.not_lt_zero _)) | refine ⟨?_, ?_⟩ | exact Iff.rfl | exact congrArg (fun z => V.SV.one (V.At.val (Value.int .i64 z))) (by omega))) (by repeat' (first | exact rfl | exact Iff.rfl | exact trivial | exact (fun _ _ => rfl) | exact (fun _ h => absurd h (Nat.not_lt_zero _)) | refine ⟨?_, ?_⟩ | exact Iff.rfl | exact congrArg (fun z => V.SV.one (V.At.val (Value.int .i64 z))) (by omega)))
            | trace_state
      · obtain rfl : j = 0 := by omega
        have b0 := O.bkS_0 a m
        have bln := O.bkL_len a m
        rw [b0]
        repeat' ((conv => whnf); first | refine V.NCond.mk ?_ | refine V.NIf.not_ ?_ | refine V.NIf.dec_ ?_ | refine V.NIf.no (by omega) ?_ | refine V.NIf.yes (by omega) ?_ | refine V.NIf.mk (fun _ => ?_) (fun _ => ?_) | refine V.NWrap.ok (by omega) (by omega) ?_ | refine V.NWrap.u64 (by omega) (by omega) ?_ | refine V.NLt.mk (by omega) ?_ | refine V.NBoth.mk ?_ ?_ | refine V.NTF.yes (by omega) ?_ | refine V.NTF.no (by omega) ?_ | refine V.NTF.dec ?_ | refine V.NDraw.q (by exact rfl) (by kernel_rfl) ?_ | refine V.NApp.one (by first | omega | (simp; omega)) (by first | omega | (simp; omega)) ?_ | (refine V.NDraw.any (by kernel_rfl) ?_) | fail)
        all_goals (conv => whnf)
        all_goals exact NRet.mk_ [some 4] rfl ⟨rfl, rfl, trivial⟩ ⟨⟨rfl, rfl, bln.symm, fun k hk => rfl⟩, trivial⟩
end Go.Proofs.Ythimkklcphoohaa

/- slices.SortStableFunc, of places, by a closure over one variable that compares their keys: by key; of equal ones the first one first. -/
namespace Go.Proofs.Ythimkklcphoohaa
open Go Go.Sort Go.RowKit V
set_option maxRecDepth 100000
set_option linter.unusedVariables false
set_option linter.unusedSimpArgs false
set_option maxHeartbeats 4000000
def ints (n : Nat) : List Int := (List.range n).map fun (i : Nat) => (i : Int)
theorem ints_len (n : Nat) : (ints n).length = n := by simp [ints]
theorem ints_at {n k : Nat} (h : k < n) : (ints n).getD k default = k := by rw [getD_at (by rw [ints_len]; exact h)]; simp [ints]
def nats (l : List Nat) : List Int := l.map fun (i : Nat) => (i : Int)
theorem nats_len (l : List Nat) : (nats l).length = l.length := by simp [nats]
theorem nats_at {l : List Nat} {k : Nat} (h : k < l.length) : (nats l).getD k default = (l.getD k default : Nat) := by
  rw [getD_at (by rw [nats_len]; exact h), getD_at h]; simp [nats]
variable {Z : Nat}
def ltI (kb : Nat → Nat → Bool) (x y : It Z) : Bool := kb x.q.toNat y.q.toNat || (!kb y.q.toNat x.q.toNat && decide (x.tg < y.tg))
theorem swoI {kb : Nat → Nat → Bool} (h1 : ∀ i, kb i i = false) (h2 : ∀ i j k, kb i j = true → kb j k = true → kb i k = true) (h3 : ∀ i j k, kb i j = false → kb j k = false → kb i k = false) : SWO (ltI (Z := Z) kb) where
  irrefl x := by unfold ltI; simp [h1]
  trans x y z := by
    unfold ltI
    simp only [Bool.or_eq_true, Bool.and_eq_true, Bool.not_eq_true', decide_eq_true_eq]
    rintro (a | ⟨a, b⟩) (c | ⟨c, d⟩)
    · exact .inl (h2 _ _ _ a c)
    · cases q : kb x.q.toNat z.q.toNat
      · have := h3 _ _ _ q c; rw [this] at a; cases a
      · exact .inl rfl
    · cases q : kb x.q.toNat z.q.toNat
      · have := h3 _ _ _ a q; rw [this] at c; cases c
      · exact .inl rfl
    · exact .inr ⟨h3 _ _ _ c a, by omega⟩
  ntrans x y z := by
    unfold ltI
    simp only [Bool.or_eq_false_iff, Bool.and_eq_false_iff, Bool.not_eq_false', decide_eq_false_iff_not]
    rintro ⟨a, b⟩ ⟨c, d⟩
    refine ⟨h3 _ _ _ a c, ?_⟩
    rcases b with b | b
    · cases q : kb z.q.toNat x.q.toNat
      · exfalso
        have := h3 _ _ _ c q; rw [this] at b; cases b
      · exact .inl rfl
    · rcases d with d | d
      · cases q : kb z.q.toNat x.q.toNat
        · exfalso
          have := h3 _ _ _ q a; rw [this] at d; cases d
        · exact .inl rfl
      · exact .inr (by omega)
def dI (Z : Nat) : Array (It Z) := Array.ofFn fun (i : Fin (Z + 1)) => ⟨(i : Nat), (i : Nat), by omega⟩
theorem dI_sz : (dI Z).size = Z + 1 := by simp [dI]
theorem dI_at {i : Nat} (h : i < Z + 1) : (dI Z)[i]! = ⟨(i : Nat), i, by omega⟩ := by
  rw [getElem!_pos _ i (by rw [dI_sz]; exact h)]
  simp [dI]
theorem ga_dI : ga encTI (dI Z).toList = ga e1 (ints (Z + 1)) := by
  funext k
  unfold ga
  by_cases h : k < Z + 1
  · rw [arr_getI, dI_at h, ints_at h]; rfl
  · rw [List.getD_eq_getElem?_getD, List.getD_eq_getElem?_getD, List.getElem?_eq_none (by rw [Array.length_toList, dI_sz]; omega), List.getElem?_eq_none (by rw [ints_len]; omega)]
    rfl
theorem sortI_end {kb : Nat → Nat → Bool} (S : Od.Sto (Od.tie kb)) {d : Array (It Z)} (P : PermIn 0 (Z + 1) (dI Z) d) (s : SortedIn (ltI kb) 0 (Z + 1) d) : ∀ k, k < Z + 1 → ga encTI d.toList k = ga e1 (nats (Od.srt (Od.tie kb) (Z + 1))) k := by
  have s1 : d.size = Z + 1 := by rw [P.1, dI_sz]
  have p : d.toList.Perm (dI Z).toList := by
    have := P.2.2
    rwa [show d.extract 0 (Z + 1) = d by rw [← s1]; simp, show (dI Z).extract 0 (Z + 1) = dI Z by rw [← dI_sz (Z := Z)]; simp] at this
  have tp : ∀ x ∈ d.toList, x.q = x.tg := fun x hx => by
    have hx := p.mem_iff.1 hx
    obtain ⟨i, hi, e⟩ := List.getElem_of_mem hx
    rw [Array.length_toList, dI_sz] at hi
    have := dI_at hi
    rw [← arr_getI, getD_at (by rw [Array.length_toList, dI_sz]; exact hi), e] at this
    rw [this]
  have e : d.toList.map (fun x => x.q.toNat) = Od.srt (Od.tie kb) (Z + 1) := by
    refine Od.srt_uniq S ?_ ?_
    · have q := p.map (fun x => x.q.toNat)
      rw [show (dI Z).toList.map (fun x => x.q.toNat) = List.range (Z + 1) by
        refine List.ext_getElem (by simp [dI_sz]) fun i h1 h2 => ?_
        have hi : i < Z + 1 := by simpa using h2
        rw [List.getElem_map, List.getElem_range]
        have := dI_at hi
        rw [← arr_getI, getD_at (by rw [Array.length_toList, dI_sz]; exact hi)] at this
        rw [this]; simp] at q
      exact q
    · have nd : (d.toList.map (fun x => x.q.toNat)).Nodup := by
        have q := p.map (fun x => x.q.toNat)
        refine q.nodup_iff.2 ?_
        rw [show (dI Z).toList.map (fun x => x.q.toNat) = List.range (Z + 1) by
          refine List.ext_getElem (by simp [dI_sz]) fun i h1 h2 => ?_
          have hi : i < Z + 1 := by simpa using h2
          rw [List.getElem_map, List.getElem_range]
          have := dI_at hi
          rw [← arr_getI, getD_at (by rw [Array.length_toList, dI_sz]; exact hi)] at this
          rw [this]; simp]
        exact List.nodup_range
      refine List.pairwise_iff_getElem.2 fun i j hi hj hij => ?_
      have ne := List.pairwise_iff_getElem.1 nd i j hi hj hij
      rw [List.length_map] at hi hj
      rw [List.getElem_map, List.getElem_map] at ne ⊢
      have q := s i j (Nat.zero_le _) hij (by simpa [s1] using hj)
      rw [← arr_getI, ← arr_getI, getD_at hi, getD_at hj] at q
      have t1 := tp _ (List.getElem_mem hi)
      have t2 := tp _ (List.getElem_mem hj)
      rcases S.tot _ _ ne with z | z
      · exact z
      · exfalso
        unfold Od.tie at z
        unfold ltI at q
        rw [show decide (d.toList[j].q.toNat < d.toList[i].q.toNat) = decide (d.toList[j].tg < d.toList[i].tg) from decide_eq_decide.2 (by omega)] at z
        rw [z] at q; cases q
  intro k hk
  unfold ga
  have h1 : k < d.toList.length := by rw [Array.length_toList, s1]; exact hk
  have h2 : k < (Od.srt (Od.tie kb) (Z + 1)).length := by rw [Od.srt_len]; exact hk
  rw [nats_at h2, getD_at h1, getD_at h2]
  have : (Od.srt (Od.tie kb) (Z + 1))[k] = d.toList[k].q.toNat := by
    have := congrArg (fun l => l[k]?) e
    simp only [List.getElem?_map, List.getElem?_eq_getElem h1, List.getElem?_eq_getElem h2, Option.map_some, Option.some.injEq] at this
    exact this.symm
  rw [this]
  have := d.toList[k].ok
  show [Value.int .i64 d.toList[k].q] = [Value.int .i64 ((d.toList[k].q.toNat : Nat) : Int)]
  rw [show ((d.toList[k].q.toNat : Nat) : Int) = d.toList[k].q by omega]
theorem v_sortI (nx : Nat) (O : Obs) (hT : Tail (nx + 1) O) (g : FuncId) (cp : Nat) (hcl : Nat.blt cp (nx + 1) = true) (cf : It Z → It Z → Int) (hc : CmpI nx O g cp cf) (kb : Nat → Nat → Bool) (h1 : ∀ i, kb i i = false) (h2 : ∀ i j k, kb i j = true → kb j k = true → kb i k = true) (h3 : ∀ i j k, kb i j = false → kb j k = false → kb i k = false)
    (hk : ∀ x y : It Z, lessI cf x y = kb x.q.toNat y.q.toNat) (hn : Z + 1 ≤ 1152921504606846975) :
    Fam Try.prog 25 [.one (.ref 0), .one (.clo g [cp])] 3 1 (Z + 1) (ga e1 (ints (Z + 1))) nx O (fun r => ∀ k, k < Z + 1 → r k = ga e1 (nats (Od.srt (Od.tie kb) (Z + 1))) k) := by
  have c := v_stabI nx O hT g cp hcl cf hc (ltI kb) (swoI h1 h2 h3) (fun x y h => by
    rw [hk]
    unfold ltI
    rw [show decide (y.tg < x.tg) = false by simp; omega, Bool.and_false, Bool.or_false]) (dI Z) (by rw [dI_sz]; exact hn) (fun i hi => by rw [dI_sz] at hi; rw [dI_at hi])
  rw [dI_sz, ga_dI] at c
  have done := fun d' => @sortI_end Z kb (Od.sto_tie h1 h2 h3) d'
  refine Fam.mk hT ?_
  refine V.NCall.inl (f := 25) V.Tok V.mixed Try.func25 rfl Try.ntmps25 (by kernel_rfl) rfl ?_
  repeat' ((conv => whnf); first | refine V.NCond.mk ?_ | refine V.NIf.not_ ?_ | refine V.NIf.dec_ ?_ | refine V.NIf.no (by omega) ?_ | refine V.NIf.yes (by omega) ?_ | refine V.NIf.mk (fun _ => ?_) (fun _ => ?_) | refine V.NWrap.ok (by omega) (by omega) ?_ | refine V.NWrap.u64 (by omega) (by omega) ?_ | refine V.NLt.mk (by omega) ?_ | refine V.NBoth.mk ?_ ?_ | refine V.NTF.yes (by omega) ?_ | refine V.NTF.no (by omega) ?_ | refine V.NTF.dec ?_ | refine V.NDraw.q (by exact rfl) (by kernel_rfl) ?_ | refine V.NApp.one (by first | omega | (simp; omega)) (by first | omega | (simp; omega)) ?_ | (refine Fam.use c hT [(0, _)] rfl rfl rfl (fun k hk => rfl) ?_; rintro g1 ⟨d', P, S, rfl⟩) | (refine V.NDraw.any (by kernel_rfl) ?_) | fail)
  all_goals (conv => whnf)
  exact ⟨rfl, rfl, [(0, _)], _, rfl, rfl, rfl, done d' P S⟩
end Go.Proofs.Ythimkklcphoohaa

/- What the functions on offers answer: at the least cost. -/
namespace Go.Proofs.Ythimkklcphoohaa
open Go Go.Sort Go.RowKit V
set_option maxRecDepth 100000
set_option linter.unusedVariables false
set_option linter.unusedSimpArgs false
set_option maxHeartbeats 4000000
theorem v_bestCmp (l : List Of) (i k : Nat) (hi : i < l.length) (hk : k < l.length) : V.Fn Try.prog 26 [.cel [.ref 1], .arr 3 l.length (ga encO l)] [.one (.val (.int .i64 ((i : Int)))), .one (.val (.int .i64 ((k : Int)))), .one (.ptr 0 0 0 0)] (.int .i64 (cmpI (l.getD i default).pr (l.getD k default).pr)) := by
  have c := v_compare (l.getD i default).pr (l.getD k default).pr
  refine V.Fn.mk_ V.Tok V.mixed Try.func26 rfl Try.ntmps26 (by kernel_rfl) rfl rfl ?_
  repeat' ((conv => whnf); first | refine V.NCond.mk ?_ | refine V.NIf.not_ ?_ | refine V.NIf.dec_ ?_ | refine V.NIf.no (by omega) ?_ | refine V.NIf.yes (by omega) ?_ | refine V.NIf.mk (fun _ => ?_) (fun _ => ?_) | refine V.NWrap.ok (by omega) (by omega) ?_ | refine V.NWrap.u64 (by omega) (by omega) ?_ | refine V.NLt.mk (by omega) ?_ | refine V.NBoth.mk ?_ ?_ | refine V.NTF.yes (by omega) ?_ | refine V.NTF.no (by omega) ?_ | refine V.NTF.dec ?_ | refine V.NDraw.q (by exact rfl) (by kernel_rfl) ?_ | refine V.NApp.one (by first | omega | (simp; omega)) (by first | omega | (simp; omega)) ?_ | (refine NIdx.mk ⟨i, rfl, by omega, ?_⟩) | (refine NIdx.mk ⟨k, rfl, by omega, ?_⟩) | (first | refine V.Fn.k0 (c) rfl ?_ | refine V.Fn.q0 (c) rfl ?_ | refine V.Fn.a0 (c) rfl ?_) | (refine V.NDraw.any (by kernel_rfl) ?_) | fail)
  all_goals (conv => whnf)
  all_goals exact V.fin1 rfl
theorem cmpI_lt (u v : Int) : decide (cmpI u v < 0) = decide (u < v) := by
  unfold cmpI
  by_cases q : u < v
  · rw [if_pos q]; simp [q]
  · rw [if_neg q]
    by_cases q2 : v < u
    · rw [if_pos q2]; simp; omega
    · rw [if_neg q2]; simp; omega
theorem v_lnBest (l : List Of) (m : Int) (hn : l.length ≤ 9223372036854775807) : V.FnR Try.prog 10 [.arr 3 l.length (ga encO l)] [.one (.ref 0), .one (.val (.int .i64 m))] (.tup [.one (.ref 1), .one (.val (.int .i64 (O.bC l m))), .one (.val (.int .i64 (O.err l m)))]) [.row 3 1 (O.bL l m).length (ga e1 (O.bL l m))] := by
  have ck := v_lnErr l m hn
  by_cases h : O.err l m = 0
  · obtain ⟨ok, b, c, z⟩ := O.err_0 h
    rw [show O.bL l m = O.bst l m from if_pos h, show O.bC l m = O.cost l m from if_pos h]
    rw [h] at ck ⊢
    have le := ok.le
    refine V.FnR.mk_ V.Tok V.mixed Try.func10 rfl Try.ntmps10 (by kernel_rfl) rfl rfl rfl rfl ?_
    repeat' ((conv => whnf); first | (refine V.NIf.yes ?_ ?_; · (decide; done)) | (refine V.NIf.no ?_ ?_; · (decide; done)) | refine V.NCond.mk ?_ | refine V.NIf.not_ ?_ | refine V.NIf.dec_ ?_ | refine V.NIf.no (by omega) ?_ | refine V.NIf.yes (by omega) ?_ | refine V.NIf.mk (fun _ => ?_) (fun _ => ?_) | refine V.NWrap.ok (by omega) (by omega) ?_ | refine V.NWrap.u64 (by omega) (by omega) ?_ | refine V.NLt.mk (by omega) ?_ | refine V.NBoth.mk ?_ ?_ | refine V.NTF.yes (by omega) ?_ | refine V.NTF.no (by omega) ?_ | refine V.NTF.dec ?_ | refine V.NDraw.q (by exact rfl) (by kernel_rfl) ?_ | refine V.NApp.one (by first | omega | (simp; omega)) (by first | omega | (simp; omega)) ?_ | ((first | refine V.Fn.k (ck) [0] rfl ?_ ?_ | refine V.Fn.q (ck) [0] rfl ?_ ?_ | refine V.Fn.a (ck) [0] rfl ?_ ?_); · ((repeat' (first | exact rfl | exact Iff.rfl | exact trivial | exact (fun _ _ => rfl) | exact (fun _ h => absurd h (Nat.not_lt_zero _)) | refine ⟨?_, ?_⟩ | exact Iff.rfl | exact congrArg (fun z => V.SV.one (V.At.val (Value.int .i64 z))) (by omega))); done)) | (refine NMake.mk ⟨l.length, l.length, rfl, rfl, by omega, by omega, by first | omega | decide | (simp; done) | (simp; omega), ?_⟩) | (refine V.NDraw.any (by kernel_rfl) ?_) | fail)
    all_goals (conv => whnf)
    have li := ints_len l.length
    have ia := fun k => @ints_at l.length k
    refine V.NLoop.auto (fun (k : Nat) => [(29, .one (.val (.int .i64 k))), (8, .one (.ref 3))]) (fun (k : Nat) => [(3, .row 3 1 l.length (ga e1 (Sh.ow (ints l.length) l.length k)))]) [] [] (fun (k : Nat) => l.length - k) (fun (k : Nat) => k ≤ l.length) 0 (Nat.zero_le _) (by repeat' (first | exact rfl | exact Iff.rfl | exact trivial | exact (fun _ _ => rfl) | exact (fun _ h => absurd h (Nat.not_lt_zero _)) | refine ⟨?_, ?_⟩ | exact Iff.rfl | exact congrArg (fun z => V.SV.one (V.At.val (Value.int .i64 z))) (by omega))) (by (conv => whnf); exact ⟨⟨rfl, rfl, rfl, fun k hk => (by rw [Sh.ow_0, ga_at (by simpa using hk)]; simp; rfl)⟩, trivial⟩) (fun _ => ⟨rfl, rfl⟩) ?_; (conv => whnf); refine ⟨⟨rfl, rfl⟩, ?_⟩
    rintro k hk
    have lo := Sh.ow_len li hk
    by_cases hlt : k < l.length
    · have os := Sh.ow_set li hlt
      rw [ia k hlt] at os
      generalize Sh.ow (ints l.length) l.length k = W at *
      repeat' ((conv => whnf); first | (refine NPut.is_ (en := e1) (l := W) (k : Int) (Sh.ow (ints l.length) l.length (k + 1)) os (by omega) rfl ?_) | refine V.NCond.mk ?_ | refine V.NIf.not_ ?_ | refine V.NIf.dec_ ?_ | refine V.NIf.no (by omega) ?_ | refine V.NIf.yes (by omega) ?_ | refine V.NIf.mk (fun _ => ?_) (fun _ => ?_) | refine V.NWrap.ok (by omega) (by omega) ?_ | refine V.NWrap.u64 (by omega) (by omega) ?_ | refine V.NLt.mk (by omega) ?_ | refine V.NBoth.mk ?_ ?_ | refine V.NTF.yes (by omega) ?_ | refine V.NTF.no (by omega) ?_ | refine V.NTF.dec ?_ | refine V.NDraw.q (by exact rfl) (by kernel_rfl) ?_ | refine V.NApp.one (by first | omega | (simp; omega)) (by first | omega | (simp; omega)) ?_ | (refine NIdx.mk ⟨k, rfl, by omega, ?_⟩) | (refine V.NDraw.any (by kernel_rfl) ?_) | fail)
      all_goals (conv => whnf)
      exact V.NBack.at_ (k + 1) [] (by omega) (by omega) (by repeat' (first | exact rfl | exact Iff.rfl | exact trivial | exact (fun _ _ => rfl) | exact (fun _ h => absurd h (Nat.not_lt_zero _)) | refine ⟨?_, ?_⟩ | exact Iff.rfl | exact congrArg (fun z => V.SV.one (V.At.val (Value.int .i64 z))) (by omega))) rfl (by repeat' (first | exact rfl | exact Iff.rfl | exact trivial | exact (fun _ _ => rfl) | exact (fun _ h => absurd h (Nat.not_lt_zero _)) | refine ⟨?_, ?_⟩ | exact Iff.rfl | exact congrArg (fun z => V.SV.one (V.At.val (Value.int .i64 z))) (by omega))) (by repeat' (first | exact rfl | exact Iff.rfl | exact trivial | exact (fun _ _ => rfl) | exact (fun _ h => absurd h (Nat.not_lt_zero _)) | refine ⟨?_, ?_⟩ | exact Iff.rfl | exact congrArg (fun z => V.SV.one (V.At.val (Value.int .i64 z))) (by omega))) (by repeat' (first | exact rfl | exact Iff.rfl | exact trivial | exact (fun _ _ => rfl) | exact (fun _ h => absurd h (Nat.not_lt_zero _)) | refine ⟨?_, ?_⟩ | exact Iff.rfl | exact congrArg (fun z => V.SV.one (V.At.val (Value.int .i64 z))) (by omega)))
    · obtain rfl : k = l.length := by omega
      rw [Sh.ow_n li]
      obtain ⟨Z, hZ⟩ : ∃ Z, l.length = Z + 1 := ⟨l.length - 1, by omega⟩
      have hcm : CmpI (Z := Z) 3 [(3, .arr 3 l.length (ga encO l)), (2, .row 3 1 0 (fun _ => [])), (1, .box 22 [.ref 3])] 26 1 (fun x y => cmpI (l.getD x.q.toNat default).pr (l.getD y.q.toNat default).pr) := fun x y n get K hK => by
        have x1 := x.ok
        have y1 := y.ok
        have c := v_bestCmp l x.q.toNat y.q.toNat (by omega) (by omega)
        rw [show ((x.q.toNat : Nat) : Int) = x.q by omega, show ((y.q.toNat : Nat) : Int) = y.q by omega] at c
        exact Fn.use c [1, 3] (by repeat' (first | exact rfl | exact Iff.rfl | exact trivial | exact (fun _ _ => rfl) | exact (fun _ h => absurd h (Nat.not_lt_zero _)) | refine ⟨?_, ?_⟩ | exact Iff.rfl | exact congrArg (fun z => V.SV.one (V.At.val (Value.int .i64 z))) (by omega))) (by repeat' (first | exact rfl | exact Iff.rfl | exact trivial | exact (fun _ _ => rfl) | exact (fun _ h => absurd h (Nat.not_lt_zero _)) | refine ⟨?_, ?_⟩ | exact Iff.rfl | exact congrArg (fun z => V.SV.one (V.At.val (Value.int .i64 z))) (by omega))) hK
      have sq := v_sortI 3 [(3, .arr 3 l.length (ga encO l)), (2, .row 3 1 0 (fun _ => [])), (1, .box 22 [.ref 3])] (Tail.of rfl rfl) 26 1 rfl _ hcm (O.kb l) (O.kb1 l) (O.kb2 l) (O.kb3 l) (fun x y => cmpI_lt _ _) (by omega)
      rw [← hZ] at sq
      have eD : Od.srt (Od.tie (O.kb l)) l.length = Od.srt (O.bf l) l.length := rfl
      rw [eD] at sq
      have lD : (nats (Od.srt (O.bf l) l.length)).length = l.length := by rw [nats_len, Od.srt_len]
      have uu := fun i (hi : i < l.length) => (O.U_bd ok hi)
      have un : ∀ i, i < l.length → 0 ≤ O.U l i := fun i hi => by have := uu i hi; omega
      have o0 := Gr.outs_0 (u := O.U l) (bf := O.bf l) (n := l.length) (m := m)
      have f0 := Gr.lf_0 (u := O.U l) (bf := O.bf l) (n := l.length) (m := m) (by omega)
      repeat' ((conv => whnf); first | refine V.NCond.mk ?_ | refine V.NIf.not_ ?_ | refine V.NIf.dec_ ?_ | refine V.NIf.no (by omega) ?_ | refine V.NIf.yes (by omega) ?_ | refine V.NIf.mk (fun _ => ?_) (fun _ => ?_) | refine V.NWrap.ok (by omega) (by omega) ?_ | refine V.NWrap.u64 (by omega) (by omega) ?_ | refine V.NLt.mk (by omega) ?_ | refine V.NBoth.mk ?_ ?_ | refine V.NTF.yes (by omega) ?_ | refine V.NTF.no (by omega) ?_ | refine V.NTF.dec ?_ | refine V.NDraw.q (by exact rfl) (by kernel_rfl) ?_ | refine V.NApp.one (by first | omega | (simp; omega)) (by first | omega | (simp; omega)) ?_ | (refine Fam.callQ sq (Tail.of rfl rfl) [(3, 0), (0, 3)] [(3, .row 3 1 l.length (ga e1 (nats (Od.srt (O.bf l) l.length)))), (0, .arr 3 l.length (ga encO l)), (1, .box 22 [.ref 0]), (2, .row 3 1 0 (fun _ => []))] rfl rfl rfl (by decide) ⟨⟨rfl, rfl, rfl, fun _ _ => rfl⟩, ⟨rfl, rfl, fun _ _ => rfl⟩, ⟨rfl, rfl, rfl, fun _ _ => rfl⟩, rfl, trivial⟩ rfl (fun g hg => ⟨⟨rfl, rfl, rfl, hg⟩, ⟨rfl, rfl, fun _ _ => rfl⟩, rfl, ⟨rfl, rfl, rfl, fun _ _ => rfl⟩, trivial⟩) ?_) | (refine NMake.mk ⟨l.length, l.length, rfl, rfl, by omega, by omega, by first | omega | decide | (simp; done) | (simp; omega), ?_⟩) | (refine V.NCall.inl (f := 28) V.Tok V.mixed Try.func28 rfl Try.ntmps28 (by kernel_rfl) rfl ?_) | (refine V.NDraw.any (by kernel_rfl) ?_) | fail)
      all_goals (conv => whnf)
      refine V.NLoop.auto (fun (k : Nat) => [(47, .one (.val (.int .i64 k))), (11, .one (.val (.int .i64 (Sh.sm (((Od.srt (O.bf l) l.length).take k).map (O.cs l m)))))), (10, .one (.ref 4))]) (fun (k : Nat) => [(4, .row 3 1 l.length (ga e1 (Gr.outs (O.U l) (O.bf l) l.length m k))), (5, .box 3 [.val (.int .i64 (Gr.lf (O.U l) (O.bf l) l.length m k))])]) [] [] (fun (k : Nat) => l.length - k) (fun (k : Nat) => k ≤ l.length) 0 (Nat.zero_le _) (by repeat' (first | exact rfl | exact Iff.rfl | exact trivial | exact (fun _ _ => rfl) | exact (fun _ h => absurd h (Nat.not_lt_zero _)) | refine ⟨?_, ?_⟩ | exact Iff.rfl | exact congrArg (fun z => V.SV.one (V.At.val (Value.int .i64 z))) (by omega))) (by (conv => whnf); exact ⟨⟨rfl, rfl, rfl, fun k hk => (by rw [o0, ga_at (by simpa using hk)]; simp; rfl)⟩, congrArg (fun z => V.Ob.box 3 [V.At.val (Value.int .i64 z)]) f0.symm, trivial⟩) (fun _ => ⟨rfl, rfl⟩) ?_; (conv => whnf); refine ⟨⟨rfl, rfl⟩, ?_⟩
      rintro k hk
      have lo2 := Gr.outs_len (u := O.U l) (bf := O.bf l) (n := l.length) (m := m)
      have csb := O.cs_sum ok m k
      by_cases hlt : k < l.length
      · have na := nats_at (l := Od.srt (O.bf l) l.length) (k := k) (by rw [Od.srt_len]; exact hlt)
        have pl := Od.srt_at (bf := O.bf l) hlt
        have ps := Gr.outs_set (u := O.U l) (bf := O.bf l) (n := l.length) (m := m) hlt
        have oa := Gr.outs_at (u := O.U l) (bf := O.bf l) (n := l.length) (m := m) (k := k + 1) pl
        rw [if_pos (by rw [Od.take_succ hlt]; simp)] at oa
        have ta := Gr.tk_at (m := m) (O.sto l) hlt un
        have ls := Gr.lf_succ (m := m) (O.sto l) hlt un
        have ln := Gr.lf_nn (u := O.U l) (bf := O.bf l) (n := l.length) (m := m) k
        have ll := Gr.lf_le (bf := O.bf l) (m := m) (by omega) un hk
        have cc := O.cs_succ (m := m) hlt
        have cb := O.cs_bd (m := m) ok pl
        have tb := O.tk_le (m := m) ok pl
        have ub := uu _ pl
        have pb := O.pr_bd ok pl
        have pc := P.part_cost tb pb
        have ecs : O.cs l m ((Od.srt (O.bf l) l.length).getD k default) = P.cost (Gr.tk (O.U l) (O.bf l) l.length m ((Od.srt (O.bf l) l.length).getD k default)) (l.getD ((Od.srt (O.bf l) l.length).getD k default) default).pr := rfl
        have eU : O.U l ((Od.srt (O.bf l) l.length).getD k default) = (l.getD ((Od.srt (O.bf l) l.length).getD k default) default).un := rfl
        have lo2k := lo2 k
        have lo2k' := lo2 (k + 1)
        have csb' := O.cs_sum ok m (k + 1)
        clear o0 f0 sq hcm uu lo2 un
        generalize Sh.sm (((Od.srt (O.bf l) l.length).take k).map (O.cs l m)) = C0 at *
        generalize hC1 : Sh.sm (((Od.srt (O.bf l) l.length).take (k + 1)).map (O.cs l m)) = C1 at *
        generalize Od.srt (O.bf l) l.length = D at *
        generalize D.getD k default = p at *
        generalize O.cs l m p = Cp at *
        generalize Gr.tk (O.U l) (O.bf l) l.length m p = T at *
        generalize Gr.lf (O.U l) (O.bf l) l.length m k = F0 at *
        generalize hF1 : Gr.lf (O.U l) (O.bf l) l.length m (k + 1) = F1 at *
        generalize Gr.outs (O.U l) (O.bf l) l.length m k = W0 at *
        generalize hW1 : Gr.outs (O.U l) (O.bf l) l.length m (k + 1) = W1 at *
        have vc := v_cost (W1.getD p default) (l.getD p default).pr
        rw [oa, pc.1, pc.2, ← ecs] at vc
        rw [eU] at ta ub
        rw [← oa] at vc
        repeat' ((conv => whnf); first | (refine NPut.is_ (en := e1) (l := W0) T W1 ps (by omega) (congrArg (fun z => [Value.int .i64 z]) ta.symm) ?_) | refine V.NCond.mk ?_ | refine V.NIf.not_ ?_ | refine V.NIf.dec_ ?_ | refine V.NIf.no (by omega) ?_ | refine V.NIf.yes (by omega) ?_ | refine V.NIf.mk (fun _ => ?_) (fun _ => ?_) | refine V.NWrap.ok (by omega) (by omega) ?_ | refine V.NWrap.u64 (by omega) (by omega) ?_ | refine V.NLt.mk (by omega) ?_ | refine V.NBoth.mk ?_ ?_ | refine V.NTF.yes (by omega) ?_ | refine V.NTF.no (by omega) ?_ | refine V.NTF.dec ?_ | refine V.NDraw.q (by exact rfl) (by kernel_rfl) ?_ | refine V.NApp.one (by first | omega | (simp; omega)) (by first | omega | (simp; omega)) ?_ | (refine NIdx.mk ⟨k, rfl, by omega, ?_⟩) | (refine NIdx.mk ⟨p, by omega, by omega, ?_⟩) | (refine V.NCall.inl (f := 43) V.Tok V.mixed Try.func43 rfl Try.ntmps43 (by kernel_rfl) rfl ?_) | (first | refine V.Fn.k0 (vc) rfl ?_ | refine V.Fn.q0 (vc) rfl ?_ | refine V.Fn.a0 (vc) rfl ?_) | (refine V.NDraw.any (by kernel_rfl) ?_) | fail)
        all_goals (conv => whnf)
        exact V.NBack.at_ (k + 1) [] (by omega) (by omega) ⟨(by repeat' (first | exact rfl | exact Iff.rfl | exact trivial | exact (fun _ _ => rfl) | exact (fun _ h => absurd h (Nat.not_lt_zero _)) | refine ⟨?_, ?_⟩ | exact Iff.rfl | exact congrArg (fun z => V.SV.one (V.At.val (Value.int .i64 z))) (by omega))), congrArg (fun z => V.SV.one (V.At.val (Value.int .i64 z))) (cc.symm.trans hC1.symm), rfl, trivial⟩ rfl ⟨⟨rfl, rfl, rfl, fun _ _ => (by rw [hW1])⟩, congrArg (fun z => V.Ob.box 3 [V.At.val (Value.int .i64 z)]) (show F0 - (if (l.getD p default).un < F0 then (l.getD p default).un else F0) = Gr.lf (O.U l) (O.bf l) l.length m (k + 1) by rw [hF1, ← ta]; omega), trivial⟩ (by repeat' (first | exact rfl | exact Iff.rfl | exact trivial | exact (fun _ _ => rfl) | exact (fun _ h => absurd h (Nat.not_lt_zero _)) | refine ⟨?_, ?_⟩ | exact Iff.rfl | exact congrArg (fun z => V.SV.one (V.At.val (Value.int .i64 z))) (by omega))) (by repeat' (first | exact rfl | exact Iff.rfl | exact trivial | exact (fun _ _ => rfl) | exact (fun _ h => absurd h (Nat.not_lt_zero _)) | refine ⟨?_, ?_⟩ | exact Iff.rfl | exact congrArg (fun z => V.SV.one (V.At.val (Value.int .i64 z))) (by omega)))
      · obtain rfl : k = l.length := by omega
        have oe := Gr.outs_n (u := O.U l) (bf := O.bf l) (n := l.length) (m := m)
        have ce := O.cs_end l m
        rw [oe, ce]
        have lb : (Gr.all (O.U l) (O.bf l) l.length m).length = l.length := Gr.all_len
        have eb : O.bst l m = Gr.all (O.U l) (O.bf l) l.length m := rfl
        rw [eb]
        repeat' ((conv => whnf); first | refine V.NCond.mk ?_ | refine V.NIf.not_ ?_ | refine V.NIf.dec_ ?_ | refine V.NIf.no (by omega) ?_ | refine V.NIf.yes (by omega) ?_ | refine V.NIf.mk (fun _ => ?_) (fun _ => ?_) | refine V.NWrap.ok (by omega) (by omega) ?_ | refine V.NWrap.u64 (by omega) (by omega) ?_ | refine V.NLt.mk (by omega) ?_ | refine V.NBoth.mk ?_ ?_ | refine V.NTF.yes (by omega) ?_ | refine V.NTF.no (by omega) ?_ | refine V.NTF.dec ?_ | refine V.NDraw.q (by exact rfl) (by kernel_rfl) ?_ | refine V.NApp.one (by first | omega | (simp; omega)) (by first | omega | (simp; omega)) ?_ | (refine V.NDraw.any (by kernel_rfl) ?_) | fail)
        all_goals (conv => whnf)
        all_goals exact NRet.mk_ [some 4] rfl ⟨rfl, rfl, rfl, trivial⟩ ⟨⟨rfl, rfl, lb.symm, fun k hk => rfl⟩, trivial⟩
  · rw [show O.bL l m = [] from if_neg h, show O.bC l m = 0 from if_neg h]
    generalize O.err l m = E at *
    refine V.FnR.mk_ V.Tok V.mixed Try.func10 rfl Try.ntmps10 (by kernel_rfl) rfl rfl rfl rfl ?_
    repeat' ((conv => whnf); first | (refine V.NIf.yes ?_ ?_; · (decide; done)) | (refine V.NIf.no ?_ ?_; · (decide; done)) | refine V.NCond.mk ?_ | refine V.NIf.not_ ?_ | refine V.NIf.dec_ ?_ | refine V.NIf.no (by omega) ?_ | refine V.NIf.yes (by omega) ?_ | refine V.NIf.mk (fun _ => ?_) (fun _ => ?_) | refine V.NWrap.ok (by omega) (by omega) ?_ | refine V.NWrap.u64 (by omega) (by omega) ?_ | refine V.NLt.mk (by omega) ?_ | refine V.NBoth.mk ?_ ?_ | refine V.NTF.yes (by omega) ?_ | refine V.NTF.no (by omega) ?_ | refine V.NTF.dec ?_ | refine V.NDraw.q (by exact rfl) (by kernel_rfl) ?_ | refine V.NApp.one (by first | omega | (simp; omega)) (by first | omega | (simp; omega)) ?_ | ((first | refine V.Fn.k (ck) [0] rfl ?_ ?_ | refine V.Fn.q (ck) [0] rfl ?_ ?_ | refine V.Fn.a (ck) [0] rfl ?_ ?_); · ((repeat' (first | exact rfl | exact Iff.rfl | exact trivial | exact (fun _ _ => rfl) | exact (fun _ h => absurd h (Nat.not_lt_zero _)) | refine ⟨?_, ?_⟩ | exact Iff.rfl | exact congrArg (fun z => V.SV.one (V.At.val (Value.int .i64 z))) (by omega))); done)) | (refine V.NDraw.any (by kernel_rfl) ?_) | fail)
    all_goals (conv => whnf)
    all_goals exact NRet.mk_ [some 3] rfl ⟨rfl, rfl, rfl, trivial⟩ ⟨⟨rfl, rfl, rfl, fun k hk => absurd hk (Nat.not_lt_zero _)⟩, trivial⟩
end Go.Proofs.Ythimkklcphoohaa

/- What the document's way to part a total answers. -/
namespace Go.Proofs.Ythimkklcphoohaa
open Go Go.RowKit V
set_option maxRecDepth 100000
set_option linter.unusedVariables false
set_option linter.unusedSimpArgs false
set_option maxHeartbeats 4000000
theorem v_rshPartsY (t : Int) (ws : List Int) (ok : Sh.Oks ws) (ht : 0 ≤ t ∧ t ≤ 1152921504606846976) : V.FnR Try.prog 13 [.arr 1 ws.length (ga e1 ws)] [.one (.val (.int .i64 t)), .one (.ref 0)] (.tup [.one (.ref 1), .one (.val (.int .i64 0))]) [.row 3 1 (Sh.raw t ws).length (ga e1 (Sh.raw t ws))] := by
  have le := ok.le
  have ps := ok.pos
  have sb := ok.sum
  have ck := v_rshChk ws (by omega)
  rw [Sh.chk_of ok] at ck
  have tg := v_shTog ws (by omega) (fun k => by have := Sh.sm_take_le (fun x hx => (ok.all x hx).1) k; omega)
  have eW := fun k => @Sh.whs_at t ws k
  have eL := fun k => @Sh.lfs_at t ws k
  have lW := Sh.whs_len t ws
  have lL := Sh.lfs_len t ws
  refine V.FnR.mk_ V.Tok V.mixed Try.func13 rfl Try.ntmps13 (by kernel_rfl) rfl rfl rfl rfl ?_
  repeat' ((conv => whnf); first | (refine V.NIf.yes ?_ ?_; · (decide; done)) | (refine V.NIf.no ?_ ?_; · (decide; done)) | refine V.NCond.mk ?_ | refine V.NIf.not_ ?_ | refine V.NIf.dec_ ?_ | refine V.NIf.no (by omega) ?_ | refine V.NIf.yes (by omega) ?_ | refine V.NIf.mk (fun _ => ?_) (fun _ => ?_) | refine V.NWrap.ok (by omega) (by omega) ?_ | refine V.NWrap.u64 (by omega) (by omega) ?_ | refine V.NLt.mk (by omega) ?_ | refine V.NBoth.mk ?_ ?_ | refine V.NTF.yes (by omega) ?_ | refine V.NTF.no (by omega) ?_ | refine V.NTF.dec ?_ | refine V.NDraw.q (by exact rfl) (by kernel_rfl) ?_ | refine V.NApp.one (by first | omega | (simp; omega)) (by first | omega | (simp; omega)) ?_ | ((first | refine V.Fn.k (ck) [0] rfl ?_ ?_ | refine V.Fn.q (ck) [0] rfl ?_ ?_ | refine V.Fn.a (ck) [0] rfl ?_ ?_); · ((repeat' (first | exact rfl | exact Iff.rfl | exact trivial | exact (fun _ _ => rfl) | exact (fun _ h => absurd h (Nat.not_lt_zero _)) | refine ⟨?_, ?_⟩ | exact Iff.rfl | exact congrArg (fun z => V.SV.one (V.At.val (Value.int .i64 z))) (by omega))); done)) | (first | refine V.Fn.k0 (v_rbetween _ _ _) rfl ?_ | refine V.Fn.q0 (v_rbetween _ _ _) rfl ?_ | refine V.Fn.a0 (v_rbetween _ _ _) rfl ?_) | ((first | refine V.Fn.k (tg) [0] rfl ?_ ?_ | refine V.Fn.q (tg) [0] rfl ?_ ?_ | refine V.Fn.a (tg) [0] rfl ?_ ?_); · ((repeat' (first | exact rfl | exact Iff.rfl | exact trivial | exact (fun _ _ => rfl) | exact (fun _ h => absurd h (Nat.not_lt_zero _)) | refine ⟨?_, ?_⟩ | exact Iff.rfl | exact congrArg (fun z => V.SV.one (V.At.val (Value.int .i64 z))) (by omega))); done)) | (refine V.NDraw.any (by kernel_rfl) ?_) | fail)
  all_goals (conv => whnf)
  refine V.NLoop.auto (fun (k : Nat) => [(10, .one (.val (.int .i64 k))), (8, .one (.ref 2)), (9, .one (.ref 3))]) (fun (k : Nat) => [(2, .row 3 1 ((Sh.whs t ws).take k).length (ga e1 ((Sh.whs t ws).take k))), (3, .row 3 1 ((Sh.lfs t ws).take k).length (ga e1 ((Sh.lfs t ws).take k)))]) [] [] (fun (k : Nat) => ws.length - k) (fun (k : Nat) => k ≤ ws.length) 0 (Nat.zero_le _) (by repeat' (first | exact rfl | exact Iff.rfl | exact trivial | exact (fun _ _ => rfl) | exact (fun _ h => absurd h (Nat.not_lt_zero _)) | refine ⟨?_, ?_⟩ | exact Iff.rfl | exact congrArg (fun z => V.SV.one (V.At.val (Value.int .i64 z))) (by omega))) (by (conv => whnf); exact ⟨⟨rfl, rfl, rfl, fun k hk => absurd hk (Nat.not_lt_zero _)⟩, ⟨rfl, rfl, rfl, fun k hk => absurd hk (Nat.not_lt_zero _)⟩, trivial⟩) (fun _ => ⟨rfl, rfl⟩) ?_; (conv => whnf); refine ⟨⟨rfl, rfl⟩, ?_⟩
  rintro k hk
  by_cases hlt : k < ws.length
  · have w1 := ok.all _ (getD_mem hlt)
    have wd := v_rwide t (ws.getD k default) (Sh.sm ws) ht w1 (sb.2.2 _ (getD_mem hlt)) ⟨sb.1, sb.2.1⟩
    rw [← eW k hlt, ← eL k hlt] at wd
    have qW : (Sh.whs t ws).take (k + 1) = (Sh.whs t ws).take k ++ [(Sh.whs t ws).getD k default] := by
      rw [List.take_succ_eq_append_getElem (by omega), ← getD_at (by omega)]
    have qL : (Sh.lfs t ws).take (k + 1) = (Sh.lfs t ws).take k ++ [(Sh.lfs t ws).getD k default] := by
      rw [List.take_succ_eq_append_getElem (by omega), ← getD_at (by omega)]
    have l1 : ((Sh.whs t ws).take k).length = k := by simp; omega
    have l2 : ((Sh.lfs t ws).take k).length = k := by simp; omega
    generalize (Sh.whs t ws).take k = A at *
    generalize (Sh.lfs t ws).take k = B at *
    generalize (Sh.whs t ws).getD k default = W at *
    generalize (Sh.lfs t ws).getD k default = L at *
    repeat' ((conv => whnf); first | refine V.NCond.mk ?_ | refine V.NIf.not_ ?_ | refine V.NIf.dec_ ?_ | refine V.NIf.no (by omega) ?_ | refine V.NIf.yes (by omega) ?_ | refine V.NIf.mk (fun _ => ?_) (fun _ => ?_) | refine V.NWrap.ok (by omega) (by omega) ?_ | refine V.NWrap.u64 (by omega) (by omega) ?_ | refine V.NLt.mk (by omega) ?_ | refine V.NBoth.mk ?_ ?_ | refine V.NTF.yes (by omega) ?_ | refine V.NTF.no (by omega) ?_ | refine V.NTF.dec ?_ | refine V.NDraw.q (by exact rfl) (by kernel_rfl) ?_ | refine V.NApp.one (by first | omega | (simp; omega)) (by first | omega | (simp; omega)) ?_ | (refine NIdx.mk ⟨k, rfl, by omega, ?_⟩) | (first | refine V.Fn.k0 (wd) rfl ?_ | refine V.Fn.q0 (wd) rfl ?_ | refine V.Fn.a0 (wd) rfl ?_) | (refine V.NDraw.any (by kernel_rfl) ?_) | fail)
    all_goals (conv => whnf)
    all_goals first | (refine V.NBack.at_ (k + 1) [(2, 5), (3, 7)] ?_ ?_ ?_ ?_ ?_ ?_ ?_; (focus omega); (focus omega); (focus ((repeat' (first | exact rfl | exact Iff.rfl | exact trivial | exact (fun _ _ => rfl) | exact (fun _ h => absurd h (Nat.not_lt_zero _)) | refine ⟨?_, ?_⟩ | exact congrArg (fun z => V.SV.one (V.At.val (Value.int .i64 z))) (by omega))); done)); (focus rfl); (focus exact ⟨ObLe.as_ qW, ObLe.as_ qL, trivial⟩); (focus ((repeat' (first | exact rfl | exact Iff.rfl | exact trivial | exact (fun _ _ => rfl) | exact (fun _ h => absurd h (Nat.not_lt_zero _)) | refine ⟨?_, ?_⟩ | exact congrArg (fun z => V.SV.one (V.At.val (Value.int .i64 z))) (by omega))); done)); (focus ((repeat' (first | exact rfl | exact Iff.rfl | exact trivial | exact (fun _ _ => rfl) | exact (fun _ h => absurd h (Nat.not_lt_zero _)) | refine ⟨?_, ?_⟩ | exact congrArg (fun z => V.SV.one (V.At.val (Value.int .i64 z))) (by omega))); done))) | (refine V.NBack.at_ (k + 1) [(2, 6), (3, 7)] ?_ ?_ ?_ ?_ ?_ ?_ ?_; (focus omega); (focus omega); (focus ((repeat' (first | exact rfl | exact Iff.rfl | exact trivial | exact (fun _ _ => rfl) | exact (fun _ h => absurd h (Nat.not_lt_zero _)) | refine ⟨?_, ?_⟩ | exact congrArg (fun z => V.SV.one (V.At.val (Value.int .i64 z))) (by omega))); done)); (focus rfl); (focus exact ⟨ObLe.as_ qW, ObLe.as_ qL, trivial⟩); (focus ((repeat' (first | exact rfl | exact Iff.rfl | exact trivial | exact (fun _ _ => rfl) | exact (fun _ h => absurd h (Nat.not_lt_zero _)) | refine ⟨?_, ?_⟩ | exact congrArg (fun z => V.SV.one (V.At.val (Value.int .i64 z))) (by omega))); done)); (focus ((repeat' (first | exact rfl | exact Iff.rfl | exact trivial | exact (fun _ _ => rfl) | exact (fun _ h => absurd h (Nat.not_lt_zero _)) | refine ⟨?_, ?_⟩ | exact congrArg (fun z => V.SV.one (V.At.val (Value.int .i64 z))) (by omega))); done))) | (refine V.NBack.at_ (k + 1) [(2, 7), (3, 6)] ?_ ?_ ?_ ?_ ?_ ?_ ?_; (focus omega); (focus omega); (focus ((repeat' (first | exact rfl | exact Iff.rfl | exact trivial | exact (fun _ _ => rfl) | exact (fun _ h => absurd h (Nat.not_lt_zero _)) | refine ⟨?_, ?_⟩ | exact congrArg (fun z => V.SV.one (V.At.val (Value.int .i64 z))) (by omega))); done)); (focus rfl); (focus exact ⟨ObLe.as_ qW, ObLe.as_ qL, trivial⟩); (focus ((repeat' (first | exact rfl | exact Iff.rfl | exact trivial | exact (fun _ _ => rfl) | exact (fun _ h => absurd h (Nat.not_lt_zero _)) | refine ⟨?_, ?_⟩ | exact congrArg (fun z => V.SV.one (V.At.val (Value.int .i64 z))) (by omega))); done)); (focus ((repeat' (first | exact rfl | exact Iff.rfl | exact trivial | exact (fun _ _ => rfl) | exact (fun _ h => absurd h (Nat.not_lt_zero _)) | refine ⟨?_, ?_⟩ | exact congrArg (fun z => V.SV.one (V.At.val (Value.int .i64 z))) (by omega))); done))) | (refine V.NBack.at_ (k + 1) [(2, 7), (3, 5)] ?_ ?_ ?_ ?_ ?_ ?_ ?_; (focus omega); (focus omega); (focus ((repeat' (first | exact rfl | exact Iff.rfl | exact trivial | exact (fun _ _ => rfl) | exact (fun _ h => absurd h (Nat.not_lt_zero _)) | refine ⟨?_, ?_⟩ | exact congrArg (fun z => V.SV.one (V.At.val (Value.int .i64 z))) (by omega))); done)); (focus rfl); (focus exact ⟨ObLe.as_ qW, ObLe.as_ qL, trivial⟩); (focus ((repeat' (first | exact rfl | exact Iff.rfl | exact trivial | exact (fun _ _ => rfl) | exact (fun _ h => absurd h (Nat.not_lt_zero _)) | refine ⟨?_, ?_⟩ | exact congrArg (fun z => V.SV.one (V.At.val (Value.int .i64 z))) (by omega))); done)); (focus ((repeat' (first | exact rfl | exact Iff.rfl | exact trivial | exact (fun _ _ => rfl) | exact (fun _ h => absurd h (Nat.not_lt_zero _)) | refine ⟨?_, ?_⟩ | exact congrArg (fun z => V.SV.one (V.At.val (Value.int .i64 z))) (by omega))); done)))
  · obtain rfl : k = ws.length := by omega
    rw [List.take_of_length_le (Nat.le_of_eq lW), List.take_of_length_le (Nat.le_of_eq lL)]
    rw [lW, lL]
    repeat' ((conv => whnf); first | refine V.NCond.mk ?_ | refine V.NIf.not_ ?_ | refine V.NIf.dec_ ?_ | refine V.NIf.no (by omega) ?_ | refine V.NIf.yes (by omega) ?_ | refine V.NIf.mk (fun _ => ?_) (fun _ => ?_) | refine V.NWrap.ok (by omega) (by omega) ?_ | refine V.NWrap.u64 (by omega) (by omega) ?_ | refine V.NLt.mk (by omega) ?_ | refine V.NBoth.mk ?_ ?_ | refine V.NTF.yes (by omega) ?_ | refine V.NTF.no (by omega) ?_ | refine V.NTF.dec ?_ | refine V.NDraw.q (by exact rfl) (by kernel_rfl) ?_ | refine V.NApp.one (by first | omega | (simp; omega)) (by first | omega | (simp; omega)) ?_ | (refine V.NDraw.any (by kernel_rfl) ?_) | fail)
    all_goals (conv => whnf)
    have rr := Sh.rst_bd (t := t) ok
    have er : Sh.rst t ws = t - Sh.sm (Sh.whs t ws) := rfl
    have rd := Sh.raws_bd (t := t) ok ht.1
    have rl := Sh.raws_len t ws
    have ll := Sh.lft_len t ws
    have nx := fun k => @Sh.lft_next t ws ok k
    have su := fun k => @Sh.raws_sum t ws k
    have s1 := fun k => @Sh.raws_succ t ws k
    have s2 := fun k => @Sh.lft_succ t ws k
    have pg := fun k => @Sh.pls_get t ws k
    have pt : ∀ k, k < ws.length → (Sh.pls t ws).getD k 0 < ws.length := fun k h => Sh.pls_lt (t := t) (getD_mem (by rw [Sh.pls_len]; exact h))
    have rw_ : Sh.raw t ws = Sh.raws t ws (Sh.rst t ws).toNat := rfl
    have sw := su 0 (Nat.zero_le _)
    refine V.NLoop.auto (fun (k : Nat) => [(8, .one (.ref 2)), (9, .one (.ref 3))]) (fun (k : Nat) => [(2, .row 3 1 ws.length (ga e1 (Sh.raws t ws k))), (3, .row 3 1 ws.length (ga e1 (Sh.lft t ws k)))]) [] [] (fun (k : Nat) => (Sh.rst t ws).toNat - k) (fun (k : Nat) => (k : Int) ≤ Sh.rst t ws) 0 rr.1 (by repeat' (first | exact rfl | exact Iff.rfl | exact trivial | exact (fun _ _ => rfl) | exact (fun _ h => absurd h (Nat.not_lt_zero _)) | refine ⟨?_, ?_⟩ | exact Iff.rfl | exact congrArg (fun z => V.SV.one (V.At.val (Value.int .i64 z))) (by omega))) (by repeat' (first | exact rfl | exact Iff.rfl | exact trivial | exact (fun _ _ => rfl) | exact (fun _ h => absurd h (Nat.not_lt_zero _)) | refine ⟨?_, ?_⟩ | exact Iff.rfl | exact congrArg (fun z => V.SV.one (V.At.val (Value.int .i64 z))) (by omega))) (fun _ => ⟨rfl, rfl⟩) ?_; (conv => whnf); refine ⟨⟨rfl, rfl⟩, ?_⟩
    rintro k hk
    have tk := v_shTog (Sh.raws t ws k) (by rw [rl k (by omega)]; omega) (fun j => by
      have a := Sh.sm_take_le (fun x hx => (rd k (by omega) x hx).1) j
      have b := su k (by omega)
      omega)
    rw [su k (by omega), rl k (by omega)] at tk
    by_cases hlt : (k : Int) < Sh.rst t ws
    · repeat' ((conv => whnf); first | refine V.NCond.mk ?_ | refine V.NIf.not_ ?_ | refine V.NIf.dec_ ?_ | refine V.NIf.no (by omega) ?_ | refine V.NIf.yes (by omega) ?_ | refine V.NIf.mk (fun _ => ?_) (fun _ => ?_) | refine V.NWrap.ok (by omega) (by omega) ?_ | refine V.NWrap.u64 (by omega) (by omega) ?_ | refine V.NLt.mk (by omega) ?_ | refine V.NBoth.mk ?_ ?_ | refine V.NTF.yes (by omega) ?_ | refine V.NTF.no (by omega) ?_ | refine V.NTF.dec ?_ | refine V.NDraw.q (by exact rfl) (by kernel_rfl) ?_ | refine V.NApp.one (by first | omega | (simp; omega)) (by first | omega | (simp; omega)) ?_ | ((first | refine V.Fn.k (tk) [2] rfl ?_ ?_ | refine V.Fn.q (tk) [2] rfl ?_ ?_ | refine V.Fn.a (tk) [2] rfl ?_ ?_); · ((repeat' (first | exact rfl | exact Iff.rfl | exact trivial | exact (fun _ _ => rfl) | exact (fun _ h => absurd h (Nat.not_lt_zero _)) | refine ⟨?_, ?_⟩ | exact Iff.rfl | exact congrArg (fun z => V.SV.one (V.At.val (Value.int .i64 z))) (by omega))); done)) | (refine V.NDraw.any (by kernel_rfl) ?_) | fail)
      all_goals (conv => whnf)
      refine V.NLoop.auto (fun (i : Nat) => [(14, .one (.val (.int .i64 i))), (13, .one (.val (.int .i64 (Sh.amx (Sh.lft t ws k) i))))]) (fun (i : Nat) => []) [] [] (fun (i : Nat) => ws.length - i) (fun (i : Nat) => i ≤ ws.length) 0 (Nat.zero_le _) (by repeat' (first | exact rfl | exact Iff.rfl | exact trivial | exact (fun _ _ => rfl) | exact (fun _ h => absurd h (Nat.not_lt_zero _)) | refine ⟨?_, ?_⟩ | exact Iff.rfl | exact congrArg (fun z => V.SV.one (V.At.val (Value.int .i64 z))) (by omega))) (by repeat' (first | exact rfl | exact Iff.rfl | exact trivial | exact (fun _ _ => rfl) | exact (fun _ h => absurd h (Nat.not_lt_zero _)) | refine ⟨?_, ?_⟩ | exact Iff.rfl | exact congrArg (fun z => V.SV.one (V.At.val (Value.int .i64 z))) (by omega))) (fun _ => ⟨rfl, rfl⟩) ?_; (conv => whnf); refine ⟨⟨rfl, rfl⟩, ?_⟩
      rintro i hi
      have al := Sh.amx_lt (Sh.lft t ws k) i
      by_cases hil : i < ws.length
      · have bs : Sh.amx (Sh.lft t ws k) (i + 1) = if (Sh.lft t ws k).getD (Sh.amx (Sh.lft t ws k) i) default < (Sh.lft t ws k).getD i default then i else Sh.amx (Sh.lft t ws k) i := rfl
        generalize Sh.amx (Sh.lft t ws k) i = b at *
        repeat' ((conv => whnf); first | refine V.NCond.mk ?_ | refine V.NIf.not_ ?_ | refine V.NIf.dec_ ?_ | refine V.NIf.no (by omega) ?_ | refine V.NIf.yes (by omega) ?_ | refine V.NIf.mk (fun _ => ?_) (fun _ => ?_) | refine V.NWrap.ok (by omega) (by omega) ?_ | refine V.NWrap.u64 (by omega) (by omega) ?_ | refine V.NLt.mk (by omega) ?_ | refine V.NBoth.mk ?_ ?_ | refine V.NTF.yes (by omega) ?_ | refine V.NTF.no (by omega) ?_ | refine V.NTF.dec ?_ | refine V.NDraw.q (by exact rfl) (by kernel_rfl) ?_ | refine V.NApp.one (by first | omega | (simp; omega)) (by first | omega | (simp; omega)) ?_ | (refine NIdx.mk ⟨i, rfl, by omega, ?_⟩) | (refine NIdx.mk ⟨b, rfl, by omega, ?_⟩) | (refine V.NDraw.any (by kernel_rfl) ?_) | fail)
        all_goals (conv => whnf)
        · exact V.NBack.at_ (i + 1) [] (by omega) (by omega) ⟨(by repeat' (first | exact rfl | exact Iff.rfl | exact trivial | exact (fun _ _ => rfl) | exact (fun _ h => absurd h (Nat.not_lt_zero _)) | refine ⟨?_, ?_⟩ | exact Iff.rfl | exact congrArg (fun z => V.SV.one (V.At.val (Value.int .i64 z))) (by omega))), congrArg (fun z : Nat => V.SV.one (V.At.val (Value.int .i64 z))) (bs.trans (if_pos (by assumption))).symm, trivial⟩ rfl (by repeat' (first | exact rfl | exact Iff.rfl | exact trivial | exact (fun _ _ => rfl) | exact (fun _ h => absurd h (Nat.not_lt_zero _)) | refine ⟨?_, ?_⟩ | exact Iff.rfl | exact congrArg (fun z => V.SV.one (V.At.val (Value.int .i64 z))) (by omega))) (by repeat' (first | exact rfl | exact Iff.rfl | exact trivial | exact (fun _ _ => rfl) | exact (fun _ h => absurd h (Nat.not_lt_zero _)) | refine ⟨?_, ?_⟩ | exact Iff.rfl | exact congrArg (fun z => V.SV.one (V.At.val (Value.int .i64 z))) (by omega))) (by repeat' (first | exact rfl | exact Iff.rfl | exact trivial | exact (fun _ _ => rfl) | exact (fun _ h => absurd h (Nat.not_lt_zero _)) | refine ⟨?_, ?_⟩ | exact Iff.rfl | exact congrArg (fun z => V.SV.one (V.At.val (Value.int .i64 z))) (by omega)))
        · exact V.NBack.at_ (i + 1) [] (by omega) (by omega) ⟨(by repeat' (first | exact rfl | exact Iff.rfl | exact trivial | exact (fun _ _ => rfl) | exact (fun _ h => absurd h (Nat.not_lt_zero _)) | refine ⟨?_, ?_⟩ | exact Iff.rfl | exact congrArg (fun z => V.SV.one (V.At.val (Value.int .i64 z))) (by omega))), congrArg (fun z : Nat => V.SV.one (V.At.val (Value.int .i64 z))) (bs.trans (if_neg (by assumption))).symm, trivial⟩ rfl (by repeat' (first | exact rfl | exact Iff.rfl | exact trivial | exact (fun _ _ => rfl) | exact (fun _ h => absurd h (Nat.not_lt_zero _)) | refine ⟨?_, ?_⟩ | exact Iff.rfl | exact congrArg (fun z => V.SV.one (V.At.val (Value.int .i64 z))) (by omega))) (by repeat' (first | exact rfl | exact Iff.rfl | exact trivial | exact (fun _ _ => rfl) | exact (fun _ h => absurd h (Nat.not_lt_zero _)) | refine ⟨?_, ?_⟩ | exact Iff.rfl | exact congrArg (fun z => V.SV.one (V.At.val (Value.int .i64 z))) (by omega))) (by repeat' (first | exact rfl | exact Iff.rfl | exact trivial | exact (fun _ _ => rfl) | exact (fun _ h => absurd h (Nat.not_lt_zero _)) | refine ⟨?_, ?_⟩ | exact Iff.rfl | exact congrArg (fun z => V.SV.one (V.At.val (Value.int .i64 z))) (by omega)))
      · obtain rfl : i = ws.length := by omega
        rw [nx k (by omega)]
        have pk := pt k (by omega)
        have e1' := s1 k (by omega)
        rw [← pg k (by omega)] at e1'
        unfold Sh.inc1 at e1'
        have e2' := s2 k (by omega)
        have l1 := rl k (by omega)
        have l2 := ll k (by omega)
        have bd := rd k (by omega) _ (getD_mem (l := Sh.raws t ws k) (k := (Sh.pls t ws).getD k 0) (by omega))
        generalize (Sh.pls t ws).getD k 0 = b at *
        repeat' ((conv => whnf); first | refine V.NCond.mk ?_ | refine V.NIf.not_ ?_ | refine V.NIf.dec_ ?_ | refine V.NIf.no (by omega) ?_ | refine V.NIf.yes (by omega) ?_ | refine V.NIf.mk (fun _ => ?_) (fun _ => ?_) | refine V.NWrap.ok (by omega) (by omega) ?_ | refine V.NWrap.u64 (by omega) (by omega) ?_ | refine V.NLt.mk (by omega) ?_ | refine V.NBoth.mk ?_ ?_ | refine V.NTF.yes (by omega) ?_ | refine V.NTF.no (by omega) ?_ | refine V.NTF.dec ?_ | refine V.NDraw.q (by exact rfl) (by kernel_rfl) ?_ | refine V.NApp.one (by first | omega | (simp; omega)) (by first | omega | (simp; omega)) ?_ | (refine NIdx.mk ⟨b, rfl, by omega, ?_⟩) | (refine NPut.is_ (en := e1) (l := Sh.raws t ws k) _ (Sh.raws t ws (k + 1)) e1'.symm (by omega) rfl ?_) | (refine NPut.is_ (en := e1) (l := Sh.lft t ws k) (-1) (Sh.lft t ws (k + 1)) e2'.symm (by omega) rfl ?_) | (refine V.NDraw.any (by kernel_rfl) ?_) | fail)
        all_goals (conv => whnf)
        exact V.NBack.at_ (k + 1) [] (by omega) (by omega) (by repeat' (first | exact rfl | exact Iff.rfl | exact trivial | exact (fun _ _ => rfl) | exact (fun _ h => absurd h (Nat.not_lt_zero _)) | refine ⟨?_, ?_⟩ | exact Iff.rfl | exact congrArg (fun z => V.SV.one (V.At.val (Value.int .i64 z))) (by omega))) rfl (by repeat' (first | exact rfl | exact Iff.rfl | exact trivial | exact (fun _ _ => rfl) | exact (fun _ h => absurd h (Nat.not_lt_zero _)) | refine ⟨?_, ?_⟩ | exact Iff.rfl | exact congrArg (fun z => V.SV.one (V.At.val (Value.int .i64 z))) (by omega))) (by repeat' (first | exact rfl | exact Iff.rfl | exact trivial | exact (fun _ _ => rfl) | exact (fun _ h => absurd h (Nat.not_lt_zero _)) | refine ⟨?_, ?_⟩ | exact Iff.rfl | exact congrArg (fun z => V.SV.one (V.At.val (Value.int .i64 z))) (by omega))) (by repeat' (first | exact rfl | exact Iff.rfl | exact trivial | exact (fun _ _ => rfl) | exact (fun _ h => absurd h (Nat.not_lt_zero _)) | refine ⟨?_, ?_⟩ | exact Iff.rfl | exact congrArg (fun z => V.SV.one (V.At.val (Value.int .i64 z))) (by omega)))
    · have ek : k = (Sh.rst t ws).toNat := by omega
      rw [rw_, ← ek]
      repeat' ((conv => whnf); first | refine V.NCond.mk ?_ | refine V.NIf.not_ ?_ | refine V.NIf.dec_ ?_ | refine V.NIf.no (by omega) ?_ | refine V.NIf.yes (by omega) ?_ | refine V.NIf.mk (fun _ => ?_) (fun _ => ?_) | refine V.NWrap.ok (by omega) (by omega) ?_ | refine V.NWrap.u64 (by omega) (by omega) ?_ | refine V.NLt.mk (by omega) ?_ | refine V.NBoth.mk ?_ ?_ | refine V.NTF.yes (by omega) ?_ | refine V.NTF.no (by omega) ?_ | refine V.NTF.dec ?_ | refine V.NDraw.q (by exact rfl) (by kernel_rfl) ?_ | refine V.NApp.one (by first | omega | (simp; omega)) (by first | omega | (simp; omega)) ?_ | ((first | refine V.Fn.k (tk) [2] rfl ?_ ?_ | refine V.Fn.q (tk) [2] rfl ?_ ?_ | refine V.Fn.a (tk) [2] rfl ?_ ?_); · ((repeat' (first | exact rfl | exact Iff.rfl | exact trivial | exact (fun _ _ => rfl) | exact (fun _ h => absurd h (Nat.not_lt_zero _)) | refine ⟨?_, ?_⟩ | exact Iff.rfl | exact congrArg (fun z => V.SV.one (V.At.val (Value.int .i64 z))) (by omega))); done)) | (refine V.NDraw.any (by kernel_rfl) ?_) | fail)
      all_goals (conv => whnf)
      exact NRet.mk_ [some 2] rfl ⟨rfl, rfl, trivial⟩ ⟨⟨rfl, rfl, (rl k (by omega)).symm, fun k hk => rfl⟩, trivial⟩
theorem v_rshParts (t : Int) (ws : List Int) (hl : ws.length ≤ 9223372036854775807) : V.FnR Try.prog 13 [.arr 1 ws.length (ga e1 ws)] [.one (.val (.int .i64 t)), .one (.ref 0)] (.tup [.one (.ref 1), .one (.val (.int .i64 (Sh.pE t ws)))]) [.row 3 1 (Sh.pL t ws).length (ga e1 (Sh.pL t ws))] := by
  have ck := v_rshChk ws hl
  have cr := v_rshPartsY t ws
  have hc := Sh.pE_cases t ws
  generalize Sh.pE t ws = E at *
  generalize Sh.pL t ws = L at *
  generalize Sh.chk ws = C at *
  rcases hc with ⟨a, rfl, rfl⟩ | ⟨rfl, a, rfl, rfl⟩ | ⟨rfl, a, b, rfl, rfl⟩
  · refine V.FnR.mk_ V.Tok V.mixed Try.func13 rfl Try.ntmps13 (by kernel_rfl) rfl rfl rfl rfl ?_
    repeat' ((conv => whnf); first | (refine V.NIf.yes ?_ ?_; · (decide; done)) | (refine V.NIf.no ?_ ?_; · (decide; done)) | refine V.NCond.mk ?_ | refine V.NIf.not_ ?_ | refine V.NIf.dec_ ?_ | refine V.NIf.no (by omega) ?_ | refine V.NIf.yes (by omega) ?_ | refine V.NIf.mk (fun _ => ?_) (fun _ => ?_) | refine V.NWrap.ok (by omega) (by omega) ?_ | refine V.NWrap.u64 (by omega) (by omega) ?_ | refine V.NLt.mk (by omega) ?_ | refine V.NBoth.mk ?_ ?_ | refine V.NTF.yes (by omega) ?_ | refine V.NTF.no (by omega) ?_ | refine V.NTF.dec ?_ | refine V.NDraw.q (by exact rfl) (by kernel_rfl) ?_ | refine V.NApp.one (by first | omega | (simp; omega)) (by first | omega | (simp; omega)) ?_ | ((first | refine V.Fn.k (ck) [0] rfl ?_ ?_ | refine V.Fn.q (ck) [0] rfl ?_ ?_ | refine V.Fn.a (ck) [0] rfl ?_ ?_); · ((repeat' (first | exact rfl | exact Iff.rfl | exact trivial | exact (fun _ _ => rfl) | exact (fun _ h => absurd h (Nat.not_lt_zero _)) | refine ⟨?_, ?_⟩ | exact Iff.rfl | exact congrArg (fun z => V.SV.one (V.At.val (Value.int .i64 z))) (by omega))); done)) | (first | refine V.Fn.k0 (v_rbetween _ _ _) rfl ?_ | refine V.Fn.q0 (v_rbetween _ _ _) rfl ?_ | refine V.Fn.a0 (v_rbetween _ _ _) rfl ?_) | (refine V.NDraw.any (by kernel_rfl) ?_) | fail)
    all_goals (conv => whnf)
    all_goals exact NRet.mk_ [some 2] rfl ⟨rfl, rfl, trivial⟩ ⟨⟨rfl, rfl, rfl, fun k hk => absurd hk (Nat.not_lt_zero _)⟩, trivial⟩
  · refine V.FnR.mk_ V.Tok V.mixed Try.func13 rfl Try.ntmps13 (by kernel_rfl) rfl rfl rfl rfl ?_
    repeat' ((conv => whnf); first | (refine V.NIf.yes ?_ ?_; · (decide; done)) | (refine V.NIf.no ?_ ?_; · (decide; done)) | refine V.NCond.mk ?_ | refine V.NIf.not_ ?_ | refine V.NIf.dec_ ?_ | refine V.NIf.no (by omega) ?_ | refine V.NIf.yes (by omega) ?_ | refine V.NIf.mk (fun _ => ?_) (fun _ => ?_) | refine V.NWrap.ok (by omega) (by omega) ?_ | refine V.NWrap.u64 (by omega) (by omega) ?_ | refine V.NLt.mk (by omega) ?_ | refine V.NBoth.mk ?_ ?_ | refine V.NTF.yes (by omega) ?_ | refine V.NTF.no (by omega) ?_ | refine V.NTF.dec ?_ | refine V.NDraw.q (by exact rfl) (by kernel_rfl) ?_ | refine V.NApp.one (by first | omega | (simp; omega)) (by first | omega | (simp; omega)) ?_ | ((first | refine V.Fn.k (ck) [0] rfl ?_ ?_ | refine V.Fn.q (ck) [0] rfl ?_ ?_ | refine V.Fn.a (ck) [0] rfl ?_ ?_); · ((repeat' (first | exact rfl | exact Iff.rfl | exact trivial | exact (fun _ _ => rfl) | exact (fun _ h => absurd h (Nat.not_lt_zero _)) | refine ⟨?_, ?_⟩ | exact Iff.rfl | exact congrArg (fun z => V.SV.one (V.At.val (Value.int .i64 z))) (by omega))); done)) | (first | refine V.Fn.k0 (v_rbetween _ _ _) rfl ?_ | refine V.Fn.q0 (v_rbetween _ _ _) rfl ?_ | refine V.Fn.a0 (v_rbetween _ _ _) rfl ?_) | (refine V.NDraw.any (by kernel_rfl) ?_) | fail)
    all_goals (conv => whnf)
    all_goals exact NRet.mk_ [some 2] rfl ⟨rfl, rfl, trivial⟩ ⟨⟨rfl, rfl, rfl, fun k hk => absurd hk (Nat.not_lt_zero _)⟩, trivial⟩
  · exact cr b a
end Go.Proofs.Ythimkklcphoohaa

/- What must be in any case, of loans. -/
namespace Go.Proofs.Ythimkklcphoohaa
open Go Go.RowKit V
set_option maxRecDepth 100000
set_option linter.unusedVariables false
set_option linter.unusedSimpArgs false
set_option maxHeartbeats 4000000
def offs : List Of := [⟨4, 30, 50000⟩, ⟨2, 50, 40000⟩, ⟨9, 20, 40000⟩]
theorem v_offers : V.FnR Try.prog 35 [] [] (.one (.ref 0)) [.arr 3 3 (ga encO offs)] := by
  refine V.FnR.mk_ V.Tok V.mixed Try.func35 rfl Try.ntmps35 (by kernel_rfl) rfl rfl rfl rfl ?_
  repeat' ((conv => whnf); first | refine V.NCond.mk ?_ | refine V.NIf.not_ ?_ | refine V.NIf.dec_ ?_ | refine V.NIf.no (by omega) ?_ | refine V.NIf.yes (by omega) ?_ | refine V.NIf.mk (fun _ => ?_) (fun _ => ?_) | refine V.NWrap.ok (by omega) (by omega) ?_ | refine V.NWrap.u64 (by omega) (by omega) ?_ | refine V.NLt.mk (by omega) ?_ | refine V.NBoth.mk ?_ ?_ | refine V.NTF.yes (by omega) ?_ | refine V.NTF.no (by omega) ?_ | refine V.NTF.dec ?_ | refine V.NDraw.q (by exact rfl) (by kernel_rfl) ?_ | refine V.NApp.one (by first | omega | (simp; omega)) (by first | omega | (simp; omega)) ?_ | (refine V.NDraw.any (by kernel_rfl) ?_) | fail)
  all_goals (conv => whnf)
  refine NRet.mk_ [some 1] rfl ?_ ?_
  · exact rfl
  · exact ⟨⟨rfl, rfl, by repeat' (first | exact trivial | refine ⟨?_, ?_⟩ | rfl)⟩, trivial⟩
theorem ln_1 : O.shL offs 10 = [3, 5, 2] ∧ O.err offs 10 = 0 := by
  have e : O.err offs 10 = 0 := by decide +kernel
  refine ⟨?_, e⟩
  rw [show O.shL offs 10 = Sh.raw 10 (O.us offs) from if_pos e]
  unfold Sh.raw
  rw [show Sh.rst 10 (O.us offs) = 0 by decide +kernel]
  show Sh.raws 10 (O.us offs) 0 = _
  rw [show Sh.raws 10 (O.us offs) 0 = Sh.whs 10 (O.us offs) from rfl]
  decide +kernel
theorem ln_2 : O.bL offs 75 = [5, 50, 20] ∧ O.bC offs 75 = 305 ∧ O.err offs 75 = 0 := ⟨by decide +kernel, by decide +kernel, by decide +kernel⟩
theorem ln_3 : O.bB offs [5, 50, 20] 30 = [5, 40, 0] ∧ O.bE offs [5, 50, 20] 30 = 0 := ⟨by decide +kernel, by decide +kernel⟩
theorem ln_4 : O.shL offs 101 = [] ∧ O.err offs 101 = 5 := ⟨if_neg (by decide +kernel), by decide +kernel⟩
theorem ln_5 : O.bB offs [1, 1, 1] 4 = [] ∧ O.bE offs [1, 1, 1] 4 = 8 := ⟨by decide +kernel, by decide +kernel⟩
theorem ln_6 : O.chk [⟨0, 1, 0⟩, ⟨0, 1, 0⟩] = 6 := by decide +kernel
theorem v_lnBegun : V.Fn Try.prog 17 [] [] (.bool true) := by
  have a1 := v_lnShare offs 10 (by decide)
  have a2 := v_lnBest offs 75 (by decide)
  have a3 := v_lnBack offs [5, 50, 20] 30 (by decide)
  have a4 := v_lnShare offs 101 (by decide)
  have a5 := v_lnBack offs [1, 1, 1] 4 (by decide)
  have a6 := v_lnCheck [⟨0, 1, 0⟩, ⟨0, 1, 0⟩] (by decide)
  have s1 := v_sameints [3, 5, 2] [3, 5, 2] (by decide)
  have s2 := v_sameints [5, 50, 20] [5, 50, 20] (by decide)
  have s3 := v_sameints [5, 40, 0] [5, 40, 0] (by decide)
  rw [ln_1.1, ln_1.2] at a1
  rw [ln_2.1, ln_2.2.1, ln_2.2.2] at a2
  rw [ln_3.1, ln_3.2] at a3
  rw [ln_4.1, ln_4.2] at a4
  rw [ln_5.1, ln_5.2] at a5
  rw [ln_6] at a6
  rw [show offs.length = 3 from rfl] at a1 a2 a3 a4 a5
  refine V.Fn.mk_ V.Tok V.mixed Try.func17 rfl Try.ntmps17 (by kernel_rfl) rfl rfl ?_
  repeat' ((conv => whnf); first | (refine V.NIf.yes ?_ ?_; · (decide; done)) | (refine V.NIf.no ?_ ?_; · (decide; done)) | refine V.NCond.mk ?_ | refine V.NIf.not_ ?_ | refine V.NIf.dec_ ?_ | refine V.NIf.no (by omega) ?_ | refine V.NIf.yes (by omega) ?_ | refine V.NIf.mk (fun _ => ?_) (fun _ => ?_) | refine V.NWrap.ok (by omega) (by omega) ?_ | refine V.NWrap.u64 (by omega) (by omega) ?_ | refine V.NLt.mk (by omega) ?_ | refine V.NBoth.mk ?_ ?_ | refine V.NTF.yes (by omega) ?_ | refine V.NTF.no (by omega) ?_ | refine V.NTF.dec ?_ | refine V.NDraw.q (by exact rfl) (by kernel_rfl) ?_ | refine V.NApp.one (by first | omega | (simp; omega)) (by first | omega | (simp; omega)) ?_ | (first | refine V.FnR.k0 (v_offers) rfl ?_ | refine V.FnR.a0 (v_offers) rfl ?_) | ((first | refine V.FnR.k_ (a1) [0] rfl ?_ ?_ | refine V.FnR.a_ (a1) [0] rfl ?_ ?_); · ((repeat' (first | exact rfl | exact Iff.rfl | exact trivial | exact (fun _ _ => rfl) | exact (fun _ h => absurd h (Nat.not_lt_zero _)) | refine ⟨?_, ?_⟩ | exact Iff.rfl | exact congrArg (fun z => V.SV.one (V.At.val (Value.int .i64 z))) (by omega))); done)) | ((first | refine V.FnR.k_ (a2) [2] rfl ?_ ?_ | refine V.FnR.a_ (a2) [2] rfl ?_ ?_); · ((repeat' (first | exact rfl | exact Iff.rfl | exact trivial | exact (fun _ _ => rfl) | exact (fun _ h => absurd h (Nat.not_lt_zero _)) | refine ⟨?_, ?_⟩ | exact Iff.rfl | exact congrArg (fun z => V.SV.one (V.At.val (Value.int .i64 z))) (by omega))); done)) | ((first | refine V.FnR.k_ (a3) [4, 5] rfl ?_ ?_ | refine V.FnR.a_ (a3) [4, 5] rfl ?_ ?_); · ((repeat' (first | exact rfl | exact Iff.rfl | exact trivial | exact (fun _ _ => rfl) | exact (fun _ h => absurd h (Nat.not_lt_zero _)) | refine ⟨?_, ?_⟩ | exact Iff.rfl | exact congrArg (fun z => V.SV.one (V.At.val (Value.int .i64 z))) (by omega))); done)) | ((first | refine V.FnR.k_ (a4) [7] rfl ?_ ?_ | refine V.FnR.a_ (a4) [7] rfl ?_ ?_); · ((repeat' (first | exact rfl | exact Iff.rfl | exact trivial | exact (fun _ _ => rfl) | exact (fun _ h => absurd h (Nat.not_lt_zero _)) | refine ⟨?_, ?_⟩ | exact Iff.rfl | exact congrArg (fun z => V.SV.one (V.At.val (Value.int .i64 z))) (by omega))); done)) | ((first | refine V.FnR.k_ (a5) [9, 10] rfl ?_ ?_ | refine V.FnR.a_ (a5) [9, 10] rfl ?_ ?_); · ((repeat' (first | exact rfl | exact Iff.rfl | exact trivial | exact (fun _ _ => rfl) | exact (fun _ h => absurd h (Nat.not_lt_zero _)) | refine ⟨?_, ?_⟩ | exact Iff.rfl | exact congrArg (fun z => V.SV.one (V.At.val (Value.int .i64 z))) (by omega))); done)) | ((first | refine V.Fn.k (s1) [1, 12] rfl ?_ ?_ | refine V.Fn.q (s1) [1, 12] rfl ?_ ?_ | refine V.Fn.a (s1) [1, 12] rfl ?_ ?_); · ((repeat' (first | exact rfl | exact Iff.rfl | exact trivial | exact (fun _ _ => rfl) | exact (fun _ h => absurd h (Nat.not_lt_zero _)) | refine ⟨?_, ?_⟩ | exact Iff.rfl | exact congrArg (fun z => V.SV.one (V.At.val (Value.int .i64 z))) (by omega))); done)) | ((first | refine V.Fn.k (s2) [3, 13] rfl ?_ ?_ | refine V.Fn.q (s2) [3, 13] rfl ?_ ?_ | refine V.Fn.a (s2) [3, 13] rfl ?_ ?_); · ((repeat' (first | exact rfl | exact Iff.rfl | exact trivial | exact (fun _ _ => rfl) | exact (fun _ h => absurd h (Nat.not_lt_zero _)) | refine ⟨?_, ?_⟩ | exact Iff.rfl | exact congrArg (fun z => V.SV.one (V.At.val (Value.int .i64 z))) (by omega))); done)) | ((first | refine V.Fn.k (s3) [6, 14] rfl ?_ ?_ | refine V.Fn.q (s3) [6, 14] rfl ?_ ?_ | refine V.Fn.a (s3) [6, 14] rfl ?_ ?_); · ((repeat' (first | exact rfl | exact Iff.rfl | exact trivial | exact (fun _ _ => rfl) | exact (fun _ h => absurd h (Nat.not_lt_zero _)) | refine ⟨?_, ?_⟩ | exact Iff.rfl | exact congrArg (fun z => V.SV.one (V.At.val (Value.int .i64 z))) (by omega))); done)) | ((first | refine V.Fn.k (a6) [15] rfl ?_ ?_ | refine V.Fn.q (a6) [15] rfl ?_ ?_ | refine V.Fn.a (a6) [15] rfl ?_ ?_); · ((repeat' (first | exact rfl | exact Iff.rfl | exact trivial | exact (fun _ _ => rfl) | exact (fun _ h => absurd h (Nat.not_lt_zero _)) | refine ⟨?_, ?_⟩ | exact Iff.rfl | exact congrArg (fun z => V.SV.one (V.At.val (Value.int .i64 z))) (by omega))); done)) | (refine V.NDraw.any (by kernel_rfl) ?_) | fail)
  all_goals (conv => whnf)
  all_goals first
    | exact ⟨true, rfl, iff_of_true rfl rfl⟩
    | trace_state
end Go.Proofs.Ythimkklcphoohaa

/- Plain laws of loans. -/
namespace Go.Proofs.Ythimkklcphoohaa
set_option linter.unusedVariables false
set_option linter.unusedSimpArgs false
namespace O
def Sg (n : Nat) (f : Nat → Int) : Int := Sh.sm ((List.range n).map f)
theorem Sg_0 (f : Nat → Int) : Sg 0 f = 0 := rfl
theorem Sg_succ (n : Nat) (f : Nat → Int) : Sg (n + 1) f = Sg n f + f n := by
  unfold Sg
  rw [List.range_succ, List.map_append, Sh.sm_app]; simp [Sh.sm]
theorem Sg_nn {f : Nat → Int} : ∀ {n : Nat}, (∀ i, i < n → 0 ≤ f i) → 0 ≤ Sg n f
  | 0, _ => by rw [Sg_0]; omega
  | n + 1, h => by
    have := Sg_nn (n := n) fun i hi => h i (by omega)
    have := h n (by omega)
    rw [Sg_succ]; omega
theorem Sg_le {f g : Nat → Int} : ∀ {n : Nat}, (∀ i, i < n → f i ≤ g i) → Sg n f ≤ Sg n g
  | 0, _ => by rw [Sg_0, Sg_0]; omega
  | n + 1, h => by
    have := Sg_le (n := n) fun i hi => h i (by omega)
    have := h n (by omega)
    rw [Sg_succ, Sg_succ]; omega
theorem Sg_eq {f g : Nat → Int} : ∀ {n : Nat}, (∀ i, i < n → f i = g i) → Sg n f = Sg n g
  | 0, _ => by rw [Sg_0, Sg_0]
  | n + 1, h => by rw [Sg_succ, Sg_succ, Sg_eq (n := n) fun i hi => h i (by omega), h n (by omega)]
theorem Sg_sub (f g : Nat → Int) : ∀ n : Nat, Sg n (fun i => f i - g i) = Sg n f - Sg n g
  | 0 => by rw [Sg_0, Sg_0, Sg_0]; omega
  | n + 1 => by rw [Sg_succ, Sg_succ, Sg_succ, Sg_sub f g n]; omega
theorem Sg_mul (f : Nat → Int) (c : Int) : ∀ n : Nat, Sg n (fun i => f i * c) = Sg n f * c
  | 0 => by rw [Sg_0, Sg_0, Int.zero_mul]
  | n + 1 => by rw [Sg_succ, Sg_succ, Sg_mul f c n, Int.add_mul]
theorem Sg_list (a : List Int) : Sg a.length (fun i => a.getD i default) = Sh.sm a := by
  unfold Sg
  congr 1
  refine List.ext_getElem (by simp) fun i h1 h2 => ?_
  rw [List.getElem_map, List.getElem_range, getD_at h2]
theorem Sg_take (a : List Int) {k : Nat} (h : k ≤ a.length) : Sg k (fun i => a.getD i default) = Sh.sm (a.take k) := by
  unfold Sg
  congr 1
  refine List.ext_getElem (by simp; omega) fun i h1 h2 => ?_
  have : i < k := by simpa using h1
  rw [List.getElem_map, List.getElem_range, getD_at (by omega), List.getElem_take]
def tk (l : List Of) (m : Int) (i : Nat) : Int := Gr.tk (U l) (bf l) l.length m i
def pr (l : List Of) (i : Nat) : Int := (l.getD i default).pr
def mine (l : List Of) (m : Int) : Int := Sg l.length fun i => tk l m i * pr l i
theorem un_nn {l : List Of} (ok : Oks l) : ∀ i, i < l.length → 0 ≤ U l i := fun i hi => by have := U_bd ok hi; omega
theorem tk_bd {l : List Of} (ok : Oks l) {m : Int} {i : Nat} (h : i < l.length) : 0 ≤ tk l m i ∧ tk l m i ≤ U l i := Gr.tk_bd (un_nn ok) h
theorem tk_sum {l : List Of} {m : Int} (ok : Oks l) (hm : 0 ≤ m) (hs : m ≤ Sh.sm (us l)) : Sg l.length (tk l m) = m := by
  have a := Gr.all_sum (m := m) (sto l) hm (un_nn ok)
  have e := Gr.lf_end (u := U l) (m := m) (n := l.length) (sto l)
  rw [us_range] at e
  have e0 : Gr.lf (U l) (bf l) l.length m l.length = 0 := by
    rw [e]; split <;> omega
  rw [e0] at a
  have a' : Sg l.length (tk l m) = m - 0 := a
  omega
theorem bst_sum {l : List Of} {m : Int} (ok : Oks l) (hm : 0 ≤ m) (hs : m ≤ Sh.sm (us l)) : Sh.sm (bst l m) = m := tk_sum ok hm hs
theorem tk_order {l : List Of} (ok : Oks l) {m : Int} {i k : Nat} (hi : i < l.length) (hk : k < l.length) (h : pr l i < pr l k) (q : tk l m i < U l i) : tk l m k = 0 :=
  Gr.tk_order (sto l) (un_nn ok) hi hk ((bf_iff l i k).2 (.inl h)) q
/-- a greatest price at which something is taken -/
theorem top {f : Nat → Int} {t : Nat → Int} : ∀ n : Nat, (∃ i, i < n ∧ 0 < f i) → ∃ i, i < n ∧ 0 < f i ∧ ∀ k, k < n → 0 < f k → t k ≤ t i
  | 0, h => by obtain ⟨i, hi, _⟩ := h; omega
  | n + 1, h => by
    by_cases q : ∃ i, i < n ∧ 0 < f i
    · obtain ⟨i, hi, hp, hm⟩ := top (t := t) n q
      by_cases r : 0 < f n ∧ t i < t n
      · refine ⟨n, by omega, r.1, fun k hk hkp => ?_⟩
        by_cases e : k = n
        · subst e; exact Int.le_refl _
        · have := hm k (by omega) hkp; omega
      · refine ⟨i, by omega, hp, fun k hk hkp => ?_⟩
        by_cases e : k = n
        · subst e
          exact Int.not_lt.1 fun z => r ⟨hkp, z⟩
        · exact hm k (by omega) hkp
    · obtain ⟨i, hi, hp⟩ := h
      have e : i = n := by
        by_cases z : i < n
        · exact absurd ⟨i, z, hp⟩ q
        · omega
      subst e
      refine ⟨i, by omega, hp, fun k hk hkp => ?_⟩
      by_cases e : k = i
      · subst e; exact Int.le_refl _
      · exact absurd ⟨k, by omega, hkp⟩ q
/-- no other way costs less -/
theorem best {l : List Of} {m : Int} (ok : Oks l) (hm : 1 ≤ m) (hs : m ≤ Sh.sm (us l)) {o : Nat → Int} (ho : ∀ i, i < l.length → 0 ≤ o i ∧ o i ≤ U l i) (hsum : Sg l.length o = m) : mine l m ≤ Sg l.length fun i => o i * pr l i := by
  have ts := tk_sum ok (by omega) hs
  have ex : ∃ i, i < l.length ∧ 0 < tk l m i := by
    refine Classical.byContradiction fun q => ?_
    have z : Sg l.length (tk l m) = Sg l.length fun _ => 0 := Sg_eq fun i hi => by
      have := (tk_bd ok (m := m) hi).1
      have : ¬ 0 < tk l m i := fun r => q ⟨i, hi, r⟩
      show tk l m i = 0
      omega
    have z2 : Sg l.length (fun _ => (0 : Int)) = 0 := by
      have := Sg_mul (fun _ => (0 : Int)) 0 l.length
      rw [Int.mul_zero] at this
      simpa using this
    omega
  obtain ⟨j, hj, jp, jm⟩ := top (t := pr l) l.length ex
  have h1 : 0 ≤ Sg l.length fun i => (o i - tk l m i) * (pr l i - pr l j) := Sg_nn fun i hi => by
    have b := tk_bd ok (m := m) hi
    have c := ho i hi
    by_cases q : pr l i < pr l j
    · have : ¬ tk l m i < U l i := fun r => by have := tk_order ok hi hj q r; omega
      exact Int.mul_nonneg_of_nonpos_of_nonpos (by omega) (by omega)
    · by_cases r : pr l j < pr l i
      · have : ¬ 0 < tk l m i := fun z => by have := jm i hi z; omega
        exact Int.mul_nonneg (by omega) (by omega)
      · rw [show pr l i - pr l j = 0 by omega, Int.mul_zero]; exact Int.le_refl _
  have h2 : Sg l.length (fun i => (o i - tk l m i) * (pr l i - pr l j)) = (Sg l.length (fun i => o i * pr l i) - mine l m) - (Sg l.length o - Sg l.length (tk l m)) * pr l j := by
    unfold mine
    rw [← Sg_sub, ← Sg_sub, ← Sg_mul, ← Sg_sub]
    refine Sg_eq fun i hi => ?_
    rw [Int.mul_sub, Int.sub_mul]
  rw [h2, hsum, ts, show m - m = 0 by omega, Int.zero_mul] at h1
  omega
def pts (l : List Of) (m : Int) (n : Nat) : Int := Sg n fun i => if 0 < tk l m i then 1 else 0
theorem pts_bd (l : List Of) (m : Int) : ∀ n : Nat, 0 ≤ pts l m n ∧ pts l m n ≤ n
  | 0 => by unfold pts; rw [Sg_0]; omega
  | n + 1 => by
    have ih := pts_bd l m n
    unfold pts at *
    rw [Sg_succ]
    split <;> omega
/-- what it costs, and what is lost -/
theorem cost_mine {l : List Of} (ok : Oks l) (m : Int) : cost l m * 10000 ≤ mine l m ∧ mine l m ≤ cost l m * 10000 + 9999 * pts l m l.length := by
  have e : cost l m = Sg l.length (cs l m) := rfl
  have b : ∀ i, i < l.length → cs l m i * 10000 ≤ tk l m i * pr l i ∧ tk l m i * pr l i ≤ cs l m i * 10000 + (if 0 < tk l m i then 1 else 0) * 9999 := fun i hi => by
    have c : cs l m i = tk l m i * pr l i / 10000 := rfl
    have d := tk_bd ok (m := m) hi
    by_cases q : 0 < tk l m i
    · rw [if_pos q]; omega
    · rw [if_neg q]
      have : tk l m i = 0 := by omega
      rw [this, Int.zero_mul] at c ⊢
      omega
  rw [e]
  constructor
  · rw [← Sg_mul]
    exact Sg_le fun i hi => (b i hi).1
  · have h2 : mine l m ≤ Sg l.length fun i => cs l m i * 10000 + (if 0 < tk l m i then 1 else 0) * 9999 := Sg_le fun i hi => (b i hi).2
    have h3 : (Sg l.length fun i => cs l m i * 10000 + (if 0 < tk l m i then 1 else 0) * 9999) = Sg l.length (cs l m) * 10000 + pts l m l.length * 9999 := by
      unfold pts
      rw [← Sg_mul, ← Sg_mul]
      have s := Sg_sub (fun i => cs l m i * 10000 + (if 0 < tk l m i then 1 else 0) * 9999) (fun i => (if 0 < tk l m i then (1 : Int) else 0) * 9999) l.length
      have s2 : (Sg l.length fun i => (cs l m i * 10000 + (if 0 < tk l m i then 1 else 0) * 9999) - (if 0 < tk l m i then (1 : Int) else 0) * 9999) = Sg l.length fun i => cs l m i * 10000 := Sg_eq fun i hi => by omega
      omega
    omega
/-- of more none costs less -/
theorem tk_more {l : List Of} {m n : Int} (h : m ≤ n) (ok : Oks l) {i : Nat} (hi : i < l.length) : tk l m i ≤ tk l n i := by
  have := un_nn ok i hi
  unfold tk Gr.tk
  generalize Gr.ahd (U l) (bf l) l.length i = x
  (repeat' split) <;> omega
theorem cost_more {l : List Of} {m n : Int} (h : m ≤ n) (ok : Oks l) : cost l m ≤ cost l n := Sg_le fun i hi => P.cost_mono (tk_more h ok hi) (pr_bd ok hi)
theorem cost_bd {l : List Of} (ok : Oks l) (m : Int) : 0 ≤ cost l m ∧ cost l m ≤ 4722366482869645200 := by
  have := csL_sum ok m l.length
  rw [List.take_of_length_le (by rw [csL_len]; exact Nat.le_refl _)] at this
  exact this
theorem U_app {l : List Of} {o : Of} {i : Nat} (h : i < l.length) : (l ++ [o]).getD i default = l.getD i default := by
  rw [getD_at (by simp; omega), getD_at h, List.getElem_append_left h]
/-- with an offer more it costs no more, but for what is lost -/
theorem cost_app {l : List Of} {o : Of} {m : Int} (ok : Oks l) (ok' : Oks (l ++ [o])) (hm : 1 ≤ m) (hs : m ≤ Sh.sm (us l)) : cost (l ++ [o]) m ≤ cost l m + l.length := by
  have len : (l ++ [o]).length = l.length + 1 := by simp
  have hs' : m ≤ Sh.sm (us (l ++ [o])) := by
    have : us (l ++ [o]) = us l ++ [o.un] := by simp [us]
    rw [this, Sh.sm_app]
    have := (ok'.all o (by simp)).2.1
    simp [Sh.sm]; omega
  have e1 : Sg (l ++ [o]).length (fun i => if i < l.length then tk l m i else 0) = m := by
    rw [len, Sg_succ, if_neg (by omega)]
    rw [Sg_eq (g := tk l m) fun i hi => if_pos hi, tk_sum ok (by omega) hs]
    omega
  have b := best ok' hm hs' (o := fun i => if i < l.length then tk l m i else 0) (fun i hi => by
    by_cases q : i < l.length
    · have t := tk_bd ok (m := m) q
      have e : U (l ++ [o]) i = U l i := by unfold U; rw [U_app q]
      simp only [if_pos q, e]; exact t
    · have := U_bd ok' hi
      simp only [if_neg q]; omega) e1
  have e2 : Sg (l ++ [o]).length (fun i => (if i < l.length then tk l m i else 0) * pr (l ++ [o]) i) = mine l m := by
    rw [len, Sg_succ, if_neg (by omega), Int.zero_mul]
    rw [Sg_eq (g := fun i => tk l m i * pr l i) fun i hi => by rw [if_pos hi]; unfold pr; rw [U_app hi]]
    unfold mine
    omega
  rw [e2] at b
  have c1 := cost_mine ok m
  have c2 := cost_mine ok' m
  have p := pts_bd l m l.length
  omega
/-! what comes back -/
def rem (a : List Int) (m : Int) (j : Nat) : Int := if Sh.sm (a.drop j) - m < 0 then 0 else Sh.sm (a.drop j) - m
theorem bk_rem {a : List Int} {m : Int} {i : Nat} (h : i < a.length) (h0 : 0 ≤ a.getD i default) : bk a m i = rem a m i - rem a m (i + 1) := by
  unfold bk bt rem
  rw [drop_sum h]
  generalize a.getD i default = x at *
  generalize Sh.sm (a.drop (i + 1)) = s at *
  (repeat' split) <;> omega
theorem rem_end {a : List Int} {m : Int} (hm : 0 ≤ m) : rem a m a.length = 0 := by
  unfold rem
  rw [List.drop_length]
  show (if (0 : Int) - m < 0 then (0 : Int) else 0 - m) = 0
  by_cases q : (0 : Int) - m < 0
  · rw [if_pos q]
  · rw [if_neg q]; omega
theorem bk_drop {a : List Int} {m : Int} (hm : 0 ≤ m) (h : ∀ x ∈ a, 0 ≤ x) : ∀ n j, j + n = a.length → Sh.sm ((bkL a m).drop j) = rem a m j
  | 0, j, e => by
    rw [List.drop_of_length_le (by rw [bkL_len]; omega), show j = a.length by omega, rem_end hm]; rfl
  | n + 1, j, e => by
    have ih := bk_drop hm h n (j + 1) (by omega)
    rw [drop_sum (by rw [bkL_len]; omega), ih, bkL_at (by omega), bk_rem (by omega) (h _ (getD_mem (by omega)))]
    omega
theorem bk_sum {a : List Int} {m : Int} (hm : 0 ≤ m) (hs : m ≤ Sh.sm a) (h : ∀ x ∈ a, 0 ≤ x) : Sh.sm (bkL a m) = Sh.sm a - m := by
  have := bk_drop hm h a.length 0 (by omega)
  rw [List.drop_zero] at this
  rw [this]
  unfold rem
  rw [List.drop_zero]
  split <;> omega
theorem bk_bd {a : List Int} {m : Int} {i : Nat} (h : i < a.length) (h0 : 0 ≤ a.getD i default) : 0 ≤ bk a m i ∧ bk a m i ≤ a.getD i default := by
  have := bt_nn a m (i + 1)
  unfold bk
  split <;> omega
theorem bk_nn {a : List Int} {m : Int} (h : ∀ x ∈ a, 0 ≤ x) : ∀ x ∈ bkL a m, 0 ≤ x := fun x hx => by
  obtain ⟨i, hi, rfl⟩ := List.getElem_of_mem hx
  rw [bkL_len] at hi
  rw [← getD_at, bkL_at hi]
  exact (bk_bd hi (h _ (getD_mem hi))).1
/-- some, and then some more, is all of it -/
theorem bk_twice {a : List Int} {m n : Int} (hm : 0 ≤ m) (hn : 0 ≤ n) (h : ∀ x ∈ a, 0 ≤ x) : bkL (bkL a m) n = bkL a (m + n) := by
  have rr : ∀ j, j ≤ a.length → rem (bkL a m) n j = rem a (m + n) j := fun j hj => by
    have e := bk_drop hm h (a.length - j) j (by omega)
    unfold rem
    rw [e]
    unfold rem
    (repeat' split) <;> omega
  refine List.ext_getElem (by rw [bkL_len, bkL_len, bkL_len]) fun i h1 h2 => ?_
  rw [bkL_len, bkL_len] at h1
  rw [← getD_at, ← getD_at, bkL_at (by rw [bkL_len]; exact h1), bkL_at h1, bk_rem (by rw [bkL_len]; exact h1) (bk_nn h _ (getD_mem (by rw [bkL_len]; exact h1))), bk_rem h1 (h _ (getD_mem h1)), rr i (by omega), rr (i + 1) (by omega)]
/-- the first ones lend longest -/
theorem bk_first {a : List Int} {m : Int} (h : ∀ x ∈ a, 0 ≤ x) {k i : Nat} (hki : k < i) (hi : i < a.length) (q : bk a m k < a.getD k default) : bk a m i = 0 := by
  have b1 : 0 < bt a m (k + 1) := by
    rcases bk_cases (m := m) (j := k) (by omega) (h _ (getD_mem (by omega))) with ⟨_, e, _⟩ | ⟨_, b, _⟩ | ⟨_, b, _⟩
    · omega
    · exact b
    · exact b
  have st : ∀ j, k < j → j ≤ a.length → 0 < bt a m j := by
    intro j
    induction j with
    | zero => intro z; omega
    | succ j ih =>
      intro z1 z2
      by_cases e : k = j
      · subst e; exact b1
      · have := ih (by omega) (by omega)
        have p := h _ (getD_mem (l := a) (k := j) (by omega))
        have s := bt_step (m := m) (j := j) (by omega) p
        split at s <;> omega
  have := st i hki (by omega)
  rcases bk_cases (m := m) (j := i) hi (h _ (getD_mem hi)) with ⟨c, e, f⟩ | ⟨_, _, _, e, _⟩ | ⟨_, _, _, _, e⟩
  · rcases c with c | c
    · omega
    · omega
  · exact e
  · omega
/-! shares -/
theorem raw_le {ws : List Int} {m : Int} (ok : Sh.Oks ws) (hm : 0 ≤ m) (hs : m ≤ Sh.sm ws) {j : Nat} (hj : j < ws.length) : (Sh.raw m ws).getD j default ≤ ws.getD j default := by
  have w := ok.all _ (getD_mem hj)
  have A := ok.sum
  have wh := Sh.whs_at (t := m) (ws := ws) hj
  have lf := Sh.lfs_at (t := m) (ws := ws) hj
  have mu : m * ws.getD j default ≤ Sh.sm ws * ws.getD j default := Int.mul_le_mul_of_nonneg_right hs w.1
  have dm := Int.mul_ediv_add_emod (m * ws.getD j default) (Sh.sm ws)
  have le : m * ws.getD j default / Sh.sm ws ≤ ws.getD j default := by
    have := Int.ediv_le_ediv (c := Sh.sm ws) (by omega) mu
    rwa [Int.mul_ediv_cancel_left _ (by omega)] at this
  by_cases g : Sh.got m ws j
  · rw [Sh.raw_in ok g, wh]
    have p := Sh.got_pos ok g
    rw [lf] at p
    generalize m * ws.getD j default / Sh.sm ws = q at *
    generalize m * ws.getD j default % Sh.sm ws = r at *
    have ne : q ≠ ws.getD j default := fun e => by
      subst e
      omega
    omega
  · rw [Sh.raw_out ok g, wh]; exact le
end O
end Go.Proofs.Ythimkklcphoohaa

/- How a struct api.Offer, and a list of such, are read off an argument. -/
namespace Go.Proofs.Ythimkklcphoohaa
open Go Go.RowKit Go.ChangeShapes Go.WideShapes Go.Deep V
set_option linter.unusedVariables false
set_option maxRecDepth 100000
noncomputable def ofFields : Array Field := (match Try.prog.underlying 41 with | some (.struct fs) => fs | _ => #[])
theorem ofStruct : Try.prog.underlying 41 = some (.struct ofFields) := by kernel_rfl
theorem ofOne : oneCellFields Try.prog ofFields = true := by kernel_rfl
theorem ofSize : ofFields.size = 3 := by kernel_rfl
theorem ofCells : Try.prog.cellsOf 41 = 3 := by kernel_rfl
theorem ofInts : (List.range 3).all (fun j => (ofFields[j]?).all (fun f => decide (f.type = 3))) = true := by kernel_rfl
theorem ofInt (j : Nat) (f : Field) (h : ofFields[j]? = some f) : Try.prog.underlying f.type = some (.int .i64) := by
  have hj : j < 3 := by have := (Array.getElem?_eq_some_iff.1 h).1; rw [ofSize] at this; exact this
  have := List.all_eq_true.1 ofInts j (List.mem_range.2 hj)
  rw [h] at this
  have e : f.type = 3 := by simpa using this
  rw [e]
  exact Try.underlying3
def WfOf (d : Of) : Prop := ∀ n ∈ [d.pt, d.un, d.pr], (Lit.int .i64 n).wf = true
theorem of_of {H : Type} {enc : TypeId × Value → H} {w : World} {base : Nat} {spare : Nat → Bool} {held : Bool} {fuel : Nat} {cs : List Value} {x : DataW H × List MemPlace} (h : DataW.trod enc Try.prog w base spare held fuel 41 cs = some x) :
    ∃ f : Of, cs = encO f ∧ WfOf f := by
  obtain ⟨ns, e, hl, wf⟩ := ints_struct ofStruct ofOne (ofCells.trans ofSize.symm) ofInt h
  rw [ofSize] at hl
  match ns, hl with
  | [a0, a1, a2], _ => exact ⟨⟨a0, a1, a2⟩, by simpa [encO] using e, wf⟩
theorem open_of {H : Type} {enc : TypeId × Value → H} {W : World} {base : Nat} {spare : Nat → Bool} {held : Bool} {r : Reach} {b0 : Nat} {v : Value} {d : DataW H} {p : List MemPlace} (hv : Value.okWide Try.prog W r b0 41 v) (h : DataW.Trod enc Try.prog W base spare held 41 v d p) :
    ∃ f : Of, v = .agg #[.int .i64 f.pt, .int .i64 f.un, .int .i64 f.pr] ∧ WfOf f := by
  obtain ⟨cs, rfl, _⟩ := okWide_struct ofStruct hv
  obtain ⟨fuel, hf⟩ := h
  obtain ⟨f, e, wf⟩ := of_of hf
  refine ⟨f, ?_, wf⟩
  obtain ⟨l⟩ := cs
  simp only [Value.cells] at e
  subst e
  rfl
theorem open_ofs {H : Type} {enc : TypeId × Value → H} {W : World} {base : Nat} {spare : Nat → Bool} {held : Bool} {r : Reach} {b0 : Nat} {v : Value} {d : DataW H} {p : List MemPlace} {t : Nat} (ht : Try.prog.underlying t = some (.slice 41)) (hv : Value.okWide Try.prog W r b0 t v) (h : DataW.Trod enc Try.prog W base spare held t v d p) :
    ∃ l : List Of, ArrIs W v 3 l.length (ga encO l) ∧ ∀ f ∈ l, WfOf f :=
  open_list ht ofCells (by omega) (fun fuel cs x hx => by
    obtain ⟨f, e, wf⟩ := of_of hx
    exact ⟨f, e, wf⟩) hv h
end Go.Proofs.Ythimkklcphoohaa
