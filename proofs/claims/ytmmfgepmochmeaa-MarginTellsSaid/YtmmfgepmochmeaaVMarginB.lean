/- What must be in any case, of what is put down. -/
import Derived.Test.YtmmfgepmochmeaaVMarginR
import Derived.Test.YtmmfgepmochmeaaVFailB
namespace Go.Proofs.Ytmmfgepmochmeaa
open Go Go.RowKit V
set_option maxRecDepth 100000
set_option linter.unusedVariables false
set_option linter.unusedSimpArgs false
namespace K
def st0 : List St := [⟨1, 100, 9000⟩, ⟨2, 10, 5000⟩]
def ten : List Int := List.replicate 20 100000
def tens (k : Nat) : List Int := List.replicate k 100000 ++ List.replicate (20 - k) 0
theorem tens_len {k : Nat} (h : k ≤ 20) : (tens k).length = 20 := by simp [tens]; omega
theorem tens_succ {k : Nat} (h : k < 20) : tens (k + 1) = (tens k).set k 100000 := by
  apply List.ext_getElem
  · rw [List.length_set, tens_len (by omega), tens_len (by omega)]
  · intro i h1 h2
    simp only [tens, List.getElem_set, List.getElem_append, List.length_replicate, List.getElem_replicate]
    (repeat' split) <;> omega
theorem b_chks : P.chks ten = 0 := by decide +kernel
theorem b_v : vV st0 ten = 950 ∧ vE st0 ten = 0 := by decide +kernel
theorem b_n : nV [F.s0] ten 1 2000 = 200 ∧ nE [F.s0] ten 1 2000 = 0 := by decide +kernel
theorem b_c : caV 150 200 10 = 50 ∧ caE 150 200 10 = 0 := by decide +kernel
theorem b_s1 : spE st0 ten 500 0 = 0 := by decide +kernel
theorem b_s2 : spE st0 ten 951 0 = 4 := by decide +kernel
theorem b_s3 : spE st0 ten 1 2 = 5 := by decide +kernel
theorem b_sp : spV st0 ten 500 0 = 50 := by
  have e : spV st0 ten 500 0 = (st0.getD 0 default).un - stay ten (st0.getD 0 default) (oth ten st0 0) 500 := if_pos b_s1
  rw [e, stay_is (m := 50) b_chks (by decide +kernel) ⟨by decide +kernel, by decide +kernel, by decide +kernel⟩]
  rfl
end K
theorem v_stakes : V.FnR Try.prog 37 [] [] (.one (.ref 0)) [.arr 3 K.st0.length (ga encS K.st0)] := by
  refine V.FnR.mk_ V.Tok V.mixed Try.func37 rfl Try.ntmps37 (by kernel_rfl) rfl rfl rfl rfl ?_
  repeat' ((conv => whnf); first | refine V.NCond.mk ?_ | refine V.NIf.not_ ?_ | refine V.NIf.dec_ ?_ | refine V.NIf.no (by omega) ?_ | refine V.NIf.yes (by omega) ?_ | refine V.NIf.mk (fun _ => ?_) (fun _ => ?_) | refine V.NWrap.ok (by omega) (by omega) ?_ | refine V.NWrap.u64 (by omega) (by omega) ?_ | refine V.NLt.mk (by omega) ?_ | refine V.NBoth.mk ?_ ?_ | refine V.NTF.yes (by omega) ?_ | refine V.NTF.no (by omega) ?_ | refine V.NTF.dec ?_ | refine V.NDraw.q (by exact rfl) (by kernel_rfl) ?_ | refine V.NApp.one (by first | omega | (simp; omega)) (by first | omega | (simp; omega)) ?_ | (refine V.NDraw.any (by kernel_rfl) ?_) | fail)
  refine NRet.mk_ [some 1] rfl ?_ ?_
  · exact rfl
  · exact ⟨⟨rfl, rfl, by repeat' (first | exact trivial | refine ⟨?_, ?_⟩ | rfl)⟩, trivial⟩
theorem v_tenEach : V.FnR Try.prog 38 [] [] (.one (.ref 0)) [.row 3 1 K.ten.length (ga e1 K.ten)] := by
  refine V.FnR.mk_ V.Tok V.mixed Try.func38 rfl Try.ntmps38 (by kernel_rfl) rfl rfl rfl rfl ?_
  repeat' ((conv => whnf); first | refine V.NCond.mk ?_ | refine V.NIf.not_ ?_ | refine V.NIf.dec_ ?_ | refine V.NIf.no (by omega) ?_ | refine V.NIf.yes (by omega) ?_ | refine V.NIf.mk (fun _ => ?_) (fun _ => ?_) | refine V.NWrap.ok (by omega) (by omega) ?_ | refine V.NWrap.u64 (by omega) (by omega) ?_ | refine V.NLt.mk (by omega) ?_ | refine V.NBoth.mk ?_ ?_ | refine V.NTF.yes (by omega) ?_ | refine V.NTF.no (by omega) ?_ | refine V.NTF.dec ?_ | refine V.NDraw.q (by exact rfl) (by kernel_rfl) ?_ | refine V.NApp.one (by first | omega | (simp; omega)) (by first | omega | (simp; omega)) ?_ | (refine NMake.mk ⟨20, 20, rfl, rfl, by omega, by omega, by first | omega | decide | (simp; done) | (simp; omega), ?_⟩) | (refine V.NDraw.any (by kernel_rfl) ?_) | fail)
  all_goals (conv => whnf)
  refine V.NLoop.auto (fun (k : Nat) => [(2, .one (.val (.int .i64 k))), (1, .one (.ref 1))]) (fun (k : Nat) => [(1, .row 3 1 (K.tens k).length (ga e1 (K.tens k)))]) [] [] (fun (k : Nat) => 20 - k) (fun (k : Nat) => k ≤ 20) 0 (Nat.zero_le _) (by repeat' (first | exact rfl | exact Iff.rfl | exact trivial | exact (fun _ _ => rfl) | exact (fun _ h => absurd h (Nat.not_lt_zero _)) | refine ⟨?_, ?_⟩ | exact Iff.rfl | exact congrArg (fun z => V.SV.one (V.At.val (Value.int .i64 z))) (by omega))) (by (conv => whnf); exact ⟨ObLe.rep 0 rfl (fun _ => rfl), trivial⟩) (fun _ => ⟨rfl, rfl⟩) ?_; (conv => whnf); refine ⟨⟨rfl, rfl⟩, ?_⟩
  rintro k hk
  have tl := K.tens_len hk
  by_cases hlt : k < 20
  · repeat' ((conv => whnf); first | refine V.NCond.mk ?_ | refine V.NIf.not_ ?_ | refine V.NIf.dec_ ?_ | refine V.NIf.no (by omega) ?_ | refine V.NIf.yes (by omega) ?_ | refine V.NIf.mk (fun _ => ?_) (fun _ => ?_) | refine V.NWrap.ok (by omega) (by omega) ?_ | refine V.NWrap.u64 (by omega) (by omega) ?_ | refine V.NLt.mk (by omega) ?_ | refine V.NBoth.mk ?_ ?_ | refine V.NTF.yes (by omega) ?_ | refine V.NTF.no (by omega) ?_ | refine V.NTF.dec ?_ | refine V.NDraw.q (by exact rfl) (by kernel_rfl) ?_ | refine V.NApp.one (by first | omega | (simp; omega)) (by first | omega | (simp; omega)) ?_ | (refine NIdx.mk ⟨k, rfl, by omega, ?_⟩) | (refine NPut.to (100000 : Int) (by first | rfl | simp) rfl ?_) | (refine V.NDraw.any (by kernel_rfl) ?_) | fail)
    all_goals (conv => whnf)
    exact V.NBack.at_ (k + 1) [] (by omega) (by omega) (by repeat' (first | exact rfl | exact Iff.rfl | exact trivial | exact (fun _ _ => rfl) | exact (fun _ h => absurd h (Nat.not_lt_zero _)) | refine ⟨?_, ?_⟩ | exact Iff.rfl | exact congrArg (fun z => V.SV.one (V.At.val (Value.int .i64 z))) (by omega))) rfl ⟨ObLe.is_ (K.tens_succ hlt) (by rw [K.tens_len hk, K.tens_len (by omega)]), trivial⟩ (by repeat' (first | exact rfl | exact Iff.rfl | exact trivial | exact (fun _ _ => rfl) | exact (fun _ h => absurd h (Nat.not_lt_zero _)) | refine ⟨?_, ?_⟩ | exact Iff.rfl | exact congrArg (fun z => V.SV.one (V.At.val (Value.int .i64 z))) (by omega))) (by repeat' (first | exact rfl | exact Iff.rfl | exact trivial | exact (fun _ _ => rfl) | exact (fun _ h => absurd h (Nat.not_lt_zero _)) | refine ⟨?_, ?_⟩ | exact Iff.rfl | exact congrArg (fun z => V.SV.one (V.At.val (Value.int .i64 z))) (by omega)))
  obtain rfl : k = 20 := by omega
  repeat' ((conv => whnf); first | refine V.NCond.mk ?_ | refine V.NIf.not_ ?_ | refine V.NIf.dec_ ?_ | refine V.NIf.no (by omega) ?_ | refine V.NIf.yes (by omega) ?_ | refine V.NIf.mk (fun _ => ?_) (fun _ => ?_) | refine V.NWrap.ok (by omega) (by omega) ?_ | refine V.NWrap.u64 (by omega) (by omega) ?_ | refine V.NLt.mk (by omega) ?_ | refine V.NBoth.mk ?_ ?_ | refine V.NTF.yes (by omega) ?_ | refine V.NTF.no (by omega) ?_ | refine V.NTF.dec ?_ | refine V.NDraw.q (by exact rfl) (by kernel_rfl) ?_ | refine V.NApp.one (by first | omega | (simp; omega)) (by first | omega | (simp; omega)) ?_ | (refine V.NDraw.any (by kernel_rfl) ?_) | fail)
  refine NRet.mk_ [some 1] rfl ?_ ?_
  · exact rfl
  · exact ⟨ObLe.is_ rfl rfl, trivial⟩
set_option maxHeartbeats 4000000 in
theorem v_mgbegun : V.Fn Try.prog 18 [] [] (.bool true) := by
  have a1 := v_mgVal K.st0 K.ten (by decide) (by decide)
  have a2 := v_mgNeed [F.s0] K.ten 1 2000 (by decide)
  have a3 := v_mgCall 150 200 10
  have a4 := v_mgSpare K.st0 K.ten 500 0 (by decide) (by decide)
  have a5 := v_mgSpare K.st0 K.ten 951 0 (by decide) (by decide)
  have a6 := v_mgSpare K.st0 K.ten 1 2 (by decide) (by decide)
  rw [K.b_v.1, K.b_v.2] at a1
  rw [K.b_n.1, K.b_n.2] at a2
  rw [K.b_c.1, K.b_c.2] at a3
  rw [K.b_sp, K.b_s1] at a4
  rw [K.sp_no (by rw [K.b_s2]; decide), K.b_s2] at a5
  rw [K.sp_no (by rw [K.b_s3]; decide), K.b_s3] at a6
  refine V.Fn.mk_ V.Tok V.mixed Try.func18 rfl Try.ntmps18 (by kernel_rfl) rfl rfl ?_
  repeat' ((conv => whnf); first | (refine V.NIf.yes ?_ ?_; · (decide; done)) | refine V.NCond.mk ?_ | refine V.NIf.not_ ?_ | refine V.NIf.dec_ ?_ | refine V.NIf.no (by omega) ?_ | refine V.NIf.yes (by omega) ?_ | refine V.NIf.mk (fun _ => ?_) (fun _ => ?_) | refine V.NWrap.ok (by omega) (by omega) ?_ | refine V.NWrap.u64 (by omega) (by omega) ?_ | refine V.NLt.mk (by omega) ?_ | refine V.NBoth.mk ?_ ?_ | refine V.NTF.yes (by omega) ?_ | refine V.NTF.no (by omega) ?_ | refine V.NTF.dec ?_ | refine V.NDraw.q (by exact rfl) (by kernel_rfl) ?_ | refine V.NApp.one (by first | omega | (simp; omega)) (by first | omega | (simp; omega)) ?_ | (first | refine V.FnR.k0 (v_stakes) rfl ?_ | refine V.FnR.a0 (v_stakes) rfl ?_) | (first | refine V.FnR.k0 (v_tenEach) rfl ?_ | refine V.FnR.a0 (v_tenEach) rfl ?_) | (first | refine V.Fn.k0 (v_some) rfl ?_ | refine V.Fn.q0 (v_some) rfl ?_ | refine V.Fn.a0 (v_some) rfl ?_) | (first | refine V.Fn.k0 (a3) rfl ?_ | refine V.Fn.q0 (a3) rfl ?_ | refine V.Fn.a0 (a3) rfl ?_) | ((first | refine V.Fn.k (a1) [0, 1] rfl ?_ ?_ | refine V.Fn.q (a1) [0, 1] rfl ?_ ?_ | refine V.Fn.a (a1) [0, 1] rfl ?_ ?_); · ((repeat' (first | exact rfl | exact Iff.rfl | exact trivial | exact (fun _ _ => rfl) | exact (fun _ h => absurd h (Nat.not_lt_zero _)) | refine ⟨?_, ?_⟩ | exact Iff.rfl | exact congrArg (fun z => V.SV.one (V.At.val (Value.int .i64 z))) (by omega))); done)) | ((first | refine V.Fn.k (a2) [2, 3] rfl ?_ ?_ | refine V.Fn.q (a2) [2, 3] rfl ?_ ?_ | refine V.Fn.a (a2) [2, 3] rfl ?_ ?_); · ((repeat' (first | exact rfl | exact Iff.rfl | exact trivial | exact (fun _ _ => rfl) | exact (fun _ h => absurd h (Nat.not_lt_zero _)) | refine ⟨?_, ?_⟩ | exact Iff.rfl | exact congrArg (fun z => V.SV.one (V.At.val (Value.int .i64 z))) (by omega))); done)) | ((first | refine V.Fn.k (a4) [4, 5] rfl ?_ ?_ | refine V.Fn.q (a4) [4, 5] rfl ?_ ?_ | refine V.Fn.a (a4) [4, 5] rfl ?_ ?_); · ((repeat' (first | exact rfl | exact Iff.rfl | exact trivial | exact (fun _ _ => rfl) | exact (fun _ h => absurd h (Nat.not_lt_zero _)) | refine ⟨?_, ?_⟩ | exact Iff.rfl | exact congrArg (fun z => V.SV.one (V.At.val (Value.int .i64 z))) (by omega))); done)) | ((first | refine V.Fn.k (a5) [6, 7] rfl ?_ ?_ | refine V.Fn.q (a5) [6, 7] rfl ?_ ?_ | refine V.Fn.a (a5) [6, 7] rfl ?_ ?_); · ((repeat' (first | exact rfl | exact Iff.rfl | exact trivial | exact (fun _ _ => rfl) | exact (fun _ h => absurd h (Nat.not_lt_zero _)) | refine ⟨?_, ?_⟩ | exact Iff.rfl | exact congrArg (fun z => V.SV.one (V.At.val (Value.int .i64 z))) (by omega))); done)) | ((first | refine V.Fn.k (a6) [8, 9] rfl ?_ ?_ | refine V.Fn.q (a6) [8, 9] rfl ?_ ?_ | refine V.Fn.a (a6) [8, 9] rfl ?_ ?_); · ((repeat' (first | exact rfl | exact Iff.rfl | exact trivial | exact (fun _ _ => rfl) | exact (fun _ h => absurd h (Nat.not_lt_zero _)) | refine ⟨?_, ?_⟩ | exact Iff.rfl | exact congrArg (fun z => V.SV.one (V.At.val (Value.int .i64 z))) (by omega))); done)) | ((first | refine V.Fn.k (v_mgcheck [⟨0, 0, 0⟩] (by decide)) [10] rfl ?_ ?_ | refine V.Fn.q (v_mgcheck [⟨0, 0, 0⟩] (by decide)) [10] rfl ?_ ?_ | refine V.Fn.a (v_mgcheck [⟨0, 0, 0⟩] (by decide)) [10] rfl ?_ ?_); · ((repeat' (first | exact rfl | exact Iff.rfl | exact trivial | exact (fun _ _ => rfl) | exact (fun _ h => absurd h (Nat.not_lt_zero _)) | refine ⟨?_, ?_⟩ | exact Iff.rfl | exact congrArg (fun z => V.SV.one (V.At.val (Value.int .i64 z))) (by omega))); done)) | (refine V.NDraw.any (by kernel_rfl) ?_) | fail)
  all_goals (conv => whnf)
  exact ⟨true, rfl, iff_of_true (by decide) rfl⟩
end Go.Proofs.Ytmmfgepmochmeaa
