/- What the functions on lists of fails answer. -/
import Derived.Test.YtmmfgepmochmeaaVFailM
import Derived.Test.YtmmfgepmochmeaaVRef
namespace Go.Proofs.Ytmmfgepmochmeaa
open Go Go.RowKit V
set_option maxRecDepth 100000
theorem v_rfopen (f : Fl) (h : F.Kn f ∧ F.Pt f) : V.Fn Try.prog 34 [] [.agg [.val (.int .i64 f.id), .val (.int .i64 f.fr), .val (.int .i64 f.to), .val (.int .i64 f.cl), .val (.int .i64 f.pa), .val (.int .i64 f.day), .val (.int .i64 f.un), .val (.int .i64 f.de), .val (.int .i64 f.bo), .val (.int .i64 f.pd)]] (.int .i64 (F.left f)) := by
  obtain ⟨⟨_, _, _, _, _, _, k1, k2⟩, ⟨p1, p2⟩, ⟨p3, p4⟩, p5, p6⟩ := h
  refine V.Fn.mk_ V.Tok V.mixed Try.func34 rfl Try.ntmps34 (by kernel_rfl) rfl rfl ?_
  repeat' ((conv => whnf); first | refine V.NCond.mk ?_ | refine V.NIf.not_ ?_ | refine V.NIf.dec_ ?_ | refine V.NIf.no (by omega) ?_ | refine V.NIf.yes (by omega) ?_ | refine V.NIf.mk (fun _ => ?_) (fun _ => ?_) | refine V.NWrap.ok (by omega) (by omega) ?_ | refine V.NWrap.u64 (by omega) (by omega) ?_ | refine V.NLt.mk (by omega) ?_ | refine V.NBoth.mk ?_ ?_ | refine V.NTF.yes (by omega) ?_ | refine V.NTF.no (by omega) ?_ | refine V.NTF.dec ?_ | refine V.NDraw.q (by exact rfl) (by kernel_rfl) ?_ | refine V.NApp.one (by first | omega | (simp; omega)) (by first | omega | (simp; omega)) ?_ | (refine V.NDraw.any (by kernel_rfl) ?_) | fail)
  exact congrArg (Value.int .i64) (by unfold F.left; omega)
theorem v_rfcheck (f : Fl) : V.Fn Try.prog 48 [] [.agg [.val (.int .i64 f.id), .val (.int .i64 f.fr), .val (.int .i64 f.to), .val (.int .i64 f.cl), .val (.int .i64 f.pa), .val (.int .i64 f.day), .val (.int .i64 f.un), .val (.int .i64 f.de), .val (.int .i64 f.bo), .val (.int .i64 f.pd)]] (.int .i64 (F.chk f)) := by
  refine V.Fn.mk_ V.Tok V.mixed Try.func48 rfl Try.ntmps48 (by kernel_rfl) rfl rfl ?_
  repeat' ((conv => whnf); first | refine V.NCond.mk ?_ | refine V.NIf.not_ ?_ | refine V.NIf.dec_ ?_ | refine V.NIf.no (by omega) ?_ | refine V.NIf.yes (by omega) ?_ | refine V.NIf.mk (fun _ => ?_) (fun _ => ?_) | refine V.NWrap.ok (by omega) (by omega) ?_ | refine V.NWrap.u64 (by omega) (by omega) ?_ | refine V.NLt.mk (by omega) ?_ | refine V.NBoth.mk ?_ ?_ | refine V.NTF.yes (by omega) ?_ | refine V.NTF.no (by omega) ?_ | refine V.NTF.dec ?_ | refine V.NDraw.q (by exact rfl) (by kernel_rfl) ?_ | refine V.NApp.one (by first | omega | (simp; omega)) (by first | omega | (simp; omega)) ?_ | (first | refine V.Fn.k0 (v_rbetween _ _ _) rfl ?_ | refine V.Fn.q0 (v_rbetween _ _ _) rfl ?_ | refine V.Fn.a0 (v_rbetween _ _ _) rfl ?_) | (first | refine V.Fn.k0 (v_rfopen f (by unfold F.Kn F.Pt; omega)) rfl ?_ | refine V.Fn.q0 (v_rfopen f (by unfold F.Kn F.Pt; omega)) rfl ?_ | refine V.Fn.a0 (v_rfopen f (by unfold F.Kn F.Pt; omega)) rfl ?_) | (refine V.NDraw.any (by kernel_rfl) ?_) | fail)
  all_goals (try simp only [F.left] at *)
  all_goals ((conv => whnf); refine congrArg _ ?_; unfold F.chk F.Pt F.Kn; (repeat' split) <;> first | rfl | omega | (exfalso; omega) | (simp_all; done) | (simp_all; omega))
theorem v_rfchecks (l : List Fl) : V.Fn Try.prog 31 [.arr 10 l.length (ga encF l)] [.one (.ref 0)] (.int .i64 (F.checks l)) := by
  refine V.Fn.mk_ V.Tok V.mixed Try.func31 rfl Try.ntmps31 (by kernel_rfl) rfl rfl ?_
  (conv => whnf)
  refine V.NCond.mk ?_
  refine NIf.mk (fun hm => ?_) (fun hm => ?_)
  · exact congrArg (Value.int .i64) (F.checks_many (by omega)).symm
  have hlen : l.length ≤ 60 := by omega
  (conv => whnf)
  refine V.NLoop.go (fun (k : Nat) => [(3, .one (.val (.int .i64 k)))]) (fun (k : Nat) => []) [0] [0] (fun (k : Nat) => l.length - k) (fun (k : Nat) => k ≤ l.length ∧ F.checks l = F.ckFrom ((l.take k).map (·.id)) (l.drop k)) 0 ⟨by omega, F.checks_few hlen⟩ (by repeat' (first | exact rfl | exact Iff.rfl | exact trivial | exact (fun _ _ => rfl) | exact (fun _ h => absurd h (Nat.not_lt_zero _)) | refine ⟨?_, ?_⟩ | exact Iff.rfl | exact congrArg (fun z => V.SV.one (V.At.val (Value.int .i64 z))) (by omega))) (by repeat' (first | exact rfl | exact Iff.rfl | exact trivial | exact (fun _ _ => rfl) | exact (fun _ h => absurd h (Nat.not_lt_zero _)) | refine ⟨?_, ?_⟩ | exact Iff.rfl | exact congrArg (fun z => V.SV.one (V.At.val (Value.int .i64 z))) (by omega))) (fun _ => ⟨rfl, rfl⟩) ?_; (conv => whnf); refine ⟨⟨rfl, rfl⟩, ?_⟩
  rintro k ⟨hk, hJ⟩
  repeat' ((conv => whnf); first | refine V.NCond.mk ?_ | refine V.NIf.not_ ?_ | refine V.NIf.dec_ ?_ | refine V.NIf.no (by omega) ?_ | refine V.NIf.yes (by omega) ?_ | refine V.NIf.mk (fun _ => ?_) (fun _ => ?_) | refine V.NWrap.ok (by omega) (by omega) ?_ | refine V.NWrap.u64 (by omega) (by omega) ?_ | refine V.NLt.mk (by omega) ?_ | refine V.NBoth.mk ?_ ?_ | refine V.NTF.yes (by omega) ?_ | refine V.NTF.no (by omega) ?_ | refine V.NTF.dec ?_ | refine V.NDraw.q (by exact rfl) (by kernel_rfl) ?_ | refine V.NApp.one (by first | omega | (simp; omega)) (by first | omega | (simp; omega)) ?_ | (refine NIdx.mk ⟨_, rfl, by omega, ?_⟩) | (first | refine V.Fn.k0 (v_rfcheck (l.getD k default)) rfl ?_ | refine V.Fn.q0 (v_rfcheck (l.getD k default)) rfl ?_ | refine V.Fn.a0 (v_rfcheck (l.getD k default)) rfl ?_) | (refine V.NDraw.any (by kernel_rfl) ?_) | fail)
  · rename_i h0
    have hlt : k < l.length := by omega
    rw [getD_at hlt] at h0
    (conv => whnf)
    refine V.NLoop.go (fun (j : Nat) => [(5, .one (.val (.int .i64 j)))]) (fun (j : Nat) => []) [0, 3] [0] (fun (j : Nat) => k - j) (fun (j : Nat) => j ≤ k ∧ l[k].id ∉ (l.take j).map (·.id)) 0 ⟨by omega, by simp⟩ (by repeat' (first | exact rfl | exact Iff.rfl | exact trivial | exact (fun _ _ => rfl) | exact (fun _ h => absurd h (Nat.not_lt_zero _)) | refine ⟨?_, ?_⟩ | exact Iff.rfl | exact congrArg (fun z => V.SV.one (V.At.val (Value.int .i64 z))) (by omega))) (by repeat' (first | exact rfl | exact Iff.rfl | exact trivial | exact (fun _ _ => rfl) | exact (fun _ h => absurd h (Nat.not_lt_zero _)) | refine ⟨?_, ?_⟩ | exact Iff.rfl | exact congrArg (fun z => V.SV.one (V.At.val (Value.int .i64 z))) (by omega))) (fun _ => ⟨rfl, rfl⟩) ?_; (conv => whnf); refine ⟨⟨rfl, rfl⟩, ?_⟩
    rintro j ⟨hj, hnot⟩
    repeat' ((conv => whnf); first | refine V.NCond.mk ?_ | refine V.NIf.not_ ?_ | refine V.NIf.dec_ ?_ | refine V.NIf.no (by omega) ?_ | refine V.NIf.yes (by omega) ?_ | refine V.NIf.mk (fun _ => ?_) (fun _ => ?_) | refine V.NWrap.ok (by omega) (by omega) ?_ | refine V.NWrap.u64 (by omega) (by omega) ?_ | refine V.NLt.mk (by omega) ?_ | refine V.NBoth.mk ?_ ?_ | refine V.NTF.yes (by omega) ?_ | refine V.NTF.no (by omega) ?_ | refine V.NTF.dec ?_ | refine V.NDraw.q (by exact rfl) (by kernel_rfl) ?_ | refine V.NApp.one (by first | omega | (simp; omega)) (by first | omega | (simp; omega)) ?_ | (refine NIdx.mk ⟨_, rfl, by omega, ?_⟩) | (refine NDraw.mk (by kernel_rfl) ?_) | (refine V.NDraw.any (by kernel_rfl) ?_) | fail)
    · rename_i hj2 he
      have hj3 : j < l.length := by omega
      rw [getD_at hj3, getD_at hlt] at he
      refine congrArg (Value.int .i64) ?_
      rw [hJ]; exact (F.ckStep_twice hlt _ h0 (F.mem_take hj3 (by omega) he)).symm
    · rename_i hj2 he
      have hj3 : j < l.length := by omega
      rw [getD_at hj3, getD_at hlt] at he
      (conv => whnf)
      refine V.NBack.at_ (j + 1) [] ⟨by omega, F.not_snoc hj3 hnot he⟩ (by omega) (by repeat' (first | exact rfl | exact Iff.rfl | exact trivial | exact (fun _ _ => rfl) | exact (fun _ h => absurd h (Nat.not_lt_zero _)) | refine ⟨?_, ?_⟩ | exact Iff.rfl | exact congrArg (fun z => V.SV.one (V.At.val (Value.int .i64 z))) (by omega))) rfl (by repeat' (first | exact rfl | exact Iff.rfl | exact trivial | exact (fun _ _ => rfl) | exact (fun _ h => absurd h (Nat.not_lt_zero _)) | refine ⟨?_, ?_⟩ | exact Iff.rfl | exact congrArg (fun z => V.SV.one (V.At.val (Value.int .i64 z))) (by omega))) (by repeat' (first | exact rfl | exact Iff.rfl | exact trivial | exact (fun _ _ => rfl) | exact (fun _ h => absurd h (Nat.not_lt_zero _)) | refine ⟨?_, ?_⟩ | exact Iff.rfl | exact congrArg (fun z => V.SV.one (V.At.val (Value.int .i64 z))) (by omega))) (by repeat' (first | exact rfl | exact Iff.rfl | exact trivial | exact (fun _ _ => rfl) | exact (fun _ h => absurd h (Nat.not_lt_zero _)) | refine ⟨?_, ?_⟩ | exact Iff.rfl | exact congrArg (fun z => V.SV.one (V.At.val (Value.int .i64 z))) (by omega)))
    · obtain rfl : j = k := by omega
      (conv => whnf)
      refine V.NBack.at_ (j + 1) [] ⟨by omega, ?_⟩ (by omega) (by repeat' (first | exact rfl | exact Iff.rfl | exact trivial | exact (fun _ _ => rfl) | exact (fun _ h => absurd h (Nat.not_lt_zero _)) | refine ⟨?_, ?_⟩ | exact Iff.rfl | exact congrArg (fun z => V.SV.one (V.At.val (Value.int .i64 z))) (by omega))) rfl (by repeat' (first | exact rfl | exact Iff.rfl | exact trivial | exact (fun _ _ => rfl) | exact (fun _ h => absurd h (Nat.not_lt_zero _)) | refine ⟨?_, ?_⟩ | exact Iff.rfl | exact congrArg (fun z => V.SV.one (V.At.val (Value.int .i64 z))) (by omega))) (by repeat' (first | exact rfl | exact Iff.rfl | exact trivial | exact (fun _ _ => rfl) | exact (fun _ h => absurd h (Nat.not_lt_zero _)) | refine ⟨?_, ?_⟩ | exact Iff.rfl | exact congrArg (fun z => V.SV.one (V.At.val (Value.int .i64 z))) (by omega))) (by repeat' (first | exact rfl | exact Iff.rfl | exact trivial | exact (fun _ _ => rfl) | exact (fun _ h => absurd h (Nat.not_lt_zero _)) | refine ⟨?_, ?_⟩ | exact Iff.rfl | exact congrArg (fun z => V.SV.one (V.At.val (Value.int .i64 z))) (by omega)))
      rw [hJ]; exact F.ckStep_on hlt h0 hnot
  · refine congrArg (Value.int .i64) ?_
    rw [hJ, F.ckStep_err (by omega) _ (by rw [← getD_at]; assumption), ← getD_at]
  · obtain rfl : k = l.length := by omega
    exact congrArg (Value.int .i64) (by rw [hJ, F.ckEnd])
end Go.Proofs.Ytmmfgepmochmeaa
