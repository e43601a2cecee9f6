/- What MarginValue answers: true. -/
import Derived.Test.YtmmfgepmochmeaaVMarginB
import Derived.Test.YtmmfgepmochmeaaVOpenS
import Derived.Test.YtmmfgepmochmeaaVOpenI
namespace Go.Proofs.Ytmmfgepmochmeaa
open Go Go.RowKit V
set_option maxRecDepth 100000
set_option linter.unusedVariables false
set_option linter.unusedSimpArgs false
set_option maxHeartbeats 4000000 in
theorem v_marginValue (l : List St) (wl : ∀ f ∈ l, WfS f) (m : List St) (wm : ∀ f ∈ m, WfS f) (ps : List Int) (wp : ∀ f ∈ ps, (Lit.int .i64 f).wf = true) : V.Fn Try.prog 7 [.arr 3 l.length (ga encS l), .arr 3 m.length (ga encS m), .arr 1 ps.length (ga e1 ps)] [.one (.ref 0), .one (.ref 1), .one (.ref 2)] (.bool true) := by
  clear wl wm wp
  refine V.Fn.lim (by kernel_rfl) fun hl => ?_
  have nl := hl 0 _ _ _ rfl
  have nm := hl 1 _ _ _ rfl
  have np := hl 2 _ _ _ rfl
  clear hl
  have z1 : ¬ K.vE l ps = 0 → K.vV l ps = 0 := fun h => if_neg h
  have small : K.vE l ps = 0 → l.length ≤ 40 := fun h => (K.chk_ok (K.ck_ok (K.v_ok h).1).1).1
  have small2 : K.vE m ps = 0 → m.length ≤ 40 := fun h => (K.chk_ok (K.ck_ok (K.v_ok h).1).1).1
  refine V.Fn.mk_ V.Tok V.mixed Try.func7 rfl Try.ntmps7 (by kernel_rfl) rfl rfl ?_
  repeat' ((conv => whnf); first | (refine V.NIf.yes ?_ ?_; · (simp only [true_and, and_true, and_self]; done)) | refine V.NCond.mk ?_ | refine V.NIf.not_ ?_ | refine V.NIf.dec_ ?_ | refine V.NIf.no (by omega) ?_ | refine V.NIf.yes (by omega) ?_ | refine V.NIf.mk (fun _ => ?_) (fun _ => ?_) | refine V.NWrap.ok (by omega) (by omega) ?_ | refine V.NWrap.u64 (by omega) (by omega) ?_ | refine V.NLt.mk (by omega) ?_ | refine V.NBoth.mk ?_ ?_ | refine V.NTF.yes (by omega) ?_ | refine V.NTF.no (by omega) ?_ | refine V.NTF.dec ?_ | refine V.NDraw.q (by exact rfl) (by kernel_rfl) ?_ | refine V.NApp.one (by first | omega | (simp; omega)) (by first | omega | (simp; omega)) ?_ | ((first | refine V.Fn.k (v_mgVal l ps nl np) [0, 2] rfl ?_ ?_ | refine V.Fn.q (v_mgVal l ps nl np) [0, 2] rfl ?_ ?_ | refine V.Fn.a (v_mgVal l ps nl np) [0, 2] rfl ?_ ?_); · ((repeat' (first | exact rfl | exact Iff.rfl | exact trivial | exact (fun _ _ => rfl) | exact (fun _ h => absurd h (Nat.not_lt_zero _)) | refine ⟨?_, ?_⟩ | exact Iff.rfl | exact congrArg (fun z => V.SV.one (V.At.val (Value.int .i64 z))) (by omega))); done)) | ((first | refine V.Fn.k (v_mgVal m ps nm np) [1, 2] rfl ?_ ?_ | refine V.Fn.q (v_mgVal m ps nm np) [1, 2] rfl ?_ ?_ | refine V.Fn.a (v_mgVal m ps nm np) [1, 2] rfl ?_ ?_); · ((repeat' (first | exact rfl | exact Iff.rfl | exact trivial | exact (fun _ _ => rfl) | exact (fun _ h => absurd h (Nat.not_lt_zero _)) | refine ⟨?_, ?_⟩ | exact Iff.rfl | exact congrArg (fun z => V.SV.one (V.At.val (Value.int .i64 z))) (by omega))); done)) | (first | refine V.Fn.k0 (v_mgbegun) rfl ?_ | refine V.Fn.q0 (v_mgbegun) rfl ?_ | refine V.Fn.a0 (v_mgbegun) rfl ?_) | (refine NOne.mk ?_ ?_; · (intro k hk; rfl)) | (refine NApp.all_ (en := encS) (by have := small (by assumption); first | omega | (simp; omega)) (by omega) ?_) | (refine NApp.list (en := encS) (l := l) (m := m) (by have := small (by assumption); have := small2 (by assumption); first | omega | (simp; omega)) (by have := small (by assumption); have := small2 (by assumption); omega) ?_) | ((first | refine V.Fn.k (v_mgVal (l ++ m) ps (by have := small (by assumption); have := small2 (by assumption); rw [List.length_append]; omega) np) [5, 2] rfl ?_ ?_ | refine V.Fn.q (v_mgVal (l ++ m) ps (by have := small (by assumption); have := small2 (by assumption); rw [List.length_append]; omega) np) [5, 2] rfl ?_ ?_ | refine V.Fn.a (v_mgVal (l ++ m) ps (by have := small (by assumption); have := small2 (by assumption); rw [List.length_append]; omega) np) [5, 2] rfl ?_ ?_); · ((repeat' (first | exact rfl | exact Iff.rfl | exact trivial | exact (fun _ _ => rfl) | exact (fun _ h => absurd h (Nat.not_lt_zero _)) | refine ⟨?_, ?_⟩ | exact Iff.rfl | exact congrArg (fun z => V.SV.one (V.At.val (Value.int .i64 z))) (by omega))); done)) | (refine V.NDraw.any (by kernel_rfl) ?_) | fail)
  all_goals (conv => whnf)
  rotate_left
  · exact ⟨true, rfl, iff_of_true (z1 (by assumption)) rfl⟩
  have s1 := small (by assumption)
  have s2 := small2 (by assumption)
  have tw := K.two (l := l) (m := m) (ps := ps) (by assumption) (by assumption)
  have nv := K.noth_v (l := l) (ps := ps) (by assumption)
  refine V.NLoop.auto (fun (k : Nat) => [(14, .one (.val (.int .i64 k))), (13, .one (.ref 6))]) (fun (k : Nat) => [(6, .row 37 3 (K.noth l k).length (ga encS (K.noth l k)))]) [] [] (fun (k : Nat) => l.length - k) (fun (k : Nat) => k ≤ l.length) 0 (Nat.zero_le _) (by repeat' (first | exact rfl | exact Iff.rfl | exact trivial | exact (fun _ _ => rfl) | exact (fun _ h => absurd h (Nat.not_lt_zero _)) | refine ⟨?_, ?_⟩ | exact Iff.rfl | exact congrArg (fun z => V.SV.one (V.At.val (Value.int .i64 z))) (by omega))) (by repeat' (first | exact rfl | exact Iff.rfl | exact trivial | exact (fun _ _ => rfl) | exact (fun _ h => absurd h (Nat.not_lt_zero _)) | refine ⟨?_, ?_⟩ | exact Iff.rfl | exact congrArg (fun z => V.SV.one (V.At.val (Value.int .i64 z))) (by omega))) (fun _ => ⟨rfl, rfl⟩) ?_; (conv => whnf); refine ⟨⟨rfl, rfl⟩, ?_⟩
  rintro k hk
  have kl : (K.noth l k).length = k := by simp [K.noth]; omega
  by_cases hlt : k < l.length
  · repeat' ((conv => whnf); first | refine V.NCond.mk ?_ | refine V.NIf.not_ ?_ | refine V.NIf.dec_ ?_ | refine V.NIf.no (by omega) ?_ | refine V.NIf.yes (by omega) ?_ | refine V.NIf.mk (fun _ => ?_) (fun _ => ?_) | refine V.NWrap.ok (by omega) (by omega) ?_ | refine V.NWrap.u64 (by omega) (by omega) ?_ | refine V.NLt.mk (by omega) ?_ | refine V.NBoth.mk ?_ ?_ | refine V.NTF.yes (by omega) ?_ | refine V.NTF.no (by omega) ?_ | refine V.NTF.dec ?_ | refine V.NDraw.q (by exact rfl) (by kernel_rfl) ?_ | refine V.NApp.one (by first | omega | (simp; omega)) (by first | omega | (simp; omega)) ?_ | (refine NIdx.mk ⟨k, rfl, by omega, ?_⟩) | (refine NApp.one (en := encS) (l := K.noth l k) (x := ⟨(l.getD k default).pa, (l.getD k default).un, 0⟩) (by first | omega | (simp; omega)) (by first | omega | (simp; omega)) ?_) | (refine V.NDraw.any (by kernel_rfl) ?_) | fail)
    all_goals (conv => whnf)
    exact V.NBack.at_ (k + 1) [(6, 9)] (by omega) (by omega) (by repeat' (first | exact rfl | exact Iff.rfl | exact trivial | exact (fun _ _ => rfl) | exact (fun _ h => absurd h (Nat.not_lt_zero _)) | refine ⟨?_, ?_⟩ | exact Iff.rfl | exact congrArg (fun z => V.SV.one (V.At.val (Value.int .i64 z))) (by omega))) rfl ⟨ObLe.as_ (K.noth_succ hlt), trivial⟩ (by repeat' (first | exact rfl | exact Iff.rfl | exact trivial | exact (fun _ _ => rfl) | exact (fun _ h => absurd h (Nat.not_lt_zero _)) | refine ⟨?_, ?_⟩ | exact Iff.rfl | exact congrArg (fun z => V.SV.one (V.At.val (Value.int .i64 z))) (by omega))) (by repeat' (first | exact rfl | exact Iff.rfl | exact trivial | exact (fun _ _ => rfl) | exact (fun _ h => absurd h (Nat.not_lt_zero _)) | refine ⟨?_, ?_⟩ | exact Iff.rfl | exact congrArg (fun z => V.SV.one (V.At.val (Value.int .i64 z))) (by omega)))
  obtain rfl : k = l.length := by omega
  have b1 := K.vV_bd (l := l) (ps := ps) (by assumption)
  have b2 := K.vV_bd (l := m) (ps := ps) (by assumption)
  repeat' ((conv => whnf); first | refine V.NCond.mk ?_ | refine V.NIf.not_ ?_ | refine V.NIf.dec_ ?_ | refine V.NIf.no (by omega) ?_ | refine V.NIf.yes (by omega) ?_ | refine V.NIf.mk (fun _ => ?_) (fun _ => ?_) | refine V.NWrap.ok (by omega) (by omega) ?_ | refine V.NWrap.u64 (by omega) (by omega) ?_ | refine V.NLt.mk (by omega) ?_ | refine V.NBoth.mk ?_ ?_ | refine V.NTF.yes (by omega) ?_ | refine V.NTF.no (by omega) ?_ | refine V.NTF.dec ?_ | refine V.NDraw.q (by exact rfl) (by kernel_rfl) ?_ | refine V.NApp.one (by first | omega | (simp; omega)) (by first | omega | (simp; omega)) ?_ | ((first | refine V.Fn.k (v_mgVal (K.noth l l.length) ps (by omega) np) [6, 2] rfl ?_ ?_ | refine V.Fn.q (v_mgVal (K.noth l l.length) ps (by omega) np) [6, 2] rfl ?_ ?_ | refine V.Fn.a (v_mgVal (K.noth l l.length) ps (by omega) np) [6, 2] rfl ?_ ?_); · ((repeat' (first | exact rfl | exact Iff.rfl | exact trivial | exact (fun _ _ => rfl) | exact (fun _ h => absurd h (Nat.not_lt_zero _)) | refine ⟨?_, ?_⟩ | exact Iff.rfl | exact congrArg (fun z => V.SV.one (V.At.val (Value.int .i64 z))) (by omega))); done)) | (refine V.NDraw.any (by kernel_rfl) ?_) | fail)
  all_goals (conv => whnf)
  all_goals exact ⟨true, rfl, iff_of_true (by omega) rfl⟩
end Go.Proofs.Ytmmfgepmochmeaa
