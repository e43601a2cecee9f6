/- What ClaimGrow answers: true. -/
import Derived.Test.YteblbhbfdfifpaaVClaimB
import Derived.Test.YteblbhbfdfifpaaVOpenEv
import Derived.Test.YteblbhbfdfifpaaVOpenF
namespace Go.Proofs.Yteblbhbfdfifpaa
open Go Go.RowKit V
set_option maxRecDepth 100000
set_option linter.unusedVariables false
theorem C.gr_same_but {v : Ev} {f : Fl} : (⟨f.id, f.fr, f.to, f.cl, f.pa, f.day, (C.gr v f).un, f.de, f.bo, f.pd⟩ : Fl) = C.gr v f := by
  unfold C.gr C.up
  split <;> rfl
set_option maxHeartbeats 4000000 in
theorem v_claimGrow (v : Ev) (wv : WfEv v) (l : List Fl) (wl : ∀ f ∈ l, WfF f) : V.Fn Try.prog 6 [.arr 10 l.length (ga encF l)] [.agg [.val (.int .i64 v.pa), .val (.int .i64 v.ca), .val (.int .i64 v.gi), .val (.int .i64 v.fo)], .one (.ref 0)] (.bool true) := by
  clear wv wl
  refine V.Fn.lim (by kernel_rfl) fun hl => ?_
  have nl := hl 0 _ _ _ rfl
  clear hl
  have e0 : ¬ C.gE v l = 0 → (C.gV v l).length = 0 := fun h => by unfold C.gV; rw [if_neg h]; rfl
  have e1 : C.gE v l = 0 → (C.gV v l).length = l.length ∧ F.checks (C.gV v l) = 0 := fun h => by
    rw [(C.g_ok h).2.2]
    exact ⟨by simp, C.grown_checks h⟩
  refine V.Fn.mk_ V.Tok V.mixed Try.func6 rfl Try.ntmps6 (by kernel_rfl) rfl rfl ?_
  repeat' ((conv => whnf); first | (refine V.NIf.yes ?_ ?_; · (simp only [true_and, and_true, and_self]; done)) | refine V.NCond.mk ?_ | refine V.NIf.not_ ?_ | refine V.NIf.dec_ ?_ | refine V.NIf.no (by omega) ?_ | refine V.NIf.yes (by omega) ?_ | refine V.NIf.mk (fun _ => ?_) (fun _ => ?_) | refine V.NWrap.ok (by omega) (by omega) ?_ | refine V.NWrap.u64 (by omega) (by omega) ?_ | refine V.NLt.mk (by omega) ?_ | refine V.NBoth.mk ?_ ?_ | refine V.NTF.yes (by omega) ?_ | refine V.NTF.no (by omega) ?_ | refine V.NTF.dec ?_ | refine V.NDraw.q (by exact rfl) (by kernel_rfl) ?_ | refine V.NApp.one (by first | omega | (simp; omega)) (by first | omega | (simp; omega)) ?_ | ((first | refine V.FnR.k_ (v_Grow v l) [0] rfl ?_ ?_ | refine V.FnR.a_ (v_Grow v l) [0] rfl ?_ ?_); · ((repeat' (first | exact rfl | exact Iff.rfl | exact trivial | exact (fun _ _ => rfl) | exact (fun _ h => absurd h (Nat.not_lt_zero _)) | refine ⟨?_, ?_⟩ | exact Iff.rfl | exact congrArg (fun z => V.SV.one (V.At.val (Value.int .i64 z))) (by omega))); done)) | (first | refine V.Fn.k0 (v_clbegun) rfl ?_ | refine V.Fn.q0 (v_clbegun) rfl ?_ | refine V.Fn.a0 (v_clbegun) rfl ?_) | (first | refine V.Fn.k0 (v_fbegun) rfl ?_ | refine V.Fn.q0 (v_fbegun) rfl ?_ | refine V.Fn.a0 (v_fbegun) rfl ?_) | ((first | refine V.Fn.k (v_fchecks (C.gV v l)) [2] rfl ?_ ?_ | refine V.Fn.q (v_fchecks (C.gV v l)) [2] rfl ?_ ?_ | refine V.Fn.a (v_fchecks (C.gV v l)) [2] rfl ?_ ?_); · ((repeat' (first | exact rfl | exact Iff.rfl | exact trivial | exact (fun _ _ => rfl) | exact (fun _ h => absurd h (Nat.not_lt_zero _)) | refine ⟨?_, ?_⟩ | exact Iff.rfl | exact congrArg (fun z => V.SV.one (V.At.val (Value.int .i64 z))) (by omega))); done)) | (refine V.NDraw.any (by kernel_rfl) ?_) | fail)
  all_goals (conv => whnf)
  rotate_left
  · have e := e0 (by assumption)
    exact ⟨true, rfl, iff_of_true (by omega) rfl⟩
  have hg : C.gE v l = 0 := by assumption
  obtain ⟨hx, _, eg⟩ := C.g_ok hg
  obtain ⟨hv, hF⟩ := C.xE_ok hx
  obtain ⟨n60, hall, _⟩ := K.checks_all hF
  obtain ⟨_, hall2, _⟩ := K.checks_all (e1 hg).2
  have gl := (e1 hg).1
  refine V.NLoop.auto (fun (k : Nat) => [(7, .one (.val (.int .i64 k)))]) (fun (k : Nat) => []) [] [] (fun (k : Nat) => l.length - k) (fun (k : Nat) => k ≤ l.length) 0 (Nat.zero_le _) (by repeat' (first | exact rfl | exact Iff.rfl | exact trivial | exact (fun _ _ => rfl) | exact (fun _ h => absurd h (Nat.not_lt_zero _)) | refine ⟨?_, ?_⟩ | exact Iff.rfl | exact congrArg (fun z => V.SV.one (V.At.val (Value.int .i64 z))) (by omega))) (by repeat' (first | exact rfl | exact Iff.rfl | exact trivial | exact (fun _ _ => rfl) | exact (fun _ h => absurd h (Nat.not_lt_zero _)) | refine ⟨?_, ?_⟩ | exact Iff.rfl | exact congrArg (fun z => V.SV.one (V.At.val (Value.int .i64 z))) (by omega))) (fun _ => ⟨rfl, rfl⟩) ?_; (conv => whnf); refine ⟨⟨rfl, rfl⟩, ?_⟩
  rintro k hk
  by_cases hlt : k < l.length
  · have hf := hall _ (getD_mem hlt)
    have hf2 := hall2 _ (getD_mem (l := C.gV v l) (k := k) (by omega))
    have ek : (C.gV v l).getD k default = C.gr v (l.getD k default) := by rw [eg, getD_at (by simpa using hlt), getD_at hlt]; simp
    have hl := K.left_bd hf
    have fb := C.fr_bd (C.ev_ok hv).1 hl
    have z := C.fr_zero v
    have fz : F.left (l.getD k default) = 0 → C.fr v (F.left (l.getD k default)) = 0 := fun q => by rw [q]; exact z
    have o1 := F.opn_yes (F.chk_of hf)
    have c1 := F.chk_of hf
    have o2 := F.opn_yes (F.chk_of hf2)
    have c2 := F.chk_of hf2
    have q : (((C.gV v l).getD k default).id = (l.getD k default).id ∧ ((C.gV v l).getD k default).fr = (l.getD k default).fr ∧ ((C.gV v l).getD k default).to = (l.getD k default).to ∧ ((C.gV v l).getD k default).cl = (l.getD k default).cl ∧ ((C.gV v l).getD k default).pa = (l.getD k default).pa ∧ ((C.gV v l).getD k default).day = (l.getD k default).day ∧ ((C.gV v l).getD k default).de = (l.getD k default).de ∧ ((C.gV v l).getD k default).bo = (l.getD k default).bo ∧ ((C.gV v l).getD k default).pd = (l.getD k default).pd) ∧
        (((l.getD k default).pa = v.pa ∧ F.left ((C.gV v l).getD k default) = F.left (l.getD k default) + C.fr v (F.left (l.getD k default))) ∨ (¬ (l.getD k default).pa = v.pa ∧ F.left ((C.gV v l).getD k default) = F.left (l.getD k default))) := by
      rw [ek]
      by_cases p : (l.getD k default).pa = v.pa
      · rw [C.gr_pos p, C.up_left]
        exact ⟨⟨rfl, rfl, rfl, rfl, rfl, rfl, rfl, rfl, rfl⟩, .inl ⟨p, rfl⟩⟩
      · rw [C.oth_gr p]
        exact ⟨⟨rfl, rfl, rfl, rfl, rfl, rfl, rfl, rfl, rfl⟩, .inr ⟨p, rfl⟩⟩
    clear hall hall2 hf hf2 ek z
    repeat' ((conv => whnf); first | refine V.NCond.mk ?_ | refine V.NIf.not_ ?_ | refine V.NIf.dec_ ?_ | refine V.NIf.no (by omega) ?_ | refine V.NIf.yes (by omega) ?_ | refine V.NIf.mk (fun _ => ?_) (fun _ => ?_) | refine V.NWrap.ok (by omega) (by omega) ?_ | refine V.NWrap.u64 (by omega) (by omega) ?_ | refine V.NLt.mk (by omega) ?_ | refine V.NBoth.mk ?_ ?_ | refine V.NTF.yes (by omega) ?_ | refine V.NTF.no (by omega) ?_ | refine V.NTF.dec ?_ | refine V.NDraw.q (by exact rfl) (by kernel_rfl) ?_ | refine V.NApp.one (by first | omega | (simp; omega)) (by first | omega | (simp; omega)) ?_ | (refine NIdx.mk ⟨k, rfl, by omega, ?_⟩) | (first | refine V.Fn.k0 (v_open (l.getD k default)) rfl ?_ | refine V.Fn.q0 (v_open (l.getD k default)) rfl ?_ | refine V.Fn.a0 (v_open (l.getD k default)) rfl ?_) | (first | refine V.Fn.k0 (v_open ((C.gV v l).getD k default)) rfl ?_ | refine V.Fn.q0 (v_open ((C.gV v l).getD k default)) rfl ?_ | refine V.Fn.a0 (v_open ((C.gV v l).getD k default)) rfl ?_) | (refine V.NDraw.any (by kernel_rfl) ?_) | fail)
    all_goals (conv => whnf)
    all_goals first
      | exact V.NBack.at_ (k + 1) [] (by omega) (by omega) (by repeat' (first | exact rfl | exact Iff.rfl | exact trivial | exact (fun _ _ => rfl) | exact (fun _ h => absurd h (Nat.not_lt_zero _)) | refine ⟨?_, ?_⟩ | exact Iff.rfl | exact congrArg (fun z => V.SV.one (V.At.val (Value.int .i64 z))) (by omega))) rfl (by repeat' (first | exact rfl | exact Iff.rfl | exact trivial | exact (fun _ _ => rfl) | exact (fun _ h => absurd h (Nat.not_lt_zero _)) | refine ⟨?_, ?_⟩ | exact Iff.rfl | exact congrArg (fun z => V.SV.one (V.At.val (Value.int .i64 z))) (by omega))) (by repeat' (first | exact rfl | exact Iff.rfl | exact trivial | exact (fun _ _ => rfl) | exact (fun _ h => absurd h (Nat.not_lt_zero _)) | refine ⟨?_, ?_⟩ | exact Iff.rfl | exact congrArg (fun z => V.SV.one (V.At.val (Value.int .i64 z))) (by omega))) (by repeat' (first | exact rfl | exact Iff.rfl | exact trivial | exact (fun _ _ => rfl) | exact (fun _ h => absurd h (Nat.not_lt_zero _)) | refine ⟨?_, ?_⟩ | exact Iff.rfl | exact congrArg (fun z => V.SV.one (V.At.val (Value.int .i64 z))) (by omega)))
      | exact rfl
      | (rename_i hne; refine absurd ?_ hne; (repeat' (first | refine ⟨?_, ?_⟩ | exact trivial | exact rfl)) <;> omega)
  · repeat' ((conv => whnf); first | refine V.NCond.mk ?_ | refine V.NIf.not_ ?_ | refine V.NIf.dec_ ?_ | refine V.NIf.no (by omega) ?_ | refine V.NIf.yes (by omega) ?_ | refine V.NIf.mk (fun _ => ?_) (fun _ => ?_) | refine V.NWrap.ok (by omega) (by omega) ?_ | refine V.NWrap.u64 (by omega) (by omega) ?_ | refine V.NLt.mk (by omega) ?_ | refine V.NBoth.mk ?_ ?_ | refine V.NTF.yes (by omega) ?_ | refine V.NTF.no (by omega) ?_ | refine V.NTF.dec ?_ | refine V.NDraw.q (by exact rfl) (by kernel_rfl) ?_ | refine V.NApp.one (by first | omega | (simp; omega)) (by first | omega | (simp; omega)) ?_ | (refine V.NDraw.any (by kernel_rfl) ?_) | fail)
    all_goals (conv => whnf)
    all_goals exact rfl
end Go.Proofs.Yteblbhbfdfifpaa
