/- What FailFinds answers: true. -/
import Derived.Test.YtblibhmmliljgaaVFailB
import Derived.Test.YtblibhmmliljgaaVOpenF
import Derived.Test.YtblibhmmliljgaaFailPl3
namespace Go.Proofs.Ytblibhmmliljgaa
open Go Go.RowKit V
set_option maxRecDepth 100000
set_option linter.unusedSimpArgs false
set_option maxHeartbeats 4000000 in
theorem v_failFinds (l : List Fl) (wl : ∀ f ∈ l, WfF f) (i : Int) (w_i : (Lit.int .i64 i).wf = true) : V.Fn Try.prog 6 [.arr 10 l.length (ga encF l)] [.one (.ref 0), .one (.val (.int .i64 i))] (.bool true) := by
  clear wl w_i
  have h60 : F.checks l = 0 → l.length ≤ 60 := fun h => F.checks_len (by rw [h]; decide)
  refine V.Fn.mk_ V.Tok V.mixed Try.func6 rfl Try.ntmps6 (by kernel_rfl) rfl rfl ?_
  repeat' ((conv => whnf); first | (refine V.NIf.yes ?_ ?_; · (simp only [true_and, and_true, and_self]; done)) | refine V.NIf.not_ ?_ | refine V.NIf.dec_ ?_ | refine V.NIf.no (by omega) ?_ | refine V.NIf.yes (by omega) ?_ | refine V.NIf.mk (fun _ => ?_) (fun _ => ?_) | refine V.NWrap.ok (by omega) (by omega) ?_ | refine V.NLt.mk (by omega) ?_ | (first | refine V.Fn.k0 (v_fbegun) rfl ?_ | refine V.Fn.q0 (v_fbegun) rfl ?_) | ((first | refine V.Fn.k (v_fchecks l) [0] rfl ?_ ?_ | refine V.Fn.q (v_fchecks l) [0] rfl ?_ ?_); · ((repeat' (first | exact rfl | exact trivial | exact (fun _ _ => rfl) | exact (fun _ h => absurd h (Nat.not_lt_zero _)) | refine ⟨?_, ?_⟩ | exact Iff.rfl | exact congrArg (fun z => V.SV.one (V.At.val (Value.int .i64 z))) (by omega))); done)) | fail)
  all_goals (conv => whnf)
  rename_i hc h1 h2
  have hl := h60 hc
  obtain ⟨q, rfl⟩ := Int.eq_ofNat_of_zero_le (show 0 ≤ i by omega)
  have hq : q < l.length := by omega
  obtain ⟨f1, f2⟩ := F.find_at hc hq
  have hr := F.checks_rev hc
  rw [← getD_at hq] at f1 f2
  obtain ⟨a1, a2⟩ := F.fnd_3 (id := (l.getD q default).id) hc (by omega)
  obtain ⟨b1, b2⟩ := F.fnd_3 (id := (l.getD q default).id) hr (by omega)
  rw [f1] at a1
  rw [f2] at b1
  refine V.NLoop.go (fun (k : Nat) => [(5, .one (.ref 1)), (6, .one (.val (.int .i64 ((l.length : Int) - 1 - k))))]) (fun (k : Nat) => [(1, .row 23 10 k (ga encF l.reverse))]) [0, 1] [0] (fun (k : Nat) => l.length - k) (fun (k : Nat) => k ≤ l.length) 0 (Nat.zero_le _) (by repeat' (first | exact rfl | exact trivial | exact (fun _ _ => rfl) | exact (fun _ h => absurd h (Nat.not_lt_zero _)) | refine ⟨?_, ?_⟩ | exact Iff.rfl | exact congrArg (fun z => V.SV.one (V.At.val (Value.int .i64 z))) (by omega))) (by repeat' (first | exact rfl | exact trivial | exact (fun _ _ => rfl) | exact (fun _ h => absurd h (Nat.not_lt_zero _)) | refine ⟨?_, ?_⟩ | exact Iff.rfl | exact congrArg (fun z => V.SV.one (V.At.val (Value.int .i64 z))) (by omega))) (fun _ => ⟨rfl, rfl⟩) ?_; (conv => whnf); refine ⟨⟨rfl, rfl⟩, ?_⟩
  rintro k hk
  repeat' ((conv => whnf); first | refine V.NIf.not_ ?_ | refine V.NIf.dec_ ?_ | refine V.NIf.no (by omega) ?_ | refine V.NIf.yes (by omega) ?_ | refine V.NIf.mk (fun _ => ?_) (fun _ => ?_) | refine V.NWrap.ok (by omega) (by omega) ?_ | refine V.NLt.mk (by omega) ?_ | (refine NIdx.mk ⟨_, rfl, by omega, ?_⟩) | (refine NIdx.mk ⟨l.length - 1 - k, by omega, by omega, ?_⟩) | (refine NGrow.mk (by simp; omega) (by simp; omega) ?_; intro g hg1 hg2) | ((first | refine V.Fn.k (v_ffind l _) [0] rfl ?_ ?_ | refine V.Fn.q (v_ffind l _) [0] rfl ?_ ?_); · ((repeat' (first | exact rfl | exact trivial | exact (fun _ _ => rfl) | exact (fun _ h => absurd h (Nat.not_lt_zero _)) | refine ⟨?_, ?_⟩ | exact Iff.rfl | exact congrArg (fun z => V.SV.one (V.At.val (Value.int .i64 z))) (by omega))); done)) | (refine Fn.k (v_ffind l.reverse _) [1] rfl ⟨⟨rfl, (by rw [List.length_reverse]; omega), fun _ _ => rfl⟩, trivial⟩ ?_) | (refine Fn.k (v_fchecks l.reverse) [1] rfl ⟨⟨rfl, (by rw [List.length_reverse]; omega), fun _ _ => rfl⟩, trivial⟩ ?_) | fail)
  · (conv => whnf)
    refine V.NBack.at_ (k + 1) [(1, 3)] (by omega) (by omega) (by repeat' (first | exact rfl | exact trivial | exact (fun _ _ => rfl) | exact (fun _ h => absurd h (Nat.not_lt_zero _)) | refine ⟨?_, ?_⟩ | exact Iff.rfl | exact congrArg (fun z => V.SV.one (V.At.val (Value.int .i64 z))) (by omega))) rfl ⟨⟨rfl, rfl, rfl, fun j hj => ?_⟩, trivial⟩ (by repeat' (first | exact rfl | exact trivial | exact (fun _ _ => rfl) | exact (fun _ h => absurd h (Nat.not_lt_zero _)) | refine ⟨?_, ?_⟩ | exact Iff.rfl | exact congrArg (fun z => V.SV.one (V.At.val (Value.int .i64 z))) (by omega))) (by repeat' (first | exact rfl | exact trivial | exact (fun _ _ => rfl) | exact (fun _ h => absurd h (Nat.not_lt_zero _)) | refine ⟨?_, ?_⟩ | exact Iff.rfl | exact congrArg (fun z => V.SV.one (V.At.val (Value.int .i64 z))) (by omega)))
    have hj' : j < k + 1 := hj
    by_cases hjk : j < k
    · exact hg1 j hjk
    · obtain rfl : j = k := by omega
      have := hg2 0 (by simp)
      rw [Nat.add_zero] at this
      rw [this, ga_at (by simp; omega), List.getElem_reverse]
      show encF (l.getD (l.length - 1 - j) default) = _
      rw [getD_at (by omega)]
  · exact ⟨_, rfl, by simp [hr]⟩
end Go.Proofs.Ytblibhmmliljgaa
