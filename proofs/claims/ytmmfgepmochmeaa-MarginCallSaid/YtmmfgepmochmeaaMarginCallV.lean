/- What MarginCall answers: true. -/
import Derived.Test.YtmmfgepmochmeaaVMarginB
namespace Go.Proofs.Ytmmfgepmochmeaa
open Go Go.RowKit V
set_option maxRecDepth 100000
set_option linter.unusedVariables false
set_option linter.unusedSimpArgs false
set_option maxHeartbeats 4000000 in
theorem v_marginCall (has : Int) (w_has : (Lit.int .i64 has).wf = true) (need : Int) (w_need : (Lit.int .i64 need).wf = true) (least : Int) (w_least : (Lit.int .i64 least).wf = true) : V.Fn Try.prog 5 [] [.one (.val (.int .i64 has)), .one (.val (.int .i64 need)), .one (.val (.int .i64 least))] (.bool true) := by
  have cE : ∀ a b c, K.caE a b c = 0 → (0 ≤ a ∧ a ≤ 1152921504606846976) ∧ (0 ≤ b ∧ b ≤ 1152921504606846976) ∧ (0 ≤ c ∧ c ≤ 1152921504606846976) := fun a b c h => by unfold K.caE at h; split at h <;> omega
  have cV : ∀ a b c, (K.caE a b c = 0 ∧ a < b ∧ c ≤ b - a ∧ K.caV a b c = b - a) ∨ (¬ (K.caE a b c = 0 ∧ a < b ∧ c ≤ b - a) ∧ K.caV a b c = 0) := fun a b c => by
    unfold K.caV
    by_cases q : K.caE a b c = 0 ∧ a < b ∧ c ≤ b - a
    · left; rw [if_pos q]; exact ⟨q.1, q.2.1, q.2.2, rfl⟩
    · right; rw [if_neg q]; exact ⟨q, rfl⟩
  have h1 := cE has need least
  have h2 := cV has need least
  have h3 := cE (has + K.caV has need least) need least
  have h4 := cV (has + K.caV has need least) need least
  have h5 : (0 ≤ has + K.caV has need least ∧ has + K.caV has need least ≤ 1152921504606846976) ∧ (0 ≤ need ∧ need ≤ 1152921504606846976) ∧ (0 ≤ least ∧ least ≤ 1152921504606846976) → K.caE (has + K.caV has need least) need least = 0 := fun q => by unfold K.caE; rw [if_neg (fun z => z q)]
  refine V.Fn.mk_ V.Tok V.mixed Try.func5 rfl Try.ntmps5 (by kernel_rfl) rfl rfl ?_
  repeat' ((conv => whnf); first | (refine V.NIf.yes ?_ ?_; · (simp only [true_and, and_true, and_self]; done)) | refine V.NCond.mk ?_ | refine V.NIf.not_ ?_ | refine V.NIf.dec_ ?_ | refine V.NIf.no (by omega) ?_ | refine V.NIf.yes (by omega) ?_ | refine V.NIf.mk (fun _ => ?_) (fun _ => ?_) | refine V.NWrap.ok (by omega) (by omega) ?_ | refine V.NWrap.u64 (by omega) (by omega) ?_ | refine V.NLt.mk (by omega) ?_ | refine V.NBoth.mk ?_ ?_ | refine V.NTF.yes (by omega) ?_ | refine V.NTF.no (by omega) ?_ | refine V.NTF.dec ?_ | refine V.NDraw.q (by exact rfl) (by kernel_rfl) ?_ | refine V.NApp.one (by first | omega | (simp; omega)) (by first | omega | (simp; omega)) ?_ | (first | refine V.Fn.k0 (v_mgCall _ _ _) rfl ?_ | refine V.Fn.q0 (v_mgCall _ _ _) rfl ?_ | refine V.Fn.a0 (v_mgCall _ _ _) rfl ?_) | (first | refine V.Fn.k0 (v_mgbegun) rfl ?_ | refine V.Fn.q0 (v_mgbegun) rfl ?_ | refine V.Fn.a0 (v_mgbegun) rfl ?_) | (refine V.NDraw.any (by kernel_rfl) ?_) | fail)
  all_goals (conv => whnf)
  all_goals exact ⟨true, rfl, iff_of_true (by (try split) <;> omega) rfl⟩
end Go.Proofs.Ytmmfgepmochmeaa
