/- What MarginNothing answers: true. -/
import Derived.Test.YtmmfgepmochmeaaVMarginB
import Derived.Test.YtmmfgepmochmeaaVOpenS
import Derived.Test.YtmmfgepmochmeaaVOpenI
namespace Go.Proofs.Ytmmfgepmochmeaa
open Go Go.RowKit V
set_option maxRecDepth 100000
set_option linter.unusedVariables false
set_option linter.unusedSimpArgs false
set_option maxHeartbeats 4000000 in
theorem v_marginNothing (l : List St) (wl : ∀ f ∈ l, WfS f) (ps : List Int) (wp : ∀ f ∈ ps, (Lit.int .i64 f).wf = true) (at_ : Int) (w_at_ : (Lit.int .i64 at_).wf = true) (has : Int) (w_has : (Lit.int .i64 has).wf = true) (least : Int) (w_least : (Lit.int .i64 least).wf = true) (party : Int) (w_party : (Lit.int .i64 party).wf = true) (rate : Int) (w_rate : (Lit.int .i64 rate).wf = true) : V.Fn Try.prog 8 [.arr 3 l.length (ga encS l), .arr 1 ps.length (ga e1 ps)] [.one (.ref 0), .one (.ref 1), .one (.val (.int .i64 at_)), .one (.val (.int .i64 has)), .one (.val (.int .i64 least)), .one (.val (.int .i64 party)), .one (.val (.int .i64 rate))] (.bool true) := by
  clear wl wp
  refine V.Fn.lim (by kernel_rfl) fun hl => ?_
  have nl := hl 0 _ _ _ rfl
  have np := hl 1 _ _ _ rfl
  clear hl
  have h1 : K.spE l ps 0 at_ = 0 → (0 ≤ at_ ∧ at_ < l.length) ∧ K.spV l ps 0 at_ = (l.getD at_.toNat default).un := fun h => by
    obtain ⟨c1, c2, c3, c4, c5⟩ := K.sp_ok h
    have st := K.stay_ex h
    obtain ⟨d1, d2⟩ := K.ck_ok c1
    have hs := (K.chk_ok d1).2 _ (getD_mem (l := l) (k := at_.toNat) (by omega))
    refine ⟨c3, (if_pos h).trans ?_⟩
    have ho : K.oth ps l at_.toNat = K.val ps l - K.cnt ps (l.getD at_.toNat default) (l.getD at_.toNat default).un := rfl
    rw [K.stay_is (m := 0) d2 hs ⟨by have := hs.2.1; omega, by rw [K.cnt_zero]; have := K.one_le d2 (K.chk_ok d1).2 (by have := (K.chk_ok d1).1; omega) (i := at_.toNat) (by omega); omega, .inl rfl⟩]; omega
  have h2 : K.caV has 0 least = 0 ∧ (K.caE has 0 least = 0 ∨ K.caE has 0 least = 3) := by
    unfold K.caV K.caE
    constructor <;> (repeat' split) <;> omega
  have h3 : K.nV [] ps party rate = 0 ∧ (K.nE [] ps party rate = 0 ∨ K.nE [] ps party rate = 1 ∨ K.nE [] ps party rate = 3) := by
    have e0 : K.need [] ps party = 0 := rfl
    have ep : P.chks ps = 0 ∨ P.chks ps = 1 ∨ P.chks ps = 3 := by unfold P.chks; (repeat' split) <;> omega
    have ec : F.checks [] = 0 := rfl
    unfold K.nV K.nE
    rw [ec, e0]
    constructor <;> (repeat' split) <;> omega
  refine V.Fn.mk_ V.Tok V.mixed Try.func8 rfl Try.ntmps8 (by kernel_rfl) rfl rfl ?_
  repeat' ((conv => whnf); first | (refine V.NIf.yes ?_ ?_; · (simp only [true_and, and_true, and_self]; done)) | refine V.NCond.mk ?_ | refine V.NIf.not_ ?_ | refine V.NIf.dec_ ?_ | refine V.NIf.no (by omega) ?_ | refine V.NIf.yes (by omega) ?_ | refine V.NIf.mk (fun _ => ?_) (fun _ => ?_) | refine V.NWrap.ok (by omega) (by omega) ?_ | refine V.NWrap.u64 (by omega) (by omega) ?_ | refine V.NLt.mk (by omega) ?_ | refine V.NBoth.mk ?_ ?_ | refine V.NTF.yes (by omega) ?_ | refine V.NTF.no (by omega) ?_ | refine V.NTF.dec ?_ | refine V.NDraw.q (by exact rfl) (by kernel_rfl) ?_ | refine V.NApp.one (by first | omega | (simp; omega)) (by first | omega | (simp; omega)) ?_ | ((first | refine V.Fn.k (v_mgSpare l ps 0 at_ nl np) [0, 1] rfl ?_ ?_ | refine V.Fn.q (v_mgSpare l ps 0 at_ nl np) [0, 1] rfl ?_ ?_ | refine V.Fn.a (v_mgSpare l ps 0 at_ nl np) [0, 1] rfl ?_ ?_); · ((repeat' (first | exact rfl | exact Iff.rfl | exact trivial | exact (fun _ _ => rfl) | exact (fun _ h => absurd h (Nat.not_lt_zero _)) | refine ⟨?_, ?_⟩ | exact Iff.rfl | exact congrArg (fun z => V.SV.one (V.At.val (Value.int .i64 z))) (by omega))); done)) | (first | refine V.Fn.k0 (v_mgCall _ _ _) rfl ?_ | refine V.Fn.q0 (v_mgCall _ _ _) rfl ?_ | refine V.Fn.a0 (v_mgCall _ _ _) rfl ?_) | (refine NCall.nil_ 0 10 rfl ?_) | ((first | refine V.Fn.k (v_mgNeed [] ps party rate np) [2, 1] rfl ?_ ?_ | refine V.Fn.q (v_mgNeed [] ps party rate np) [2, 1] rfl ?_ ?_ | refine V.Fn.a (v_mgNeed [] ps party rate np) [2, 1] rfl ?_ ?_); · ((repeat' (first | exact rfl | exact Iff.rfl | exact trivial | exact (fun _ _ => rfl) | exact (fun _ h => absurd h (Nat.not_lt_zero _)) | refine ⟨?_, ?_⟩ | exact Iff.rfl | exact congrArg (fun z => V.SV.one (V.At.val (Value.int .i64 z))) (by omega))); done)) | (first | refine V.Fn.k0 (v_mgbegun) rfl ?_ | refine V.Fn.q0 (v_mgbegun) rfl ?_ | refine V.Fn.a0 (v_mgbegun) rfl ?_) | (refine NIdx.mk ⟨at_.toNat, by have := (h1 (by assumption)).1; omega, by have := (h1 (by assumption)).1; omega, ?_⟩) | (refine V.NDraw.any (by kernel_rfl) ?_) | fail)
  all_goals (conv => whnf)
  all_goals exact ⟨true, rfl, iff_of_true (by omega) rfl⟩
end Go.Proofs.Ytmmfgepmochmeaa
