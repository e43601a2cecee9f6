/- The statement of AgeTells: the call returns true for every input, and its input reads as it did. No condition. -/
import Derived.Test.YtplomcleijlnmaaRows
import Derived.WalkKit
import Derived.ProofKit
import Derived.OpenShut
import Derived.Test.YtplomcleijlnmaaZ1
import Derived.Test.YtplomcleijlnmaaZ2
import Derived.Test.YtplomcleijlnmaaZ3
import Derived.Test.YtplomcleijlnmaaZ4

/- What AgeTells answers: true. -/
namespace Go.Proofs.Ytplomcleijlnmaa
open Go Go.RowKit V
set_option maxRecDepth 100000
set_option linter.unusedVariables false
set_option linter.unusedSimpArgs false
set_option maxHeartbeats 4000000 in
theorem v_ageTells (c : Cl) (wc : WfCl c) (t : Tm) (wt : WfTm t) (f : Fl) (wf : WfF f) (today : Int) (w_today : (Lit.int .i64 today).wf = true) : V.Fn Try.prog 3 [.arr 1 c.hs.length (ga e1 c.hs)] [.agg [.val (.int .i64 c.we), .ref 0], .agg [.val (.int .i64 t.ex), .val (.int .i64 t.bu), .val (.int .i64 t.de), .val (.int .i64 t.ra)], .agg [.val (.int .i64 f.id), .val (.int .i64 f.fr), .val (.int .i64 f.to), .val (.int .i64 f.cl), .val (.int .i64 f.pa), .val (.int .i64 f.day), .val (.int .i64 f.un), .val (.int .i64 f.de), .val (.int .i64 f.bo), .val (.int .i64 f.pd)], .one (.val (.int .i64 today))] (.bool true) := by
  refine V.Fn.lim (by kernel_rfl) fun hl => ?_
  have hc := hl 0 _ _ _ rfl
  clear hl wc wt wf
  have c1 := v_agDays c t f.day hc
  have c2 := v_agStage c t f today hc
  have c3 := v_agLeft c t f today hc
  have c4 := v_rcaCheck c hc
  have c5 := v_rtmCheck t
  have c6 := v_ragErr c t f today hc
  have c7 := v_agCheck t
  by_cases h1 : Ca.chk c = 0
  · by_cases h2 : Ag.tchk t = 0
    · have h12 : Ag.ck c t = 0 := (Ag.ck_2 h1).trans h2
      have hw := Ag.tchk_ok h2
      rw [h1] at c4
      rw [h2] at c5 c7
      by_cases h3 : Ca.Day f.day
      · have d3 := D.chk_yes h3.1 h3.2
        have rd := v_ragDays c t f.day (Ca.chk_ok h1) hw h3
        unfold Ca.Day at h3
        by_cases h4 : Ag.There c t f.day
        · have e1 := Ag.dE_4 h12 d3 h4
          obtain ⟨_, _, _, _, x1, x2, x3⟩ := Ag.dE_ok e1
          obtain ⟨r1, r2, r3⟩ := Ag.r_yes h4
          obtain ⟨g1, g2, g3⟩ := Ag.days hw h3 h4
          rw [e1, x1, x2, x3] at c1
          rw [r1, r2, r3] at rd
          have p1 := h4.1
          by_cases h5 : Ag.sE c t f today = 0
          · have rs := v_ragStage c t f today h5
            obtain ⟨_, _, _, ht, _⟩ := Ag.sE_ok h5
            have lv : Ag.lV c t f today = Ca.cnt c today (Ag.d3 c t f.day) := by
              by_cases q : today < Ag.d3 c t f.day
              · exact Ag.lV_2 h5 q
              · rw [Ag.lV_1 (by omega), Ca.cnt_none (by omega)]
            have bu := fun d => v_business c d (Ca.chk_ok h1)
            rw [h5, Ag.sV_yes h5] at c2
            rw [h5] at c3 c6
            have g3 := g3.2.1
            clear g1 g2 e1 x1 x2 x3 r1 r2 r3 d3 hw h12 h4
            unfold Ca.Day at ht g3 bu
            generalize Ag.d1 c t f.day = d1 at *
            generalize Ag.d2 c t f.day = d2 at *
            generalize Ag.d3 c t f.day = d3 at *
            generalize Ag.stg c t f today = S at *
            generalize Ag.lV c t f today = N at *
            refine V.Fn.mk_ V.Tok V.mixed Try.func3 rfl Try.ntmps3 (by kernel_rfl) rfl rfl ?_
            repeat' ((conv => whnf); first | (refine V.NIf.yes ?_ ?_; · (decide; done)) | (refine V.NIf.no ?_ ?_; · (decide; done)) | (refine V.NIf.yes ?_ ?_; · (simp only [true_and, and_true, and_self]; done)) | refine V.NCond.mk ?_ | refine V.NIf.not_ ?_ | refine V.NIf.dec_ ?_ | refine V.NIf.no (by omega) ?_ | refine V.NIf.yes (by omega) ?_ | refine V.NIf.mk (fun _ => ?_) (fun _ => ?_) | refine V.NWrap.ok (by omega) (by omega) ?_ | refine V.NWrap.u64 (by omega) (by omega) ?_ | refine V.NLt.mk (by omega) ?_ | refine V.NBoth.mk ?_ ?_ | refine V.NTF.yes (by omega) ?_ | refine V.NTF.no (by omega) ?_ | refine V.NTF.dec ?_ | refine V.NDraw.q (by exact rfl) (by kernel_rfl) ?_ | refine V.NApp.one (by first | omega | (simp; omega)) (by first | omega | (simp; omega)) ?_ | ((first | refine V.Fn.k (c1) [0] rfl ?_ ?_ | refine V.Fn.q (c1) [0] rfl ?_ ?_ | refine V.Fn.a (c1) [0] rfl ?_ ?_); · ((repeat' (first | exact rfl | exact Iff.rfl | exact trivial | exact (fun _ _ => rfl) | exact (fun _ h => absurd h (Nat.not_lt_zero _)) | refine ⟨?_, ?_⟩ | exact Iff.rfl | exact congrArg (fun z => V.SV.one (V.At.val (Value.int .i64 z))) (by omega))); done)) | ((first | refine V.Fn.k (c2) [0] rfl ?_ ?_ | refine V.Fn.q (c2) [0] rfl ?_ ?_ | refine V.Fn.a (c2) [0] rfl ?_ ?_); · ((repeat' (first | exact rfl | exact Iff.rfl | exact trivial | exact (fun _ _ => rfl) | exact (fun _ h => absurd h (Nat.not_lt_zero _)) | refine ⟨?_, ?_⟩ | exact Iff.rfl | exact congrArg (fun z => V.SV.one (V.At.val (Value.int .i64 z))) (by omega))); done)) | ((first | refine V.Fn.k (c3) [0] rfl ?_ ?_ | refine V.Fn.q (c3) [0] rfl ?_ ?_ | refine V.Fn.a (c3) [0] rfl ?_ ?_); · ((repeat' (first | exact rfl | exact Iff.rfl | exact trivial | exact (fun _ _ => rfl) | exact (fun _ h => absurd h (Nat.not_lt_zero _)) | refine ⟨?_, ?_⟩ | exact Iff.rfl | exact congrArg (fun z => V.SV.one (V.At.val (Value.int .i64 z))) (by omega))); done)) | ((first | refine V.Fn.k (c4) [0] rfl ?_ ?_ | refine V.Fn.q (c4) [0] rfl ?_ ?_ | refine V.Fn.a (c4) [0] rfl ?_ ?_); · ((repeat' (first | exact rfl | exact Iff.rfl | exact trivial | exact (fun _ _ => rfl) | exact (fun _ h => absurd h (Nat.not_lt_zero _)) | refine ⟨?_, ?_⟩ | exact Iff.rfl | exact congrArg (fun z => V.SV.one (V.At.val (Value.int .i64 z))) (by omega))); done)) | (first | refine V.Fn.k0 (c5) rfl ?_ | refine V.Fn.q0 (c5) rfl ?_ | refine V.Fn.a0 (c5) rfl ?_) | ((first | refine V.Fn.k (rd) [0] rfl ?_ ?_ | refine V.Fn.q (rd) [0] rfl ?_ ?_ | refine V.Fn.a (rd) [0] rfl ?_ ?_); · ((repeat' (first | exact rfl | exact Iff.rfl | exact trivial | exact (fun _ _ => rfl) | exact (fun _ h => absurd h (Nat.not_lt_zero _)) | refine ⟨?_, ?_⟩ | exact Iff.rfl | exact congrArg (fun z => V.SV.one (V.At.val (Value.int .i64 z))) (by omega))); done)) | ((first | refine V.Fn.k (c6) [0] rfl ?_ ?_ | refine V.Fn.q (c6) [0] rfl ?_ ?_ | refine V.Fn.a (c6) [0] rfl ?_ ?_); · ((repeat' (first | exact rfl | exact Iff.rfl | exact trivial | exact (fun _ _ => rfl) | exact (fun _ h => absurd h (Nat.not_lt_zero _)) | refine ⟨?_, ?_⟩ | exact Iff.rfl | exact congrArg (fun z => V.SV.one (V.At.val (Value.int .i64 z))) (by omega))); done)) | ((first | refine V.Fn.k (rs) [0] rfl ?_ ?_ | refine V.Fn.q (rs) [0] rfl ?_ ?_ | refine V.Fn.a (rs) [0] rfl ?_ ?_); · ((repeat' (first | exact rfl | exact Iff.rfl | exact trivial | exact (fun _ _ => rfl) | exact (fun _ h => absurd h (Nat.not_lt_zero _)) | refine ⟨?_, ?_⟩ | exact Iff.rfl | exact congrArg (fun z => V.SV.one (V.At.val (Value.int .i64 z))) (by omega))); done)) | (first | refine V.Fn.k0 (v_ageBegun) rfl ?_ | refine V.Fn.q0 (v_ageBegun) rfl ?_ | refine V.Fn.a0 (v_ageBegun) rfl ?_) | (first | refine V.Fn.k0 (c7) rfl ?_ | refine V.Fn.q0 (c7) rfl ?_ | refine V.Fn.a0 (c7) rfl ?_) | (refine V.NDraw.any (by kernel_rfl) ?_) | fail)
            all_goals (conv => whnf)
            · exact ⟨true, rfl, iff_of_true rfl rfl⟩
            refine V.NLoop.auto (fun (d : Int) => [(24, .one (.val (.int .i64 d))), (23, .one (.val (.int .i64 (Ca.cnt c today (d - 1)))))]) (fun (d : Int) => []) [] [] (fun (d : Int) => (d3 + 1 - d).toNat) (fun (d : Int) => today + 1 ≤ d ∧ (d ≤ d3 + 1 ∨ d = today + 1)) (today + 1) ⟨Int.le_refl _, by omega⟩ (by (conv => whnf); exact ⟨(by repeat' (first | exact rfl | exact Iff.rfl | exact trivial | exact (fun _ _ => rfl) | exact (fun _ h => absurd h (Nat.not_lt_zero _)) | refine ⟨?_, ?_⟩ | exact Iff.rfl | exact congrArg (fun z => V.SV.one (V.At.val (Value.int .i64 z))) (by omega))), congrArg (fun z => V.SV.one (V.At.val (Value.int .i64 z))) (by rw [Ca.cnt_none (by omega)]), trivial⟩) (by repeat' (first | exact rfl | exact Iff.rfl | exact trivial | exact (fun _ _ => rfl) | exact (fun _ h => absurd h (Nat.not_lt_zero _)) | refine ⟨?_, ?_⟩ | exact Iff.rfl | exact congrArg (fun z => V.SV.one (V.At.val (Value.int .i64 z))) (by omega))) (fun _ => ⟨rfl, rfl⟩) ?_; (conv => whnf); refine ⟨⟨rfl, rfl⟩, ?_⟩
            rintro d ⟨q1, q2⟩
            have cl := Ca.cnt_last (c := c) (a := today) (b := d) (by omega)
            have o := Ca.op_01 c d
            have bd := Ca.cnt_bd c today (d - 1)
            by_cases hlt : d ≤ d3
            · repeat' ((conv => whnf); first | refine V.NCond.mk ?_ | refine V.NIf.not_ ?_ | refine V.NIf.dec_ ?_ | refine V.NIf.no (by omega) ?_ | refine V.NIf.yes (by omega) ?_ | refine V.NIf.mk (fun _ => ?_) (fun _ => ?_) | refine V.NWrap.ok (by omega) (by omega) ?_ | refine V.NWrap.u64 (by omega) (by omega) ?_ | refine V.NLt.mk (by omega) ?_ | refine V.NBoth.mk ?_ ?_ | refine V.NTF.yes (by omega) ?_ | refine V.NTF.no (by omega) ?_ | refine V.NTF.dec ?_ | refine V.NDraw.q (by exact rfl) (by kernel_rfl) ?_ | refine V.NApp.one (by first | omega | (simp; omega)) (by first | omega | (simp; omega)) ?_ | ((first | refine V.Fn.k (bu d) [0] rfl ?_ ?_ | refine V.Fn.q (bu d) [0] rfl ?_ ?_ | refine V.Fn.a (bu d) [0] rfl ?_ ?_); · ((repeat' (first | exact rfl | exact Iff.rfl | exact trivial | exact (fun _ _ => rfl) | exact (fun _ h => absurd h (Nat.not_lt_zero _)) | refine ⟨?_, ?_⟩ | exact Iff.rfl | exact congrArg (fun z => V.SV.one (V.At.val (Value.int .i64 z))) (by omega))); done)) | (refine V.NDraw.any (by kernel_rfl) ?_) | fail)
              all_goals (conv => whnf)
              · exact V.NBack.at_ (d + 1) [] ⟨by omega, by omega⟩ (by omega) ⟨(by repeat' (first | exact rfl | exact Iff.rfl | exact trivial | exact (fun _ _ => rfl) | exact (fun _ h => absurd h (Nat.not_lt_zero _)) | refine ⟨?_, ?_⟩ | exact Iff.rfl | exact congrArg (fun z => V.SV.one (V.At.val (Value.int .i64 z))) (by omega))), congrArg (fun z => V.SV.one (V.At.val (Value.int .i64 z))) (by rw [show d + 1 - 1 = d by omega]; omega), trivial⟩ rfl (by repeat' (first | exact rfl | exact Iff.rfl | exact trivial | exact (fun _ _ => rfl) | exact (fun _ h => absurd h (Nat.not_lt_zero _)) | refine ⟨?_, ?_⟩ | exact Iff.rfl | exact congrArg (fun z => V.SV.one (V.At.val (Value.int .i64 z))) (by omega))) (by repeat' (first | exact rfl | exact Iff.rfl | exact trivial | exact (fun _ _ => rfl) | exact (fun _ h => absurd h (Nat.not_lt_zero _)) | refine ⟨?_, ?_⟩ | exact Iff.rfl | exact congrArg (fun z => V.SV.one (V.At.val (Value.int .i64 z))) (by omega))) (by repeat' (first | exact rfl | exact Iff.rfl | exact trivial | exact (fun _ _ => rfl) | exact (fun _ h => absurd h (Nat.not_lt_zero _)) | refine ⟨?_, ?_⟩ | exact Iff.rfl | exact congrArg (fun z => V.SV.one (V.At.val (Value.int .i64 z))) (by omega)))
              · exact V.NBack.at_ (d + 1) [] ⟨by omega, by omega⟩ (by omega) ⟨(by repeat' (first | exact rfl | exact Iff.rfl | exact trivial | exact (fun _ _ => rfl) | exact (fun _ h => absurd h (Nat.not_lt_zero _)) | refine ⟨?_, ?_⟩ | exact Iff.rfl | exact congrArg (fun z => V.SV.one (V.At.val (Value.int .i64 z))) (by omega))), congrArg (fun z => V.SV.one (V.At.val (Value.int .i64 z))) (by rw [show d + 1 - 1 = d by omega]; omega), trivial⟩ rfl (by repeat' (first | exact rfl | exact Iff.rfl | exact trivial | exact (fun _ _ => rfl) | exact (fun _ h => absurd h (Nat.not_lt_zero _)) | refine ⟨?_, ?_⟩ | exact Iff.rfl | exact congrArg (fun z => V.SV.one (V.At.val (Value.int .i64 z))) (by omega))) (by repeat' (first | exact rfl | exact Iff.rfl | exact trivial | exact (fun _ _ => rfl) | exact (fun _ h => absurd h (Nat.not_lt_zero _)) | refine ⟨?_, ?_⟩ | exact Iff.rfl | exact congrArg (fun z => V.SV.one (V.At.val (Value.int .i64 z))) (by omega))) (by repeat' (first | exact rfl | exact Iff.rfl | exact trivial | exact (fun _ _ => rfl) | exact (fun _ h => absurd h (Nat.not_lt_zero _)) | refine ⟨?_, ?_⟩ | exact Iff.rfl | exact congrArg (fun z => V.SV.one (V.At.val (Value.int .i64 z))) (by omega)))
            · have ed : Ca.cnt c today (d - 1) = N := by
                rw [lv]
                rcases q2 with q2 | q2
                · rw [show d - 1 = d3 by omega]
                · rw [Ca.cnt_none (by omega), Ca.cnt_none (by omega)]
              rw [ed]
              repeat' ((conv => whnf); first | (refine V.NIf.yes ?_ ?_; · (decide; done)) | (refine V.NIf.no ?_ ?_; · (decide; done)) | (refine V.NIf.yes ?_ ?_; · (simp only [true_and, and_true, and_self]; done)) | refine V.NCond.mk ?_ | refine V.NIf.not_ ?_ | refine V.NIf.dec_ ?_ | refine V.NIf.no (by omega) ?_ | refine V.NIf.yes (by omega) ?_ | refine V.NIf.mk (fun _ => ?_) (fun _ => ?_) | refine V.NWrap.ok (by omega) (by omega) ?_ | refine V.NWrap.u64 (by omega) (by omega) ?_ | refine V.NLt.mk (by omega) ?_ | refine V.NBoth.mk ?_ ?_ | refine V.NTF.yes (by omega) ?_ | refine V.NTF.no (by omega) ?_ | refine V.NTF.dec ?_ | refine V.NDraw.q (by exact rfl) (by kernel_rfl) ?_ | refine V.NApp.one (by first | omega | (simp; omega)) (by first | omega | (simp; omega)) ?_ | (first | refine V.Fn.k0 (v_ageBegun) rfl ?_ | refine V.Fn.q0 (v_ageBegun) rfl ?_ | refine V.Fn.a0 (v_ageBegun) rfl ?_) | (first | refine V.Fn.k0 (c5) rfl ?_ | refine V.Fn.q0 (c5) rfl ?_ | refine V.Fn.a0 (c5) rfl ?_) | (first | refine V.Fn.k0 (c7) rfl ?_ | refine V.Fn.q0 (c7) rfl ?_ | refine V.Fn.a0 (c7) rfl ?_) | (refine V.NDraw.any (by kernel_rfl) ?_) | fail)
              all_goals (conv => whnf)
              exact ⟨true, rfl, iff_of_true rfl rfl⟩
          · rw [(Ag.sV_no h5).1] at c2
            rw [(Ag.sV_no h5).2] at c3
            clear g1 g2 g3 x1 x2 x3 r1 r2 r3 d3 hw h12 h4
            generalize Ag.d1 c t f.day = d1 at *
            generalize Ag.d2 c t f.day = d2 at *
            generalize Ag.d3 c t f.day = d3 at *
            generalize Ag.sE c t f today = E at *
            refine V.Fn.mk_ V.Tok V.mixed Try.func3 rfl Try.ntmps3 (by kernel_rfl) rfl rfl ?_
            repeat' ((conv => whnf); first | (refine V.NIf.yes ?_ ?_; · (decide; done)) | (refine V.NIf.no ?_ ?_; · (decide; done)) | (refine V.NIf.yes ?_ ?_; · (simp only [true_and, and_true, and_self]; done)) | refine V.NCond.mk ?_ | refine V.NIf.not_ ?_ | refine V.NIf.dec_ ?_ | refine V.NIf.no (by omega) ?_ | refine V.NIf.yes (by omega) ?_ | refine V.NIf.mk (fun _ => ?_) (fun _ => ?_) | refine V.NWrap.ok (by omega) (by omega) ?_ | refine V.NWrap.u64 (by omega) (by omega) ?_ | refine V.NLt.mk (by omega) ?_ | refine V.NBoth.mk ?_ ?_ | refine V.NTF.yes (by omega) ?_ | refine V.NTF.no (by omega) ?_ | refine V.NTF.dec ?_ | refine V.NDraw.q (by exact rfl) (by kernel_rfl) ?_ | refine V.NApp.one (by first | omega | (simp; omega)) (by first | omega | (simp; omega)) ?_ | ((first | refine V.Fn.k (c1) [0] rfl ?_ ?_ | refine V.Fn.q (c1) [0] rfl ?_ ?_ | refine V.Fn.a (c1) [0] rfl ?_ ?_); · ((repeat' (first | exact rfl | exact Iff.rfl | exact trivial | exact (fun _ _ => rfl) | exact (fun _ h => absurd h (Nat.not_lt_zero _)) | refine ⟨?_, ?_⟩ | exact Iff.rfl | exact congrArg (fun z => V.SV.one (V.At.val (Value.int .i64 z))) (by omega))); done)) | ((first | refine V.Fn.k (c2) [0] rfl ?_ ?_ | refine V.Fn.q (c2) [0] rfl ?_ ?_ | refine V.Fn.a (c2) [0] rfl ?_ ?_); · ((repeat' (first | exact rfl | exact Iff.rfl | exact trivial | exact (fun _ _ => rfl) | exact (fun _ h => absurd h (Nat.not_lt_zero _)) | refine ⟨?_, ?_⟩ | exact Iff.rfl | exact congrArg (fun z => V.SV.one (V.At.val (Value.int .i64 z))) (by omega))); done)) | ((first | refine V.Fn.k (c3) [0] rfl ?_ ?_ | refine V.Fn.q (c3) [0] rfl ?_ ?_ | refine V.Fn.a (c3) [0] rfl ?_ ?_); · ((repeat' (first | exact rfl | exact Iff.rfl | exact trivial | exact (fun _ _ => rfl) | exact (fun _ h => absurd h (Nat.not_lt_zero _)) | refine ⟨?_, ?_⟩ | exact Iff.rfl | exact congrArg (fun z => V.SV.one (V.At.val (Value.int .i64 z))) (by omega))); done)) | ((first | refine V.Fn.k (c4) [0] rfl ?_ ?_ | refine V.Fn.q (c4) [0] rfl ?_ ?_ | refine V.Fn.a (c4) [0] rfl ?_ ?_); · ((repeat' (first | exact rfl | exact Iff.rfl | exact trivial | exact (fun _ _ => rfl) | exact (fun _ h => absurd h (Nat.not_lt_zero _)) | refine ⟨?_, ?_⟩ | exact Iff.rfl | exact congrArg (fun z => V.SV.one (V.At.val (Value.int .i64 z))) (by omega))); done)) | (first | refine V.Fn.k0 (c5) rfl ?_ | refine V.Fn.q0 (c5) rfl ?_ | refine V.Fn.a0 (c5) rfl ?_) | ((first | refine V.Fn.k (rd) [0] rfl ?_ ?_ | refine V.Fn.q (rd) [0] rfl ?_ ?_ | refine V.Fn.a (rd) [0] rfl ?_ ?_); · ((repeat' (first | exact rfl | exact Iff.rfl | exact trivial | exact (fun _ _ => rfl) | exact (fun _ h => absurd h (Nat.not_lt_zero _)) | refine ⟨?_, ?_⟩ | exact Iff.rfl | exact congrArg (fun z => V.SV.one (V.At.val (Value.int .i64 z))) (by omega))); done)) | ((first | refine V.Fn.k (c6) [0] rfl ?_ ?_ | refine V.Fn.q (c6) [0] rfl ?_ ?_ | refine V.Fn.a (c6) [0] rfl ?_ ?_); · ((repeat' (first | exact rfl | exact Iff.rfl | exact trivial | exact (fun _ _ => rfl) | exact (fun _ h => absurd h (Nat.not_lt_zero _)) | refine ⟨?_, ?_⟩ | exact Iff.rfl | exact congrArg (fun z => V.SV.one (V.At.val (Value.int .i64 z))) (by omega))); done)) | (first | refine V.Fn.k0 (v_ageBegun) rfl ?_ | refine V.Fn.q0 (v_ageBegun) rfl ?_ | refine V.Fn.a0 (v_ageBegun) rfl ?_) | (first | refine V.Fn.k0 (c7) rfl ?_ | refine V.Fn.q0 (c7) rfl ?_ | refine V.Fn.a0 (c7) rfl ?_) | (refine V.NDraw.any (by kernel_rfl) ?_) | fail)
            all_goals (conv => whnf)
            all_goals exact ⟨true, rfl, iff_of_true rfl rfl⟩
        · have e1 := Ag.dE_3 h12 d3 h4
          obtain ⟨x1, x2, x3⟩ := Ag.dE_no (c := c) (t := t) (day := f.day) (by omega)
          obtain ⟨r1, r2, r3⟩ := Ag.r_no h4
          have h5 : ¬ Ag.sE c t f today = 0 := fun q => h4 (Ag.sE_ok q).2.2.2.2
          rw [e1, x1, x2, x3] at c1
          rw [r1, r2, r3] at rd
          rw [(Ag.sV_no h5).1] at c2
          rw [(Ag.sV_no h5).2] at c3
          clear x1 x2 x3 r1 r2 r3 d3 hw h12 h4 e1
          generalize Ag.sE c t f today = E at *
          refine V.Fn.mk_ V.Tok V.mixed Try.func3 rfl Try.ntmps3 (by kernel_rfl) rfl rfl ?_
          repeat' ((conv => whnf); first | (refine V.NIf.yes ?_ ?_; · (decide; done)) | (refine V.NIf.no ?_ ?_; · (decide; done)) | (refine V.NIf.yes ?_ ?_; · (simp only [true_and, and_true, and_self]; done)) | refine V.NCond.mk ?_ | refine V.NIf.not_ ?_ | refine V.NIf.dec_ ?_ | refine V.NIf.no (by omega) ?_ | refine V.NIf.yes (by omega) ?_ | refine V.NIf.mk (fun _ => ?_) (fun _ => ?_) | refine V.NWrap.ok (by omega) (by omega) ?_ | refine V.NWrap.u64 (by omega) (by omega) ?_ | refine V.NLt.mk (by omega) ?_ | refine V.NBoth.mk ?_ ?_ | refine V.NTF.yes (by omega) ?_ | refine V.NTF.no (by omega) ?_ | refine V.NTF.dec ?_ | refine V.NDraw.q (by exact rfl) (by kernel_rfl) ?_ | refine V.NApp.one (by first | omega | (simp; omega)) (by first | omega | (simp; omega)) ?_ | ((first | refine V.Fn.k (c1) [0] rfl ?_ ?_ | refine V.Fn.q (c1) [0] rfl ?_ ?_ | refine V.Fn.a (c1) [0] rfl ?_ ?_); · ((repeat' (first | exact rfl | exact Iff.rfl | exact trivial | exact (fun _ _ => rfl) | exact (fun _ h => absurd h (Nat.not_lt_zero _)) | refine ⟨?_, ?_⟩ | exact Iff.rfl | exact congrArg (fun z => V.SV.one (V.At.val (Value.int .i64 z))) (by omega))); done)) | ((first | refine V.Fn.k (c2) [0] rfl ?_ ?_ | refine V.Fn.q (c2) [0] rfl ?_ ?_ | refine V.Fn.a (c2) [0] rfl ?_ ?_); · ((repeat' (first | exact rfl | exact Iff.rfl | exact trivial | exact (fun _ _ => rfl) | exact (fun _ h => absurd h (Nat.not_lt_zero _)) | refine ⟨?_, ?_⟩ | exact Iff.rfl | exact congrArg (fun z => V.SV.one (V.At.val (Value.int .i64 z))) (by omega))); done)) | ((first | refine V.Fn.k (c3) [0] rfl ?_ ?_ | refine V.Fn.q (c3) [0] rfl ?_ ?_ | refine V.Fn.a (c3) [0] rfl ?_ ?_); · ((repeat' (first | exact rfl | exact Iff.rfl | exact trivial | exact (fun _ _ => rfl) | exact (fun _ h => absurd h (Nat.not_lt_zero _)) | refine ⟨?_, ?_⟩ | exact Iff.rfl | exact congrArg (fun z => V.SV.one (V.At.val (Value.int .i64 z))) (by omega))); done)) | ((first | refine V.Fn.k (c4) [0] rfl ?_ ?_ | refine V.Fn.q (c4) [0] rfl ?_ ?_ | refine V.Fn.a (c4) [0] rfl ?_ ?_); · ((repeat' (first | exact rfl | exact Iff.rfl | exact trivial | exact (fun _ _ => rfl) | exact (fun _ h => absurd h (Nat.not_lt_zero _)) | refine ⟨?_, ?_⟩ | exact Iff.rfl | exact congrArg (fun z => V.SV.one (V.At.val (Value.int .i64 z))) (by omega))); done)) | (first | refine V.Fn.k0 (c5) rfl ?_ | refine V.Fn.q0 (c5) rfl ?_ | refine V.Fn.a0 (c5) rfl ?_) | ((first | refine V.Fn.k (rd) [0] rfl ?_ ?_ | refine V.Fn.q (rd) [0] rfl ?_ ?_ | refine V.Fn.a (rd) [0] rfl ?_ ?_); · ((repeat' (first | exact rfl | exact Iff.rfl | exact trivial | exact (fun _ _ => rfl) | exact (fun _ h => absurd h (Nat.not_lt_zero _)) | refine ⟨?_, ?_⟩ | exact Iff.rfl | exact congrArg (fun z => V.SV.one (V.At.val (Value.int .i64 z))) (by omega))); done)) | ((first | refine V.Fn.k (c6) [0] rfl ?_ ?_ | refine V.Fn.q (c6) [0] rfl ?_ ?_ | refine V.Fn.a (c6) [0] rfl ?_ ?_); · ((repeat' (first | exact rfl | exact Iff.rfl | exact trivial | exact (fun _ _ => rfl) | exact (fun _ h => absurd h (Nat.not_lt_zero _)) | refine ⟨?_, ?_⟩ | exact Iff.rfl | exact congrArg (fun z => V.SV.one (V.At.val (Value.int .i64 z))) (by omega))); done)) | (first | refine V.Fn.k0 (v_ageBegun) rfl ?_ | refine V.Fn.q0 (v_ageBegun) rfl ?_ | refine V.Fn.a0 (v_ageBegun) rfl ?_) | (first | refine V.Fn.k0 (c7) rfl ?_ | refine V.Fn.q0 (c7) rfl ?_ | refine V.Fn.a0 (c7) rfl ?_) | (refine V.NDraw.any (by kernel_rfl) ?_) | fail)
          all_goals (conv => whnf)
          all_goals exact ⟨true, rfl, iff_of_true rfl rfl⟩
      · have d3 := D.chk_no h3
        have e1 := (Ag.dE_2 (day := f.day) h12 (by omega)).trans d3
        obtain ⟨x1, x2, x3⟩ := Ag.dE_no (c := c) (t := t) (day := f.day) (by omega)
        have h5 : ¬ Ag.sE c t f today = 0 := fun q => h3 (Ag.f_day (Ag.sE_ok q).2.2.1)
        rw [e1, x1, x2, x3] at c1
        rw [(Ag.sV_no h5).1] at c2
        rw [(Ag.sV_no h5).2] at c3
        unfold Ca.Day at h3
        clear x1 x2 x3 d3 hw h12 e1
        generalize Ag.sE c t f today = E at *
        refine V.Fn.mk_ V.Tok V.mixed Try.func3 rfl Try.ntmps3 (by kernel_rfl) rfl rfl ?_
        repeat' ((conv => whnf); first | (refine V.NIf.yes ?_ ?_; · (decide; done)) | (refine V.NIf.no ?_ ?_; · (decide; done)) | (refine V.NIf.yes ?_ ?_; · (simp only [true_and, and_true, and_self]; done)) | refine V.NCond.mk ?_ | refine V.NIf.not_ ?_ | refine V.NIf.dec_ ?_ | refine V.NIf.no (by omega) ?_ | refine V.NIf.yes (by omega) ?_ | refine V.NIf.mk (fun _ => ?_) (fun _ => ?_) | refine V.NWrap.ok (by omega) (by omega) ?_ | refine V.NWrap.u64 (by omega) (by omega) ?_ | refine V.NLt.mk (by omega) ?_ | refine V.NBoth.mk ?_ ?_ | refine V.NTF.yes (by omega) ?_ | refine V.NTF.no (by omega) ?_ | refine V.NTF.dec ?_ | refine V.NDraw.q (by exact rfl) (by kernel_rfl) ?_ | refine V.NApp.one (by first | omega | (simp; omega)) (by first | omega | (simp; omega)) ?_ | ((first | refine V.Fn.k (c1) [0] rfl ?_ ?_ | refine V.Fn.q (c1) [0] rfl ?_ ?_ | refine V.Fn.a (c1) [0] rfl ?_ ?_); · ((repeat' (first | exact rfl | exact Iff.rfl | exact trivial | exact (fun _ _ => rfl) | exact (fun _ h => absurd h (Nat.not_lt_zero _)) | refine ⟨?_, ?_⟩ | exact Iff.rfl | exact congrArg (fun z => V.SV.one (V.At.val (Value.int .i64 z))) (by omega))); done)) | ((first | refine V.Fn.k (c2) [0] rfl ?_ ?_ | refine V.Fn.q (c2) [0] rfl ?_ ?_ | refine V.Fn.a (c2) [0] rfl ?_ ?_); · ((repeat' (first | exact rfl | exact Iff.rfl | exact trivial | exact (fun _ _ => rfl) | exact (fun _ h => absurd h (Nat.not_lt_zero _)) | refine ⟨?_, ?_⟩ | exact Iff.rfl | exact congrArg (fun z => V.SV.one (V.At.val (Value.int .i64 z))) (by omega))); done)) | ((first | refine V.Fn.k (c3) [0] rfl ?_ ?_ | refine V.Fn.q (c3) [0] rfl ?_ ?_ | refine V.Fn.a (c3) [0] rfl ?_ ?_); · ((repeat' (first | exact rfl | exact Iff.rfl | exact trivial | exact (fun _ _ => rfl) | exact (fun _ h => absurd h (Nat.not_lt_zero _)) | refine ⟨?_, ?_⟩ | exact Iff.rfl | exact congrArg (fun z => V.SV.one (V.At.val (Value.int .i64 z))) (by omega))); done)) | ((first | refine V.Fn.k (c4) [0] rfl ?_ ?_ | refine V.Fn.q (c4) [0] rfl ?_ ?_ | refine V.Fn.a (c4) [0] rfl ?_ ?_); · ((repeat' (first | exact rfl | exact Iff.rfl | exact trivial | exact (fun _ _ => rfl) | exact (fun _ h => absurd h (Nat.not_lt_zero _)) | refine ⟨?_, ?_⟩ | exact Iff.rfl | exact congrArg (fun z => V.SV.one (V.At.val (Value.int .i64 z))) (by omega))); done)) | (first | refine V.Fn.k0 (c5) rfl ?_ | refine V.Fn.q0 (c5) rfl ?_ | refine V.Fn.a0 (c5) rfl ?_) | ((first | refine V.Fn.k (c6) [0] rfl ?_ ?_ | refine V.Fn.q (c6) [0] rfl ?_ ?_ | refine V.Fn.a (c6) [0] rfl ?_ ?_); · ((repeat' (first | exact rfl | exact Iff.rfl | exact trivial | exact (fun _ _ => rfl) | exact (fun _ h => absurd h (Nat.not_lt_zero _)) | refine ⟨?_, ?_⟩ | exact Iff.rfl | exact congrArg (fun z => V.SV.one (V.At.val (Value.int .i64 z))) (by omega))); done)) | (first | refine V.Fn.k0 (v_ageBegun) rfl ?_ | refine V.Fn.q0 (v_ageBegun) rfl ?_ | refine V.Fn.a0 (v_ageBegun) rfl ?_) | (first | refine V.Fn.k0 (c7) rfl ?_ | refine V.Fn.q0 (c7) rfl ?_ | refine V.Fn.a0 (c7) rfl ?_) | (refine V.NDraw.any (by kernel_rfl) ?_) | fail)
        all_goals (conv => whnf)
        all_goals first
          | exact ⟨true, rfl, iff_of_true rfl rfl⟩
          | (exfalso; omega)
    · have h12 : ¬ Ag.ck c t = 0 := by rw [Ag.ck_2 h1]; exact h2
      have e1 := (Ag.dE_1 (day := f.day) h12).trans (Ag.ck_2 h1)
      obtain ⟨x1, x2, x3⟩ := Ag.dE_no (c := c) (t := t) (day := f.day) (by omega)
      have h5 : ¬ Ag.sE c t f today = 0 := fun q => h2 (if_pos (Ag.sE_ok q).2.1)
      rw [e1, x1, x2, x3] at c1
      rw [(Ag.sV_no h5).1] at c2
      rw [(Ag.sV_no h5).2] at c3
      rw [h1] at c4
      clear x1 x2 x3 h12 e1
      generalize Ag.sE c t f today = E at *
      generalize Ag.tchk t = T at *
      refine V.Fn.mk_ V.Tok V.mixed Try.func3 rfl Try.ntmps3 (by kernel_rfl) rfl rfl ?_
      repeat' ((conv => whnf); first | (refine V.NIf.yes ?_ ?_; · (decide; done)) | (refine V.NIf.no ?_ ?_; · (decide; done)) | (refine V.NIf.yes ?_ ?_; · (simp only [true_and, and_true, and_self]; done)) | refine V.NCond.mk ?_ | refine V.NIf.not_ ?_ | refine V.NIf.dec_ ?_ | refine V.NIf.no (by omega) ?_ | refine V.NIf.yes (by omega) ?_ | refine V.NIf.mk (fun _ => ?_) (fun _ => ?_) | refine V.NWrap.ok (by omega) (by omega) ?_ | refine V.NWrap.u64 (by omega) (by omega) ?_ | refine V.NLt.mk (by omega) ?_ | refine V.NBoth.mk ?_ ?_ | refine V.NTF.yes (by omega) ?_ | refine V.NTF.no (by omega) ?_ | refine V.NTF.dec ?_ | refine V.NDraw.q (by exact rfl) (by kernel_rfl) ?_ | refine V.NApp.one (by first | omega | (simp; omega)) (by first | omega | (simp; omega)) ?_ | ((first | refine V.Fn.k (c1) [0] rfl ?_ ?_ | refine V.Fn.q (c1) [0] rfl ?_ ?_ | refine V.Fn.a (c1) [0] rfl ?_ ?_); · ((repeat' (first | exact rfl | exact Iff.rfl | exact trivial | exact (fun _ _ => rfl) | exact (fun _ h => absurd h (Nat.not_lt_zero _)) | refine ⟨?_, ?_⟩ | exact Iff.rfl | exact congrArg (fun z => V.SV.one (V.At.val (Value.int .i64 z))) (by omega))); done)) | ((first | refine V.Fn.k (c2) [0] rfl ?_ ?_ | refine V.Fn.q (c2) [0] rfl ?_ ?_ | refine V.Fn.a (c2) [0] rfl ?_ ?_); · ((repeat' (first | exact rfl | exact Iff.rfl | exact trivial | exact (fun _ _ => rfl) | exact (fun _ h => absurd h (Nat.not_lt_zero _)) | refine ⟨?_, ?_⟩ | exact Iff.rfl | exact congrArg (fun z => V.SV.one (V.At.val (Value.int .i64 z))) (by omega))); done)) | ((first | refine V.Fn.k (c3) [0] rfl ?_ ?_ | refine V.Fn.q (c3) [0] rfl ?_ ?_ | refine V.Fn.a (c3) [0] rfl ?_ ?_); · ((repeat' (first | exact rfl | exact Iff.rfl | exact trivial | exact (fun _ _ => rfl) | exact (fun _ h => absurd h (Nat.not_lt_zero _)) | refine ⟨?_, ?_⟩ | exact Iff.rfl | exact congrArg (fun z => V.SV.one (V.At.val (Value.int .i64 z))) (by omega))); done)) | ((first | refine V.Fn.k (c4) [0] rfl ?_ ?_ | refine V.Fn.q (c4) [0] rfl ?_ ?_ | refine V.Fn.a (c4) [0] rfl ?_ ?_); · ((repeat' (first | exact rfl | exact Iff.rfl | exact trivial | exact (fun _ _ => rfl) | exact (fun _ h => absurd h (Nat.not_lt_zero _)) | refine ⟨?_, ?_⟩ | exact Iff.rfl | exact congrArg (fun z => V.SV.one (V.At.val (Value.int .i64 z))) (by omega))); done)) | (first | refine V.Fn.k0 (c5) rfl ?_ | refine V.Fn.q0 (c5) rfl ?_ | refine V.Fn.a0 (c5) rfl ?_) | ((first | refine V.Fn.k (c6) [0] rfl ?_ ?_ | refine V.Fn.q (c6) [0] rfl ?_ ?_ | refine V.Fn.a (c6) [0] rfl ?_ ?_); · ((repeat' (first | exact rfl | exact Iff.rfl | exact trivial | exact (fun _ _ => rfl) | exact (fun _ h => absurd h (Nat.not_lt_zero _)) | refine ⟨?_, ?_⟩ | exact Iff.rfl | exact congrArg (fun z => V.SV.one (V.At.val (Value.int .i64 z))) (by omega))); done)) | (first | refine V.Fn.k0 (v_ageBegun) rfl ?_ | refine V.Fn.q0 (v_ageBegun) rfl ?_ | refine V.Fn.a0 (v_ageBegun) rfl ?_) | (first | refine V.Fn.k0 (c7) rfl ?_ | refine V.Fn.q0 (c7) rfl ?_ | refine V.Fn.a0 (c7) rfl ?_) | (refine V.NDraw.any (by kernel_rfl) ?_) | fail)
      all_goals (conv => whnf)
      all_goals first
        | exact ⟨true, rfl, iff_of_true rfl rfl⟩
        | (exfalso; omega)
  · have h12 : ¬ Ag.ck c t = 0 := by rw [Ag.ck_1 h1]; exact h1
    have e1 := (Ag.dE_1 (day := f.day) h12).trans (Ag.ck_1 h1)
    obtain ⟨x1, x2, x3⟩ := Ag.dE_no (c := c) (t := t) (day := f.day) (by omega)
    have h5 : ¬ Ag.sE c t f today = 0 := fun q => h1 (Ag.sE_ok q).1
    rw [e1, x1, x2, x3] at c1
    rw [(Ag.sV_no h5).1] at c2
    rw [(Ag.sV_no h5).2] at c3
    clear x1 x2 x3 h12 e1
    generalize Ag.sE c t f today = E at *
    generalize Ag.tchk t = T at *
    generalize Ca.chk c = K at *
    refine V.Fn.mk_ V.Tok V.mixed Try.func3 rfl Try.ntmps3 (by kernel_rfl) rfl rfl ?_
    repeat' ((conv => whnf); first | (refine V.NIf.yes ?_ ?_; · (decide; done)) | (refine V.NIf.no ?_ ?_; · (decide; done)) | (refine V.NIf.yes ?_ ?_; · (simp only [true_and, and_true, and_self]; done)) | refine V.NCond.mk ?_ | refine V.NIf.not_ ?_ | refine V.NIf.dec_ ?_ | refine V.NIf.no (by omega) ?_ | refine V.NIf.yes (by omega) ?_ | refine V.NIf.mk (fun _ => ?_) (fun _ => ?_) | refine V.NWrap.ok (by omega) (by omega) ?_ | refine V.NWrap.u64 (by omega) (by omega) ?_ | refine V.NLt.mk (by omega) ?_ | refine V.NBoth.mk ?_ ?_ | refine V.NTF.yes (by omega) ?_ | refine V.NTF.no (by omega) ?_ | refine V.NTF.dec ?_ | refine V.NDraw.q (by exact rfl) (by kernel_rfl) ?_ | refine V.NApp.one (by first | omega | (simp; omega)) (by first | omega | (simp; omega)) ?_ | ((first | refine V.Fn.k (c1) [0] rfl ?_ ?_ | refine V.Fn.q (c1) [0] rfl ?_ ?_ | refine V.Fn.a (c1) [0] rfl ?_ ?_); · ((repeat' (first | exact rfl | exact Iff.rfl | exact trivial | exact (fun _ _ => rfl) | exact (fun _ h => absurd h (Nat.not_lt_zero _)) | refine ⟨?_, ?_⟩ | exact Iff.rfl | exact congrArg (fun z => V.SV.one (V.At.val (Value.int .i64 z))) (by omega))); done)) | ((first | refine V.Fn.k (c2) [0] rfl ?_ ?_ | refine V.Fn.q (c2) [0] rfl ?_ ?_ | refine V.Fn.a (c2) [0] rfl ?_ ?_); · ((repeat' (first | exact rfl | exact Iff.rfl | exact trivial | exact (fun _ _ => rfl) | exact (fun _ h => absurd h (Nat.not_lt_zero _)) | refine ⟨?_, ?_⟩ | exact Iff.rfl | exact congrArg (fun z => V.SV.one (V.At.val (Value.int .i64 z))) (by omega))); done)) | ((first | refine V.Fn.k (c3) [0] rfl ?_ ?_ | refine V.Fn.q (c3) [0] rfl ?_ ?_ | refine V.Fn.a (c3) [0] rfl ?_ ?_); · ((repeat' (first | exact rfl | exact Iff.rfl | exact trivial | exact (fun _ _ => rfl) | exact (fun _ h => absurd h (Nat.not_lt_zero _)) | refine ⟨?_, ?_⟩ | exact Iff.rfl | exact congrArg (fun z => V.SV.one (V.At.val (Value.int .i64 z))) (by omega))); done)) | ((first | refine V.Fn.k (c4) [0] rfl ?_ ?_ | refine V.Fn.q (c4) [0] rfl ?_ ?_ | refine V.Fn.a (c4) [0] rfl ?_ ?_); · ((repeat' (first | exact rfl | exact Iff.rfl | exact trivial | exact (fun _ _ => rfl) | exact (fun _ h => absurd h (Nat.not_lt_zero _)) | refine ⟨?_, ?_⟩ | exact Iff.rfl | exact congrArg (fun z => V.SV.one (V.At.val (Value.int .i64 z))) (by omega))); done)) | (first | refine V.Fn.k0 (c5) rfl ?_ | refine V.Fn.q0 (c5) rfl ?_ | refine V.Fn.a0 (c5) rfl ?_) | ((first | refine V.Fn.k (c6) [0] rfl ?_ ?_ | refine V.Fn.q (c6) [0] rfl ?_ ?_ | refine V.Fn.a (c6) [0] rfl ?_ ?_); · ((repeat' (first | exact rfl | exact Iff.rfl | exact trivial | exact (fun _ _ => rfl) | exact (fun _ h => absurd h (Nat.not_lt_zero _)) | refine ⟨?_, ?_⟩ | exact Iff.rfl | exact congrArg (fun z => V.SV.one (V.At.val (Value.int .i64 z))) (by omega))); done)) | (first | refine V.Fn.k0 (v_ageBegun) rfl ?_ | refine V.Fn.q0 (v_ageBegun) rfl ?_ | refine V.Fn.a0 (v_ageBegun) rfl ?_) | (first | refine V.Fn.k0 (c7) rfl ?_ | refine V.Fn.q0 (c7) rfl ?_ | refine V.Fn.a0 (c7) rfl ?_) | (refine V.NDraw.any (by kernel_rfl) ?_) | fail)
    all_goals (conv => whnf)
    all_goals first
      | exact ⟨true, rfl, iff_of_true rfl rfl⟩
      | (exfalso; omega)
end Go.Proofs.Ytplomcleijlnmaa

/- The statement of AgeTells: for every input the call returns true and its input reads as it did. No condition. -/
namespace Go.Proofs.Ytplomcleijlnmaa.ageTells
open Go.ChangeShapes Go.WideShapes Go.ChangeAt Go.RowKit

theorem own : ownKnob Try.prog.godebug = none := by kernel_rfl

set_option maxRecDepth 100000 in
theorem lifted (os : Os) (started : os.Started) (H : Type) (enc : TypeId × Value → H) :
    ReturnsInHanded {} Try.checked os 3 .any (Rows.ageTellsSpec.pre6 enc Try.prog Try.f3 Rows.ageTellsRow.domain false) (Rows.ageTellsSpec.post enc Try.prog Try.f3 false true false false) := by
  refine returnsInHanded_of_change (C := Try.checked) own started (by kernel_rfl) Try.func3
    (ChangeSpec.witness6 (enc := enc) (C := Try.checked) false ⟨#[], #[.agg #[.int .i64 0, .slice none 0 0], .agg #[.int .i64 0, .int .i64 0, .int .i64 0, .int .i64 0], .agg #[.int .i64 0, .int .i64 0, .int .i64 0, .int .i64 0, .int .i64 0, .int .i64 0, .int .i64 0, .int .i64 0, .int .i64 0, .int .i64 0], .int .i64 0], []⟩ 8 (by kernel_rfl) (by kernel_rfl) (by kernel_rfl) (by kernel_rfl)) ?_
  intro W base args ds gs before hval0 hW _ _
  have hval : ∀ (j : Nat) t v, Try.f3.params[j]? = some t → args[j]? = some v → Value.okWide Try.prog W .any base t v := hval0
  have hW' := hW
  obtain ⟨p, q, hA0, hV, rfl, hfz, hnd⟩ := hW
  have hA : DataW.TrodAll enc Try.prog W 0 (fun _ => true) true Try.f3.params.toList args.toList ds p := hA0
  rw [Try.params3] at hA hval
  obtain ⟨v0, vs0, d0, ds0, p0, q0, hargs, rfl, rfl, h0, r0⟩ := trodAll_cons hA
  obtain ⟨v1, vs1, d1, ds1, p1, q1, rfl, rfl, rfl, h1, r1⟩ := trodAll_cons r0
  obtain ⟨v2, vs2, d2, ds2, p2, q2, rfl, rfl, rfl, h2, r2⟩ := trodAll_cons r1
  obtain ⟨v3, vs3, d3, ds3, p3, q3, rfl, rfl, rfl, h3, r3⟩ := trodAll_cons r2
  obtain ⟨rfl, rfl, rfl⟩ := trodAll_nil r3
  obtain rfl : args = #[v0, v1, v2, v3] := by cases args; simp_all
  obtain ⟨rfl, rfl⟩ := trodVars_none hV
  obtain ⟨c0, u0, rfl, hl0, w0⟩ := open_cl (hval 0 24 v0 rfl rfl) h0
  obtain ⟨f1, rfl, w1⟩ := open_tm (hval 1 26 v1 rfl rfl) h1
  obtain ⟨f2, rfl, w2⟩ := open_fl (hval 2 28 v2 rfl rfl) h2
  obtain ⟨a3, rfl, rfl, rfl, w3⟩ := open_int Try.underlying3 (hval 3 3 v3 rfl rfl) h3
  clear hval0
  simp only [List.append_nil] at hW'
  refine ((v_ageTells c0 w0 f1 w1 f2 w2 a3 w3).c W (fun i => [u0][i]?) [_, _, _, _] (fun i o ho => by
      rcases i with _ | i
      · obtain rfl := Option.some.inj ho
        exact ⟨u0, rfl, hl0⟩
      simp at ho
) ⟨_, _, rfl, ⟨[_, _], ⟨_, _, rfl, rfl, _, _, rfl, ⟨rfl, hl0.one⟩, rfl⟩, rfl⟩, ⟨_, _, rfl, ⟨_, V.Ats.vals _ [_, _, _, _], rfl⟩, ⟨_, _, rfl, ⟨_, V.Ats.vals _ [_, _, _, _, _, _, _, _, _, _], rfl⟩, ⟨_, _, rfl, rfl, rfl⟩⟩⟩⟩).mono fun e W' ⟨he, hg⟩ => ?_
  subst he
  exact ⟨_, rfl, post_of_below (pa := _) (pv := []) hW' (fun _ _ _ => (trodAll_cons_mk (shut_bool Try.underlying4 _) trodAll_mk0)) (fun sp hsp => all_stays laidOut (by kernel_rfl) hA0 (fun x hx => hg.same (hW'.lt x (by revert hx; simp))) (fun x hx => hsp x (by revert hx; simp))) (fun _ _ => rfl) (by simp)
    hg (ok_one (by kernel_rfl) rfl (okWide_bool_mk Try.underlying4 _))⟩

theorem over : Rows.ageTellsRow.holds Try.pinned (OpenSpec.ofChange Rows.ageTellsSpec) :=
  OpenClaim.holds_of_wide 3 Try.f3 rfl rfl rfl rfl rfl rfl rfl ⟨rfl, rfl, rfl, rfl, rfl⟩ rfl rfl rfl rfl rfl (by kernel_rfl) Try.func3 (by kernel_rfl)
    (of_decide_eq_true (by kernel_rfl)) (by unfold Func.isWrapper; first | (rw [if_pos (by decide +kernel)]; kernel_rfl) | (rw [if_neg (by decide +kernel)]; exact ⟨rfl, rfl⟩))
    (fun os started H enc _ => lifted os started H enc)

theorem proved : Rows.AgeTellsSaid :=
  over
end Go.Proofs.Ytplomcleijlnmaa.ageTells
