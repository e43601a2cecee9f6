/- Shared texts, one behind the other: VAge, VAgeR, CalPl3, VFailB, AgePl2, VAgeB, VNil, VCal3, VOpenI, VOpenC, VOpenF, VOpenTm, Laid -/
import Derived.Test.YtplomcleijlnmaaDoorRows
import Derived.ProofKit
import Derived.LaidMore
import Derived.OpenShut
import Derived.Stop.Joined
import Derived.Lib.LaidTab
import Derived.Test.YtplomcleijlnmaaDoorZ1
import Derived.Test.YtplomcleijlnmaaDoorZ2
import Derived.Test.YtplomcleijlnmaaDoorZ3

/- What the functions on ages answer. -/
namespace Go.Proofs.YtplomcleijlnmaaDoor
open Go Go.RowKit V
set_option maxRecDepth 100000
set_option linter.unusedVariables false
theorem v_agwithin (n a b : Int) : V.Fn Tryd.prog 32 [] [.one (.val (.int .i64 n)), .one (.val (.int .i64 a)), .one (.val (.int .i64 b))] (.bool (decide (a ≤ n ∧ n ≤ b))) := by
  refine V.Fn.mk_ V.Tok V.mixed Tryd.func32 rfl Tryd.ntmps32 (by kernel_rfl) rfl rfl ?_
  repeat' ((conv => whnf); first | refine V.NCond.mk ?_ | refine V.NIf.not_ ?_ | refine V.NIf.dec_ ?_ | refine V.NIf.no (by omega) ?_ | refine V.NIf.yes (by omega) ?_ | refine V.NIf.mk (fun _ => ?_) (fun _ => ?_) | refine V.NWrap.ok (by omega) (by omega) ?_ | refine V.NWrap.u64 (by omega) (by omega) ?_ | refine V.NLt.mk (by omega) ?_ | refine V.NBoth.mk ?_ ?_ | refine V.NTF.yes (by omega) ?_ | refine V.NTF.no (by omega) ?_ | refine V.NTF.dec ?_ | refine V.NDraw.q (by exact rfl) (by kernel_rfl) ?_ | refine V.NApp.one (by first | omega | (simp; omega)) (by first | omega | (simp; omega)) ?_ | (refine V.NDraw.any (by kernel_rfl) ?_) | fail)
  · exact ⟨_, rfl, by simp_all⟩
  · exact congrArg Value.bool (by simp_all; omega)
theorem v_agCheck (t : Tm) : V.Fn Tryd.prog 26 [] [.agg [.val (.int .i64 t.ex), .val (.int .i64 t.bu), .val (.int .i64 t.de), .val (.int .i64 t.ra)]] (.int .i64 (Ag.tchk t)) := by
  have h1 : Ag.Wi t → Ag.tchk t = 0 := fun h => if_pos h
  have h2 : ¬ Ag.Wi t → Ag.tchk t = 3 := fun h => if_neg h
  have hw : Ag.Wi t ↔ ((0 ≤ t.ex ∧ t.ex ≤ 100) ∧ (0 ≤ t.bu ∧ t.bu ≤ 100) ∧ (0 ≤ t.de ∧ t.de ≤ 100) ∧ (0 ≤ t.ra ∧ t.ra ≤ 1000000)) := Iff.rfl
  refine V.Fn.mk_ V.Tok V.mixed Tryd.func26 rfl Tryd.ntmps26 (by kernel_rfl) rfl rfl ?_
  repeat' ((conv => whnf); first | refine V.NCond.mk ?_ | refine V.NIf.not_ ?_ | refine V.NIf.dec_ ?_ | refine V.NIf.no (by omega) ?_ | refine V.NIf.yes (by omega) ?_ | refine V.NIf.mk (fun _ => ?_) (fun _ => ?_) | refine V.NWrap.ok (by omega) (by omega) ?_ | refine V.NWrap.u64 (by omega) (by omega) ?_ | refine V.NLt.mk (by omega) ?_ | refine V.NBoth.mk ?_ ?_ | refine V.NTF.yes (by omega) ?_ | refine V.NTF.no (by omega) ?_ | refine V.NTF.dec ?_ | refine V.NDraw.q (by exact rfl) (by kernel_rfl) ?_ | refine V.NApp.one (by first | omega | (simp; omega)) (by first | omega | (simp; omega)) ?_ | (first | refine V.Fn.k0 (v_agwithin _ _ _) rfl ?_ | refine V.Fn.q0 (v_agwithin _ _ _) rfl ?_ | refine V.Fn.a0 (v_agwithin _ _ _) rfl ?_) | (refine V.NDraw.any (by kernel_rfl) ?_) | fail)
  all_goals (conv => whnf)
  all_goals first
    | exact V.fin1 (h1 (hw.2 (by omega)))
    | exact V.fin1 (h2 (fun q => by have := hw.1 q; omega))
theorem v_agcheck (c : Cl) (t : Tm) (hc : c.hs.length ≤ 9223372036854775807) : V.Fn Tryd.prog 11 [.arr 1 c.hs.length (ga e1 c.hs)] [.agg [.val (.int .i64 c.we), .ref 0], .agg [.val (.int .i64 t.ex), .val (.int .i64 t.bu), .val (.int .i64 t.de), .val (.int .i64 t.ra)]] (.int .i64 (Ag.ck c t)) := by
  have h1 := @Ag.ck_1 c t
  have h2 := @Ag.ck_2 c t
  refine V.Fn.mk_ V.Tok V.mixed Tryd.func11 rfl Tryd.ntmps11 (by kernel_rfl) rfl rfl ?_
  repeat' ((conv => whnf); first | refine V.NCond.mk ?_ | refine V.NIf.not_ ?_ | refine V.NIf.dec_ ?_ | refine V.NIf.no (by omega) ?_ | refine V.NIf.yes (by omega) ?_ | refine V.NIf.mk (fun _ => ?_) (fun _ => ?_) | refine V.NWrap.ok (by omega) (by omega) ?_ | refine V.NWrap.u64 (by omega) (by omega) ?_ | refine V.NLt.mk (by omega) ?_ | refine V.NBoth.mk ?_ ?_ | refine V.NTF.yes (by omega) ?_ | refine V.NTF.no (by omega) ?_ | refine V.NTF.dec ?_ | refine V.NDraw.q (by exact rfl) (by kernel_rfl) ?_ | refine V.NApp.one (by first | omega | (simp; omega)) (by first | omega | (simp; omega)) ?_ | ((first | refine V.Fn.k (v_caCheck c hc) [0] rfl ?_ ?_ | refine V.Fn.q (v_caCheck c hc) [0] rfl ?_ ?_ | refine V.Fn.a (v_caCheck c hc) [0] rfl ?_ ?_); · ((repeat' (first | exact rfl | exact Iff.rfl | exact trivial | exact (fun _ _ => rfl) | exact (fun _ h => absurd h (Nat.not_lt_zero _)) | refine ⟨?_, ?_⟩ | exact Iff.rfl | exact congrArg (fun z => V.SV.one (V.At.val (Value.int .i64 z))) (by omega))); done)) | (first | refine V.Fn.k0 (v_agCheck _) rfl ?_ | refine V.Fn.q0 (v_agCheck _) rfl ?_ | refine V.Fn.a0 (v_agCheck _) rfl ?_) | (refine V.NDraw.any (by kernel_rfl) ?_) | fail)
  all_goals (conv => whnf)
  · exact V.fin1 (h2 (by omega))
  · exact V.fin1 (h1 (by assumption))
theorem v_steps (c : Cl) (day : Int) (l : List Int) (h : Ca.Ok c) (hd : Ca.Day day) (hn : l.length ≤ 1000) (hb : ∀ x ∈ l, 0 ≤ x ∧ x ≤ 100) : V.FnR Tryd.prog 13 [.arr 1 c.hs.length (ga e1 c.hs), .arr 1 l.length (ga e1 l)] [.agg [.val (.int .i64 c.we), .ref 0], .one (.val (.int .i64 day)), .one (.ref 1)] (.tup [.one (.ref 2), .one (.val (.bool (decide (Ag.okS c day l))))]) [.row 3 1 (if Ag.okS c day l then Ag.sq c day l else []).length (ga e1 (if Ag.okS c day l then Ag.sq c day l else []))] := by
  have sl := Ag.sq_len c l day
  refine V.FnR.mk_ V.Tok V.mixed Tryd.func13 rfl Tryd.ntmps13 (by kernel_rfl) rfl rfl rfl rfl ?_
  repeat' ((conv => whnf); first | refine V.NCond.mk ?_ | refine V.NIf.not_ ?_ | refine V.NIf.dec_ ?_ | refine V.NIf.no (by omega) ?_ | refine V.NIf.yes (by omega) ?_ | refine V.NIf.mk (fun _ => ?_) (fun _ => ?_) | refine V.NWrap.ok (by omega) (by omega) ?_ | refine V.NWrap.u64 (by omega) (by omega) ?_ | refine V.NLt.mk (by omega) ?_ | refine V.NBoth.mk ?_ ?_ | refine V.NTF.yes (by omega) ?_ | refine V.NTF.no (by omega) ?_ | refine V.NTF.dec ?_ | refine V.NDraw.q (by exact rfl) (by kernel_rfl) ?_ | refine V.NApp.one (by first | omega | (simp; omega)) (by first | omega | (simp; omega)) ?_ | (refine V.NDraw.any (by kernel_rfl) ?_) | fail)
  all_goals (conv => whnf)
  refine V.NLoop.auto (fun (k : Nat) => [(13, .one (.val (.int .i64 k))), (1, .one (.val (.int .i64 ((day :: Ag.sq c day l).getD k default)))), (8, .one (.ref 4))]) (fun (k : Nat) => [(4, .row 3 1 ((Ag.sq c day l).take k).length (ga e1 ((Ag.sq c day l).take k)))]) [] [] (fun (k : Nat) => l.length - k) (fun (k : Nat) => k ≤ l.length ∧ ∀ j, j < k → 0 ≤ (Ag.sq c day l).getD j default) 0 ⟨Nat.zero_le _, fun j hj => absurd hj (Nat.not_lt_zero _)⟩ (by repeat' (first | exact rfl | exact Iff.rfl | exact trivial | exact (fun _ _ => rfl) | exact (fun _ h => absurd h (Nat.not_lt_zero _)) | refine ⟨?_, ?_⟩ | exact Iff.rfl | exact congrArg (fun z => V.SV.one (V.At.val (Value.int .i64 z))) (by omega))) (by repeat' (first | exact rfl | exact Iff.rfl | exact trivial | exact (fun _ _ => rfl) | exact (fun _ h => absurd h (Nat.not_lt_zero _)) | refine ⟨?_, ?_⟩ | exact Iff.rfl | exact congrArg (fun z => V.SV.one (V.At.val (Value.int .i64 z))) (by omega))) (fun _ => ⟨rfl, rfl⟩) ?_; (conv => whnf); refine ⟨⟨rfl, rfl⟩, ?_⟩
  rintro k ⟨hk, hJ⟩
  have dk := Ag.sq_day (l := l) hd k hk hJ
  by_cases hlt : k < l.length
  · have bk := hb _ (getD_mem hlt)
    have sa := Ag.sq_at c l day k hlt
    have tk : (Ag.sq c day l).take (k + 1) = (Ag.sq c day l).take k ++ [(Ag.sq c day l).getD k default] := by
      rw [List.take_succ_eq_append_getElem (by omega), getD_at (by omega)]
    have tl : ((Ag.sq c day l).take k).length = k := by rw [List.length_take]; omega
    generalize hx : (day :: Ag.sq c day l).getD k default = cur at *
    have rw_ := v_caRaw c cur (l.getD k default) h dk (by omega)
    rw [← sa] at rw_
    repeat' ((conv => whnf); first | refine V.NCond.mk ?_ | refine V.NIf.not_ ?_ | refine V.NIf.dec_ ?_ | refine V.NIf.no (by omega) ?_ | refine V.NIf.yes (by omega) ?_ | refine V.NIf.mk (fun _ => ?_) (fun _ => ?_) | refine V.NWrap.ok (by omega) (by omega) ?_ | refine V.NWrap.u64 (by omega) (by omega) ?_ | refine V.NLt.mk (by omega) ?_ | refine V.NBoth.mk ?_ ?_ | refine V.NTF.yes (by omega) ?_ | refine V.NTF.no (by omega) ?_ | refine V.NTF.dec ?_ | refine V.NDraw.q (by exact rfl) (by kernel_rfl) ?_ | refine V.NApp.one (by first | omega | (simp; omega)) (by first | omega | (simp; omega)) ?_ | (refine NIdx.mk ⟨k, rfl, by omega, ?_⟩) | ((first | refine V.Fn.k (rw_) [0] rfl ?_ ?_ | refine V.Fn.q (rw_) [0] rfl ?_ ?_ | refine V.Fn.a (rw_) [0] rfl ?_ ?_); · ((repeat' (first | exact rfl | exact Iff.rfl | exact trivial | exact (fun _ _ => rfl) | exact (fun _ h => absurd h (Nat.not_lt_zero _)) | refine ⟨?_, ?_⟩ | exact Iff.rfl | exact congrArg (fun z => V.SV.one (V.At.val (Value.int .i64 z))) (by omega))); done)) | (refine V.NDraw.any (by kernel_rfl) ?_) | fail)
    all_goals (conv => whnf)
    · have no : ¬ Ag.okS c day l := fun q => by
        have := q _ (getD_mem (l := Ag.sq c day l) (k := k) (by omega))
        omega
      rw [if_neg no, decide_eq_false no]
      refine NRet.mk_ [some 5] rfl ⟨rfl, rfl, trivial⟩ ⟨⟨rfl, rfl, rfl, fun k hk => absurd hk (Nat.not_lt_zero _)⟩, trivial⟩
    · refine V.NBack.at_ (k + 1) [(4, 6)] ⟨by omega, fun j hj => ?_⟩ (by omega) (by repeat' (first | exact rfl | exact Iff.rfl | exact trivial | exact (fun _ _ => rfl) | exact (fun _ h => absurd h (Nat.not_lt_zero _)) | refine ⟨?_, ?_⟩ | exact Iff.rfl | exact congrArg (fun z => V.SV.one (V.At.val (Value.int .i64 z))) (by omega))) rfl ⟨ObLe.as_ tk, trivial⟩ (by repeat' (first | exact rfl | exact Iff.rfl | exact trivial | exact (fun _ _ => rfl) | exact (fun _ h => absurd h (Nat.not_lt_zero _)) | refine ⟨?_, ?_⟩ | exact Iff.rfl | exact congrArg (fun z => V.SV.one (V.At.val (Value.int .i64 z))) (by omega))) (by repeat' (first | exact rfl | exact Iff.rfl | exact trivial | exact (fun _ _ => rfl) | exact (fun _ h => absurd h (Nat.not_lt_zero _)) | refine ⟨?_, ?_⟩ | exact Iff.rfl | exact congrArg (fun z => V.SV.one (V.At.val (Value.int .i64 z))) (by omega)))
      by_cases e : j = k
      · subst e; omega
      · exact hJ j (by omega)
  · obtain rfl : k = l.length := by omega
    have ok : Ag.okS c day l := fun x hx => by
      obtain ⟨j, hj, rfl⟩ := List.getElem_of_mem hx
      have := hJ j (by omega)
      rwa [getD_at hj] at this
    have tw : (Ag.sq c day l).take l.length = Ag.sq c day l := by rw [← sl, List.take_length]
    rw [tw]
    clear tw
    rw [if_pos ok, decide_eq_true ok]
    repeat' ((conv => whnf); first | refine V.NCond.mk ?_ | refine V.NIf.not_ ?_ | refine V.NIf.dec_ ?_ | refine V.NIf.no (by omega) ?_ | refine V.NIf.yes (by omega) ?_ | refine V.NIf.mk (fun _ => ?_) (fun _ => ?_) | refine V.NWrap.ok (by omega) (by omega) ?_ | refine V.NWrap.u64 (by omega) (by omega) ?_ | refine V.NLt.mk (by omega) ?_ | refine V.NBoth.mk ?_ ?_ | refine V.NTF.yes (by omega) ?_ | refine V.NTF.no (by omega) ?_ | refine V.NTF.dec ?_ | refine V.NDraw.q (by exact rfl) (by kernel_rfl) ?_ | refine V.NApp.one (by first | omega | (simp; omega)) (by first | omega | (simp; omega)) ?_ | (refine V.NDraw.any (by kernel_rfl) ?_) | fail)
    all_goals (conv => whnf)
    refine NRet.mk_ [some 4] rfl ⟨rfl, rfl, trivial⟩ ⟨⟨rfl, rfl, rfl, fun k hk => rfl⟩, trivial⟩
theorem v_steps3 (c : Cl) (t : Tm) (day : Int) (h : Ca.Ok c) (hw : Ag.Wi t) (hd : Ca.Day day) :
    (Ag.There c t day → V.FnR Tryd.prog 13 [.arr 1 c.hs.length (ga e1 c.hs), .arr 1 [t.ex, t.bu, t.de].length (ga e1 [t.ex, t.bu, t.de])] [.agg [.val (.int .i64 c.we), .ref 0], .one (.val (.int .i64 day)), .one (.ref 1)] (.tup [.one (.ref 2), .one (.val (.bool true))]) [.row 3 1 [Ag.d1 c t day, Ag.d2 c t day, Ag.d3 c t day].length (ga e1 [Ag.d1 c t day, Ag.d2 c t day, Ag.d3 c t day])]) ∧
    (¬ Ag.There c t day → V.FnR Tryd.prog 13 [.arr 1 c.hs.length (ga e1 c.hs), .arr 1 [t.ex, t.bu, t.de].length (ga e1 [t.ex, t.bu, t.de])] [.agg [.val (.int .i64 c.we), .ref 0], .one (.val (.int .i64 day)), .one (.ref 1)] (.tup [.one (.ref 2), .one (.val (.bool false))]) [.row 3 1 ([] : List Int).length (ga e1 [])]) := by
  obtain ⟨w1, w2, w3, w4⟩ := hw
  have s := v_steps c day [t.ex, t.bu, t.de] h hd (by simp) (fun x hx => by simp at hx; omega)
  refine ⟨fun q => ?_, fun q => ?_⟩
  · rw [decide_eq_true (Ag.ok3.2 q), if_pos (Ag.ok3.2 q), Ag.sq3] at s; exact s
  · rw [decide_eq_false (fun z => q (Ag.ok3.1 z)), if_neg (fun z => q (Ag.ok3.1 z))] at s; exact s
theorem v_steps4 (c : Cl) (t : Tm) (day : Int) (h : Ca.Ok c) (hw : Ag.Wi t) (hd : Ca.Day day) :
    (Ag.There c t day → V.FnR Tryd.prog 13 [.arr 1 c.hs.length (ga e1 c.hs), .arr 1 [0, t.ex, t.bu, t.de].length (ga e1 [0, t.ex, t.bu, t.de])] [.agg [.val (.int .i64 c.we), .ref 0], .one (.val (.int .i64 day)), .one (.ref 1)] (.tup [.one (.ref 2), .one (.val (.bool true))]) [.row 3 1 [day, Ag.d1 c t day, Ag.d2 c t day, Ag.d3 c t day].length (ga e1 [day, Ag.d1 c t day, Ag.d2 c t day, Ag.d3 c t day])]) ∧
    (¬ Ag.There c t day → V.FnR Tryd.prog 13 [.arr 1 c.hs.length (ga e1 c.hs), .arr 1 [0, t.ex, t.bu, t.de].length (ga e1 [0, t.ex, t.bu, t.de])] [.agg [.val (.int .i64 c.we), .ref 0], .one (.val (.int .i64 day)), .one (.ref 1)] (.tup [.one (.ref 2), .one (.val (.bool false))]) [.row 3 1 ([] : List Int).length (ga e1 [])]) := by
  obtain ⟨w1, w2, w3, w4⟩ := hw
  have s := v_steps c day [0, t.ex, t.bu, t.de] h hd (by simp) (fun x hx => by simp at hx; omega)
  refine ⟨fun q => ?_, fun q => ?_⟩
  · rw [decide_eq_true ((Ag.ok4 hd).2 q), if_pos ((Ag.ok4 hd).2 q), Ag.sq4] at s; exact s
  · rw [decide_eq_false (fun z => q ((Ag.ok4 hd).1 z)), if_neg (fun z => q ((Ag.ok4 hd).1 z))] at s; exact s
theorem v_agDays (c : Cl) (t : Tm) (day : Int) (hc : c.hs.length ≤ 9223372036854775807) : V.Fn Tryd.prog 5 [.arr 1 c.hs.length (ga e1 c.hs)] [.agg [.val (.int .i64 c.we), .ref 0], .agg [.val (.int .i64 t.ex), .val (.int .i64 t.bu), .val (.int .i64 t.de), .val (.int .i64 t.ra)], .one (.val (.int .i64 day))] (.tuple #[.int .i64 (Ag.dA c t day), .int .i64 (Ag.dB c t day), .int .i64 (Ag.dD c t day), .int .i64 (Ag.dE c t day)]) := by
  have ck := v_agcheck c t hc
  by_cases h1 : Ag.ck c t = 0
  · by_cases h2 : D.chk day = 0
    · obtain ⟨k1, k2⟩ := Ag.ck_ok h1
      have hd : Ca.Day day := by rcases Ca.dchk day with q | q; · exact q.2
                                 · omega
      obtain ⟨s1, s2⟩ := v_steps3 c t day (Ca.chk_ok k1) k2 hd
      rw [h1] at ck
      have dc := v_dcheck day
      rw [h2] at dc
      by_cases h3 : Ag.There c t day
      · have s1 := s1 h3
        have e := Ag.dE_4 h1 h2 h3
        obtain ⟨_, _, _, _, e1', e2', e3'⟩ := Ag.dE_ok e
        rw [e, e1', e2', e3']
        refine V.Fn.mk_ V.Tok V.mixed Tryd.func5 rfl Tryd.ntmps5 (by kernel_rfl) rfl rfl ?_
        repeat' ((conv => whnf); first | (refine V.NIf.yes ?_ ?_; · (decide; done)) | (refine V.NIf.no ?_ ?_; · (decide; done)) | refine V.NCond.mk ?_ | refine V.NIf.not_ ?_ | refine V.NIf.dec_ ?_ | refine V.NIf.no (by omega) ?_ | refine V.NIf.yes (by omega) ?_ | refine V.NIf.mk (fun _ => ?_) (fun _ => ?_) | refine V.NWrap.ok (by omega) (by omega) ?_ | refine V.NWrap.u64 (by omega) (by omega) ?_ | refine V.NLt.mk (by omega) ?_ | refine V.NBoth.mk ?_ ?_ | refine V.NTF.yes (by omega) ?_ | refine V.NTF.no (by omega) ?_ | refine V.NTF.dec ?_ | refine V.NDraw.q (by exact rfl) (by kernel_rfl) ?_ | refine V.NApp.one (by first | omega | (simp; omega)) (by first | omega | (simp; omega)) ?_ | ((first | refine V.Fn.k (ck) [0] rfl ?_ ?_ | refine V.Fn.q (ck) [0] rfl ?_ ?_ | refine V.Fn.a (ck) [0] rfl ?_ ?_); · ((repeat' (first | exact rfl | exact Iff.rfl | exact trivial | exact (fun _ _ => rfl) | exact (fun _ h => absurd h (Nat.not_lt_zero _)) | refine ⟨?_, ?_⟩ | exact Iff.rfl | exact congrArg (fun z => V.SV.one (V.At.val (Value.int .i64 z))) (by omega))); done)) | (first | refine V.Fn.k0 (dc) rfl ?_ | refine V.Fn.q0 (dc) rfl ?_ | refine V.Fn.a0 (dc) rfl ?_) | ((first | refine V.FnR.k_ (s1) [0, 3] rfl ?_ ?_ | refine V.FnR.a_ (s1) [0, 3] rfl ?_ ?_); · ((repeat' (first | exact rfl | exact Iff.rfl | exact trivial | exact (fun _ _ => rfl) | exact (fun _ h => absurd h (Nat.not_lt_zero _)) | refine ⟨?_, ?_⟩ | exact Iff.rfl | exact congrArg (fun z => V.SV.one (V.At.val (Value.int .i64 z))) (by omega))); done)) | (refine V.NLt.mk (by simp) ?_) | (refine NIdx.mk ⟨0, rfl, by simp, ?_⟩) | (refine NIdx.mk ⟨1, rfl, by simp, ?_⟩) | (refine NIdx.mk ⟨2, rfl, by simp, ?_⟩) | (refine V.NDraw.any (by kernel_rfl) ?_) | fail)
        all_goals (conv => whnf)
        all_goals exact ⟨rfl, rfl, rfl, rfl, trivial⟩
      · have s2 := s2 h3
        have e := Ag.dE_3 h1 h2 h3
        obtain ⟨e1', e2', e3'⟩ := Ag.dE_no (c := c) (t := t) (day := day) (by omega)
        rw [e, e1', e2', e3']
        refine V.Fn.mk_ V.Tok V.mixed Tryd.func5 rfl Tryd.ntmps5 (by kernel_rfl) rfl rfl ?_
        repeat' ((conv => whnf); first | (refine V.NIf.yes ?_ ?_; · (decide; done)) | (refine V.NIf.no ?_ ?_; · (decide; done)) | refine V.NCond.mk ?_ | refine V.NIf.not_ ?_ | refine V.NIf.dec_ ?_ | refine V.NIf.no (by omega) ?_ | refine V.NIf.yes (by omega) ?_ | refine V.NIf.mk (fun _ => ?_) (fun _ => ?_) | refine V.NWrap.ok (by omega) (by omega) ?_ | refine V.NWrap.u64 (by omega) (by omega) ?_ | refine V.NLt.mk (by omega) ?_ | refine V.NBoth.mk ?_ ?_ | refine V.NTF.yes (by omega) ?_ | refine V.NTF.no (by omega) ?_ | refine V.NTF.dec ?_ | refine V.NDraw.q (by exact rfl) (by kernel_rfl) ?_ | refine V.NApp.one (by first | omega | (simp; omega)) (by first | omega | (simp; omega)) ?_ | ((first | refine V.Fn.k (ck) [0] rfl ?_ ?_ | refine V.Fn.q (ck) [0] rfl ?_ ?_ | refine V.Fn.a (ck) [0] rfl ?_ ?_); · ((repeat' (first | exact rfl | exact Iff.rfl | exact trivial | exact (fun _ _ => rfl) | exact (fun _ h => absurd h (Nat.not_lt_zero _)) | refine ⟨?_, ?_⟩ | exact Iff.rfl | exact congrArg (fun z => V.SV.one (V.At.val (Value.int .i64 z))) (by omega))); done)) | (first | refine V.Fn.k0 (dc) rfl ?_ | refine V.Fn.q0 (dc) rfl ?_ | refine V.Fn.a0 (dc) rfl ?_) | ((first | refine V.FnR.k_ (s2) [0, 3] rfl ?_ ?_ | refine V.FnR.a_ (s2) [0, 3] rfl ?_ ?_); · ((repeat' (first | exact rfl | exact Iff.rfl | exact trivial | exact (fun _ _ => rfl) | exact (fun _ h => absurd h (Nat.not_lt_zero _)) | refine ⟨?_, ?_⟩ | exact Iff.rfl | exact congrArg (fun z => V.SV.one (V.At.val (Value.int .i64 z))) (by omega))); done)) | (refine V.NDraw.any (by kernel_rfl) ?_) | fail)
        all_goals (conv => whnf)
        all_goals exact ⟨rfl, rfl, rfl, rfl, trivial⟩
    · have e := Ag.dE_2 h1 h2
      obtain ⟨e1', e2', e3'⟩ := Ag.dE_no (c := c) (t := t) (day := day) (by omega)
      rw [e, e1', e2', e3']
      rw [h1] at ck
      refine V.Fn.mk_ V.Tok V.mixed Tryd.func5 rfl Tryd.ntmps5 (by kernel_rfl) rfl rfl ?_
      repeat' ((conv => whnf); first | (refine V.NIf.yes ?_ ?_; · (decide; done)) | (refine V.NIf.no ?_ ?_; · (decide; done)) | refine V.NCond.mk ?_ | refine V.NIf.not_ ?_ | refine V.NIf.dec_ ?_ | refine V.NIf.no (by omega) ?_ | refine V.NIf.yes (by omega) ?_ | refine V.NIf.mk (fun _ => ?_) (fun _ => ?_) | refine V.NWrap.ok (by omega) (by omega) ?_ | refine V.NWrap.u64 (by omega) (by omega) ?_ | refine V.NLt.mk (by omega) ?_ | refine V.NBoth.mk ?_ ?_ | refine V.NTF.yes (by omega) ?_ | refine V.NTF.no (by omega) ?_ | refine V.NTF.dec ?_ | refine V.NDraw.q (by exact rfl) (by kernel_rfl) ?_ | refine V.NApp.one (by first | omega | (simp; omega)) (by first | omega | (simp; omega)) ?_ | ((first | refine V.Fn.k (ck) [0] rfl ?_ ?_ | refine V.Fn.q (ck) [0] rfl ?_ ?_ | refine V.Fn.a (ck) [0] rfl ?_ ?_); · ((repeat' (first | exact rfl | exact Iff.rfl | exact trivial | exact (fun _ _ => rfl) | exact (fun _ h => absurd h (Nat.not_lt_zero _)) | refine ⟨?_, ?_⟩ | exact Iff.rfl | exact congrArg (fun z => V.SV.one (V.At.val (Value.int .i64 z))) (by omega))); done)) | (first | refine V.Fn.k0 (v_dcheck day) rfl ?_ | refine V.Fn.q0 (v_dcheck day) rfl ?_ | refine V.Fn.a0 (v_dcheck day) rfl ?_) | (refine V.NDraw.any (by kernel_rfl) ?_) | fail)
      all_goals (conv => whnf)
      all_goals exact ⟨rfl, rfl, rfl, rfl, trivial⟩
  · have e := Ag.dE_1 (day := day) h1
    obtain ⟨e1', e2', e3'⟩ := Ag.dE_no (c := c) (t := t) (day := day) (by omega)
    rw [e, e1', e2', e3']
    refine V.Fn.mk_ V.Tok V.mixed Tryd.func5 rfl Tryd.ntmps5 (by kernel_rfl) rfl rfl ?_
    repeat' ((conv => whnf); first | refine V.NCond.mk ?_ | refine V.NIf.not_ ?_ | refine V.NIf.dec_ ?_ | refine V.NIf.no (by omega) ?_ | refine V.NIf.yes (by omega) ?_ | refine V.NIf.mk (fun _ => ?_) (fun _ => ?_) | refine V.NWrap.ok (by omega) (by omega) ?_ | refine V.NWrap.u64 (by omega) (by omega) ?_ | refine V.NLt.mk (by omega) ?_ | refine V.NBoth.mk ?_ ?_ | refine V.NTF.yes (by omega) ?_ | refine V.NTF.no (by omega) ?_ | refine V.NTF.dec ?_ | refine V.NDraw.q (by exact rfl) (by kernel_rfl) ?_ | refine V.NApp.one (by first | omega | (simp; omega)) (by first | omega | (simp; omega)) ?_ | ((first | refine V.Fn.k (ck) [0] rfl ?_ ?_ | refine V.Fn.q (ck) [0] rfl ?_ ?_ | refine V.Fn.a (ck) [0] rfl ?_ ?_); · ((repeat' (first | exact rfl | exact Iff.rfl | exact trivial | exact (fun _ _ => rfl) | exact (fun _ h => absurd h (Nat.not_lt_zero _)) | refine ⟨?_, ?_⟩ | exact Iff.rfl | exact congrArg (fun z => V.SV.one (V.At.val (Value.int .i64 z))) (by omega))); done)) | (refine V.NDraw.any (by kernel_rfl) ?_) | fail)
    all_goals (conv => whnf)
    all_goals exact ⟨rfl, rfl, rfl, rfl, trivial⟩
theorem v_agStage (c : Cl) (t : Tm) (f : Fl) (n : Int) (hc : c.hs.length ≤ 9223372036854775807) : V.Fn Tryd.prog 16 [.arr 1 c.hs.length (ga e1 c.hs)] [.agg [.val (.int .i64 c.we), .ref 0], .agg [.val (.int .i64 t.ex), .val (.int .i64 t.bu), .val (.int .i64 t.de), .val (.int .i64 t.ra)], .agg [.val (.int .i64 f.id), .val (.int .i64 f.fr), .val (.int .i64 f.to), .val (.int .i64 f.cl), .val (.int .i64 f.pa), .val (.int .i64 f.day), .val (.int .i64 f.un), .val (.int .i64 f.de), .val (.int .i64 f.bo), .val (.int .i64 f.pd)], .one (.val (.int .i64 n))] (.tuple #[.int .i64 (Ag.sV c t f n), .int .i64 (Ag.sE c t f n)]) := by
  have ck := v_agcheck c t hc
  by_cases h1 : Ag.ck c t = 0
  · by_cases h2 : F.chk f = 0
    · obtain ⟨k1, k2⟩ := Ag.ck_ok h1
      have hd := Ag.f_day h2
      have s3 := Ag.s0_3 (n := n) h1 h2
      obtain ⟨s1, s2⟩ := v_steps4 c t f.day (Ca.chk_ok k1) k2 hd
      have fc := v_fcheck f
      rw [h1] at ck
      rw [h2] at fc
      by_cases h3 : D.chk n = 0
      · have dc := v_dcheck n
        rw [h3] at dc s3
        by_cases h4 : Ag.There c t f.day
        · have s1 := s1 h4
          have e := Ag.sE_3 s3 h4
          rw [e, Ag.sV_yes e]
          refine V.Fn.mk_ V.Tok V.mixed Tryd.func16 rfl Tryd.ntmps16 (by kernel_rfl) rfl rfl ?_
          repeat' ((conv => whnf); first | (refine V.NIf.yes ?_ ?_; · (decide; done)) | (refine V.NIf.no ?_ ?_; · (decide; done)) | refine V.NCond.mk ?_ | refine V.NIf.not_ ?_ | refine V.NIf.dec_ ?_ | refine V.NIf.no (by omega) ?_ | refine V.NIf.yes (by omega) ?_ | refine V.NIf.mk (fun _ => ?_) (fun _ => ?_) | refine V.NWrap.ok (by omega) (by omega) ?_ | refine V.NWrap.u64 (by omega) (by omega) ?_ | refine V.NLt.mk (by omega) ?_ | refine V.NBoth.mk ?_ ?_ | refine V.NTF.yes (by omega) ?_ | refine V.NTF.no (by omega) ?_ | refine V.NTF.dec ?_ | refine V.NDraw.q (by exact rfl) (by kernel_rfl) ?_ | refine V.NApp.one (by first | omega | (simp; omega)) (by first | omega | (simp; omega)) ?_ | (refine V.NCall.inl (f := 23) V.Tok V.mixed Tryd.func23 rfl Tryd.ntmps23 (by kernel_rfl) rfl ?_) | (refine V.NCall.inl (f := 27) V.Tok V.mixed Tryd.func27 rfl Tryd.ntmps27 (by kernel_rfl) rfl ?_) | ((first | refine V.Fn.k (ck) [0] rfl ?_ ?_ | refine V.Fn.q (ck) [0] rfl ?_ ?_ | refine V.Fn.a (ck) [0] rfl ?_ ?_); · ((repeat' (first | exact rfl | exact Iff.rfl | exact trivial | exact (fun _ _ => rfl) | exact (fun _ h => absurd h (Nat.not_lt_zero _)) | refine ⟨?_, ?_⟩ | exact Iff.rfl | exact congrArg (fun z => V.SV.one (V.At.val (Value.int .i64 z))) (by omega))); done)) | (first | refine V.Fn.k0 (dc) rfl ?_ | refine V.Fn.q0 (dc) rfl ?_ | refine V.Fn.a0 (dc) rfl ?_) | (first | refine V.Fn.k0 (fc) rfl ?_ | refine V.Fn.q0 (fc) rfl ?_ | refine V.Fn.a0 (fc) rfl ?_) | ((first | refine V.FnR.k_ (s1) [0, 7] rfl ?_ ?_ | refine V.FnR.a_ (s1) [0, 7] rfl ?_ ?_); · ((repeat' (first | exact rfl | exact Iff.rfl | exact trivial | exact (fun _ _ => rfl) | exact (fun _ h => absurd h (Nat.not_lt_zero _)) | refine ⟨?_, ?_⟩ | exact Iff.rfl | exact congrArg (fun z => V.SV.one (V.At.val (Value.int .i64 z))) (by omega))); done)) | (first | refine V.Fn.k0 (v_fleft f (F.chk_ok h2)) rfl ?_ | refine V.Fn.q0 (v_fleft f (F.chk_ok h2)) rfl ?_ | refine V.Fn.a0 (v_fleft f (F.chk_ok h2)) rfl ?_) | (refine V.NDraw.any (by kernel_rfl) ?_) | fail)
          all_goals (conv => whnf)
          · exact ⟨V.fin1 (if_pos (by assumption)), rfl, trivial⟩
          rw [Ag.stg_cn (by assumption)]
          generalize hl : [f.day, Ag.d1 c t f.day, Ag.d2 c t f.day, Ag.d3 c t f.day] = l at *
          have nl : l.length = 4 := by rw [← hl]; rfl
          refine V.NLoop.auto (fun (k : Nat) => [(19, .one (.val (.int .i64 k))), (5, .one (.val (.int .i64 (Ag.cn n (l.take k)))))]) (fun (k : Nat) => []) [] [] (fun (k : Nat) => l.length - k) (fun (k : Nat) => k ≤ l.length) 0 (Nat.zero_le _) (by repeat' (first | exact rfl | exact Iff.rfl | exact trivial | exact (fun _ _ => rfl) | exact (fun _ h => absurd h (Nat.not_lt_zero _)) | refine ⟨?_, ?_⟩ | exact Iff.rfl | exact congrArg (fun z => V.SV.one (V.At.val (Value.int .i64 z))) (by omega))) (by repeat' (first | exact rfl | exact Iff.rfl | exact trivial | exact (fun _ _ => rfl) | exact (fun _ h => absurd h (Nat.not_lt_zero _)) | refine ⟨?_, ?_⟩ | exact Iff.rfl | exact congrArg (fun z => V.SV.one (V.At.val (Value.int .i64 z))) (by omega))) (fun _ => ⟨rfl, rfl⟩) ?_; (conv => whnf); refine ⟨⟨rfl, rfl⟩, ?_⟩
          rintro k hk
          have b := Ag.cn_bd n (l.take k)
          rw [List.length_take] at b
          by_cases hlt : k < l.length
          · have sn : Ag.cn n (l.take (k + 1)) = Ag.cn n (l.take k) + Ag.one (l.getD k default < n) := by
              rw [List.take_succ_eq_append_getElem hlt, Ag.cn_snoc, getD_at hlt]
            repeat' ((conv => whnf); first | refine V.NCond.mk ?_ | refine V.NIf.not_ ?_ | refine V.NIf.dec_ ?_ | refine V.NIf.no (by omega) ?_ | refine V.NIf.yes (by omega) ?_ | refine V.NIf.mk (fun _ => ?_) (fun _ => ?_) | refine V.NWrap.ok (by omega) (by omega) ?_ | refine V.NWrap.u64 (by omega) (by omega) ?_ | refine V.NLt.mk (by omega) ?_ | refine V.NBoth.mk ?_ ?_ | refine V.NTF.yes (by omega) ?_ | refine V.NTF.no (by omega) ?_ | refine V.NTF.dec ?_ | refine V.NDraw.q (by exact rfl) (by kernel_rfl) ?_ | refine V.NApp.one (by first | omega | (simp; omega)) (by first | omega | (simp; omega)) ?_ | (refine NIdx.mk ⟨k, rfl, by omega, ?_⟩) | (refine V.NDraw.any (by kernel_rfl) ?_) | fail)
            all_goals (conv => whnf)
            · exact V.NBack.at_ (k + 1) [] (by omega) (by omega) ⟨(by repeat' (first | exact rfl | exact Iff.rfl | exact trivial | exact (fun _ _ => rfl) | exact (fun _ h => absurd h (Nat.not_lt_zero _)) | refine ⟨?_, ?_⟩ | exact Iff.rfl | exact congrArg (fun z => V.SV.one (V.At.val (Value.int .i64 z))) (by omega))), congrArg (fun z => V.SV.one (V.At.val (Value.int .i64 z))) (by rw [sn]; unfold Ag.one; rw [if_pos (by assumption)]), trivial⟩ rfl (by repeat' (first | exact rfl | exact Iff.rfl | exact trivial | exact (fun _ _ => rfl) | exact (fun _ h => absurd h (Nat.not_lt_zero _)) | refine ⟨?_, ?_⟩ | exact Iff.rfl | exact congrArg (fun z => V.SV.one (V.At.val (Value.int .i64 z))) (by omega))) (by repeat' (first | exact rfl | exact Iff.rfl | exact trivial | exact (fun _ _ => rfl) | exact (fun _ h => absurd h (Nat.not_lt_zero _)) | refine ⟨?_, ?_⟩ | exact Iff.rfl | exact congrArg (fun z => V.SV.one (V.At.val (Value.int .i64 z))) (by omega))) (by repeat' (first | exact rfl | exact Iff.rfl | exact trivial | exact (fun _ _ => rfl) | exact (fun _ h => absurd h (Nat.not_lt_zero _)) | refine ⟨?_, ?_⟩ | exact Iff.rfl | exact congrArg (fun z => V.SV.one (V.At.val (Value.int .i64 z))) (by omega)))
            · exact V.NBack.at_ (k + 1) [] (by omega) (by omega) ⟨(by repeat' (first | exact rfl | exact Iff.rfl | exact trivial | exact (fun _ _ => rfl) | exact (fun _ h => absurd h (Nat.not_lt_zero _)) | refine ⟨?_, ?_⟩ | exact Iff.rfl | exact congrArg (fun z => V.SV.one (V.At.val (Value.int .i64 z))) (by omega))), congrArg (fun z => V.SV.one (V.At.val (Value.int .i64 z))) (by rw [sn]; unfold Ag.one; rw [if_neg (by assumption)]; omega), trivial⟩ rfl (by repeat' (first | exact rfl | exact Iff.rfl | exact trivial | exact (fun _ _ => rfl) | exact (fun _ h => absurd h (Nat.not_lt_zero _)) | refine ⟨?_, ?_⟩ | exact Iff.rfl | exact congrArg (fun z => V.SV.one (V.At.val (Value.int .i64 z))) (by omega))) (by repeat' (first | exact rfl | exact Iff.rfl | exact trivial | exact (fun _ _ => rfl) | exact (fun _ h => absurd h (Nat.not_lt_zero _)) | refine ⟨?_, ?_⟩ | exact Iff.rfl | exact congrArg (fun z => V.SV.one (V.At.val (Value.int .i64 z))) (by omega))) (by repeat' (first | exact rfl | exact Iff.rfl | exact trivial | exact (fun _ _ => rfl) | exact (fun _ h => absurd h (Nat.not_lt_zero _)) | refine ⟨?_, ?_⟩ | exact Iff.rfl | exact congrArg (fun z => V.SV.one (V.At.val (Value.int .i64 z))) (by omega)))
          · obtain rfl : k = l.length := by omega
            rw [List.take_length]
            repeat' ((conv => whnf); first | refine V.NCond.mk ?_ | refine V.NIf.not_ ?_ | refine V.NIf.dec_ ?_ | refine V.NIf.no (by omega) ?_ | refine V.NIf.yes (by omega) ?_ | refine V.NIf.mk (fun _ => ?_) (fun _ => ?_) | refine V.NWrap.ok (by omega) (by omega) ?_ | refine V.NWrap.u64 (by omega) (by omega) ?_ | refine V.NLt.mk (by omega) ?_ | refine V.NBoth.mk ?_ ?_ | refine V.NTF.yes (by omega) ?_ | refine V.NTF.no (by omega) ?_ | refine V.NTF.dec ?_ | refine V.NDraw.q (by exact rfl) (by kernel_rfl) ?_ | refine V.NApp.one (by first | omega | (simp; omega)) (by first | omega | (simp; omega)) ?_ | (refine V.NDraw.any (by kernel_rfl) ?_) | fail)
            all_goals (conv => whnf)
            exact ⟨rfl, rfl, trivial⟩
        · have s2 := s2 h4
          have e := Ag.sE_2 s3 h4
          rw [e, (Ag.sV_no (by omega)).1]
          refine V.Fn.mk_ V.Tok V.mixed Tryd.func16 rfl Tryd.ntmps16 (by kernel_rfl) rfl rfl ?_
          repeat' ((conv => whnf); first | (refine V.NIf.yes ?_ ?_; · (decide; done)) | (refine V.NIf.no ?_ ?_; · (decide; done)) | refine V.NCond.mk ?_ | refine V.NIf.not_ ?_ | refine V.NIf.dec_ ?_ | refine V.NIf.no (by omega) ?_ | refine V.NIf.yes (by omega) ?_ | refine V.NIf.mk (fun _ => ?_) (fun _ => ?_) | refine V.NWrap.ok (by omega) (by omega) ?_ | refine V.NWrap.u64 (by omega) (by omega) ?_ | refine V.NLt.mk (by omega) ?_ | refine V.NBoth.mk ?_ ?_ | refine V.NTF.yes (by omega) ?_ | refine V.NTF.no (by omega) ?_ | refine V.NTF.dec ?_ | refine V.NDraw.q (by exact rfl) (by kernel_rfl) ?_ | refine V.NApp.one (by first | omega | (simp; omega)) (by first | omega | (simp; omega)) ?_ | (refine V.NCall.inl (f := 23) V.Tok V.mixed Tryd.func23 rfl Tryd.ntmps23 (by kernel_rfl) rfl ?_) | ((first | refine V.Fn.k (ck) [0] rfl ?_ ?_ | refine V.Fn.q (ck) [0] rfl ?_ ?_ | refine V.Fn.a (ck) [0] rfl ?_ ?_); · ((repeat' (first | exact rfl | exact Iff.rfl | exact trivial | exact (fun _ _ => rfl) | exact (fun _ h => absurd h (Nat.not_lt_zero _)) | refine ⟨?_, ?_⟩ | exact Iff.rfl | exact congrArg (fun z => V.SV.one (V.At.val (Value.int .i64 z))) (by omega))); done)) | (first | refine V.Fn.k0 (dc) rfl ?_ | refine V.Fn.q0 (dc) rfl ?_ | refine V.Fn.a0 (dc) rfl ?_) | (first | refine V.Fn.k0 (fc) rfl ?_ | refine V.Fn.q0 (fc) rfl ?_ | refine V.Fn.a0 (fc) rfl ?_) | ((first | refine V.FnR.k_ (s2) [0, 7] rfl ?_ ?_ | refine V.FnR.a_ (s2) [0, 7] rfl ?_ ?_); · ((repeat' (first | exact rfl | exact Iff.rfl | exact trivial | exact (fun _ _ => rfl) | exact (fun _ h => absurd h (Nat.not_lt_zero _)) | refine ⟨?_, ?_⟩ | exact Iff.rfl | exact congrArg (fun z => V.SV.one (V.At.val (Value.int .i64 z))) (by omega))); done)) | (refine V.NDraw.any (by kernel_rfl) ?_) | fail)
          all_goals (conv => whnf)
          all_goals exact ⟨rfl, rfl, trivial⟩
      · have e := (Ag.sE_1 (c := c) (t := t) (f := f) (n := n) (by omega)).trans s3
        rw [e, (Ag.sV_no (by omega)).1]
        refine V.Fn.mk_ V.Tok V.mixed Tryd.func16 rfl Tryd.ntmps16 (by kernel_rfl) rfl rfl ?_
        repeat' ((conv => whnf); first | (refine V.NIf.yes ?_ ?_; · (decide; done)) | (refine V.NIf.no ?_ ?_; · (decide; done)) | refine V.NCond.mk ?_ | refine V.NIf.not_ ?_ | refine V.NIf.dec_ ?_ | refine V.NIf.no (by omega) ?_ | refine V.NIf.yes (by omega) ?_ | refine V.NIf.mk (fun _ => ?_) (fun _ => ?_) | refine V.NWrap.ok (by omega) (by omega) ?_ | refine V.NWrap.u64 (by omega) (by omega) ?_ | refine V.NLt.mk (by omega) ?_ | refine V.NBoth.mk ?_ ?_ | refine V.NTF.yes (by omega) ?_ | refine V.NTF.no (by omega) ?_ | refine V.NTF.dec ?_ | refine V.NDraw.q (by exact rfl) (by kernel_rfl) ?_ | refine V.NApp.one (by first | omega | (simp; omega)) (by first | omega | (simp; omega)) ?_ | (refine V.NCall.inl (f := 23) V.Tok V.mixed Tryd.func23 rfl Tryd.ntmps23 (by kernel_rfl) rfl ?_) | ((first | refine V.Fn.k (ck) [0] rfl ?_ ?_ | refine V.Fn.q (ck) [0] rfl ?_ ?_ | refine V.Fn.a (ck) [0] rfl ?_ ?_); · ((repeat' (first | exact rfl | exact Iff.rfl | exact trivial | exact (fun _ _ => rfl) | exact (fun _ h => absurd h (Nat.not_lt_zero _)) | refine ⟨?_, ?_⟩ | exact Iff.rfl | exact congrArg (fun z => V.SV.one (V.At.val (Value.int .i64 z))) (by omega))); done)) | (first | refine V.Fn.k0 (v_dcheck n) rfl ?_ | refine V.Fn.q0 (v_dcheck n) rfl ?_ | refine V.Fn.a0 (v_dcheck n) rfl ?_) | (first | refine V.Fn.k0 (fc) rfl ?_ | refine V.Fn.q0 (fc) rfl ?_ | refine V.Fn.a0 (fc) rfl ?_) | (refine V.NDraw.any (by kernel_rfl) ?_) | fail)
        all_goals (conv => whnf)
        all_goals exact ⟨rfl, rfl, trivial⟩
    · have s3 := Ag.s0_2 (n := n) h1 h2
      have e := (Ag.sE_1 (c := c) (t := t) (f := f) (n := n) (by omega)).trans s3
      rw [e, (Ag.sV_no (by omega)).1]
      rw [h1] at ck
      refine V.Fn.mk_ V.Tok V.mixed Tryd.func16 rfl Tryd.ntmps16 (by kernel_rfl) rfl rfl ?_
      repeat' ((conv => whnf); first | (refine V.NIf.yes ?_ ?_; · (decide; done)) | (refine V.NIf.no ?_ ?_; · (decide; done)) | refine V.NCond.mk ?_ | refine V.NIf.not_ ?_ | refine V.NIf.dec_ ?_ | refine V.NIf.no (by omega) ?_ | refine V.NIf.yes (by omega) ?_ | refine V.NIf.mk (fun _ => ?_) (fun _ => ?_) | refine V.NWrap.ok (by omega) (by omega) ?_ | refine V.NWrap.u64 (by omega) (by omega) ?_ | refine V.NLt.mk (by omega) ?_ | refine V.NBoth.mk ?_ ?_ | refine V.NTF.yes (by omega) ?_ | refine V.NTF.no (by omega) ?_ | refine V.NTF.dec ?_ | refine V.NDraw.q (by exact rfl) (by kernel_rfl) ?_ | refine V.NApp.one (by first | omega | (simp; omega)) (by first | omega | (simp; omega)) ?_ | (refine V.NCall.inl (f := 23) V.Tok V.mixed Tryd.func23 rfl Tryd.ntmps23 (by kernel_rfl) rfl ?_) | ((first | refine V.Fn.k (ck) [0] rfl ?_ ?_ | refine V.Fn.q (ck) [0] rfl ?_ ?_ | refine V.Fn.a (ck) [0] rfl ?_ ?_); · ((repeat' (first | exact rfl | exact Iff.rfl | exact trivial | exact (fun _ _ => rfl) | exact (fun _ h => absurd h (Nat.not_lt_zero _)) | refine ⟨?_, ?_⟩ | exact Iff.rfl | exact congrArg (fun z => V.SV.one (V.At.val (Value.int .i64 z))) (by omega))); done)) | (first | refine V.Fn.k0 (v_fcheck f) rfl ?_ | refine V.Fn.q0 (v_fcheck f) rfl ?_ | refine V.Fn.a0 (v_fcheck f) rfl ?_) | (refine V.NDraw.any (by kernel_rfl) ?_) | fail)
      all_goals (conv => whnf)
      all_goals exact ⟨rfl, rfl, trivial⟩
  · have s3 := Ag.s0_1 (f := f) (n := n) h1
    have e := (Ag.sE_1 (c := c) (t := t) (f := f) (n := n) (by omega)).trans s3
    rw [e, (Ag.sV_no (by omega)).1]
    refine V.Fn.mk_ V.Tok V.mixed Tryd.func16 rfl Tryd.ntmps16 (by kernel_rfl) rfl rfl ?_
    repeat' ((conv => whnf); first | (refine V.NIf.yes ?_ ?_; · (decide; done)) | (refine V.NIf.no ?_ ?_; · (decide; done)) | refine V.NCond.mk ?_ | refine V.NIf.not_ ?_ | refine V.NIf.dec_ ?_ | refine V.NIf.no (by omega) ?_ | refine V.NIf.yes (by omega) ?_ | refine V.NIf.mk (fun _ => ?_) (fun _ => ?_) | refine V.NWrap.ok (by omega) (by omega) ?_ | refine V.NWrap.u64 (by omega) (by omega) ?_ | refine V.NLt.mk (by omega) ?_ | refine V.NBoth.mk ?_ ?_ | refine V.NTF.yes (by omega) ?_ | refine V.NTF.no (by omega) ?_ | refine V.NTF.dec ?_ | refine V.NDraw.q (by exact rfl) (by kernel_rfl) ?_ | refine V.NApp.one (by first | omega | (simp; omega)) (by first | omega | (simp; omega)) ?_ | (refine V.NCall.inl (f := 23) V.Tok V.mixed Tryd.func23 rfl Tryd.ntmps23 (by kernel_rfl) rfl ?_) | ((first | refine V.Fn.k (ck) [0] rfl ?_ ?_ | refine V.Fn.q (ck) [0] rfl ?_ ?_ | refine V.Fn.a (ck) [0] rfl ?_ ?_); · ((repeat' (first | exact rfl | exact Iff.rfl | exact trivial | exact (fun _ _ => rfl) | exact (fun _ h => absurd h (Nat.not_lt_zero _)) | refine ⟨?_, ?_⟩ | exact Iff.rfl | exact congrArg (fun z => V.SV.one (V.At.val (Value.int .i64 z))) (by omega))); done)) | (refine V.NDraw.any (by kernel_rfl) ?_) | fail)
    all_goals (conv => whnf)
    all_goals exact ⟨rfl, rfl, trivial⟩
theorem v_agLeft (c : Cl) (t : Tm) (f : Fl) (n : Int) (hc : c.hs.length ≤ 9223372036854775807) : V.Fn Tryd.prog 9 [.arr 1 c.hs.length (ga e1 c.hs)] [.agg [.val (.int .i64 c.we), .ref 0], .agg [.val (.int .i64 t.ex), .val (.int .i64 t.bu), .val (.int .i64 t.de), .val (.int .i64 t.ra)], .agg [.val (.int .i64 f.id), .val (.int .i64 f.fr), .val (.int .i64 f.to), .val (.int .i64 f.cl), .val (.int .i64 f.pa), .val (.int .i64 f.day), .val (.int .i64 f.un), .val (.int .i64 f.de), .val (.int .i64 f.bo), .val (.int .i64 f.pd)], .one (.val (.int .i64 n))] (.tuple #[.int .i64 (Ag.lV c t f n), .int .i64 (Ag.sE c t f n)]) := by
  have ck := v_agcheck c t hc
  by_cases h1 : Ag.ck c t = 0
  · by_cases h2 : F.chk f = 0
    · obtain ⟨k1, k2⟩ := Ag.ck_ok h1
      have hd := Ag.f_day h2
      have s3 := Ag.s0_3 (n := n) h1 h2
      obtain ⟨s1, s2⟩ := v_steps4 c t f.day (Ca.chk_ok k1) k2 hd
      have fc := v_fcheck f
      rw [h1] at ck
      rw [h2] at fc
      by_cases h3 : D.chk n = 0
      · have dc := v_dcheck n
        rw [h3] at dc s3
        by_cases h4 : Ag.There c t f.day
        · have s1 := s1 h4
          have e := Ag.sE_3 s3 h4
          obtain ⟨g1, g2, g3⟩ := Ag.days k2 hd h4
          have dn : Ca.Day n := by rcases Ca.dchk n with q | q; · exact q.2
                                   · omega
          have ce := fun q => Ca.coE_of k1 dn g3.2.1 q
          have cv : n ≤ Ag.d3 c t f.day → Ca.coV c n (Ag.d3 c t f.day) = Ca.cnt c n (Ag.d3 c t f.day) := fun q => if_pos (ce q)
          have co := v_caCount c n (Ag.d3 c t f.day) hc
          rw [e]
          refine V.Fn.mk_ V.Tok V.mixed Tryd.func9 rfl Tryd.ntmps9 (by kernel_rfl) rfl rfl ?_
          repeat' ((conv => whnf); first | (refine V.NIf.yes ?_ ?_; · (decide; done)) | (refine V.NIf.no ?_ ?_; · (decide; done)) | refine V.NCond.mk ?_ | refine V.NIf.not_ ?_ | refine V.NIf.dec_ ?_ | refine V.NIf.no (by omega) ?_ | refine V.NIf.yes (by omega) ?_ | refine V.NIf.mk (fun _ => ?_) (fun _ => ?_) | refine V.NWrap.ok (by omega) (by omega) ?_ | refine V.NWrap.u64 (by omega) (by omega) ?_ | refine V.NLt.mk (by omega) ?_ | refine V.NBoth.mk ?_ ?_ | refine V.NTF.yes (by omega) ?_ | refine V.NTF.no (by omega) ?_ | refine V.NTF.dec ?_ | refine V.NDraw.q (by exact rfl) (by kernel_rfl) ?_ | refine V.NApp.one (by first | omega | (simp; omega)) (by first | omega | (simp; omega)) ?_ | (refine V.NCall.inl (f := 23) V.Tok V.mixed Tryd.func23 rfl Tryd.ntmps23 (by kernel_rfl) rfl ?_) | ((first | refine V.Fn.k (ck) [0] rfl ?_ ?_ | refine V.Fn.q (ck) [0] rfl ?_ ?_ | refine V.Fn.a (ck) [0] rfl ?_ ?_); · ((repeat' (first | exact rfl | exact Iff.rfl | exact trivial | exact (fun _ _ => rfl) | exact (fun _ h => absurd h (Nat.not_lt_zero _)) | refine ⟨?_, ?_⟩ | exact Iff.rfl | exact congrArg (fun z => V.SV.one (V.At.val (Value.int .i64 z))) (by omega))); done)) | (first | refine V.Fn.k0 (dc) rfl ?_ | refine V.Fn.q0 (dc) rfl ?_ | refine V.Fn.a0 (dc) rfl ?_) | (first | refine V.Fn.k0 (fc) rfl ?_ | refine V.Fn.q0 (fc) rfl ?_ | refine V.Fn.a0 (fc) rfl ?_) | ((first | refine V.FnR.k_ (s1) [0, 7] rfl ?_ ?_ | refine V.FnR.a_ (s1) [0, 7] rfl ?_ ?_); · ((repeat' (first | exact rfl | exact Iff.rfl | exact trivial | exact (fun _ _ => rfl) | exact (fun _ h => absurd h (Nat.not_lt_zero _)) | refine ⟨?_, ?_⟩ | exact Iff.rfl | exact congrArg (fun z => V.SV.one (V.At.val (Value.int .i64 z))) (by omega))); done)) | (refine NIdx.mk ⟨3, rfl, by simp, ?_⟩) | (refine V.NLt.mk (by simp) ?_) | ((first | refine V.Fn.k (co) [0] rfl ?_ ?_ | refine V.Fn.q (co) [0] rfl ?_ ?_ | refine V.Fn.a (co) [0] rfl ?_ ?_); · ((repeat' (first | exact rfl | exact Iff.rfl | exact trivial | exact (fun _ _ => rfl) | exact (fun _ h => absurd h (Nat.not_lt_zero _)) | refine ⟨?_, ?_⟩ | exact Iff.rfl | exact congrArg (fun z => V.SV.one (V.At.val (Value.int .i64 z))) (by omega))); done)) | (refine V.NDraw.any (by kernel_rfl) ?_) | fail)
          all_goals (conv => whnf)
          all_goals have gd : [f.day, Ag.d1 c t f.day, Ag.d2 c t f.day, Ag.d3 c t f.day].getD 3 default = Ag.d3 c t f.day := rfl
          all_goals first
            | exact ⟨V.fin1 (Ag.lV_1 (by assumption)), rfl, trivial⟩
            | exact ⟨V.fin1 ((Ag.lV_2 e (by omega)).trans (cv (by omega)).symm), V.fin1 (ce (by omega)).symm, trivial⟩
            | trace_state
        · have s2 := s2 h4
          have e := Ag.sE_2 s3 h4
          rw [e, (Ag.sV_no (by omega)).2]
          refine V.Fn.mk_ V.Tok V.mixed Tryd.func9 rfl Tryd.ntmps9 (by kernel_rfl) rfl rfl ?_
          repeat' ((conv => whnf); first | (refine V.NIf.yes ?_ ?_; · (decide; done)) | (refine V.NIf.no ?_ ?_; · (decide; done)) | refine V.NCond.mk ?_ | refine V.NIf.not_ ?_ | refine V.NIf.dec_ ?_ | refine V.NIf.no (by omega) ?_ | refine V.NIf.yes (by omega) ?_ | refine V.NIf.mk (fun _ => ?_) (fun _ => ?_) | refine V.NWrap.ok (by omega) (by omega) ?_ | refine V.NWrap.u64 (by omega) (by omega) ?_ | refine V.NLt.mk (by omega) ?_ | refine V.NBoth.mk ?_ ?_ | refine V.NTF.yes (by omega) ?_ | refine V.NTF.no (by omega) ?_ | refine V.NTF.dec ?_ | refine V.NDraw.q (by exact rfl) (by kernel_rfl) ?_ | refine V.NApp.one (by first | omega | (simp; omega)) (by first | omega | (simp; omega)) ?_ | (refine V.NCall.inl (f := 23) V.Tok V.mixed Tryd.func23 rfl Tryd.ntmps23 (by kernel_rfl) rfl ?_) | ((first | refine V.Fn.k (ck) [0] rfl ?_ ?_ | refine V.Fn.q (ck) [0] rfl ?_ ?_ | refine V.Fn.a (ck) [0] rfl ?_ ?_); · ((repeat' (first | exact rfl | exact Iff.rfl | exact trivial | exact (fun _ _ => rfl) | exact (fun _ h => absurd h (Nat.not_lt_zero _)) | refine ⟨?_, ?_⟩ | exact Iff.rfl | exact congrArg (fun z => V.SV.one (V.At.val (Value.int .i64 z))) (by omega))); done)) | (first | refine V.Fn.k0 (dc) rfl ?_ | refine V.Fn.q0 (dc) rfl ?_ | refine V.Fn.a0 (dc) rfl ?_) | (first | refine V.Fn.k0 (fc) rfl ?_ | refine V.Fn.q0 (fc) rfl ?_ | refine V.Fn.a0 (fc) rfl ?_) | ((first | refine V.FnR.k_ (s2) [0, 7] rfl ?_ ?_ | refine V.FnR.a_ (s2) [0, 7] rfl ?_ ?_); · ((repeat' (first | exact rfl | exact Iff.rfl | exact trivial | exact (fun _ _ => rfl) | exact (fun _ h => absurd h (Nat.not_lt_zero _)) | refine ⟨?_, ?_⟩ | exact Iff.rfl | exact congrArg (fun z => V.SV.one (V.At.val (Value.int .i64 z))) (by omega))); done)) | (refine V.NDraw.any (by kernel_rfl) ?_) | fail)
          all_goals (conv => whnf)
          all_goals exact ⟨rfl, rfl, trivial⟩
      · have e := (Ag.sE_1 (c := c) (t := t) (f := f) (n := n) (by omega)).trans s3
        rw [e, (Ag.sV_no (by omega)).2]
        refine V.Fn.mk_ V.Tok V.mixed Tryd.func9 rfl Tryd.ntmps9 (by kernel_rfl) rfl rfl ?_
        repeat' ((conv => whnf); first | (refine V.NIf.yes ?_ ?_; · (decide; done)) | (refine V.NIf.no ?_ ?_; · (decide; done)) | refine V.NCond.mk ?_ | refine V.NIf.not_ ?_ | refine V.NIf.dec_ ?_ | refine V.NIf.no (by omega) ?_ | refine V.NIf.yes (by omega) ?_ | refine V.NIf.mk (fun _ => ?_) (fun _ => ?_) | refine V.NWrap.ok (by omega) (by omega) ?_ | refine V.NWrap.u64 (by omega) (by omega) ?_ | refine V.NLt.mk (by omega) ?_ | refine V.NBoth.mk ?_ ?_ | refine V.NTF.yes (by omega) ?_ | refine V.NTF.no (by omega) ?_ | refine V.NTF.dec ?_ | refine V.NDraw.q (by exact rfl) (by kernel_rfl) ?_ | refine V.NApp.one (by first | omega | (simp; omega)) (by first | omega | (simp; omega)) ?_ | (refine V.NCall.inl (f := 23) V.Tok V.mixed Tryd.func23 rfl Tryd.ntmps23 (by kernel_rfl) rfl ?_) | ((first | refine V.Fn.k (ck) [0] rfl ?_ ?_ | refine V.Fn.q (ck) [0] rfl ?_ ?_ | refine V.Fn.a (ck) [0] rfl ?_ ?_); · ((repeat' (first | exact rfl | exact Iff.rfl | exact trivial | exact (fun _ _ => rfl) | exact (fun _ h => absurd h (Nat.not_lt_zero _)) | refine ⟨?_, ?_⟩ | exact Iff.rfl | exact congrArg (fun z => V.SV.one (V.At.val (Value.int .i64 z))) (by omega))); done)) | (first | refine V.Fn.k0 (v_dcheck n) rfl ?_ | refine V.Fn.q0 (v_dcheck n) rfl ?_ | refine V.Fn.a0 (v_dcheck n) rfl ?_) | (first | refine V.Fn.k0 (fc) rfl ?_ | refine V.Fn.q0 (fc) rfl ?_ | refine V.Fn.a0 (fc) rfl ?_) | (refine V.NDraw.any (by kernel_rfl) ?_) | fail)
        all_goals (conv => whnf)
        all_goals exact ⟨rfl, rfl, trivial⟩
    · have s3 := Ag.s0_2 (n := n) h1 h2
      have e := (Ag.sE_1 (c := c) (t := t) (f := f) (n := n) (by omega)).trans s3
      rw [e, (Ag.sV_no (by omega)).2]
      rw [h1] at ck
      refine V.Fn.mk_ V.Tok V.mixed Tryd.func9 rfl Tryd.ntmps9 (by kernel_rfl) rfl rfl ?_
      repeat' ((conv => whnf); first | (refine V.NIf.yes ?_ ?_; · (decide; done)) | (refine V.NIf.no ?_ ?_; · (decide; done)) | refine V.NCond.mk ?_ | refine V.NIf.not_ ?_ | refine V.NIf.dec_ ?_ | refine V.NIf.no (by omega) ?_ | refine V.NIf.yes (by omega) ?_ | refine V.NIf.mk (fun _ => ?_) (fun _ => ?_) | refine V.NWrap.ok (by omega) (by omega) ?_ | refine V.NWrap.u64 (by omega) (by omega) ?_ | refine V.NLt.mk (by omega) ?_ | refine V.NBoth.mk ?_ ?_ | refine V.NTF.yes (by omega) ?_ | refine V.NTF.no (by omega) ?_ | refine V.NTF.dec ?_ | refine V.NDraw.q (by exact rfl) (by kernel_rfl) ?_ | refine V.NApp.one (by first | omega | (simp; omega)) (by first | omega | (simp; omega)) ?_ | (refine V.NCall.inl (f := 23) V.Tok V.mixed Tryd.func23 rfl Tryd.ntmps23 (by kernel_rfl) rfl ?_) | ((first | refine V.Fn.k (ck) [0] rfl ?_ ?_ | refine V.Fn.q (ck) [0] rfl ?_ ?_ | refine V.Fn.a (ck) [0] rfl ?_ ?_); · ((repeat' (first | exact rfl | exact Iff.rfl | exact trivial | exact (fun _ _ => rfl) | exact (fun _ h => absurd h (Nat.not_lt_zero _)) | refine ⟨?_, ?_⟩ | exact Iff.rfl | exact congrArg (fun z => V.SV.one (V.At.val (Value.int .i64 z))) (by omega))); done)) | (first | refine V.Fn.k0 (v_fcheck f) rfl ?_ | refine V.Fn.q0 (v_fcheck f) rfl ?_ | refine V.Fn.a0 (v_fcheck f) rfl ?_) | (refine V.NDraw.any (by kernel_rfl) ?_) | fail)
      all_goals (conv => whnf)
      all_goals exact ⟨rfl, rfl, trivial⟩
  · have s3 := Ag.s0_1 (f := f) (n := n) h1
    have e := (Ag.sE_1 (c := c) (t := t) (f := f) (n := n) (by omega)).trans s3
    rw [e, (Ag.sV_no (by omega)).2]
    refine V.Fn.mk_ V.Tok V.mixed Tryd.func9 rfl Tryd.ntmps9 (by kernel_rfl) rfl rfl ?_
    repeat' ((conv => whnf); first | (refine V.NIf.yes ?_ ?_; · (decide; done)) | (refine V.NIf.no ?_ ?_; · (decide; done)) | refine V.NCond.mk ?_ | refine V.NIf.not_ ?_ | refine V.NIf.dec_ ?_ | refine V.NIf.no (by omega) ?_ | refine V.NIf.yes (by omega) ?_ | refine V.NIf.mk (fun _ => ?_) (fun _ => ?_) | refine V.NWrap.ok (by omega) (by omega) ?_ | refine V.NWrap.u64 (by omega) (by omega) ?_ | refine V.NLt.mk (by omega) ?_ | refine V.NBoth.mk ?_ ?_ | refine V.NTF.yes (by omega) ?_ | refine V.NTF.no (by omega) ?_ | refine V.NTF.dec ?_ | refine V.NDraw.q (by exact rfl) (by kernel_rfl) ?_ | refine V.NApp.one (by first | omega | (simp; omega)) (by first | omega | (simp; omega)) ?_ | (refine V.NCall.inl (f := 23) V.Tok V.mixed Tryd.func23 rfl Tryd.ntmps23 (by kernel_rfl) rfl ?_) | ((first | refine V.Fn.k (ck) [0] rfl ?_ ?_ | refine V.Fn.q (ck) [0] rfl ?_ ?_ | refine V.Fn.a (ck) [0] rfl ?_ ?_); · ((repeat' (first | exact rfl | exact Iff.rfl | exact trivial | exact (fun _ _ => rfl) | exact (fun _ h => absurd h (Nat.not_lt_zero _)) | refine ⟨?_, ?_⟩ | exact Iff.rfl | exact congrArg (fun z => V.SV.one (V.At.val (Value.int .i64 z))) (by omega))); done)) | (refine V.NDraw.any (by kernel_rfl) ?_) | fail)
    all_goals (conv => whnf)
    all_goals exact ⟨rfl, rfl, trivial⟩
end Go.Proofs.YtplomcleijlnmaaDoor

/- What the document's own functions on ages answer. -/
namespace Go.Proofs.YtplomcleijlnmaaDoor
open Go Go.RowKit V
set_option maxRecDepth 100000
set_option linter.unusedVariables false
end Go.Proofs.YtplomcleijlnmaaDoor

/- What must be in any case, of calendars. -/
namespace Go.Proofs.YtplomcleijlnmaaDoor
namespace Ca
def W : Cl := ⟨96, [739936]⟩
theorem w0 : chk W = 0 := by decide
theorem w1 : isV W 739936 = false ∧ e1 W 739936 = 0 := by decide
theorem w2 : neV W 739936 = 739937 ∧ neE W 739936 = 0 := by
  have s : stU W (739936 - 1) 1 = 739937 := stU_is (by unfold Up; decide)
  obtain ⟨a, b⟩ := neE_of (c := W) (n := 739936) w0 (by decide) (by rw [s]; decide)
  exact ⟨b.trans s, a⟩
theorem w3 : sV W 739935 4 = 739942 ∧ sE W 739935 4 = 0 := by
  have s : stp W 739935 4 = 739942 := (stp_p (by decide)).trans (stU_is (by unfold Up; decide))
  obtain ⟨a, b⟩ := sE_of (c := W) (n := 739935) (m := 4) w0 (by decide) (by decide) (by rw [s]; decide)
  exact ⟨b.trans s, a⟩
theorem w4 : sV W 739937 (-2) = 739932 ∧ sE W 739937 (-2) = 0 := by
  have s : stp W 739937 (-2) = 739932 := (stp_n (by decide)).trans (stD_is (by unfold Dn; decide))
  obtain ⟨a, b⟩ := sE_of (c := W) (n := 739937) (m := -2) w0 (by decide) (by decide) (by rw [s]; decide)
  exact ⟨b.trans s, a⟩
theorem w5 : coV W 739935 739942 = 4 ∧ coE W 739935 739942 = 0 := by decide
theorem w6 : fiV W 739949 = 739949 ∧ fiE W 739949 = 0 := by
  have s : stU W (739949 - 1) 1 = 739949 := nx_here (by decide) (by decide)
  have f : fk W 739949 = 739949 := (fk_1 (by rw [s]; exact ⟨by decide, rfl, rfl⟩)).trans s
  have e : e1 W 739949 = 0 := by decide
  have t := toV_pos (d := fk W 739949) (by rw [f]; decide)
  exact ⟨((if_neg (by omega)).trans t.1).trans f, (if_neg (by omega)).trans t.2⟩
theorem w7 : chk ⟨127, []⟩ = 3 := by decide
theorem w8 : chk ⟨0, [2, 1]⟩ = 4 := by decide
/-! errors of two days -/
theorem ch2_1 {c : Cl} {n t : Int} (h : ¬ e1 c n = 0) : chks c [n, t] = e1 c n := by
  by_cases k : chk c = 0
  · rcases dchk n with q | q
    · exact absurd (e1_of k q.2) h
    · rw [e1_2 k q.2, chks_2 k]
      show (if D.chk n ≠ 0 then D.chk n else _) = 3
      rw [if_pos (by omega), q.1]
  · rw [e1_1 k, chks_1 k]
theorem ch2_2 {c : Cl} {n t : Int} (h : e1 c n = 0) (k : ¬ Day t) : chks c [n, t] = 3 := by
  obtain ⟨_, a, b⟩ := e1_ok h
  rw [chks_2 b]
  have e := D.chk_yes a.1 a.2
  have f := D.chk_no k
  show (if D.chk n ≠ 0 then D.chk n else (if D.chk t ≠ 0 then D.chk t else _)) = 3
  rw [if_neg (by omega), if_pos (by omega), f]
theorem ch2_3 {c : Cl} {n t : Int} (h : e1 c n = 0) (k : Day t) : chks c [n, t] = 0 := by
  obtain ⟨_, a, b⟩ := e1_ok h
  rw [chks_2 b]
  have e := D.chk_yes a.1 a.2
  have f := D.chk_yes k.1 k.2
  show (if D.chk n ≠ 0 then D.chk n else (if D.chk t ≠ 0 then D.chk t else 0)) = 0
  rw [if_neg (by omega), if_neg (by omega)]
/-- what is answered where the calendar or the day is wrong -/
theorem no_all {c : Cl} {n : Int} (h : ¬ e1 c n = 0) (m t : Int) : isV c n = false ∧ neV c n = 0 ∧ neE c n = e1 c n ∧ sV c n m = 0 ∧ sE c n m = e1 c n ∧ coV c n t = 0 ∧ coE c n t = e1 c n ∧ fiV c n = 0 ∧ fiE c n = e1 c n := by
  have s0 : sE0 c n m = e1 c n := if_pos h
  have c0 : coE c n t = e1 c n := by unfold coE; rw [ch2_1 h, if_pos h]
  exact ⟨decide_eq_false (fun q => h q.1), if_pos h, if_pos h, if_pos (by omega), (if_pos (by omega)).trans s0, if_neg (by omega), c0, if_pos h, if_pos h⟩
theorem to_cases (d : Int) : (d < 0 ∧ toV d = 0 ∧ toE d = 8) ∨ (0 ≤ d ∧ toV d = d ∧ toE d = 0) := by
  by_cases h : d < 0
  · exact .inl ⟨h, toV_neg h⟩
  · exact .inr ⟨by omega, toV_pos (by omega)⟩
/-- .. and where they are right -/
theorem yes_all {c : Cl} {n : Int} (h : e1 c n = 0) (m t : Int) : isV c n = decide (Day n ∧ op c n = 1) ∧
    ((stU c (n - 1) 1 < 0 ∧ neV c n = 0 ∧ neE c n = 8) ∨ (0 ≤ stU c (n - 1) 1 ∧ neV c n = stU c (n - 1) 1 ∧ neE c n = 0)) ∧
    (((m < -500 ∨ 500 < m) ∧ sV c n m = 0 ∧ sE c n m = 3) ∨ ((-500 ≤ m ∧ m ≤ 500) ∧ stp c n m < 0 ∧ sV c n m = 0 ∧ sE c n m = 8) ∨ ((-500 ≤ m ∧ m ≤ 500) ∧ 0 ≤ stp c n m ∧ sV c n m = stp c n m ∧ sE c n m = 0)) ∧
    (((t < 0 ∨ 3652058 < t) ∧ coV c n t = 0 ∧ coE c n t = 3) ∨ (0 ≤ t ∧ t ≤ 3652058 ∧ t < n ∧ coV c n t = 0 ∧ coE c n t = 1) ∨ (0 ≤ t ∧ t ≤ 3652058 ∧ n ≤ t ∧ coV c n t = cnt c n t ∧ coE c n t = 0)) ∧
    ((fk c n < 0 ∧ fiV c n = 0 ∧ fiE c n = 8) ∨ (0 ≤ fk c n ∧ fiV c n = fk c n ∧ fiE c n = 0)) := by
  obtain ⟨_, hd, hk⟩ := e1_ok h
  have nh : ¬ e1 c n ≠ 0 := fun q => q h
  refine ⟨?_, ?_, ?_, ?_, ?_⟩
  · unfold isV; rw [decide_eq_decide]; exact ⟨fun q => ⟨hd, q.2⟩, fun q => ⟨h, q.2⟩⟩
  · unfold neV neE
    rw [if_neg nh, if_neg nh]
    exact to_cases _
  · by_cases q : m < -500 ∨ 500 < m
    · have s : sE0 c n m = 3 := (if_neg nh).trans (if_pos q)
      exact .inl ⟨q, if_pos (by omega), (if_pos (by omega)).trans s⟩
    · have s : ¬ sE0 c n m ≠ 0 := fun z => z ((if_neg nh).trans (if_neg q))
      unfold sV sE
      rw [if_neg s, if_neg s]
      rcases to_cases (stp c n m) with z | z
      · exact .inr (.inl ⟨by omega, z⟩)
      · exact .inr (.inr ⟨by omega, z⟩)
  · by_cases q : Day t
    · have s := ch2_3 h q
      unfold Day at q
      by_cases r : t < n
      · have e : coE c n t = 1 := (if_neg (by omega)).trans (if_pos r)
        exact .inr (.inl ⟨q.1, q.2, r, if_neg (by omega), e⟩)
      · have e : coE c n t = 0 := (if_neg (by omega)).trans (if_neg r)
        exact .inr (.inr ⟨q.1, q.2, by omega, if_pos e, e⟩)
    · have s := ch2_2 h q
      unfold Day at q
      have e : coE c n t = 3 := (if_pos (by omega)).trans s
      exact .inl ⟨by omega, if_neg (by omega), e⟩
  · unfold fiV fiE
    rw [if_neg nh, if_neg nh]
    exact to_cases _
end Ca
end Go.Proofs.YtplomcleijlnmaaDoor

/- The laws' own helper. -/
namespace Go.Proofs.YtplomcleijlnmaaDoor
open Go Go.RowKit V
set_option maxRecDepth 100000
namespace F
def s0 : Fl := ⟨7, 1, 2, 0, 3, 739935, 100, 0, 0, 0⟩
def l1 : List Fl := [s0]
end F
theorem v_some : V.Fn Tryd.prog 17 [] [] (.agg #[.int .i64 (F.s0).id, .int .i64 (F.s0).fr, .int .i64 (F.s0).to, .int .i64 (F.s0).cl, .int .i64 (F.s0).pa, .int .i64 (F.s0).day, .int .i64 (F.s0).un, .int .i64 (F.s0).de, .int .i64 (F.s0).bo, .int .i64 (F.s0).pd]) := by
  refine V.Fn.mk_ V.Tok V.mixed Tryd.func17 rfl Tryd.ntmps17 (by kernel_rfl) rfl rfl ?_
  repeat' ((conv => whnf); first | refine V.NCond.mk ?_ | refine V.NIf.not_ ?_ | refine V.NIf.dec_ ?_ | refine V.NIf.no (by omega) ?_ | refine V.NIf.yes (by omega) ?_ | refine V.NIf.mk (fun _ => ?_) (fun _ => ?_) | refine V.NWrap.ok (by omega) (by omega) ?_ | refine V.NWrap.u64 (by omega) (by omega) ?_ | refine V.NLt.mk (by omega) ?_ | refine V.NBoth.mk ?_ ?_ | refine V.NTF.yes (by omega) ?_ | refine V.NTF.no (by omega) ?_ | refine V.NTF.dec ?_ | refine V.NDraw.q (by exact rfl) (by kernel_rfl) ?_ | refine V.NApp.one (by first | omega | (simp; omega)) (by first | omega | (simp; omega)) ?_ | (refine V.NDraw.any (by kernel_rfl) ?_) | fail)
  exact (by repeat' (first | exact rfl | exact Iff.rfl | exact trivial | exact (fun _ _ => rfl) | exact (fun _ h => absurd h (Nat.not_lt_zero _)) | refine ⟨?_, ?_⟩ | exact Iff.rfl | exact congrArg (fun z => V.SV.one (V.At.val (Value.int .i64 z))) (by omega)))
end Go.Proofs.YtplomcleijlnmaaDoor

/- What must be in any case, of ages; what the laws say. -/
namespace Go.Proofs.YtplomcleijlnmaaDoor
set_option linter.unusedVariables false
namespace Ag
open Ca (Day stp W)
def A : Tm := ⟨4, 7, 2, 100⟩
theorem a_1 : d1 W A 739935 = 739942 := (Ca.stp_p (by decide)).trans (Ca.stU_is (by unfold Ca.Up; decide))
theorem a_2 : d2 W A 739935 = 739951 := by
  unfold d2; rw [a_1]; exact (Ca.stp_p (by decide)).trans (Ca.stU_is (by unfold Ca.Up; decide))
theorem a_3 : d3 W A 739935 = 739953 := by
  unfold d3; rw [a_2]; exact (Ca.stp_p (by decide)).trans (Ca.stU_is (by unfold Ca.Up; decide))
theorem a_th : There W A 739935 := ⟨by rw [a_1]; decide, by rw [a_2]; decide, by rw [a_3]; decide⟩
theorem a_days : dA W A 739935 = 739942 ∧ dB W A 739935 = 739951 ∧ dD W A 739935 = 739953 ∧ dE W A 739935 = 0 := by
  have e := dE_4 (c := W) (t := A) (day := 739935) (by decide) (by decide) a_th
  obtain ⟨_, _, _, _, x, y, z⟩ := dE_ok e
  exact ⟨x.trans a_1, y.trans a_2, z.trans a_3, e⟩
theorem a_ok (n : Int) (hn : Day n) : sE W A F.s0 n = 0 := sE_of (by decide) (by decide) (by decide) hn (by exact a_th)
theorem a_s1 : sV W A F.s0 739942 = 1 ∧ sE W A F.s0 739942 = 0 := by
  have e := a_ok 739942 (by decide)
  refine ⟨(sV_yes e).trans ?_, e⟩
  exact ((stg_is e).2 (by decide)).2.1 (by decide) (by rw [show F.s0.day = 739935 from rfl, a_1]; decide)
theorem a_s2 : sV W A F.s0 739943 = 2 ∧ sE W A F.s0 739943 = 0 := by
  have e := a_ok 739943 (by decide)
  refine ⟨(sV_yes e).trans ?_, e⟩
  exact ((stg_is e).2 (by decide)).2.2.1 (by rw [show F.s0.day = 739935 from rfl, a_1]; decide) (by rw [show F.s0.day = 739935 from rfl, a_2]; decide)
theorem a_l : lV W A F.s0 739953 = 0 ∧ sE W A F.s0 739953 = 0 := ⟨lV_1 (by rw [show F.s0.day = 739935 from rfl, a_3]; decide), a_ok _ (by decide)⟩
theorem a_b : sE W ⟨0, 101, 0, 0⟩ F.s0 1 = 3 := by
  have s : s0 W ⟨0, 101, 0, 0⟩ F.s0 1 = 3 := by decide
  exact (sE_1 (by omega)).trans s
/-- a business day later one less is left -/
theorem left_on {c : Cl} {t : Tm} {f : Fl} {n : Int} (h : sE c t f n = 0) (k : Ca.sE c n 1 = 0) :
    sE c t f (Ca.sV c n 1) = 0 ∧ n < Ca.sV c n 1 ∧ lV c t f (Ca.sV c n 1) = max (lV c t f n - 1) 0 ∧ (0 < lV c t f n ↔ Ca.sV c n 1 ≤ d3 c t f.day) := by
  obtain ⟨h1, h2, h3, h4, h5⟩ := sE_ok h
  obtain ⟨g1, g2, g3⟩ := days h2 (f_day h3) h5
  obtain ⟨k1, k2, k3, k4, k5⟩ := Ca.sE_ok k
  obtain ⟨u, _, _⟩ := Ca.stp_is h4 k5.1
  obtain ⟨u1, u2, u3, u4⟩ := u (by omega)
  rw [k4]
  generalize stp c n 1 = x at *
  have e := sE_of h1 h2 h3 k5 h5
  have cl := Ca.cnt_last (c := c) u1
  have b0 := (Ca.cnt_bd c x (d3 c t f.day)).1
  have b1 := (Ca.cnt_bd c n (d3 c t f.day)).1
  refine ⟨e, u1, ?_⟩
  by_cases q : x ≤ d3 c t f.day
  · have ad := Ca.cnt_add (c := c) (a := n) (b := x) (d := d3 c t f.day) (by omega) q
    rw [lV_2 h (by omega)]
    by_cases r : x < d3 c t f.day
    · rw [lV_2 e r]; exact ⟨by omega, by omega⟩
    · rw [lV_1 (by omega)]
      have := Ca.cnt_none (c := c) (a := x) (b := d3 c t f.day) (by omega)
      exact ⟨by omega, by omega⟩
  · rw [lV_1 (n := x) (by omega)]
    by_cases r : n < d3 c t f.day
    · have mo := Ca.cnt_mono (c := c) (a := n) (b := d3 c t f.day) (d := x - 1) (by omega)
      rw [lV_2 h r]; exact ⟨by omega, by omega⟩
    · rw [lV_1 (n := n) (by omega)]; exact ⟨by omega, by omega⟩
theorem left_end {c : Cl} {t : Tm} {f : Fl} {n : Int} (h : sE c t f n = 0) (k : ¬ Ca.sE c n 1 = 0) : lV c t f n = 0 := by
  obtain ⟨h1, h2, h3, h4, h5⟩ := sE_ok h
  obtain ⟨g1, g2, g3⟩ := days h2 (f_day h3) h5
  by_cases r : n < d3 c t f.day
  · rw [lV_2 h r]
    have b1 := (Ca.cnt_bd c n (d3 c t f.day)).1
    by_cases q : 1 ≤ Ca.cnt c n (d3 c t f.day)
    · have hn := h4
      unfold Ca.Day at h4 g3
      have := Ca.stU_by (c := c) (a := n) (b := d3 c t f.day) (by omega) (by omega) q
      exact (k (Ca.sE_of (m := 1) h1 hn (by omega) (by rw [Ca.stp_p (by omega)]; exact this.1)).1).elim
    · omega
  · exact lV_1 (by omega)
end Ag
end Go.Proofs.YtplomcleijlnmaaDoor

/- What must be in any case, of ages. -/
namespace Go.Proofs.YtplomcleijlnmaaDoor
open Go Go.RowKit V
set_option maxRecDepth 100000
set_option linter.unusedVariables false
theorem v_someTerms : V.Fn Tryd.prog 15 [] [] (.agg #[.int .i64 4, .int .i64 7, .int .i64 2, .int .i64 100]) := by
  refine V.Fn.mk_ V.Tok V.mixed Tryd.func15 rfl Tryd.ntmps15 (by kernel_rfl) rfl rfl ?_
  repeat' ((conv => whnf); first | refine V.NCond.mk ?_ | refine V.NIf.not_ ?_ | refine V.NIf.dec_ ?_ | refine V.NIf.no (by omega) ?_ | refine V.NIf.yes (by omega) ?_ | refine V.NIf.mk (fun _ => ?_) (fun _ => ?_) | refine V.NWrap.ok (by omega) (by omega) ?_ | refine V.NWrap.u64 (by omega) (by omega) ?_ | refine V.NLt.mk (by omega) ?_ | refine V.NBoth.mk ?_ ?_ | refine V.NTF.yes (by omega) ?_ | refine V.NTF.no (by omega) ?_ | refine V.NTF.dec ?_ | refine V.NDraw.q (by exact rfl) (by kernel_rfl) ?_ | refine V.NApp.one (by first | omega | (simp; omega)) (by first | omega | (simp; omega)) ?_ | (refine V.NDraw.any (by kernel_rfl) ?_) | fail)
  all_goals (conv => whnf)
  all_goals exact ⟨rfl, rfl, rfl, rfl, trivial⟩
theorem v_ageBegun : V.Fn Tryd.prog 6 [] [] (.bool true) := by
  have c1 := v_agDays Ca.W Ag.A 739935 (by decide)
  rw [Ag.a_days.1, Ag.a_days.2.1, Ag.a_days.2.2.1, Ag.a_days.2.2.2] at c1
  have c2 := v_agStage Ca.W Ag.A F.s0 739942 (by decide)
  rw [Ag.a_s1.1, Ag.a_s1.2] at c2
  have c3 := v_agStage Ca.W Ag.A F.s0 739943 (by decide)
  rw [Ag.a_s2.1, Ag.a_s2.2] at c3
  have c4 := v_agLeft Ca.W Ag.A F.s0 739953 (by decide)
  rw [Ag.a_l.1, Ag.a_l.2] at c4
  have c5 := v_agStage Ca.W ⟨0, 101, 0, 0⟩ F.s0 1 (by decide)
  rw [Ag.a_b] at c5
  refine V.Fn.mk_ V.Tok V.mixed Tryd.func6 rfl Tryd.ntmps6 (by kernel_rfl) rfl rfl ?_
  repeat' ((conv => whnf); first | (refine V.NIf.yes ?_ ?_; · (decide; done)) | (refine V.NIf.no ?_ ?_; · (decide; done)) | refine V.NCond.mk ?_ | refine V.NIf.not_ ?_ | refine V.NIf.dec_ ?_ | refine V.NIf.no (by omega) ?_ | refine V.NIf.yes (by omega) ?_ | refine V.NIf.mk (fun _ => ?_) (fun _ => ?_) | refine V.NWrap.ok (by omega) (by omega) ?_ | refine V.NWrap.u64 (by omega) (by omega) ?_ | refine V.NLt.mk (by omega) ?_ | refine V.NBoth.mk ?_ ?_ | refine V.NTF.yes (by omega) ?_ | refine V.NTF.no (by omega) ?_ | refine V.NTF.dec ?_ | refine V.NDraw.q (by exact rfl) (by kernel_rfl) ?_ | refine V.NApp.one (by first | omega | (simp; omega)) (by first | omega | (simp; omega)) ?_ | (refine V.NCall.inl (f := 14) V.Tok V.mixed Tryd.func14 rfl Tryd.ntmps14 (by kernel_rfl) rfl ?_) | (first | refine V.Fn.k0 (v_someTerms) rfl ?_ | refine V.Fn.q0 (v_someTerms) rfl ?_ | refine V.Fn.a0 (v_someTerms) rfl ?_) | (first | refine V.Fn.k0 (v_some) rfl ?_ | refine V.Fn.q0 (v_some) rfl ?_ | refine V.Fn.a0 (v_some) rfl ?_) | ((first | refine V.Fn.k (c1) [1] rfl ?_ ?_ | refine V.Fn.q (c1) [1] rfl ?_ ?_ | refine V.Fn.a (c1) [1] rfl ?_ ?_); · ((repeat' (first | exact rfl | exact Iff.rfl | exact trivial | exact (fun _ _ => rfl) | exact (fun _ h => absurd h (Nat.not_lt_zero _)) | refine ⟨?_, ?_⟩ | exact Iff.rfl | exact congrArg (fun z => V.SV.one (V.At.val (Value.int .i64 z))) (by omega))); done)) | ((first | refine V.Fn.k (c2) [3] rfl ?_ ?_ | refine V.Fn.q (c2) [3] rfl ?_ ?_ | refine V.Fn.a (c2) [3] rfl ?_ ?_); · ((repeat' (first | exact rfl | exact Iff.rfl | exact trivial | exact (fun _ _ => rfl) | exact (fun _ h => absurd h (Nat.not_lt_zero _)) | refine ⟨?_, ?_⟩ | exact Iff.rfl | exact congrArg (fun z => V.SV.one (V.At.val (Value.int .i64 z))) (by omega))); done)) | ((first | refine V.Fn.k (c3) [5] rfl ?_ ?_ | refine V.Fn.q (c3) [5] rfl ?_ ?_ | refine V.Fn.a (c3) [5] rfl ?_ ?_); · ((repeat' (first | exact rfl | exact Iff.rfl | exact trivial | exact (fun _ _ => rfl) | exact (fun _ h => absurd h (Nat.not_lt_zero _)) | refine ⟨?_, ?_⟩ | exact Iff.rfl | exact congrArg (fun z => V.SV.one (V.At.val (Value.int .i64 z))) (by omega))); done)) | ((first | refine V.Fn.k (c4) [7] rfl ?_ ?_ | refine V.Fn.q (c4) [7] rfl ?_ ?_ | refine V.Fn.a (c4) [7] rfl ?_ ?_); · ((repeat' (first | exact rfl | exact Iff.rfl | exact trivial | exact (fun _ _ => rfl) | exact (fun _ h => absurd h (Nat.not_lt_zero _)) | refine ⟨?_, ?_⟩ | exact Iff.rfl | exact congrArg (fun z => V.SV.one (V.At.val (Value.int .i64 z))) (by omega))); done)) | ((first | refine V.Fn.k (c5) [9] rfl ?_ ?_ | refine V.Fn.q (c5) [9] rfl ?_ ?_ | refine V.Fn.a (c5) [9] rfl ?_ ?_); · ((repeat' (first | exact rfl | exact Iff.rfl | exact trivial | exact (fun _ _ => rfl) | exact (fun _ h => absurd h (Nat.not_lt_zero _)) | refine ⟨?_, ?_⟩ | exact Iff.rfl | exact congrArg (fun z => V.SV.one (V.At.val (Value.int .i64 z))) (by omega))); done)) | (refine V.NDraw.any (by kernel_rfl) ?_) | fail)
  all_goals (conv => whnf)
  all_goals first
    | exact ⟨true, rfl, iff_of_true rfl rfl⟩
    | trace_state
end Go.Proofs.YtplomcleijlnmaaDoor

/- A contract over an empty list, of a call that is handed nil. -/
namespace Go.Proofs.YtplomcleijlnmaaDoor.V
open Go Go.RowKit
set_option linter.unusedVariables false
/-- nil in the place of object n -/
def aN (n : Nat) : At → At
  | .ref j => if j = n then .val (.slice none 0 0) else .ref j
  | a => a
def aNok (n : Nat) : At → Bool
  | .ptr i _ _ _ => i != n
  | .clo _ _ => false
  | _ => true
def sN (n : Nat) : SV → SV
  | .one a => .one (aN n a)
  | .agg l => .agg (l.map (aN n))
  | .tup l => .tup l
def sNok (n : Nat) : SV → Bool
  | .one a => aNok n a
  | .agg l => l.all (aNok n)
  | .tup _ => false
def rN (n : Nat) (ρ : Rho) : Rho := fun i => if i = n then some (.slice none 0 0) else ρ i
theorem At.nil_ {n : Nat} {ρ : Rho} {a : At} {x : Value} (hk : aNok n a = true) (h : (aN n a).is ρ x) : a.is (rN n ρ) x := by
  cases a with
  | val v => exact h
  | tf b => exact h
  | prop p => exact h
  | clo f c => cases hk
  | ptr i k j s =>
    have hne : i ≠ n := by simpa [aNok] using hk
    obtain ⟨b, e, q⟩ := h
    refine ⟨b, ?_, q⟩
    unfold base rN at *
    rw [if_neg hne]; exact e
  | ref i =>
    by_cases e : i = n
    · have h : (aN n (.ref i)).is ρ x := h
      rw [show aN n (.ref i) = .val (.slice none 0 0) from if_pos e] at h
      have h : x = .slice none 0 0 := h
      subst h
      exact ⟨if_pos e, rfl⟩
    · have h : (aN n (.ref i)).is ρ x := h
      rw [show aN n (.ref i) = .ref i from if_neg e] at h
      exact ⟨(if_neg e).trans h.1, h.2⟩
theorem Ats.nil_ {n : Nat} {ρ : Rho} : ∀ {l : List At} {xs : List Value}, l.all (aNok n) = true → Ats ρ (l.map (aN n)) xs → Ats (rN n ρ) l xs
  | [], _, _, h => h
  | a :: l, _, hk, ⟨x, r, e, h, hr⟩ => by
    simp only [List.all_cons, Bool.and_eq_true] at hk
    exact ⟨x, r, e, At.nil_ hk.1 h, Ats.nil_ hk.2 hr⟩
theorem Svs.nilv {n : Nat} {ρ : Rho} : ∀ {l : List SV} {xs : List Value}, l.all (sNok n) = true → Svs ρ (l.map (sN n)) xs → Svs (rN n ρ) l xs
  | [], _, _, h => h
  | a :: l, _, hk, ⟨x, r, e, h, hr⟩ => by
    simp only [List.all_cons, Bool.and_eq_true] at hk
    refine ⟨x, r, e, ?_, Svs.nilv hk.2 hr⟩
    cases a with
    | one a => exact At.nil_ (n := n) hk.1 h
    | agg c => obtain ⟨cs, hc, e⟩ := h; exact ⟨cs, Ats.nil_ hk.1 hc, e⟩
    | tup c => exact h
/-- the last of the objects: nil -/
theorem Fn.nilv {P : Program} {f : FuncId} {os : List Ob} {args : List SV} {x : Value} {s : Nat} {g : Nat → List Value} (h : Fn P f (os ++ [.arr s 0 g]) args x) (hk : args.all (sNok os.length) = true) : Fn P f os (args.map (sN os.length)) x :=
  ⟨h.b, fun w ρ xs ho hs => h.c w (rN os.length ρ) xs (fun i o e => by
    rcases Nat.lt_trichotomy i os.length with q | q | q
    · rw [List.getElem?_append_left q] at e
      obtain ⟨v, hv, r⟩ := ho i o e
      exact ⟨v, (if_neg (by omega)).trans hv, r⟩
    · subst q
      rw [List.getElem?_append_right (Nat.le_refl _), Nat.sub_self] at e
      obtain rfl := Option.some.inj e
      exact ⟨_, if_pos rfl, none, 0, rfl, by omega, by omega, fun k hk => by omega⟩
    · rw [List.getElem?_eq_none (by simp; omega)] at e; cases e) (Svs.nilv hk hs)⟩
/-- an append, told as a list -/
theorem NApp.to_ {α : Type} [Inhabited α] {en : α → List Value} {n m : Nat} (l' : List α) {get news : Nat → List Value} {bytes : Nat} {K : Nat → (Nat → List Value) → Prop} (h : n + m = l'.length) (hb : l'.length ≤ 9223372036854775807) (hr : l'.length * bytes ≤ 140737488355328) (h1 : ∀ k, k < n → ga en l' k = get k) (h2 : ∀ k, k < m → ga en l' (n + k) = news k) (hK : K l'.length (ga en l')) : NApp n m get news bytes K :=
  ⟨⟨_, _, h.symm, hb, hr, h1, h2, hK⟩⟩
theorem ga_take {α : Type} [Inhabited α] {en : α → List Value} {l : List α} {i k : Nat} (h : k < i) (hl : i ≤ l.length) : ga en (l.take i) k = ga en l k := by
  rw [ga_at (by rw [List.length_take]; omega), ga_at (by omega), List.getElem_take]
theorem ga_left {α : Type} [Inhabited α] {en : α → List Value} {l r : List α} {k : Nat} (h : k < l.length) : ga en (l ++ r) k = ga en l k := by
  rw [ga_at (by simp; omega), ga_at h, List.getElem_append_left h]
theorem ga_right {α : Type} [Inhabited α] {en : α → List Value} {l r : List α} {n k : Nat} (hn : n = l.length) (h : k < r.length) : ga en (l ++ r) (n + k) = ga en r k := by
  subst hn
  rw [ga_at (by simp; omega), ga_at h, List.getElem_append_right (by omega)]
  congr 2
  omega
theorem ga_drop {α : Type} [Inhabited α] {en : α → List Value} {l : List α} {i k : Nat} (h : i + k < l.length) : ga en (l.drop i) k = ga en l (i + k) := by
  rw [ga_at (by simp; omega), ga_at h, List.getElem_drop]
end Go.Proofs.YtplomcleijlnmaaDoor.V

/- What must be in any case, of calendars. -/
namespace Go.Proofs.YtplomcleijlnmaaDoor
open Go Go.RowKit V
set_option maxRecDepth 100000
set_option linter.unusedVariables false
theorem v_caCheckNil : V.Fn Tryd.prog 21 [] [.agg [.val (.int .i64 127), .val (.slice none 0 0)]] (.int .i64 3) :=
  V.Fn.nilv (os := []) (s := 1) (g := ga e1 []) (v_caCheck ⟨127, []⟩ (by decide)) rfl
theorem v_calBegun : V.Fn Tryd.prog 7 [dt] [] (.bool true) := by
  have c1 := v_caIs Ca.W 739936 (by decide)
  rw [Ca.w1.1, Ca.w1.2] at c1
  have c2 := v_caNext Ca.W 739936 (by decide)
  rw [Ca.w2.1, Ca.w2.2] at c2
  have c3 := v_caStep Ca.W 739935 4 (by decide)
  rw [Ca.w3.1, Ca.w3.2] at c3
  have c4 := v_caStep Ca.W 739937 (-2) (by decide)
  rw [Ca.w4.1, Ca.w4.2] at c4
  have c5 := v_caCount Ca.W 739935 739942 (by decide)
  rw [Ca.w5.1, Ca.w5.2] at c5
  have c6 := v_caFit Ca.W 739949 (by decide)
  rw [Ca.w6.1, Ca.w6.2] at c6
  have c8 := v_caCheck ⟨0, [2, 1]⟩ (by decide)
  rw [Ca.w8] at c8
  refine V.Fn.mk_ V.Tok V.mixed Tryd.func7 rfl Tryd.ntmps7 (by kernel_rfl) rfl rfl ?_
  repeat' ((conv => whnf); first | (refine V.NIf.yes ?_ ?_; · (decide; done)) | (refine V.NIf.no ?_ ?_; · (decide; done)) | refine V.NCond.mk ?_ | refine V.NIf.not_ ?_ | refine V.NIf.dec_ ?_ | refine V.NIf.no (by omega) ?_ | refine V.NIf.yes (by omega) ?_ | refine V.NIf.mk (fun _ => ?_) (fun _ => ?_) | refine V.NWrap.ok (by omega) (by omega) ?_ | refine V.NWrap.u64 (by omega) (by omega) ?_ | refine V.NLt.mk (by omega) ?_ | refine V.NBoth.mk ?_ ?_ | refine V.NTF.yes (by omega) ?_ | refine V.NTF.no (by omega) ?_ | refine V.NTF.dec ?_ | refine V.NDraw.q (by exact rfl) (by kernel_rfl) ?_ | refine V.NApp.one (by first | omega | (simp; omega)) (by first | omega | (simp; omega)) ?_ | (refine V.NCall.inl (f := 14) V.Tok V.mixed Tryd.func14 rfl Tryd.ntmps14 (by kernel_rfl) rfl ?_) | ((first | refine V.Fn.k (c1) [2] rfl ?_ ?_ | refine V.Fn.q (c1) [2] rfl ?_ ?_ | refine V.Fn.a (c1) [2] rfl ?_ ?_); · ((repeat' (first | exact rfl | exact Iff.rfl | exact trivial | exact (fun _ _ => rfl) | exact (fun _ h => absurd h (Nat.not_lt_zero _)) | refine ⟨?_, ?_⟩ | exact Iff.rfl | exact congrArg (fun z => V.SV.one (V.At.val (Value.int .i64 z))) (by omega))); done)) | ((first | refine V.Fn.k (c2) [4] rfl ?_ ?_ | refine V.Fn.q (c2) [4] rfl ?_ ?_ | refine V.Fn.a (c2) [4] rfl ?_ ?_); · ((repeat' (first | exact rfl | exact Iff.rfl | exact trivial | exact (fun _ _ => rfl) | exact (fun _ h => absurd h (Nat.not_lt_zero _)) | refine ⟨?_, ?_⟩ | exact Iff.rfl | exact congrArg (fun z => V.SV.one (V.At.val (Value.int .i64 z))) (by omega))); done)) | ((first | refine V.Fn.k (c3) [6] rfl ?_ ?_ | refine V.Fn.q (c3) [6] rfl ?_ ?_ | refine V.Fn.a (c3) [6] rfl ?_ ?_); · ((repeat' (first | exact rfl | exact Iff.rfl | exact trivial | exact (fun _ _ => rfl) | exact (fun _ h => absurd h (Nat.not_lt_zero _)) | refine ⟨?_, ?_⟩ | exact Iff.rfl | exact congrArg (fun z => V.SV.one (V.At.val (Value.int .i64 z))) (by omega))); done)) | ((first | refine V.Fn.k (c4) [8] rfl ?_ ?_ | refine V.Fn.q (c4) [8] rfl ?_ ?_ | refine V.Fn.a (c4) [8] rfl ?_ ?_); · ((repeat' (first | exact rfl | exact Iff.rfl | exact trivial | exact (fun _ _ => rfl) | exact (fun _ h => absurd h (Nat.not_lt_zero _)) | refine ⟨?_, ?_⟩ | exact Iff.rfl | exact congrArg (fun z => V.SV.one (V.At.val (Value.int .i64 z))) (by omega))); done)) | ((first | refine V.Fn.k (c5) [10] rfl ?_ ?_ | refine V.Fn.q (c5) [10] rfl ?_ ?_ | refine V.Fn.a (c5) [10] rfl ?_ ?_); · ((repeat' (first | exact rfl | exact Iff.rfl | exact trivial | exact (fun _ _ => rfl) | exact (fun _ h => absurd h (Nat.not_lt_zero _)) | refine ⟨?_, ?_⟩ | exact Iff.rfl | exact congrArg (fun z => V.SV.one (V.At.val (Value.int .i64 z))) (by omega))); done)) | ((first | refine V.Fn.k (c6) [12, 0] rfl ?_ ?_ | refine V.Fn.q (c6) [12, 0] rfl ?_ ?_ | refine V.Fn.a (c6) [12, 0] rfl ?_ ?_); · ((repeat' (first | exact rfl | exact Iff.rfl | exact trivial | exact (fun _ _ => rfl) | exact (fun _ h => absurd h (Nat.not_lt_zero _)) | refine ⟨?_, ?_⟩ | exact Iff.rfl | exact congrArg (fun z => V.SV.one (V.At.val (Value.int .i64 z))) (by omega))); done)) | ((first | refine V.Fn.k (c8) [13] rfl ?_ ?_ | refine V.Fn.q (c8) [13] rfl ?_ ?_ | refine V.Fn.a (c8) [13] rfl ?_ ?_); · ((repeat' (first | exact rfl | exact Iff.rfl | exact trivial | exact (fun _ _ => rfl) | exact (fun _ h => absurd h (Nat.not_lt_zero _)) | refine ⟨?_, ?_⟩ | exact Iff.rfl | exact congrArg (fun z => V.SV.one (V.At.val (Value.int .i64 z))) (by omega))); done)) | (first | refine V.Fn.k0 (v_caCheckNil) rfl ?_ | refine V.Fn.q0 (v_caCheckNil) rfl ?_ | refine V.Fn.a0 (v_caCheckNil) rfl ?_) | (refine V.NDraw.any (by kernel_rfl) ?_) | fail)
  (conv => whnf)
  exact ⟨true, rfl, iff_of_true rfl rfl⟩
end Go.Proofs.YtplomcleijlnmaaDoor

/- How a list of numbers is read off an argument. -/
namespace Go.Proofs.YtplomcleijlnmaaDoor
set_option maxRecDepth 100000
open Go Go.RowKit Go.ChangeShapes Go.WideShapes Go.Deep V
theorem intCells : Tryd.prog.cellsOf 3 = 1 := by kernel_rfl
theorem open_il {H : Type} {enc : TypeId × Value → H} {W : World} {base : Nat} {spare : Nat → Bool} {held : Bool} {r : Reach} {b0 : Nat} {v : Value} {d : DataW H} {p : List MemPlace} (hv : Value.okWide Tryd.prog W r b0 22 v) (h : DataW.Trod enc Tryd.prog W base spare held 22 v d p) :
    ∃ l : List Int, ArrIs W v 1 l.length (ga e1 l) ∧ ∀ f ∈ l, (Lit.int .i64 f).wf = true :=
  open_ints_ Tryd.underlying22 Tryd.underlying3 intCells hv h
end Go.Proofs.YtplomcleijlnmaaDoor

/- How a calendar is read off an argument. -/
namespace Go.Proofs.YtplomcleijlnmaaDoor
open Go Go.RowKit Go.ChangeShapes Go.WideShapes Go.Deep V
set_option linter.unusedVariables false
set_option maxRecDepth 100000
namespace V
section
variable {H : Type} {enc : TypeId × Value → H} {P : Program} {w : World} {base : Nat} {spare : Nat → Bool} {held : Bool}
/-- a list of data, by its one cell -/
theorem list_trod {α : Type} [Inhabited α] {en : α → List Value} {Wf : α → Prop} {t e s fuel : Nat} {cs : List Value} {x : DataW H × List MemPlace} (hu : P.underlying t = some (.slice e)) (hs : P.cellsOf e = s) (hs0 : 0 < s)
    (hel : ∀ fuel cs x, DataW.trod enc P w base spare held fuel e cs = some x → ∃ f : α, cs = en f ∧ Wf f) (hf : DataW.trod enc P w base spare held fuel t cs = some x) :
    ∃ v, cs = [v] ∧ ∃ l : List α, ArrIs w v s l.length (ga en l) ∧ ∀ f ∈ l, Wf f := by
  rcases Go.Deep.open_slice hu hf with ⟨hcs, _⟩ | ⟨a, len', cap', m, n, D, Pl, hcs, _, hl, hm, hmm, _, hi⟩
  · exact ⟨_, hcs, [], ⟨none, 0, rfl, by simp, by simp, fun k hk => absurd hk (by simp)⟩, by simp⟩
  · refine ⟨_, hcs, ?_⟩
    have hml : len' ≤ m := by rw [hmm]; split <;> omega
    have all : ∀ i, i < len' → ∃ f : α, (en f).length = s ∧ (∀ j u, (en f)[j]? = some u → w.cell? (a.add (i * s + j)) = some u) ∧ Wf f := by
      intro i hi'
      obtain ⟨cs', hc, ht'⟩ := hi i (by omega)
      rw [hs] at hc
      obtain ⟨f, e, wf⟩ := hel _ _ _ ht'
      obtain ⟨_, hcl, hat⟩ := World.cells?_some hc
      refine ⟨f, by rw [← e]; exact hcl, fun j u hu => ?_, wf⟩
      rw [← e] at hu
      have hj : j < s := by have := (List.getElem?_eq_some_iff.1 hu).1; omega
      have h1 := hat j hj
      rw [add_of_add] at h1
      rw [h1]; exact hu
    obtain ⟨l, hl2, hp⟩ := list_of len' all
    refine ⟨l, ⟨some a, cap', by rw [hl2], by unfold maxLen at hm; omega, by omega, fun k hk => ?_⟩, fun f hf' => ?_⟩
    · obtain ⟨e1, e2, _⟩ := hp k hk
      rw [ga_at hk]
      have h0 : (en l[k])[0]? = some ((en l[k])[0]'(by omega)) := List.getElem?_eq_getElem _
      have := cell_lt (e2 0 _ h0)
      rw [block_of_add] at this
      exact ⟨a, rfl, this, e1, e2⟩
    · obtain ⟨i, hi', rfl⟩ := List.getElem_of_mem hf'
      exact (hp i hi').2.2
end
end V
noncomputable def clFields : Array Field := (match Tryd.prog.underlying 24 with | some (.struct fs) => fs | _ => #[])
theorem clStruct : Tryd.prog.underlying 24 = some (.struct clFields) := by kernel_rfl
theorem clCells : Tryd.prog.cellsOf 24 = 2 := by kernel_rfl
theorem ilCells : Tryd.prog.cellsOf 22 = 1 := by kernel_rfl
theorem cl0 : (clFields[0]?).map (fun f => (f.type, f.offset)) = some (3, 0) := by kernel_rfl
theorem cl1 : (clFields[1]?).map (fun f => (f.type, f.offset)) = some (22, 1) := by kernel_rfl
theorem clSize : clFields.size = 2 := by kernel_rfl
def WfCl (c : Cl) : Prop := (Lit.int .i64 c.we).wf = true ∧ ∀ n ∈ c.hs, (Lit.int .i64 n).wf = true
theorem cl_of {H : Type} {enc : TypeId × Value → H} {w : World} {base : Nat} {spare : Nat → Bool} {held : Bool} {fuel : Nat} {cs : List Value} {x : DataW H × List MemPlace} (h : DataW.trod enc Tryd.prog w base spare held fuel 24 cs = some x) :
    ∃ (c : Cl) (v : Value), cs = [.int .i64 c.we, v] ∧ ArrIs w v 1 c.hs.length (ga e1 c.hs) ∧ WfCl c := by
  obtain ⟨xs, n, _, _, hl, hlen, hg⟩ := DataW.trod_struct clStruct h
  rw [clCells] at hl
  rw [clSize] at hlen
  match cs, hl with
  | [a, b], _ =>
    obtain ⟨f0, h0, e0⟩ := Option.map_eq_some_iff.1 cl0
    obtain ⟨f1, h1, e1'⟩ := Option.map_eq_some_iff.1 cl1
    injection e0 with t0 o0
    injection e1' with t1 o1
    have g0 := hg 0 f0 h0
    have g1 := hg 1 f1 h1
    rw [o0, t0, intCells, List.getElem?_eq_getElem (by omega)] at g0
    rw [o1, t1, ilCells, List.getElem?_eq_getElem (by omega)] at g1
    obtain ⟨m, e2, _, wf⟩ := DataW.trod_int Tryd.underlying3 g0
    obtain ⟨v, e3, l, hl, wl⟩ := V.list_trod (en := e1) (Wf := fun n => (Lit.int .i64 n).wf = true) Tryd.underlying22 intCells (by omega) (fun fuel cs x hx => by
      obtain ⟨m, e2, _, wf⟩ := DataW.trod_int Tryd.underlying3 hx
      exact ⟨m, e2, wf⟩) g1
    have e2 : a = .int .i64 m := by simpa using e2
    obtain rfl : b = v := by
      have e3 : [b] = [v] := e3
      injection e3
    subst e2
    exact ⟨⟨m, l⟩, _, rfl, hl, wf, wl⟩
theorem open_cl {H : Type} {enc : TypeId × Value → H} {W : World} {base : Nat} {spare : Nat → Bool} {held : Bool} {r : Reach} {b0 : Nat} {v : Value} {d : DataW H} {p : List MemPlace} (hv : Value.okWide Tryd.prog W r b0 24 v) (h : DataW.Trod enc Tryd.prog W base spare held 24 v d p) :
    ∃ (c : Cl) (u : Value), v = .agg #[.int .i64 c.we, u] ∧ ArrIs W u 1 c.hs.length (ga e1 c.hs) ∧ WfCl c := by
  obtain ⟨cs, rfl, _⟩ := okWide_struct clStruct hv
  obtain ⟨fuel, hf⟩ := h
  obtain ⟨c, u, e, h1, wf⟩ := cl_of hf
  refine ⟨c, u, ?_, h1, wf⟩
  obtain ⟨l⟩ := cs
  simp only [Value.cells] at e
  subst e
  rfl
end Go.Proofs.YtplomcleijlnmaaDoor

/- How a fail, and a list of fails, are read off the arguments. -/
namespace Go.Proofs.YtplomcleijlnmaaDoor
set_option maxRecDepth 100000
open Go.RowKit Go.ChangeShapes Go.WideShapes Go.Deep V

noncomputable def failFields : Array Field := (match Tryd.prog.underlying 35 with | some (.struct fs) => fs | _ => #[])
theorem failStruct : Tryd.prog.underlying 35 = some (.struct failFields) := by kernel_rfl
theorem failOne : oneCellFields Tryd.prog failFields = true := by kernel_rfl
theorem failSize : failFields.size = 10 := by kernel_rfl
theorem failCells : Tryd.prog.cellsOf 35 = 10 := by kernel_rfl
theorem failInts : (List.range 10).all (fun j => (failFields[j]?).all (fun f => decide (f.type = 3))) = true := by kernel_rfl
theorem failInt (j : Nat) (f : Field) (h : failFields[j]? = some f) : Tryd.prog.underlying f.type = some (.int .i64) := by
  have hj : j < 10 := by have := (Array.getElem?_eq_some_iff.1 h).1; rw [failSize] at this; exact this
  have := List.all_eq_true.1 failInts j (List.mem_range.2 hj)
  rw [h] at this
  have e : f.type = 3 := by simpa using this
  rw [e]
  exact Tryd.underlying3
def WfF (f : Fl) : Prop := ∀ n ∈ [f.id, f.fr, f.to, f.cl, f.pa, f.day, f.un, f.de, f.bo, f.pd], (Lit.int .i64 n).wf = true
theorem fl_of {H : Type} {enc : TypeId × Value → H} {w : World} {base : Nat} {spare : Nat → Bool} {held : Bool} {fuel : Nat} {cs : List Value} {x : DataW H × List MemPlace} (h : DataW.trod enc Tryd.prog w base spare held fuel 35 cs = some x) :
    ∃ f : Fl, cs = (#[.int .i64 f.id, .int .i64 f.fr, .int .i64 f.to, .int .i64 f.cl, .int .i64 f.pa, .int .i64 f.day, .int .i64 f.un, .int .i64 f.de, .int .i64 f.bo, .int .i64 f.pd] : Array Value).toList ∧ WfF f := by
  obtain ⟨ns, e, hl, wf⟩ := ints_struct failStruct failOne (failCells.trans failSize.symm) failInt h
  rw [failSize] at hl
  match ns, hl with
  | [a, b, c, d, e', f, g, h', i, j], _ => exact ⟨⟨a, b, c, d, e', f, g, h', i, j⟩, by simpa using e, wf⟩
theorem open_fl {H : Type} {enc : TypeId × Value → H} {W : World} {base : Nat} {spare : Nat → Bool} {held : Bool} {r : Reach} {b0 : Nat} {v : Value} {d : DataW H} {p : List MemPlace} (hv : Value.okWide Tryd.prog W r b0 35 v) (h : DataW.Trod enc Tryd.prog W base spare held 35 v d p) :
    ∃ f : Fl, v = .agg #[.int .i64 f.id, .int .i64 f.fr, .int .i64 f.to, .int .i64 f.cl, .int .i64 f.pa, .int .i64 f.day, .int .i64 f.un, .int .i64 f.de, .int .i64 f.bo, .int .i64 f.pd] ∧ WfF f := by
  obtain ⟨cs, rfl, _⟩ := okWide_struct failStruct hv
  obtain ⟨fuel, hf⟩ := h
  obtain ⟨f, e, wf⟩ := fl_of hf
  refine ⟨f, ?_, wf⟩
  obtain ⟨l⟩ := cs
  simp only [Value.cells] at e
  subst e
  rfl
end Go.Proofs.YtplomcleijlnmaaDoor

/- How a struct api.Terms, and a list of such, are read off an argument. -/
namespace Go.Proofs.YtplomcleijlnmaaDoor
open Go Go.RowKit Go.ChangeShapes Go.WideShapes Go.Deep V
set_option linter.unusedVariables false
set_option maxRecDepth 100000
noncomputable def tmFields : Array Field := (match Tryd.prog.underlying 26 with | some (.struct fs) => fs | _ => #[])
theorem tmStruct : Tryd.prog.underlying 26 = some (.struct tmFields) := by kernel_rfl
theorem tmOne : oneCellFields Tryd.prog tmFields = true := by kernel_rfl
theorem tmSize : tmFields.size = 4 := by kernel_rfl
theorem tmCells : Tryd.prog.cellsOf 26 = 4 := by kernel_rfl
theorem tmInts : (List.range 4).all (fun j => (tmFields[j]?).all (fun f => decide (f.type = 3))) = true := by kernel_rfl
theorem tmInt (j : Nat) (f : Field) (h : tmFields[j]? = some f) : Tryd.prog.underlying f.type = some (.int .i64) := by
  have hj : j < 4 := by have := (Array.getElem?_eq_some_iff.1 h).1; rw [tmSize] at this; exact this
  have := List.all_eq_true.1 tmInts j (List.mem_range.2 hj)
  rw [h] at this
  have e : f.type = 3 := by simpa using this
  rw [e]
  exact Tryd.underlying3
def WfTm (d : Tm) : Prop := ∀ n ∈ [d.ex, d.bu, d.de, d.ra], (Lit.int .i64 n).wf = true
theorem tm_of {H : Type} {enc : TypeId × Value → H} {w : World} {base : Nat} {spare : Nat → Bool} {held : Bool} {fuel : Nat} {cs : List Value} {x : DataW H × List MemPlace} (h : DataW.trod enc Tryd.prog w base spare held fuel 26 cs = some x) :
    ∃ f : Tm, cs = encT f ∧ WfTm f := by
  obtain ⟨ns, e, hl, wf⟩ := ints_struct tmStruct tmOne (tmCells.trans tmSize.symm) tmInt h
  rw [tmSize] at hl
  match ns, hl with
  | [a0, a1, a2, a3], _ => exact ⟨⟨a0, a1, a2, a3⟩, by simpa [encT] using e, wf⟩
theorem open_tm {H : Type} {enc : TypeId × Value → H} {W : World} {base : Nat} {spare : Nat → Bool} {held : Bool} {r : Reach} {b0 : Nat} {v : Value} {d : DataW H} {p : List MemPlace} (hv : Value.okWide Tryd.prog W r b0 26 v) (h : DataW.Trod enc Tryd.prog W base spare held 26 v d p) :
    ∃ f : Tm, v = .agg #[.int .i64 f.ex, .int .i64 f.bu, .int .i64 f.de, .int .i64 f.ra] ∧ WfTm f := by
  obtain ⟨cs, rfl, _⟩ := okWide_struct tmStruct hv
  obtain ⟨fuel, hf⟩ := h
  obtain ⟨f, e, wf⟩ := tm_of hf
  refine ⟨f, ?_, wf⟩
  obtain ⟨l⟩ := cs
  simp only [Value.cells] at e
  subst e
  rfl
theorem open_tms {H : Type} {enc : TypeId × Value → H} {W : World} {base : Nat} {spare : Nat → Bool} {held : Bool} {r : Reach} {b0 : Nat} {v : Value} {d : DataW H} {p : List MemPlace} {t : Nat} (ht : Tryd.prog.underlying t = some (.slice 26)) (hv : Value.okWide Tryd.prog W r b0 t v) (h : DataW.Trod enc Tryd.prog W base spare held t v d p) :
    ∃ l : List Tm, ArrIs W v 4 l.length (ga encT l) ∧ ∀ f ∈ l, WfTm f :=
  open_list ht tmCells (by omega) (fun fuel cs x hx => by
    obtain ⟨f, e, wf⟩ := tm_of hx
    exact ⟨f, e, wf⟩) hv h
end Go.Proofs.YtplomcleijlnmaaDoor

/- What the listed variable 'date.long' gives the walks: its cells; and that the door's own heap meets the condition. -/
namespace Go.Proofs.YtplomcleijlnmaaDoor
open Go.ChangeShapes Go.WideShapes Go.ChangeAt Go.RowKit

def laidList : List (String × DataW Unit) := [("demurrage/date.long", Rows.laid_demurrage_date_long)]
theorem gLong : Tryd.prog.globalNamed "demurrage/date.long" = some 0 := by kernel_rfl
theorem tLong : (Tryd.prog.globals[0]?).map (·.type) = some 77 := by kernel_rfl
theorem cLong : Tryd.prog.cellsOf 77 = 12 := by kernel_rfl
theorem cInt : Tryd.prog.cellsOf 3 = 1 := by kernel_rfl

theorem door_met (os : Os) (args : Array Value) : laidMetH Tryd.prog laidList ((World.doorLaid Tryd.prog 400 os).forCall (fun _ _ => 0) ⟨#[], args, []⟩).memory :=
  laidMetH_of_parts3 (fuel := 8) (laidMet_of_run' 8 (by kernel_rfl) (by kernel_rfl)) (by kernel_rfl) (by kernel_rfl)

theorem long_of_laid {W : World} (h : laidMetH Tryd.prog laidList W) : LongIs W := by
  rw [MakeChecks.laidMetH_plain _ _ _ (by kernel_rfl)] at h
  obtain ⟨ps, ⟨g0, t0, cs0, f0, p0, q0, hg0, ht0, hv0, hd0, _, _⟩, _, _⟩ := h
  obtain rfl := Option.some.inj (gLong.symm.trans hg0)
  obtain rfl := Option.some.inj (tLong.symm.trans ht0)
  have hcs := Lib.cells_of_tab (k := .i64) (zs := [31, 28, 31, 30, 31, 30, 31, 31, 30, 31, 30, 31]) Tryd.underlying77 Tryd.underlying3 cInt cLong hd0
  intro m h1 h2
  have hc := World.var?_cell hg0 hv0 (m.toNat - 1)
  have e : cs0 = (([31, 28, 31, 30, 31, 30, 31, 31, 30, 31, 30, 31] : List Int).map fun z => Value.int .i64 z).toArray := by
    rw [← hcs]
  rw [e] at hc
  have hm : m = 1 ∨ m = 2 ∨ m = 3 ∨ m = 4 ∨ m = 5 ∨ m = 6 ∨ m = 7 ∨ m = 8 ∨ m = 9 ∨ m = 10 ∨ m = 11 ∨ m = 12 := by omega
  rcases hm with rfl | rfl | rfl | rfl | rfl | rfl | rfl | rfl | rfl | rfl | rfl | rfl <;> exact hc
end Go.Proofs.YtplomcleijlnmaaDoor
