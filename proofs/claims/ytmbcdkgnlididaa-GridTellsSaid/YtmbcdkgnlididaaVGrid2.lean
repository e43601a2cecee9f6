/- What After answers. -/
import Derived.Test.YtmbcdkgnlididaaVGrid1
import Derived.Test.YtmbcdkgnlididaaGridPl3
namespace Go.Proofs.Ytmbcdkgnlididaa
open Go Go.RowKit V
set_option maxRecDepth 100000
set_option linter.unusedVariables false
set_option maxHeartbeats 4000000 in
theorem v_gafter (has : List Int) (l : List Du) (done : List Int) (h1 : has.length ≤ 1099511627776) (h2 : l.length ≤ 1099511627776) (h3 : done.length ≤ 1099511627776) : V.FnR Try.prog 10 [.arr 1 has.length (ga e1 has), .arr 3 l.length (ga encD l), .arr 1 done.length (ga e1 done)] [.one (.ref 0), .one (.ref 1), .one (.ref 2)] (.tup [.one (.ref 3), .one (.val (.int .i64 (G.aE has l done)))]) [.row 3 1 (G.aV has l done).length (ga e1 (G.aV has l done))] := by
  refine V.FnR.mk_ V.Tok V.mixed Try.func10 rfl Try.ntmps10 (by kernel_rfl) rfl rfl rfl rfl ?_
  repeat' ((conv => whnf); first | (refine V.NDraw.join (by kernel_rfl) [(0, .one (.ref 0)), (1, .one (.ref 1)), (2, .one (.ref 2)), (9, .one (.ptr 6 0 0 0))] [(0, .arr 1 has.length (ga e1 has)), (1, .arr 3 l.length (ga encD l)), (2, .arr 1 done.length (ga e1 done)), (4, .row 4 1 l.length fun _ => eB false), (5, .row 3 1 has.length (ga e1 has)), (6, .box 46 [.ref 1, .ref 4, .ref 5])] 7 ?_ rfl ⟨rfl, rfl⟩ ?_) | refine V.NCond.mk ?_ | refine V.NIf.not_ ?_ | refine V.NIf.dec_ ?_ | refine V.NIf.no (by omega) ?_ | refine V.NIf.yes (by omega) ?_ | refine V.NIf.mk (fun _ => ?_) (fun _ => ?_) | refine V.NWrap.ok (by omega) (by omega) ?_ | refine V.NWrap.u64 (by omega) (by omega) ?_ | refine V.NLt.mk (by omega) ?_ | refine V.NBoth.mk ?_ ?_ | refine V.NTF.yes (by omega) ?_ | refine V.NTF.no (by omega) ?_ | refine V.NTF.dec ?_ | refine V.NDraw.q (by exact rfl) (by kernel_rfl) ?_ | refine V.NApp.one (by first | omega | (simp; omega)) (by first | omega | (simp; omega)) ?_ | ((first | refine V.Fn.k (v_gcheck has l (by omega) (by omega)) [0, 1] rfl ?_ ?_ | refine V.Fn.q (v_gcheck has l (by omega) (by omega)) [0, 1] rfl ?_ ?_ | refine V.Fn.a (v_gcheck has l (by omega) (by omega)) [0, 1] rfl ?_ ?_); · ((repeat' (first | exact rfl | exact Iff.rfl | exact trivial | exact (fun _ _ => rfl) | exact (fun _ h => absurd h (Nat.not_lt_zero _)) | refine ⟨?_, ?_⟩ | exact Iff.rfl | exact congrArg (fun z => V.SV.one (V.At.val (Value.int .i64 z))) (by omega))); done)) | ((first | refine V.FnR.k_ (v_cloneI has h1) [0] rfl ?_ ?_ | refine V.FnR.a_ (v_cloneI has h1) [0] rfl ?_ ?_); · ((repeat' (first | exact rfl | exact Iff.rfl | exact trivial | exact (fun _ _ => rfl) | exact (fun _ h => absurd h (Nat.not_lt_zero _)) | refine ⟨?_, ?_⟩ | exact Iff.rfl | exact congrArg (fun z => V.SV.one (V.At.val (Value.int .i64 z))) (by omega))); done)) | (refine NMake.mk ⟨l.length, l.length, rfl, rfl, by omega, by omega, by first | omega | (simp; omega), ?_⟩) | ((refine V.NJoin.by_ [] rfl rfl ?_ ?_ <;> ((repeat' (first | exact rfl | exact Iff.rfl | exact trivial | exact (fun _ _ => rfl) | exact (fun _ h => absurd h (Nat.not_lt_zero _)) | refine ⟨?_, ?_⟩ | exact Iff.rfl | exact congrArg (fun z => V.SV.one (V.At.val (Value.int .i64 z))) (by omega))); done))) | ((refine V.NJoin.by_ [(4, 5), (5, 4)] rfl rfl ?_ ?_ <;> ((repeat' (first | exact rfl | exact Iff.rfl | exact trivial | exact (fun _ _ => rfl) | exact (fun _ h => absurd h (Nat.not_lt_zero _)) | refine ⟨?_, ?_⟩ | exact Iff.rfl | exact congrArg (fun z => V.SV.one (V.At.val (Value.int .i64 z))) (by omega))); done))) | (refine V.NDraw.any (by kernel_rfl) ?_) | fail)
  all_goals (conv => whnf)
  · obtain ⟨a1, a2⟩ := G.a_2 (l := l) (done := done) (has := has) (by assumption) (by omega)
    exact retE 4 a1 a2
  · have ok := G.chk_ok (by assumption)
    have hck := (N.chk_ok ok.c).2
    have h60 := (N.chk_ok ok.c).1
    refine V.NLoop.auto (fun (k : Nat) => [(34, .one (.val (.int .i64 k))), (10, .one (.val (.int .i64 (G.lst done k))))]) (fun (k : Nat) => [(4, .row 4 1 (G.mk l.length (done.take k)).length (ga eB (G.mk l.length (done.take k)))), (5, .row 3 1 (G.aft has l (G.mk l.length (done.take k))).length (ga e1 (G.aft has l (G.mk l.length (done.take k)))))]) [] [] (fun (k : Nat) => done.length - k) (fun (k : Nat) => G.Scan l.length done k) 0 (G.scan0 _ _) (by repeat' (first | exact rfl | exact Iff.rfl | exact trivial | exact (fun _ _ => rfl) | exact (fun _ h => absurd h (Nat.not_lt_zero _)) | refine ⟨?_, ?_⟩ | exact Iff.rfl | exact congrArg (fun z => V.SV.one (V.At.val (Value.int .i64 z))) (by omega))) (by (conv => whnf); exact ⟨ObLe.rep false (G.mk_nil _) (fun _ => rfl), ObLe.as_ (by rw [List.take_zero, G.mk_nil, G.aft_no ok.n]), trivial⟩) (fun _ => ⟨rfl, rfl⟩) ?_; (conv => whnf); refine ⟨⟨rfl, rfl⟩, ?_⟩
    rintro k sc
    have hk := sc.hk
    have al := G.aft_len has l (G.mk l.length (done.take k))
    have ml := G.mk_len l.length (done.take k)
    by_cases hlt : k < done.length
    · have ea := G.scan_at sc hlt
      by_cases hin : done.getD k default < 0 ∨ (l.length : Int) ≤ done.getD k default
      · rw [if_pos hin] at ea
        obtain ⟨a1, a2⟩ := G.a_3 (by assumption) (by omega) ea (by omega)
        repeat' ((conv => whnf); first | refine V.NCond.mk ?_ | refine V.NIf.not_ ?_ | refine V.NIf.dec_ ?_ | refine V.NIf.no (by omega) ?_ | refine V.NIf.yes (by omega) ?_ | refine V.NIf.mk (fun _ => ?_) (fun _ => ?_) | refine V.NWrap.ok (by omega) (by omega) ?_ | refine V.NWrap.u64 (by omega) (by omega) ?_ | refine V.NLt.mk (by omega) ?_ | refine V.NBoth.mk ?_ ?_ | refine V.NTF.yes (by omega) ?_ | refine V.NTF.no (by omega) ?_ | refine V.NTF.dec ?_ | refine V.NDraw.q (by exact rfl) (by kernel_rfl) ?_ | refine V.NApp.one (by first | omega | (simp; omega)) (by first | omega | (simp; omega)) ?_ | (refine NIdx.mk ⟨k, rfl, by omega, ?_⟩) | (refine V.NDraw.any (by kernel_rfl) ?_) | fail)
        all_goals exact retE 7 a1 a2
      · rw [if_neg hin] at ea
        obtain ⟨i, hi⟩ := Int.eq_ofNat_of_zero_le (show 0 ≤ done.getD k default by omega)
        have hil : i < l.length := by omega
        have ck := N.ck_ok (hck _ (getD_mem hil))
        have bd := fun p (h : p < 31) => G.aft_bd (b := G.mk l.length (done.take k)) ok h
        have ne : ∀ x : Int, ((G.aft has l (G.mk l.length (done.take k))).set (l.getD i default).fr.toNat x).getD (l.getD i default).to.toNat default = (G.aft has l (G.mk l.length (done.take k))).getD (l.getD i default).to.toNat default := fun x => G.getD_set_ne (by omega)
        repeat' ((conv => whnf); first | (refine NIdx.mk ⟨k, rfl, by omega, ?_⟩) | refine V.NCond.mk ?_ | refine V.NIf.not_ ?_ | refine V.NIf.dec_ ?_ | refine V.NIf.no (by omega) ?_ | refine V.NIf.yes (by omega) ?_ | refine V.NIf.mk (fun _ => ?_) (fun _ => ?_) | refine V.NWrap.ok (by omega) (by omega) ?_ | refine V.NWrap.u64 (by omega) (by omega) ?_ | refine V.NLt.mk (by omega) ?_ | refine V.NBoth.mk ?_ ?_ | refine V.NTF.yes (by omega) ?_ | refine V.NTF.no (by omega) ?_ | refine V.NTF.dec ?_ | refine V.NDraw.q (by exact rfl) (by kernel_rfl) ?_ | refine V.NApp.one (by first | omega | (simp; omega)) (by first | omega | (simp; omega)) ?_ | (refine V.NCall.inl (f := 20) V.Tok V.mixed Try.func20 rfl Try.ntmps20 (by kernel_rfl) rfl ?_) | (refine NIdx.mk ⟨i, by omega, by first | omega | (simp only [List.length_set]; omega), ?_⟩) | (refine NIdx.mk ⟨(l.getD i default).fr.toNat, by omega, by first | omega | (simp only [List.length_set]; omega), ?_⟩) | (refine NIdx.mk ⟨(l.getD i default).to.toNat, by omega, by first | omega | (simp only [List.length_set]; omega), ?_⟩) | (refine NPut.to _ (by first | rfl | simp) rfl ?_) | (refine V.NWrap.ok (by have := bd (l.getD i default).fr.toNat (by omega); omega) (by have := bd (l.getD i default).fr.toNat (by omega); omega) ?_) | (refine V.NWrap.ok (by have := bd (l.getD i default).to.toNat (by omega); rw [ne]; omega) (by have := bd (l.getD i default).to.toNat (by omega); rw [ne]; omega) ?_) | (refine V.NDraw.any (by kernel_rfl) ?_) | fail)
        · obtain ⟨a1, a2⟩ := G.a_3 (by assumption) (by omega) (ea.trans (if_pos (by assumption))) (by omega)
          exact retE 7 a1 a2
        · have hn := G.scan_new sc (by assumption)
          have e : G.mk l.length (done.take (k + 1)) = (G.mk l.length (done.take k)).set i true := by
            rw [List.take_succ_eq_append_getElem hlt, ← getD_at hlt, hi]; exact G.mk_snoc hil
          refine V.NBack.at_ (k + 1) [] (G.scan_on sc hlt hin (by assumption)) (by omega) ⟨(by repeat' (first | exact rfl | exact Iff.rfl | exact trivial | exact (fun _ _ => rfl) | exact (fun _ h => absurd h (Nat.not_lt_zero _)) | refine ⟨?_, ?_⟩ | exact Iff.rfl | exact congrArg (fun z => V.SV.one (V.At.val (Value.int .i64 z))) (by omega))), ?_, trivial⟩ rfl ⟨ObLe.is_ e (by rw [G.mk_len, G.mk_len]), ObLe.is_ ?_ (by rw [G.aft_len, G.aft_len]), trivial⟩ (by repeat' (first | exact rfl | exact Iff.rfl | exact trivial | exact (fun _ _ => rfl) | exact (fun _ h => absurd h (Nat.not_lt_zero _)) | refine ⟨?_, ?_⟩ | exact Iff.rfl | exact congrArg (fun z => V.SV.one (V.At.val (Value.int .i64 z))) (by omega))) (by repeat' (first | exact rfl | exact Iff.rfl | exact trivial | exact (fun _ _ => rfl) | exact (fun _ h => absurd h (Nat.not_lt_zero _)) | refine ⟨?_, ?_⟩ | exact Iff.rfl | exact congrArg (fun z => V.SV.one (V.At.val (Value.int .i64 z))) (by omega)))
          · exact congrArg (fun z => V.SV.one (V.At.val (Value.int .i64 z))) (G.lst_succ done k).symm
          · rw [e]
            exact (G.aft_do (v := true) hil ml (hck _ (getD_mem hil)) (by rw [G.mk_at hil, ← hi]; simpa using hn) rfl).symm
    · obtain rfl : k = done.length := by omega
      have e0 := G.scan_end sc
      have eT : done.take done.length = done := List.take_length
      repeat' ((conv => whnf); first | refine V.NCond.mk ?_ | refine V.NIf.not_ ?_ | refine V.NIf.dec_ ?_ | refine V.NIf.no (by omega) ?_ | refine V.NIf.yes (by omega) ?_ | refine V.NIf.mk (fun _ => ?_) (fun _ => ?_) | refine V.NWrap.ok (by omega) (by omega) ?_ | refine V.NWrap.u64 (by omega) (by omega) ?_ | refine V.NLt.mk (by omega) ?_ | refine V.NBoth.mk ?_ ?_ | refine V.NTF.yes (by omega) ?_ | refine V.NTF.no (by omega) ?_ | refine V.NTF.dec ?_ | refine V.NDraw.q (by exact rfl) (by kernel_rfl) ?_ | refine V.NApp.one (by first | omega | (simp; omega)) (by first | omega | (simp; omega)) ?_ | ((first | refine V.Fn.k (v_minI (G.aft has l (G.mk l.length (done.take done.length))) (by omega) (by omega)) [5] rfl ?_ ?_ | refine V.Fn.q (v_minI (G.aft has l (G.mk l.length (done.take done.length))) (by omega) (by omega)) [5] rfl ?_ ?_ | refine V.Fn.a (v_minI (G.aft has l (G.mk l.length (done.take done.length))) (by omega) (by omega)) [5] rfl ?_ ?_); · ((repeat' (first | exact rfl | exact Iff.rfl | exact trivial | exact (fun _ _ => rfl) | exact (fun _ h => absurd h (Nat.not_lt_zero _)) | refine ⟨?_, ?_⟩ | exact Iff.rfl | exact congrArg (fun z => V.SV.one (V.At.val (Value.int .i64 z))) (by omega))); done)) | (refine V.NDraw.any (by kernel_rfl) ?_) | fail)
      · obtain ⟨a1, a2⟩ := G.a_4 (l := l) (done := done) (has := has) (by assumption) (by omega) e0 (by rw [← eT]; assumption)
        exact retE 7 a1 a2
      · obtain ⟨a1, a2⟩ := G.a_5 (l := l) (done := done) (has := has) (by assumption) (by omega) e0 (by rw [← eT]; assumption)
        refine NRet.mk_ [some 5] rfl ?_ ?_
        · exact ⟨rfl, V.fin1 a1, trivial⟩
        · exact ⟨ObLe.as_ (by rw [a2, eT]), trivial⟩
  · obtain ⟨a1, a2⟩ := G.a_1 (l := l) (done := done) (has := has) (by assumption)
    exact retE 4 a1 a2
end Go.Proofs.Ytmbcdkgnlididaa
