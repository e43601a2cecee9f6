/- What MarginTells answers: true. -/
import Derived.Test.YtmmfgepmochmeaaVMarginB
import Derived.Test.YtmmfgepmochmeaaVOpenS
import Derived.Test.YtmmfgepmochmeaaVOpenF
import Derived.Test.YtmmfgepmochmeaaVOpenI
namespace Go.Proofs.Ytmmfgepmochmeaa
open Go Go.RowKit V
set_option maxRecDepth 100000
set_option linter.unusedVariables false
set_option linter.unusedSimpArgs false
set_option maxHeartbeats 16000000 in
theorem v_mtcore (l : List St) (ps : List Int) (fs : List Fl) (party rate has need least at_ c1 c2 vv ve nv ne cv ce sv se : Int)
    (h1 : V.Fn Try.prog 9 [.arr 3 l.length (ga encS l), .arr 1 ps.length (ga e1 ps)] [.one (.ref 0), .one (.ref 1)] (.tuple #[.int .i64 vv, .int .i64 ve]))
    (h2 : V.Fn Try.prog 10 [.arr 10 fs.length (ga encF fs), .arr 1 ps.length (ga e1 ps)] [.one (.ref 0), .one (.ref 1), .one (.val (.int .i64 party)), .one (.val (.int .i64 rate))] (.tuple #[.int .i64 nv, .int .i64 ne]))
    (h3 : V.Fn Try.prog 11 [] [.one (.val (.int .i64 has)), .one (.val (.int .i64 need)), .one (.val (.int .i64 least))] (.tuple #[.int .i64 cv, .int .i64 ce]))
    (h4 : V.Fn Try.prog 12 [.arr 3 l.length (ga encS l), .arr 1 ps.length (ga e1 ps)] [.one (.ref 0), .one (.ref 1), .one (.val (.int .i64 need)), .one (.val (.int .i64 at_))] (.tuple #[.int .i64 sv, .int .i64 se]))
    (h5 : V.Fn Try.prog 13 [.arr 3 l.length (ga encS l), .arr 1 ps.length (ga e1 ps)] [.one (.ref 0), .one (.ref 1)] (.tuple #[.int .i64 vv, .int .i64 ve]))
    (h6 : V.Fn Try.prog 14 [.arr 10 fs.length (ga encF fs), .arr 1 ps.length (ga e1 ps)] [.one (.ref 0), .one (.ref 1), .one (.val (.int .i64 party)), .one (.val (.int .i64 rate))] (.tuple #[.int .i64 nv, .int .i64 ne]))
    (h7 : V.Fn Try.prog 15 [.arr 3 l.length (ga encS l)] [.one (.ref 0)] (.int .i64 c1))
    (h8 : V.Fn Try.prog 16 [.arr 1 ps.length (ga e1 ps)] [.one (.ref 0)] (.int .i64 c2))
    (h9 : V.Fn Try.prog 19 [.arr 3 l.length (ga encS l)] [.one (.ref 0)] (.int .i64 c1))
    (hr : se = 0 → V.Fn Try.prog 17 [.arr 3 l.length (ga encS l), .arr 1 ps.length (ga e1 ps)] [.one (.ref 0), .one (.ref 1), .one (.val (.int .i64 need)), .one (.val (.int .i64 at_)), .one (.val (.int .i64 sv))] (.bool true))
    (hcall : (ce = 0 ∧ cv = need - has ∧ has < need ∧ least ≤ need - has ∧ (0 ≤ has ∧ has ≤ 1152921504606846976) ∧ (0 ≤ need ∧ need ≤ 1152921504606846976) ∧ (0 ≤ least ∧ least ≤ 1152921504606846976)) ∨ (ce = 0 ∧ cv = 0 ∧ ¬ (has < need ∧ least ≤ need - has) ∧ (0 ≤ has ∧ has ≤ 1152921504606846976) ∧ (0 ≤ need ∧ need ≤ 1152921504606846976) ∧ (0 ≤ least ∧ least ≤ 1152921504606846976)) ∨ (ce = 3 ∧ cv = 0 ∧ ¬ ((0 ≤ has ∧ has ≤ 1152921504606846976) ∧ (0 ≤ need ∧ need ≤ 1152921504606846976) ∧ (0 ≤ least ∧ least ≤ 1152921504606846976))))
    (hu : (c1 ≠ 0 ∧ se = c1 ∧ sv = 0) ∨ (c1 = 0 ∧ c2 ≠ 0 ∧ se = c2 ∧ sv = 0) ∨ (c1 = 0 ∧ c2 = 0 ∧ ¬ (0 ≤ need ∧ need ≤ 1152921504606846976) ∧ se = 3 ∧ sv = 0) ∨ (c1 = 0 ∧ c2 = 0 ∧ (0 ≤ need ∧ need ≤ 1152921504606846976) ∧ (at_ < 0 ∨ l.length ≤ at_) ∧ se = 5 ∧ sv = 0) ∨ (c1 = 0 ∧ c2 = 0 ∧ (0 ≤ need ∧ need ≤ 1152921504606846976) ∧ (0 ≤ at_ ∧ at_ < l.length) ∧ ve ≠ 0 ∧ se = ve ∧ sv = 0) ∨ (c1 = 0 ∧ c2 = 0 ∧ (0 ≤ need ∧ need ≤ 1152921504606846976) ∧ (0 ≤ at_ ∧ at_ < l.length) ∧ ve = 0 ∧ vv < need ∧ se = 4 ∧ sv = 0) ∨ (c1 = 0 ∧ c2 = 0 ∧ (0 ≤ need ∧ need ≤ 1152921504606846976) ∧ (0 ≤ at_ ∧ at_ < l.length) ∧ ve = 0 ∧ need ≤ vv ∧ se = 0)) :
    V.Fn Try.prog 3 [.arr 3 l.length (ga encS l), .arr 1 ps.length (ga e1 ps), .arr 10 fs.length (ga encF fs)] [.one (.ref 0), .one (.ref 1), .one (.ref 2), .one (.val (.int .i64 party)), .one (.val (.int .i64 rate)), .one (.val (.int .i64 has)), .one (.val (.int .i64 need)), .one (.val (.int .i64 least)), .one (.val (.int .i64 at_))] (.bool true) := by
  rcases hu with u | u | u | u | u | u | u
  all_goals
    rcases hcall with c | c | c
    all_goals
      refine V.Fn.mk_ V.Tok V.mixed Try.func3 rfl Try.ntmps3 (by kernel_rfl) rfl rfl ?_
      repeat' ((conv => whnf); first | (refine V.NIf.yes ?_ ?_; · (simp only [true_and, and_true, and_self]; done)) | refine V.NCond.mk ?_ | refine V.NIf.not_ ?_ | refine V.NIf.dec_ ?_ | refine V.NIf.no (by omega) ?_ | refine V.NIf.yes (by omega) ?_ | refine V.NIf.mk (fun _ => ?_) (fun _ => ?_) | refine V.NWrap.ok (by omega) (by omega) ?_ | refine V.NWrap.u64 (by omega) (by omega) ?_ | refine V.NLt.mk (by omega) ?_ | refine V.NBoth.mk ?_ ?_ | refine V.NTF.yes (by omega) ?_ | refine V.NTF.no (by omega) ?_ | refine V.NTF.dec ?_ | refine V.NDraw.q (by exact rfl) (by kernel_rfl) ?_ | refine V.NApp.one (by first | omega | (simp; omega)) (by first | omega | (simp; omega)) ?_ | ((first | refine V.Fn.k (h1) [0, 1] rfl ?_ ?_ | refine V.Fn.q (h1) [0, 1] rfl ?_ ?_ | refine V.Fn.a (h1) [0, 1] rfl ?_ ?_); · ((repeat' (first | exact rfl | exact Iff.rfl | exact trivial | exact (fun _ _ => rfl) | exact (fun _ h => absurd h (Nat.not_lt_zero _)) | refine ⟨?_, ?_⟩ | exact Iff.rfl | exact congrArg (fun z => V.SV.one (V.At.val (Value.int .i64 z))) (by omega))); done)) | ((first | refine V.Fn.k (h2) [2, 1] rfl ?_ ?_ | refine V.Fn.q (h2) [2, 1] rfl ?_ ?_ | refine V.Fn.a (h2) [2, 1] rfl ?_ ?_); · ((repeat' (first | exact rfl | exact Iff.rfl | exact trivial | exact (fun _ _ => rfl) | exact (fun _ h => absurd h (Nat.not_lt_zero _)) | refine ⟨?_, ?_⟩ | exact Iff.rfl | exact congrArg (fun z => V.SV.one (V.At.val (Value.int .i64 z))) (by omega))); done)) | (first | refine V.Fn.k0 (h3) rfl ?_ | refine V.Fn.q0 (h3) rfl ?_ | refine V.Fn.a0 (h3) rfl ?_) | ((first | refine V.Fn.k (h4) [0, 1] rfl ?_ ?_ | refine V.Fn.q (h4) [0, 1] rfl ?_ ?_ | refine V.Fn.a (h4) [0, 1] rfl ?_ ?_); · ((repeat' (first | exact rfl | exact Iff.rfl | exact trivial | exact (fun _ _ => rfl) | exact (fun _ h => absurd h (Nat.not_lt_zero _)) | refine ⟨?_, ?_⟩ | exact Iff.rfl | exact congrArg (fun z => V.SV.one (V.At.val (Value.int .i64 z))) (by omega))); done)) | ((first | refine V.Fn.k (h5) [0, 1] rfl ?_ ?_ | refine V.Fn.q (h5) [0, 1] rfl ?_ ?_ | refine V.Fn.a (h5) [0, 1] rfl ?_ ?_); · ((repeat' (first | exact rfl | exact Iff.rfl | exact trivial | exact (fun _ _ => rfl) | exact (fun _ h => absurd h (Nat.not_lt_zero _)) | refine ⟨?_, ?_⟩ | exact Iff.rfl | exact congrArg (fun z => V.SV.one (V.At.val (Value.int .i64 z))) (by omega))); done)) | ((first | refine V.Fn.k (h6) [2, 1] rfl ?_ ?_ | refine V.Fn.q (h6) [2, 1] rfl ?_ ?_ | refine V.Fn.a (h6) [2, 1] rfl ?_ ?_); · ((repeat' (first | exact rfl | exact Iff.rfl | exact trivial | exact (fun _ _ => rfl) | exact (fun _ h => absurd h (Nat.not_lt_zero _)) | refine ⟨?_, ?_⟩ | exact Iff.rfl | exact congrArg (fun z => V.SV.one (V.At.val (Value.int .i64 z))) (by omega))); done)) | ((first | refine V.Fn.k (h7) [0] rfl ?_ ?_ | refine V.Fn.q (h7) [0] rfl ?_ ?_ | refine V.Fn.a (h7) [0] rfl ?_ ?_); · ((repeat' (first | exact rfl | exact Iff.rfl | exact trivial | exact (fun _ _ => rfl) | exact (fun _ h => absurd h (Nat.not_lt_zero _)) | refine ⟨?_, ?_⟩ | exact Iff.rfl | exact congrArg (fun z => V.SV.one (V.At.val (Value.int .i64 z))) (by omega))); done)) | ((first | refine V.Fn.k (h8) [1] rfl ?_ ?_ | refine V.Fn.q (h8) [1] rfl ?_ ?_ | refine V.Fn.a (h8) [1] rfl ?_ ?_); · ((repeat' (first | exact rfl | exact Iff.rfl | exact trivial | exact (fun _ _ => rfl) | exact (fun _ h => absurd h (Nat.not_lt_zero _)) | refine ⟨?_, ?_⟩ | exact Iff.rfl | exact congrArg (fun z => V.SV.one (V.At.val (Value.int .i64 z))) (by omega))); done)) | (first | refine V.Fn.k0 (v_mgbegun) rfl ?_ | refine V.Fn.q0 (v_mgbegun) rfl ?_ | refine V.Fn.a0 (v_mgbegun) rfl ?_) | ((first | refine V.Fn.k (h9) [0] rfl ?_ ?_ | refine V.Fn.q (h9) [0] rfl ?_ ?_ | refine V.Fn.a (h9) [0] rfl ?_ ?_); · ((repeat' (first | exact rfl | exact Iff.rfl | exact trivial | exact (fun _ _ => rfl) | exact (fun _ h => absurd h (Nat.not_lt_zero _)) | refine ⟨?_, ?_⟩ | exact Iff.rfl | exact congrArg (fun z => V.SV.one (V.At.val (Value.int .i64 z))) (by omega))); done)) | ((first | refine V.Fn.k (hr (by omega)) [0, 1] rfl ?_ ?_ | refine V.Fn.q (hr (by omega)) [0, 1] rfl ?_ ?_ | refine V.Fn.a (hr (by omega)) [0, 1] rfl ?_ ?_); · ((repeat' (first | exact rfl | exact Iff.rfl | exact trivial | exact (fun _ _ => rfl) | exact (fun _ h => absurd h (Nat.not_lt_zero _)) | refine ⟨?_, ?_⟩ | exact Iff.rfl | exact congrArg (fun z => V.SV.one (V.At.val (Value.int .i64 z))) (by omega))); done)) | (refine V.NDraw.any (by kernel_rfl) ?_) | fail)
      all_goals (conv => whnf)
      all_goals first | exact ⟨true, rfl, iff_of_true (by omega) rfl⟩ | (exfalso; omega)
theorem v_marginTells (l : List St) (wl : ∀ f ∈ l, WfS f) (ps : List Int) (wp : ∀ f ∈ ps, (Lit.int .i64 f).wf = true) (fs : List Fl) (wf : ∀ f ∈ fs, WfF f) (party : Int) (w_party : (Lit.int .i64 party).wf = true) (rate : Int) (w_rate : (Lit.int .i64 rate).wf = true) (has : Int) (w_has : (Lit.int .i64 has).wf = true) (need : Int) (w_need : (Lit.int .i64 need).wf = true) (least : Int) (w_least : (Lit.int .i64 least).wf = true) (at_ : Int) (w_at_ : (Lit.int .i64 at_).wf = true) : V.Fn Try.prog 3 [.arr 3 l.length (ga encS l), .arr 1 ps.length (ga e1 ps), .arr 10 fs.length (ga encF fs)] [.one (.ref 0), .one (.ref 1), .one (.ref 2), .one (.val (.int .i64 party)), .one (.val (.int .i64 rate)), .one (.val (.int .i64 has)), .one (.val (.int .i64 need)), .one (.val (.int .i64 least)), .one (.val (.int .i64 at_))] (.bool true) := by
  refine V.Fn.lim (by kernel_rfl) fun hl => ?_
  have nl := hl 0 _ _ _ rfl
  have np := hl 1 _ _ _ rfl
  refine v_mtcore l ps fs party rate has need least at_ _ _ _ _ _ _ _ _ _ _ (v_mgVal l ps nl np) (v_mgNeed fs ps party rate np) (v_mgCall has need least) (v_mgSpare l ps need at_ nl np) (v_rvalue l ps nl np) (v_rneed fs ps party rate np) (v_rstakes l nl) (v_rprices ps np) (v_mgcheck l nl) (fun h => ?_) ?_ ?_
  · obtain ⟨a1, a2, a3, a4, a5⟩ := K.sp_ok h
    have st := K.stay_ex h
    have hV : K.spV l ps need at_ = (l.getD at_.toNat default).un - K.stay ps (l.getD at_.toNat default) (K.oth ps l at_.toNat) need := if_pos h
    have sb := st.b
    have hz : (l.getD at_.toNat default).un - K.spV l ps need at_ = K.stay ps (l.getD at_.toNat default) (K.oth ps l at_.toNat) need := by omega
    have := v_rspare l ps need (K.spV l ps need at_) at_.toNat a1 (by omega) (by omega) (by rw [hz]; exact st) a2
    rwa [Int.toNat_of_nonneg a3.1] at this
  · by_cases g : (0 ≤ has ∧ has ≤ 1152921504606846976) ∧ (0 ≤ need ∧ need ≤ 1152921504606846976) ∧ (0 ≤ least ∧ least ≤ 1152921504606846976)
    · have e : K.caE has need least = 0 := if_neg (fun q => q g)
      by_cases k : has < need ∧ least ≤ need - has
      · exact .inl ⟨e, if_pos ⟨e, k.1, k.2⟩, k.1, k.2, g⟩
      · exact .inr (.inl ⟨e, if_neg (fun q => k q.2), k, g⟩)
    · have e : K.caE has need least = 3 := if_pos g
      exact .inr (.inr ⟨e, if_neg (fun q => by omega), g⟩)
  · by_cases h1 : K.chk l = 0
    · by_cases h2 : P.chks ps = 0
      · have hc := K.ck_of h1 h2
        by_cases h3 : 0 ≤ need ∧ need ≤ 1152921504606846976
        · by_cases h4 : at_ < 0 ∨ (l.length : Int) ≤ at_
          · have e := K.sp_3 hc h3 h4
            exact .inr (.inr (.inr (.inl ⟨h1, h2, h3, h4, e, K.sp_no (by omega)⟩)))
          · by_cases h5 : 1152921504606846976 < K.val ps l
            · have e := K.sp_4 hc h3 h4 h5
              have v := (K.v_2 hc h5).1
              exact .inr (.inr (.inr (.inr (.inl ⟨h1, h2, h3, by omega, by omega, by omega, K.sp_no (by omega)⟩))))
            · have v := K.v_3 hc h5
              by_cases h6 : K.val ps l < need
              · have e := K.sp_5 hc h3 h4 h5 h6
                exact .inr (.inr (.inr (.inr (.inr (.inl ⟨h1, h2, h3, by omega, by omega, by omega, e, K.sp_no (by omega)⟩)))))
              · have e := K.sp_6 hc h3 h4 h5 h6
                exact .inr (.inr (.inr (.inr (.inr (.inr ⟨h1, h2, h3, by omega, by omega, by omega, e⟩)))))
        · have e := K.sp_2 (at_ := at_) hc h3
          exact .inr (.inr (.inl ⟨h1, h2, h3, e, K.sp_no (by omega)⟩))
      · have k := K.ck_2 (ps := ps) h1
        have e := K.sp_1 (l := l) (ps := ps) (need := need) (at_ := at_) (by omega)
        exact .inr (.inl ⟨h1, h2, by omega, K.sp_no (by omega)⟩)
    · have k := K.ck_1 (ps := ps) h1
      have e := K.sp_1 (l := l) (ps := ps) (need := need) (at_ := at_) (by omega)
      exact .inl ⟨h1, by omega, K.sp_no (by omega)⟩
end Go.Proofs.Ytmmfgepmochmeaa
