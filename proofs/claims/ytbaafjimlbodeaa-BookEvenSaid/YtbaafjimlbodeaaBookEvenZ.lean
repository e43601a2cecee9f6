/- The statement of BookEven: the call returns true for every input, and its input reads as it did. No condition. -/
import Derived.Test.YtbaafjimlbodeaaRows
import Derived.WalkKit
import Derived.ProofKit
import Derived.OpenShut
import Derived.Test.YtbaafjimlbodeaaZ1
import Derived.Test.YtbaafjimlbodeaaZ2
import Derived.Test.YtbaafjimlbodeaaZ3
import Derived.Test.YtbaafjimlbodeaaZ4
import Derived.Test.YtbaafjimlbodeaaZ5

/- What BookEven answers: true. -/
namespace Go.Proofs.Ytbaafjimlbodeaa
open Go Go.RowKit V
set_option maxRecDepth 100000
set_option linter.unusedVariables false
set_option linter.unusedSimpArgs false
theorem amk_take {l : List Po} (r : ∀ p ∈ l, Bk.Right p) {a u : Int} (kn : Bk.Kn a u) {k : Nat} (h : k < l.length) : Bk.amk (l.take (k + 1)) (Bk.kk a u) = Bk.amk (l.take k) (Bk.kk a u) ++ if (l.getD k default).ac = a ∧ (l.getD k default).ut = u then [(l.getD k default).am] else [] := by
  rw [List.take_succ_eq_append_getElem h, Bk.amk_app, ← getD_at h]
  congr 1
  by_cases q : (l.getD k default).ac = a ∧ (l.getD k default).ut = u
  · rw [if_pos q, Bk.amk_all fun p hp => by rw [List.mem_singleton.1 hp]; exact (Bk.kk_key kn (r _ (getD_mem h))).2 q]; rfl
  · rw [if_neg q, Bk.amk_none fun p hp z => by rw [List.mem_singleton.1 hp] at z; exact q ((Bk.kk_key kn (r _ (getD_mem h))).1 z)]
set_option maxHeartbeats 4000000 in
theorem v_bookEven (b : List Po) (wb : ∀ f ∈ b, WfPo f) (l : List Po) (wl : ∀ f ∈ l, WfPo f) (account : Int) (w_account : (Lit.int .i64 account).wf = true) (unit : Int) (w_unit : (Lit.int .i64 unit).wf = true) : V.Fn Try.prog 4 [.arr 3 b.length (ga encP b), .arr 3 l.length (ga encP l)] [.one (.ref 0), .one (.ref 1), .one (.val (.int .i64 account)), .one (.val (.int .i64 unit))] (.bool true) := by
  clear wb wl w_account w_unit
  refine V.Fn.lim (by kernel_rfl) fun hl => ?_
  have hb : b.length ≤ 9223372036854775807 := by have := hl 0 _ _ _ rfl; omega
  have hn : l.length ≤ 9223372036854775807 := by have := hl 1 _ _ _ rfl; omega
  clear hl
  have c1 := v_bkPost b l hb hn
  by_cases hP : Bk.pE b l = 0
  · have P := Bk.pE_0.1 hP
    have lp := Bk.po_ok P
    have ln := Bk.po_lines P
    have le := Bk.po_even P
    have pn : (Bk.pL b l).length ≤ 9223372036854775807 := by have := ln.le; omega
    have c2 := v_bkLines (Bk.pL b l) pn
    have c3 := v_bkBalance b account unit hb
    have c4 := v_bkBalance (Bk.pL b l) account unit pn
    rw [lp] at c2
    rw [hP] at c1
    rw [Bk.bE_is (Bk.lines_is P.bo P.be)] at c3
    rw [Bk.bE_is lp] at c4
    by_cases kn : Bk.Kn account unit
    · rw [if_pos kn, Bk.bV_is P.bo P.be kn] at c3
      rw [if_pos kn, Bk.bV_is ln le kn, Bk.po_tot P (Bk.kk_r kn).1] at c4
      have ta := Bk.tot_amt P.bo (Bk.kk account unit)
      have tb := Bk.tot_amt ln (Bk.kk account unit)
      rw [Bk.po_tot P (Bk.kk_r kn).1] at tb
      have sn := fun k => @amk_take l P.r account unit kn k
      have al := Bk.amk_len l (Bk.kk account unit)
      have aa := Bk.amk_amt P.r (Bk.kk account unit)
      have l6 := P.n.2
      have cs := v_sumof (Bk.amk l (Bk.kk account unit) ++ [Bk.tot b (Bk.kk account unit)]) (by simp; omega) (fun a ha => by
        rcases List.mem_append.1 ha with h | h
        · exact aa a h
        · rw [List.mem_singleton.1 h]; exact ta)
      have es := sofV_eq (Bk.amk l (Bk.kk account unit) ++ [Bk.tot b (Bk.kk account unit)])
      have em : M.sum (Bk.amk l (Bk.kk account unit) ++ [Bk.tot b (Bk.kk account unit)]) = Bk.tot b (Bk.kk account unit) + Bk.tot l (Bk.kk account unit) := by
        rw [M.sum_append]
        show M.sum (Bk.amk l (Bk.kk account unit)) + (Bk.tot b (Bk.kk account unit) + 0) = _
        unfold Bk.tot
        omega
      rw [em] at cs es
      have es2 := es.resolve_right (fun z => z tb)
      rw [es2, decide_eq_true tb] at cs
      have tks : ∀ k, (Bk.amk (l.take k) (Bk.kk account unit)).length ≤ 60 := fun k => by
        have := Bk.amk_len (l.take k) (Bk.kk account unit)
        rw [List.length_take] at this
        omega
      clear P lp ln le es es2 em aa ta tb kn
      generalize Bk.kk account unit = κ at *
      generalize Bk.tot b κ + Bk.tot l κ = NOW at *
      generalize Bk.tot b κ = WAS at *
      generalize Bk.pL b l = PL at *
      refine V.Fn.mk_ V.Tok V.mixed Try.func4 rfl Try.ntmps4 (by kernel_rfl) rfl rfl ?_
      repeat' ((conv => whnf); first | (refine V.NIf.yes ?_ ?_; · (decide; done)) | (refine V.NIf.no ?_ ?_; · (decide; done)) | (refine V.NIf.yes ?_ ?_; · (simp only [true_and, and_true, and_self]; done)) | refine V.NCond.mk ?_ | refine V.NIf.not_ ?_ | refine V.NIf.dec_ ?_ | refine V.NIf.no (by omega) ?_ | refine V.NIf.yes (by omega) ?_ | refine V.NIf.mk (fun _ => ?_) (fun _ => ?_) | refine V.NWrap.ok (by omega) (by omega) ?_ | refine V.NWrap.u64 (by omega) (by omega) ?_ | refine V.NLt.mk (by omega) ?_ | refine V.NBoth.mk ?_ ?_ | refine V.NTF.yes (by omega) ?_ | refine V.NTF.no (by omega) ?_ | refine V.NTF.dec ?_ | refine V.NDraw.q (by exact rfl) (by kernel_rfl) ?_ | refine V.NApp.one (by first | omega | (simp; omega)) (by first | omega | (simp; omega)) ?_ | ((first | refine V.FnR.k_ (c1) [0, 1] rfl ?_ ?_ | refine V.FnR.a_ (c1) [0, 1] rfl ?_ ?_); · ((repeat' (first | exact rfl | exact Iff.rfl | exact trivial | exact (fun _ _ => rfl) | exact (fun _ h => absurd h (Nat.not_lt_zero _)) | refine ⟨?_, ?_⟩ | exact Iff.rfl | exact congrArg (fun z => V.SV.one (V.At.val (Value.int .i64 z))) (by omega))); done)) | (first | refine V.Fn.k0 (v_bkBegun) rfl ?_ | refine V.Fn.q0 (v_bkBegun) rfl ?_ | refine V.Fn.a0 (v_bkBegun) rfl ?_) | ((first | refine V.Fn.k (c2) [2] rfl ?_ ?_ | refine V.Fn.q (c2) [2] rfl ?_ ?_ | refine V.Fn.a (c2) [2] rfl ?_ ?_); · ((repeat' (first | exact rfl | exact Iff.rfl | exact trivial | exact (fun _ _ => rfl) | exact (fun _ h => absurd h (Nat.not_lt_zero _)) | refine ⟨?_, ?_⟩ | exact Iff.rfl | exact congrArg (fun z => V.SV.one (V.At.val (Value.int .i64 z))) (by omega))); done)) | ((first | refine V.Fn.k (c3) [0] rfl ?_ ?_ | refine V.Fn.q (c3) [0] rfl ?_ ?_ | refine V.Fn.a (c3) [0] rfl ?_ ?_); · ((repeat' (first | exact rfl | exact Iff.rfl | exact trivial | exact (fun _ _ => rfl) | exact (fun _ h => absurd h (Nat.not_lt_zero _)) | refine ⟨?_, ?_⟩ | exact Iff.rfl | exact congrArg (fun z => V.SV.one (V.At.val (Value.int .i64 z))) (by omega))); done)) | ((first | refine V.Fn.k (c4) [2] rfl ?_ ?_ | refine V.Fn.q (c4) [2] rfl ?_ ?_ | refine V.Fn.a (c4) [2] rfl ?_ ?_); · ((repeat' (first | exact rfl | exact Iff.rfl | exact trivial | exact (fun _ _ => rfl) | exact (fun _ h => absurd h (Nat.not_lt_zero _)) | refine ⟨?_, ?_⟩ | exact Iff.rfl | exact congrArg (fun z => V.SV.one (V.At.val (Value.int .i64 z))) (by omega))); done)) | (refine V.NDraw.any (by kernel_rfl) ?_) | fail)
      all_goals (conv => whnf)
      refine V.NLoop.auto (fun (k : Nat) => [(16, .one (.val (.int .i64 k))), (15, .one (.ref 3))]) (fun (k : Nat) => [(3, .row 3 1 (Bk.amk (l.take k) κ).length (ga e1 (Bk.amk (l.take k) κ)))]) [] [] (fun (k : Nat) => l.length - k) (fun (k : Nat) => k ≤ l.length) 0 (Nat.zero_le _) (by repeat' (first | exact rfl | exact Iff.rfl | exact trivial | exact (fun _ _ => rfl) | exact (fun _ h => absurd h (Nat.not_lt_zero _)) | refine ⟨?_, ?_⟩ | exact Iff.rfl | exact congrArg (fun z => V.SV.one (V.At.val (Value.int .i64 z))) (by omega))) (by repeat' (first | exact rfl | exact Iff.rfl | exact trivial | exact (fun _ _ => rfl) | exact (fun _ h => absurd h (Nat.not_lt_zero _)) | refine ⟨?_, ?_⟩ | exact Iff.rfl | exact congrArg (fun z => V.SV.one (V.At.val (Value.int .i64 z))) (by omega))) (fun _ => ⟨rfl, rfl⟩) ?_; (conv => whnf); refine ⟨⟨rfl, rfl⟩, ?_⟩
      rintro k hk
      have tk := tks k
      by_cases hlt : k < l.length
      · have sn := sn k hlt
        repeat' ((conv => whnf); first | refine V.NCond.mk ?_ | refine V.NIf.not_ ?_ | refine V.NIf.dec_ ?_ | refine V.NIf.no (by omega) ?_ | refine V.NIf.yes (by omega) ?_ | refine V.NIf.mk (fun _ => ?_) (fun _ => ?_) | refine V.NWrap.ok (by omega) (by omega) ?_ | refine V.NWrap.u64 (by omega) (by omega) ?_ | refine V.NLt.mk (by omega) ?_ | refine V.NBoth.mk ?_ ?_ | refine V.NTF.yes (by omega) ?_ | refine V.NTF.no (by omega) ?_ | refine V.NTF.dec ?_ | refine V.NDraw.q (by exact rfl) (by kernel_rfl) ?_ | refine V.NApp.one (by first | omega | (simp; omega)) (by first | omega | (simp; omega)) ?_ | (refine NIdx.mk ⟨k, rfl, by omega, ?_⟩) | (refine V.NDraw.any (by kernel_rfl) ?_) | fail)
        all_goals (conv => whnf)
        all_goals first
          | exact V.NBack.at_ (k + 1) [(3, 5)] (by omega) (by omega) (by repeat' (first | exact rfl | exact Iff.rfl | exact trivial | exact (fun _ _ => rfl) | exact (fun _ h => absurd h (Nat.not_lt_zero _)) | refine ⟨?_, ?_⟩ | exact Iff.rfl | exact congrArg (fun z => V.SV.one (V.At.val (Value.int .i64 z))) (by omega))) rfl ⟨ObLe.as_ (sn.trans (by rw [if_pos (by omega)])), trivial⟩ (by repeat' (first | exact rfl | exact Iff.rfl | exact trivial | exact (fun _ _ => rfl) | exact (fun _ h => absurd h (Nat.not_lt_zero _)) | refine ⟨?_, ?_⟩ | exact Iff.rfl | exact congrArg (fun z => V.SV.one (V.At.val (Value.int .i64 z))) (by omega))) (by repeat' (first | exact rfl | exact Iff.rfl | exact trivial | exact (fun _ _ => rfl) | exact (fun _ h => absurd h (Nat.not_lt_zero _)) | refine ⟨?_, ?_⟩ | exact Iff.rfl | exact congrArg (fun z => V.SV.one (V.At.val (Value.int .i64 z))) (by omega)))
          | exact V.NBack.at_ (k + 1) [] (by omega) (by omega) (by repeat' (first | exact rfl | exact Iff.rfl | exact trivial | exact (fun _ _ => rfl) | exact (fun _ h => absurd h (Nat.not_lt_zero _)) | refine ⟨?_, ?_⟩ | exact Iff.rfl | exact congrArg (fun z => V.SV.one (V.At.val (Value.int .i64 z))) (by omega))) rfl ⟨ObLe.as_ (sn.trans (by rw [if_neg (by omega), List.append_nil])), trivial⟩ (by repeat' (first | exact rfl | exact Iff.rfl | exact trivial | exact (fun _ _ => rfl) | exact (fun _ h => absurd h (Nat.not_lt_zero _)) | refine ⟨?_, ?_⟩ | exact Iff.rfl | exact congrArg (fun z => V.SV.one (V.At.val (Value.int .i64 z))) (by omega))) (by repeat' (first | exact rfl | exact Iff.rfl | exact trivial | exact (fun _ _ => rfl) | exact (fun _ h => absurd h (Nat.not_lt_zero _)) | refine ⟨?_, ?_⟩ | exact Iff.rfl | exact congrArg (fun z => V.SV.one (V.At.val (Value.int .i64 z))) (by omega)))
          | trace_state
      · obtain rfl : k = l.length := by omega
        rw [List.take_length]
        repeat' ((conv => whnf); first | (refine V.NIf.yes ?_ ?_; · (decide; done)) | (refine V.NIf.no ?_ ?_; · (decide; done)) | (refine V.NIf.yes ?_ ?_; · (simp only [true_and, and_true, and_self]; done)) | refine V.NCond.mk ?_ | refine V.NIf.not_ ?_ | refine V.NIf.dec_ ?_ | refine V.NIf.no (by omega) ?_ | refine V.NIf.yes (by omega) ?_ | refine V.NIf.mk (fun _ => ?_) (fun _ => ?_) | refine V.NWrap.ok (by omega) (by omega) ?_ | refine V.NWrap.u64 (by omega) (by omega) ?_ | refine V.NLt.mk (by omega) ?_ | refine V.NBoth.mk ?_ ?_ | refine V.NTF.yes (by omega) ?_ | refine V.NTF.no (by omega) ?_ | refine V.NTF.dec ?_ | refine V.NDraw.q (by exact rfl) (by kernel_rfl) ?_ | refine V.NApp.one (by first | omega | (simp; omega)) (by first | omega | (simp; omega)) ?_ | ((first | refine V.Fn.k (cs) [5] rfl ?_ ?_ | refine V.Fn.q (cs) [5] rfl ?_ ?_ | refine V.Fn.a (cs) [5] rfl ?_ ?_); · ((repeat' (first | exact rfl | exact Iff.rfl | exact trivial | exact (fun _ _ => rfl) | exact (fun _ h => absurd h (Nat.not_lt_zero _)) | refine ⟨?_, ?_⟩ | exact Iff.rfl | exact congrArg (fun z => V.SV.one (V.At.val (Value.int .i64 z))) (by omega))); done)) | (refine V.NDraw.any (by kernel_rfl) ?_) | fail)
        all_goals (conv => whnf)
        all_goals first
          | (first | exact ⟨_, rfl, iff_of_true (by omega) rfl⟩ | (exfalso; omega) | exact ⟨_, rfl, by simp; omega⟩ | exact ⟨_, rfl, by simp⟩)
          | trace_state
    · rw [if_neg kn] at c3 c4
      clear P ln le kn
      generalize Bk.pL b l = PL at *
      generalize Bk.bV b account unit = V1 at *
      generalize Bk.bV PL account unit = V2 at *
      refine V.Fn.mk_ V.Tok V.mixed Try.func4 rfl Try.ntmps4 (by kernel_rfl) rfl rfl ?_
      repeat' ((conv => whnf); first | (refine V.NIf.yes ?_ ?_; · (decide; done)) | (refine V.NIf.no ?_ ?_; · (decide; done)) | (refine V.NIf.yes ?_ ?_; · (simp only [true_and, and_true, and_self]; done)) | refine V.NCond.mk ?_ | refine V.NIf.not_ ?_ | refine V.NIf.dec_ ?_ | refine V.NIf.no (by omega) ?_ | refine V.NIf.yes (by omega) ?_ | refine V.NIf.mk (fun _ => ?_) (fun _ => ?_) | refine V.NWrap.ok (by omega) (by omega) ?_ | refine V.NWrap.u64 (by omega) (by omega) ?_ | refine V.NLt.mk (by omega) ?_ | refine V.NBoth.mk ?_ ?_ | refine V.NTF.yes (by omega) ?_ | refine V.NTF.no (by omega) ?_ | refine V.NTF.dec ?_ | refine V.NDraw.q (by exact rfl) (by kernel_rfl) ?_ | refine V.NApp.one (by first | omega | (simp; omega)) (by first | omega | (simp; omega)) ?_ | ((first | refine V.FnR.k_ (c1) [0, 1] rfl ?_ ?_ | refine V.FnR.a_ (c1) [0, 1] rfl ?_ ?_); · ((repeat' (first | exact rfl | exact Iff.rfl | exact trivial | exact (fun _ _ => rfl) | exact (fun _ h => absurd h (Nat.not_lt_zero _)) | refine ⟨?_, ?_⟩ | exact Iff.rfl | exact congrArg (fun z => V.SV.one (V.At.val (Value.int .i64 z))) (by omega))); done)) | (first | refine V.Fn.k0 (v_bkBegun) rfl ?_ | refine V.Fn.q0 (v_bkBegun) rfl ?_ | refine V.Fn.a0 (v_bkBegun) rfl ?_) | ((first | refine V.Fn.k (c2) [2] rfl ?_ ?_ | refine V.Fn.q (c2) [2] rfl ?_ ?_ | refine V.Fn.a (c2) [2] rfl ?_ ?_); · ((repeat' (first | exact rfl | exact Iff.rfl | exact trivial | exact (fun _ _ => rfl) | exact (fun _ h => absurd h (Nat.not_lt_zero _)) | refine ⟨?_, ?_⟩ | exact Iff.rfl | exact congrArg (fun z => V.SV.one (V.At.val (Value.int .i64 z))) (by omega))); done)) | ((first | refine V.Fn.k (c3) [0] rfl ?_ ?_ | refine V.Fn.q (c3) [0] rfl ?_ ?_ | refine V.Fn.a (c3) [0] rfl ?_ ?_); · ((repeat' (first | exact rfl | exact Iff.rfl | exact trivial | exact (fun _ _ => rfl) | exact (fun _ h => absurd h (Nat.not_lt_zero _)) | refine ⟨?_, ?_⟩ | exact Iff.rfl | exact congrArg (fun z => V.SV.one (V.At.val (Value.int .i64 z))) (by omega))); done)) | ((first | refine V.Fn.k (c4) [2] rfl ?_ ?_ | refine V.Fn.q (c4) [2] rfl ?_ ?_ | refine V.Fn.a (c4) [2] rfl ?_ ?_); · ((repeat' (first | exact rfl | exact Iff.rfl | exact trivial | exact (fun _ _ => rfl) | exact (fun _ h => absurd h (Nat.not_lt_zero _)) | refine ⟨?_, ?_⟩ | exact Iff.rfl | exact congrArg (fun z => V.SV.one (V.At.val (Value.int .i64 z))) (by omega))); done)) | (refine V.NDraw.any (by kernel_rfl) ?_) | fail)
      all_goals (conv => whnf)
      all_goals first
        | (first | exact ⟨_, rfl, iff_of_true (by omega) rfl⟩ | (exfalso; omega) | exact ⟨_, rfl, by simp; omega⟩ | exact ⟨_, rfl, by simp⟩)
        | trace_state
  · have z : Bk.pL b l = [] := if_neg hP
    rw [z] at c1
    clear z
    generalize Bk.pE b l = PE at *
    refine V.Fn.mk_ V.Tok V.mixed Try.func4 rfl Try.ntmps4 (by kernel_rfl) rfl rfl ?_
    repeat' ((conv => whnf); first | (refine V.NIf.yes ?_ ?_; · (decide; done)) | (refine V.NIf.no ?_ ?_; · (decide; done)) | (refine V.NIf.yes ?_ ?_; · (simp only [true_and, and_true, and_self]; done)) | refine V.NCond.mk ?_ | refine V.NIf.not_ ?_ | refine V.NIf.dec_ ?_ | refine V.NIf.no (by omega) ?_ | refine V.NIf.yes (by omega) ?_ | refine V.NIf.mk (fun _ => ?_) (fun _ => ?_) | refine V.NWrap.ok (by omega) (by omega) ?_ | refine V.NWrap.u64 (by omega) (by omega) ?_ | refine V.NLt.mk (by omega) ?_ | refine V.NBoth.mk ?_ ?_ | refine V.NTF.yes (by omega) ?_ | refine V.NTF.no (by omega) ?_ | refine V.NTF.dec ?_ | refine V.NDraw.q (by exact rfl) (by kernel_rfl) ?_ | refine V.NApp.one (by first | omega | (simp; omega)) (by first | omega | (simp; omega)) ?_ | ((first | refine V.FnR.k_ (c1) [0, 1] rfl ?_ ?_ | refine V.FnR.a_ (c1) [0, 1] rfl ?_ ?_); · ((repeat' (first | exact rfl | exact Iff.rfl | exact trivial | exact (fun _ _ => rfl) | exact (fun _ h => absurd h (Nat.not_lt_zero _)) | refine ⟨?_, ?_⟩ | exact Iff.rfl | exact congrArg (fun z => V.SV.one (V.At.val (Value.int .i64 z))) (by omega))); done)) | (first | refine V.Fn.k0 (v_bkBegun) rfl ?_ | refine V.Fn.q0 (v_bkBegun) rfl ?_ | refine V.Fn.a0 (v_bkBegun) rfl ?_) | (refine V.NDraw.any (by kernel_rfl) ?_) | fail)
    all_goals (conv => whnf)
    all_goals first
      | (first | exact ⟨_, rfl, iff_of_true (by omega) rfl⟩ | (exfalso; omega) | exact ⟨_, rfl, by simp; omega⟩ | exact ⟨_, rfl, by simp⟩)
      | trace_state
end Go.Proofs.Ytbaafjimlbodeaa

/- The statement of BookEven: for every input the call returns true and its input reads as it did. No condition. -/
namespace Go.Proofs.Ytbaafjimlbodeaa.bookEven
open Go.ChangeShapes Go.WideShapes Go.ChangeAt Go.RowKit

theorem own : ownKnob Try.prog.godebug = none := by kernel_rfl

set_option maxRecDepth 100000 in
theorem lifted (os : Os) (started : os.Started) (H : Type) (enc : TypeId × Value → H) :
    ReturnsInHanded {} Try.checked os 4 .any (Rows.bookEvenSpec.pre6 enc Try.prog Try.f4 Rows.bookEvenRow.domain false) (Rows.bookEvenSpec.post enc Try.prog Try.f4 false true false false) := by
  refine returnsInHanded_of_change (C := Try.checked) own started (by kernel_rfl) Try.func4
    (ChangeSpec.witness6 (enc := enc) (C := Try.checked) false ⟨#[], #[.slice none 0 0, .slice none 0 0, .int .i64 0, .int .i64 0], []⟩ 8 (by kernel_rfl) (by kernel_rfl) (by kernel_rfl) (by kernel_rfl)) ?_
  intro W base args ds gs before hval0 hW _ _
  have hval : ∀ (j : Nat) t v, Try.f4.params[j]? = some t → args[j]? = some v → Value.okWide Try.prog W .any base t v := hval0
  have hW' := hW
  obtain ⟨p, q, hA0, hV, rfl, hfz, hnd⟩ := hW
  have hA : DataW.TrodAll enc Try.prog W 0 (fun _ => true) true Try.f4.params.toList args.toList ds p := hA0
  rw [Try.params4] at hA hval
  obtain ⟨v0, vs0, d0, ds0, p0, q0, hargs, rfl, rfl, h0, r0⟩ := trodAll_cons hA
  obtain ⟨v1, vs1, d1, ds1, p1, q1, rfl, rfl, rfl, h1, r1⟩ := trodAll_cons r0
  obtain ⟨v2, vs2, d2, ds2, p2, q2, rfl, rfl, rfl, h2, r2⟩ := trodAll_cons r1
  obtain ⟨v3, vs3, d3, ds3, p3, q3, rfl, rfl, rfl, h3, r3⟩ := trodAll_cons r2
  obtain ⟨rfl, rfl, rfl⟩ := trodAll_nil r3
  obtain rfl : args = #[v0, v1, v2, v3] := by cases args; simp_all
  obtain ⟨rfl, rfl⟩ := trodVars_none hV
  obtain ⟨l0, hl0, w0⟩ := open_pos Try.underlying22 (hval 0 22 v0 rfl rfl) h0
  obtain ⟨l1, hl1, w1⟩ := open_pos Try.underlying22 (hval 1 22 v1 rfl rfl) h1
  obtain ⟨a2, rfl, rfl, rfl, w2⟩ := open_int Try.underlying3 (hval 2 3 v2 rfl rfl) h2
  obtain ⟨a3, rfl, rfl, rfl, w3⟩ := open_int Try.underlying3 (hval 3 3 v3 rfl rfl) h3
  clear hval0
  simp only [List.append_nil] at hW'
  refine ((v_bookEven l0 w0 l1 w1 a2 w2 a3 w3).c W (fun i => [v0, v1][i]?) [_, _, _, _] (fun i o ho => by
      rcases i with _ | i
      · obtain rfl := Option.some.inj ho
        exact ⟨v0, rfl, hl0⟩
      rcases i with _ | i
      · obtain rfl := Option.some.inj ho
        exact ⟨v1, rfl, hl1⟩
      simp at ho
) ⟨_, _, rfl, ⟨rfl, hl0.one⟩, ⟨_, _, rfl, ⟨rfl, hl1.one⟩, ⟨_, _, rfl, rfl, ⟨_, _, rfl, rfl, rfl⟩⟩⟩⟩).mono fun e W' ⟨he, hg⟩ => ?_
  subst he
  exact ⟨_, rfl, post_of_below (pa := _) (pv := []) hW' (fun _ _ _ => (trodAll_cons_mk (shut_bool Try.underlying4 _) trodAll_mk0)) (fun sp hsp => all_stays laidOut (by kernel_rfl) hA0 (fun x hx => hg.same (hW'.lt x (by revert hx; simp))) (fun x hx => hsp x (by revert hx; simp))) (fun _ _ => rfl) (by simp)
    hg (ok_one (by kernel_rfl) rfl (okWide_bool_mk Try.underlying4 _))⟩

theorem over : Rows.bookEvenRow.holds Try.pinned (OpenSpec.ofChange Rows.bookEvenSpec) :=
  OpenClaim.holds_of_wide 4 Try.f4 rfl rfl rfl rfl rfl rfl rfl ⟨rfl, rfl, rfl, rfl, rfl⟩ rfl rfl rfl rfl rfl (by kernel_rfl) Try.func4 (by kernel_rfl)
    (of_decide_eq_true (by kernel_rfl)) (by unfold Func.isWrapper; first | (rw [if_pos (by decide +kernel)]; kernel_rfl) | (rw [if_neg (by decide +kernel)]; exact ⟨rfl, rfl⟩))
    (fun os started H enc _ => lifted os started H enc)

theorem proved : Rows.BookEvenSaid :=
  over
end Go.Proofs.Ytbaafjimlbodeaa.bookEven
