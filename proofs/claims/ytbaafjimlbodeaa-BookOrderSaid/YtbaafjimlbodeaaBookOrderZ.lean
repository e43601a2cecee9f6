/- The statement of BookOrder: the call returns true for every input, and its input reads as it did. No condition. -/
import Derived.Test.YtbaafjimlbodeaaRows
import Derived.WalkKit
import Derived.ProofKit
import Derived.OpenShut
import Derived.Test.YtbaafjimlbodeaaZ1
import Derived.Test.YtbaafjimlbodeaaZ2
import Derived.Test.YtbaafjimlbodeaaZ3
import Derived.Test.YtbaafjimlbodeaaZ4
import Derived.Test.YtbaafjimlbodeaaZ5

/- What BookOrder answers: true. -/
namespace Go.Proofs.Ytbaafjimlbodeaa
open Go Go.RowKit V
set_option maxRecDepth 100000
set_option linter.unusedVariables false
set_option linter.unusedSimpArgs false
theorem mE_3 (T : Nat → Int) : Bk.mE T = 0 ∨ Bk.mE T = 2 ∨ Bk.mE T = 8 := by
  unfold Bk.mE
  split
  · omega
  · split <;> omega
theorem po_next {b l m : List Po} (P : Bk.Posted b l) (Q : Bk.Posted b m) : Bk.pE (Bk.pL b l) m = 0 ∨ Bk.pE (Bk.pL b l) m = 2 ∨ Bk.pE (Bk.pL b l) m = 8 := by
  rcases Bk.pE_cases (Bk.pL b l) m with ⟨a, _⟩ | ⟨_, a, _⟩ | ⟨_, _, e⟩
  · exact absurd (Bk.po_ok P) a
  · exact absurd (Bk.chk_is Q.n Q.r Q.le) a
  · rw [e]; exact mE_3 _
theorem pL_len {b l : List Po} : (Bk.pL b l).length ≤ 2121 := by
  unfold Bk.pL
  split
  · exact Bk.out_len _ _
  · decide
set_option maxHeartbeats 4000000 in
theorem v_bookOrder (b : List Po) (wb : ∀ f ∈ b, WfPo f) (l : List Po) (wl : ∀ f ∈ l, WfPo f) (m : List Po) (wm : ∀ f ∈ m, WfPo f) : V.Fn Try.prog 6 [.arr 3 b.length (ga encP b), .arr 3 l.length (ga encP l), .arr 3 m.length (ga encP m)] [.one (.ref 0), .one (.ref 1), .one (.ref 2)] (.bool true) := by
  clear wb wl wm
  refine V.Fn.lim (by kernel_rfl) fun hl => ?_
  have hb : b.length ≤ 9223372036854775807 := by have := hl 0 _ _ _ rfl; omega
  have hn : l.length ≤ 9223372036854775807 := by have := hl 1 _ _ _ rfl; omega
  have hm : m.length ≤ 9223372036854775807 := by have := hl 2 _ _ _ rfl; omega
  clear hl
  have c1 := v_bkPost b l hb hn
  have c2 := v_bkPost b m hb hm
  have k1 := @pL_len b l
  have k2 := @pL_len b m
  have c3 := v_bkPost (Bk.pL b l) m (by omega) hm
  have c4 := v_bkPost (Bk.pL b m) l (by omega) hn
  have ze : Bk.pE b l ≠ 0 → Bk.pL b l = [] := fun h => if_neg h
  by_cases hP : Bk.pE b l = 0
  · by_cases hQ : Bk.pE b m = 0
    · have P := Bk.pE_0.1 hP
      have Q := Bk.pE_0.1 hQ
      have n1 := po_next P Q
      have n2 := po_next Q P
      have s1 := v_sameposts (Bk.pL (Bk.pL b l) m) (Bk.pL (Bk.pL b m) l) (by have := @pL_len (Bk.pL b l) m; omega)
      have eq : Bk.pE (Bk.pL b l) m = 0 → Bk.pE (Bk.pL b m) l = 0 → Bk.pL (Bk.pL b l) m = Bk.pL (Bk.pL b m) l := fun h1 h2 => by
        have P1 := Bk.pE_0.1 h1
        have Q1 := Bk.pE_0.1 h2
        refine Bk.book_ext (Bk.po_lines P1) (Bk.po_lines Q1) fun k hk => ?_
        rw [Bk.po_tot P1 hk, Bk.po_tot Q1 hk, Bk.po_tot P hk, Bk.po_tot Q hk]
        omega
      have s2 : Bk.pE (Bk.pL b l) m = 0 → Bk.pE (Bk.pL b m) l = 0 → decide (Bk.pL (Bk.pL b l) m = Bk.pL (Bk.pL b m) l) = true := fun h1 h2 => decide_eq_true (eq h1 h2)
      rw [hP] at c1
      rw [hQ] at c2
      generalize decide (Bk.pL (Bk.pL b l) m = Bk.pL (Bk.pL b m) l) = o at *
      clear eq P Q ze
      generalize Bk.pE (Bk.pL b l) m = E1 at *
      generalize Bk.pE (Bk.pL b m) l = E2 at *
      generalize Bk.pL (Bk.pL b l) m = L1 at *
      generalize Bk.pL (Bk.pL b m) l = L2 at *
      generalize Bk.pL b l = X at *
      generalize Bk.pL b m = Y at *
      refine V.Fn.mk_ V.Tok V.mixed Try.func6 rfl Try.ntmps6 (by kernel_rfl) rfl rfl ?_
      repeat' ((conv => whnf); first | (refine V.NIf.yes ?_ ?_; · (decide; done)) | (refine V.NIf.no ?_ ?_; · (decide; done)) | (refine V.NIf.yes ?_ ?_; · (simp only [true_and, and_true, and_self]; done)) | refine V.NCond.mk ?_ | refine V.NIf.not_ ?_ | refine V.NIf.dec_ ?_ | refine V.NIf.no (by omega) ?_ | refine V.NIf.yes (by omega) ?_ | refine V.NIf.mk (fun _ => ?_) (fun _ => ?_) | refine V.NWrap.ok (by omega) (by omega) ?_ | refine V.NWrap.u64 (by omega) (by omega) ?_ | refine V.NLt.mk (by omega) ?_ | refine V.NBoth.mk ?_ ?_ | refine V.NTF.yes (by omega) ?_ | refine V.NTF.no (by omega) ?_ | refine V.NTF.dec ?_ | refine V.NDraw.q (by exact rfl) (by kernel_rfl) ?_ | refine V.NApp.one (by first | omega | (simp; omega)) (by first | omega | (simp; omega)) ?_ | (first | refine V.Fn.k0 (v_bkBegun) rfl ?_ | refine V.Fn.q0 (v_bkBegun) rfl ?_ | refine V.Fn.a0 (v_bkBegun) rfl ?_) | ((first | refine V.FnR.k_ (c1) [0, 1] rfl ?_ ?_ | refine V.FnR.a_ (c1) [0, 1] rfl ?_ ?_); · ((repeat' (first | exact rfl | exact Iff.rfl | exact trivial | exact (fun _ _ => rfl) | exact (fun _ h => absurd h (Nat.not_lt_zero _)) | refine ⟨?_, ?_⟩ | exact Iff.rfl | exact congrArg (fun z => V.SV.one (V.At.val (Value.int .i64 z))) (by omega))); done)) | ((first | refine V.FnR.k_ (c2) [0, 2] rfl ?_ ?_ | refine V.FnR.a_ (c2) [0, 2] rfl ?_ ?_); · ((repeat' (first | exact rfl | exact Iff.rfl | exact trivial | exact (fun _ _ => rfl) | exact (fun _ h => absurd h (Nat.not_lt_zero _)) | refine ⟨?_, ?_⟩ | exact Iff.rfl | exact congrArg (fun z => V.SV.one (V.At.val (Value.int .i64 z))) (by omega))); done)) | ((first | refine V.FnR.k_ (c3) [3, 2] rfl ?_ ?_ | refine V.FnR.a_ (c3) [3, 2] rfl ?_ ?_); · ((repeat' (first | exact rfl | exact Iff.rfl | exact trivial | exact (fun _ _ => rfl) | exact (fun _ h => absurd h (Nat.not_lt_zero _)) | refine ⟨?_, ?_⟩ | exact Iff.rfl | exact congrArg (fun z => V.SV.one (V.At.val (Value.int .i64 z))) (by omega))); done)) | ((first | refine V.FnR.k_ (c4) [4, 1] rfl ?_ ?_ | refine V.FnR.a_ (c4) [4, 1] rfl ?_ ?_); · ((repeat' (first | exact rfl | exact Iff.rfl | exact trivial | exact (fun _ _ => rfl) | exact (fun _ h => absurd h (Nat.not_lt_zero _)) | refine ⟨?_, ?_⟩ | exact Iff.rfl | exact congrArg (fun z => V.SV.one (V.At.val (Value.int .i64 z))) (by omega))); done)) | ((first | refine V.Fn.k (s1) [5, 6] rfl ?_ ?_ | refine V.Fn.q (s1) [5, 6] rfl ?_ ?_ | refine V.Fn.a (s1) [5, 6] rfl ?_ ?_); · ((repeat' (first | exact rfl | exact Iff.rfl | exact trivial | exact (fun _ _ => rfl) | exact (fun _ h => absurd h (Nat.not_lt_zero _)) | refine ⟨?_, ?_⟩ | exact Iff.rfl | exact congrArg (fun z => V.SV.one (V.At.val (Value.int .i64 z))) (by omega))); done)) | (refine V.NDraw.any (by kernel_rfl) ?_) | fail)
      all_goals (conv => whnf)
      all_goals first
        | (first | exact ⟨_, rfl, iff_of_true (by omega) rfl⟩ | (exfalso; omega) | exact ⟨_, rfl, by simp; omega⟩ | exact ⟨_, rfl, by simp⟩)
        | exact congrArg Value.bool (s2 (by omega) (by omega))
        | trace_state
    · clear c3 c4 k1 k2
      rw [hP] at c1
      generalize Bk.pE b m = E at *
      generalize Bk.pL b l = X at *
      generalize Bk.pL b m = Y at *
      refine V.Fn.mk_ V.Tok V.mixed Try.func6 rfl Try.ntmps6 (by kernel_rfl) rfl rfl ?_
      repeat' ((conv => whnf); first | (refine V.NIf.yes ?_ ?_; · (decide; done)) | (refine V.NIf.no ?_ ?_; · (decide; done)) | (refine V.NIf.yes ?_ ?_; · (simp only [true_and, and_true, and_self]; done)) | refine V.NCond.mk ?_ | refine V.NIf.not_ ?_ | refine V.NIf.dec_ ?_ | refine V.NIf.no (by omega) ?_ | refine V.NIf.yes (by omega) ?_ | refine V.NIf.mk (fun _ => ?_) (fun _ => ?_) | refine V.NWrap.ok (by omega) (by omega) ?_ | refine V.NWrap.u64 (by omega) (by omega) ?_ | refine V.NLt.mk (by omega) ?_ | refine V.NBoth.mk ?_ ?_ | refine V.NTF.yes (by omega) ?_ | refine V.NTF.no (by omega) ?_ | refine V.NTF.dec ?_ | refine V.NDraw.q (by exact rfl) (by kernel_rfl) ?_ | refine V.NApp.one (by first | omega | (simp; omega)) (by first | omega | (simp; omega)) ?_ | (first | refine V.Fn.k0 (v_bkBegun) rfl ?_ | refine V.Fn.q0 (v_bkBegun) rfl ?_ | refine V.Fn.a0 (v_bkBegun) rfl ?_) | ((first | refine V.FnR.k_ (c1) [0, 1] rfl ?_ ?_ | refine V.FnR.a_ (c1) [0, 1] rfl ?_ ?_); · ((repeat' (first | exact rfl | exact Iff.rfl | exact trivial | exact (fun _ _ => rfl) | exact (fun _ h => absurd h (Nat.not_lt_zero _)) | refine ⟨?_, ?_⟩ | exact Iff.rfl | exact congrArg (fun z => V.SV.one (V.At.val (Value.int .i64 z))) (by omega))); done)) | ((first | refine V.FnR.k_ (c2) [0, 2] rfl ?_ ?_ | refine V.FnR.a_ (c2) [0, 2] rfl ?_ ?_); · ((repeat' (first | exact rfl | exact Iff.rfl | exact trivial | exact (fun _ _ => rfl) | exact (fun _ h => absurd h (Nat.not_lt_zero _)) | refine ⟨?_, ?_⟩ | exact Iff.rfl | exact congrArg (fun z => V.SV.one (V.At.val (Value.int .i64 z))) (by omega))); done)) | (refine V.NDraw.any (by kernel_rfl) ?_) | fail)
      all_goals (conv => whnf)
      all_goals first
        | (first | exact ⟨_, rfl, iff_of_true (by omega) rfl⟩ | (exfalso; omega) | exact ⟨_, rfl, by simp; omega⟩ | exact ⟨_, rfl, by simp⟩)
        | trace_state
  · clear c3 c4 k1 k2
    rw [ze hP] at c1
    clear ze
    generalize Bk.pE b l = E0 at *
    generalize Bk.pE b m = E at *
    generalize Bk.pL b m = Y at *
    refine V.Fn.mk_ V.Tok V.mixed Try.func6 rfl Try.ntmps6 (by kernel_rfl) rfl rfl ?_
    repeat' ((conv => whnf); first | (refine V.NIf.yes ?_ ?_; · (decide; done)) | (refine V.NIf.no ?_ ?_; · (decide; done)) | (refine V.NIf.yes ?_ ?_; · (simp only [true_and, and_true, and_self]; done)) | refine V.NCond.mk ?_ | refine V.NIf.not_ ?_ | refine V.NIf.dec_ ?_ | refine V.NIf.no (by omega) ?_ | refine V.NIf.yes (by omega) ?_ | refine V.NIf.mk (fun _ => ?_) (fun _ => ?_) | refine V.NWrap.ok (by omega) (by omega) ?_ | refine V.NWrap.u64 (by omega) (by omega) ?_ | refine V.NLt.mk (by omega) ?_ | refine V.NBoth.mk ?_ ?_ | refine V.NTF.yes (by omega) ?_ | refine V.NTF.no (by omega) ?_ | refine V.NTF.dec ?_ | refine V.NDraw.q (by exact rfl) (by kernel_rfl) ?_ | refine V.NApp.one (by first | omega | (simp; omega)) (by first | omega | (simp; omega)) ?_ | (first | refine V.Fn.k0 (v_bkBegun) rfl ?_ | refine V.Fn.q0 (v_bkBegun) rfl ?_ | refine V.Fn.a0 (v_bkBegun) rfl ?_) | ((first | refine V.FnR.k_ (c1) [0, 1] rfl ?_ ?_ | refine V.FnR.a_ (c1) [0, 1] rfl ?_ ?_); · ((repeat' (first | exact rfl | exact Iff.rfl | exact trivial | exact (fun _ _ => rfl) | exact (fun _ h => absurd h (Nat.not_lt_zero _)) | refine ⟨?_, ?_⟩ | exact Iff.rfl | exact congrArg (fun z => V.SV.one (V.At.val (Value.int .i64 z))) (by omega))); done)) | ((first | refine V.FnR.k_ (c2) [0, 2] rfl ?_ ?_ | refine V.FnR.a_ (c2) [0, 2] rfl ?_ ?_); · ((repeat' (first | exact rfl | exact Iff.rfl | exact trivial | exact (fun _ _ => rfl) | exact (fun _ h => absurd h (Nat.not_lt_zero _)) | refine ⟨?_, ?_⟩ | exact Iff.rfl | exact congrArg (fun z => V.SV.one (V.At.val (Value.int .i64 z))) (by omega))); done)) | (refine V.NDraw.any (by kernel_rfl) ?_) | fail)
    all_goals (conv => whnf)
    all_goals first
      | (first | exact ⟨_, rfl, iff_of_true (by omega) rfl⟩ | (exfalso; omega) | exact ⟨_, rfl, by simp; omega⟩ | exact ⟨_, rfl, by simp⟩)
      | trace_state
end Go.Proofs.Ytbaafjimlbodeaa

/- The statement of BookOrder: for every input the call returns true and its input reads as it did. No condition. -/
namespace Go.Proofs.Ytbaafjimlbodeaa.bookOrder
open Go.ChangeShapes Go.WideShapes Go.ChangeAt Go.RowKit

theorem own : ownKnob Try.prog.godebug = none := by kernel_rfl

set_option maxRecDepth 100000 in
theorem lifted (os : Os) (started : os.Started) (H : Type) (enc : TypeId × Value → H) :
    ReturnsInHanded {} Try.checked os 6 .any (Rows.bookOrderSpec.pre6 enc Try.prog Try.f6 Rows.bookOrderRow.domain false) (Rows.bookOrderSpec.post enc Try.prog Try.f6 false true false false) := by
  refine returnsInHanded_of_change (C := Try.checked) own started (by kernel_rfl) Try.func6
    (ChangeSpec.witness6 (enc := enc) (C := Try.checked) false ⟨#[], #[.slice none 0 0, .slice none 0 0, .slice none 0 0], []⟩ 8 (by kernel_rfl) (by kernel_rfl) (by kernel_rfl) (by kernel_rfl)) ?_
  intro W base args ds gs before hval0 hW _ _
  have hval : ∀ (j : Nat) t v, Try.f6.params[j]? = some t → args[j]? = some v → Value.okWide Try.prog W .any base t v := hval0
  have hW' := hW
  obtain ⟨p, q, hA0, hV, rfl, hfz, hnd⟩ := hW
  have hA : DataW.TrodAll enc Try.prog W 0 (fun _ => true) true Try.f6.params.toList args.toList ds p := hA0
  rw [Try.params6] at hA hval
  obtain ⟨v0, vs0, d0, ds0, p0, q0, hargs, rfl, rfl, h0, r0⟩ := trodAll_cons hA
  obtain ⟨v1, vs1, d1, ds1, p1, q1, rfl, rfl, rfl, h1, r1⟩ := trodAll_cons r0
  obtain ⟨v2, vs2, d2, ds2, p2, q2, rfl, rfl, rfl, h2, r2⟩ := trodAll_cons r1
  obtain ⟨rfl, rfl, rfl⟩ := trodAll_nil r2
  obtain rfl : args = #[v0, v1, v2] := by cases args; simp_all
  obtain ⟨rfl, rfl⟩ := trodVars_none hV
  obtain ⟨l0, hl0, w0⟩ := open_pos Try.underlying22 (hval 0 22 v0 rfl rfl) h0
  obtain ⟨l1, hl1, w1⟩ := open_pos Try.underlying22 (hval 1 22 v1 rfl rfl) h1
  obtain ⟨l2, hl2, w2⟩ := open_pos Try.underlying22 (hval 2 22 v2 rfl rfl) h2
  clear hval0
  simp only [List.append_nil] at hW'
  refine ((v_bookOrder l0 w0 l1 w1 l2 w2).c W (fun i => [v0, v1, v2][i]?) [_, _, _] (fun i o ho => by
      rcases i with _ | i
      · obtain rfl := Option.some.inj ho
        exact ⟨v0, rfl, hl0⟩
      rcases i with _ | i
      · obtain rfl := Option.some.inj ho
        exact ⟨v1, rfl, hl1⟩
      rcases i with _ | i
      · obtain rfl := Option.some.inj ho
        exact ⟨v2, rfl, hl2⟩
      simp at ho
) ⟨_, _, rfl, ⟨rfl, hl0.one⟩, ⟨_, _, rfl, ⟨rfl, hl1.one⟩, ⟨_, _, rfl, ⟨rfl, hl2.one⟩, rfl⟩⟩⟩).mono fun e W' ⟨he, hg⟩ => ?_
  subst he
  exact ⟨_, rfl, post_of_below (pa := _) (pv := []) hW' (fun _ _ _ => (trodAll_cons_mk (shut_bool Try.underlying4 _) trodAll_mk0)) (fun sp hsp => all_stays laidOut (by kernel_rfl) hA0 (fun x hx => hg.same (hW'.lt x (by revert hx; simp))) (fun x hx => hsp x (by revert hx; simp))) (fun _ _ => rfl) (by simp)
    hg (ok_one (by kernel_rfl) rfl (okWide_bool_mk Try.underlying4 _))⟩

theorem over : Rows.bookOrderRow.holds Try.pinned (OpenSpec.ofChange Rows.bookOrderSpec) :=
  OpenClaim.holds_of_wide 6 Try.f6 rfl rfl rfl rfl rfl rfl rfl ⟨rfl, rfl, rfl, rfl, rfl⟩ rfl rfl rfl rfl rfl (by kernel_rfl) Try.func6 (by kernel_rfl)
    (of_decide_eq_true (by kernel_rfl)) (by unfold Func.isWrapper; first | (rw [if_pos (by decide +kernel)]; kernel_rfl) | (rw [if_neg (by decide +kernel)]; exact ⟨rfl, rfl⟩))
    (fun os started H enc _ => lifted os started H enc)

theorem proved : Rows.BookOrderSaid :=
  over
end Go.Proofs.Ytbaafjimlbodeaa.bookOrder
