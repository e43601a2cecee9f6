/- The statement of BookSplit: the call returns true for every input, and its input reads as it did. No condition. -/
import Derived.Test.YtbaafjimlbodeaaRows
import Derived.WalkKit
import Derived.ProofKit
import Derived.OpenShut
import Derived.Test.YtbaafjimlbodeaaZ1
import Derived.Test.YtbaafjimlbodeaaZ2
import Derived.Test.YtbaafjimlbodeaaZ3
import Derived.Test.YtbaafjimlbodeaaZ4
import Derived.Test.YtbaafjimlbodeaaZ5

/- What BookSplit answers: true. -/
namespace Go.Proofs.Ytbaafjimlbodeaa
open Go Go.RowKit V
set_option maxRecDepth 100000
set_option linter.unusedVariables false
set_option linter.unusedSimpArgs false
theorem even_app {l m : List Po} (r : ∀ p ∈ l, Bk.Right p) (s : ∀ p ∈ m, Bk.Right p) (h1 : Bk.even l = true) (h2 : Bk.even m = true) : Bk.even (l ++ m) = true := by
  rw [Bk.even_su fun p hp => (List.mem_append.1 hp).elim (r p) (s p)]
  intro u hu
  rw [Bk.su_congr (T := fun k => Bk.tot l k + Bk.tot m k) fun j _ => Bk.tot_app l m _, Bk.su_add, (Bk.even_su r).1 h1 u hu, (Bk.even_su s).1 h2 u hu]
  rfl
theorem split_yes {b l m : List Po} (P : Bk.Posted b l) (Q : Bk.Posted (Bk.pL b l) m) (h : (l ++ m).length ≤ 60) : Bk.pE b (l ++ m) = 0 ∧ Bk.pL b (l ++ m) = Bk.pL (Bk.pL b l) m := by
  have e : ∀ k, k < 2121 → Bk.tot (b ++ (l ++ m)) k = Bk.tot (Bk.pL (Bk.pL b l) m) k := fun k hk => by
    rw [Bk.po_tot Q hk, Bk.po_tot P hk, Bk.tot_app, Bk.tot_app]; omega
  have o : Bk.out (Bk.tot (b ++ (l ++ m))) 2121 = Bk.pL (Bk.pL b l) m := by
    have : ∀ n, n ≤ 2121 → Bk.out (Bk.tot (b ++ (l ++ m))) n = Bk.out (Bk.tot (Bk.pL (Bk.pL b l) m)) n := fun n => by
      induction n with
      | zero => intro _; rfl
      | succ n ih => intro hn; rw [Bk.out_succ, Bk.out_succ, ih (by omega), e n (by omega)]
    rw [this 2121 (Nat.le_refl _), ← Bk.is_out (Bk.po_lines Q)]
  have R : Bk.Posted b (l ++ m) := ⟨P.bo, P.be, by have := P.n; have := Q.n; rw [List.length_append] at *; omega, fun p hp => (List.mem_append.1 hp).elim (P.r p) (Q.r p), even_app P.r Q.r P.le Q.le, fun k hk => by rw [e k hk]; exact Bk.tot_amt (Bk.po_lines Q) k, by rw [o]; exact (Bk.po_lines Q).le⟩
  exact ⟨Bk.pE_0.2 R, by rw [Bk.po_pL R, o]⟩
theorem split_no {b l m : List Po} (P : Bk.Posted b l) (h : 60 < (l ++ m).length) : Bk.pE b (l ++ m) = 2 := by
  have c : Bk.chk (l ++ m) = 2 := (if_neg (by omega)).trans (if_pos h)
  rcases Bk.pE_cases b (l ++ m) with ⟨a, _⟩ | ⟨_, _, e⟩ | ⟨_, a, _⟩
  · exact absurd (Bk.lines_is P.bo P.be) a
  · rw [e, c]
  · omega
set_option maxHeartbeats 4000000 in
theorem v_bookSplit (b : List Po) (wb : ∀ f ∈ b, WfPo f) (l : List Po) (wl : ∀ f ∈ l, WfPo f) (m : List Po) (wm : ∀ f ∈ m, WfPo f) : V.Fn Try.prog 8 [.arr 3 b.length (ga encP b), .arr 3 l.length (ga encP l), .arr 3 m.length (ga encP m)] [.one (.ref 0), .one (.ref 1), .one (.ref 2)] (.bool true) := by
  clear wb wl wm
  refine V.Fn.lim (by kernel_rfl) fun hl => ?_
  have hb : b.length ≤ 9223372036854775807 := by have := hl 0 _ _ _ rfl; omega
  have hn : l.length ≤ 9223372036854775807 := by have := hl 1 _ _ _ rfl; omega
  have hm : m.length ≤ 9223372036854775807 := by have := hl 2 _ _ _ rfl; omega
  clear hl
  have pl : ∀ b l, (Bk.pL b l).length ≤ 2121 := fun b l => by
    unfold Bk.pL
    split
    · exact Bk.out_len _ _
    · decide
  have c1 := v_bkPost b l hb hn
  have c2 := v_bkPost (Bk.pL b l) m (by have := pl b l; omega) hm
  by_cases hP : Bk.pE b l = 0
  · by_cases hQ : Bk.pE (Bk.pL b l) m = 0
    · have P := Bk.pE_0.1 hP
      have Q := Bk.pE_0.1 hQ
      have n1 := P.n.2
      have n2 := Q.n.2
      have ln : (l ++ m).length = l.length + m.length := List.length_append
      have c3 := v_bkPost b (l ++ m) hb (by omega)
      have sy := fun h => split_yes P Q h
      have sn := fun h => @split_no b l m P h
      have s1 := v_sameposts (Bk.pL b (l ++ m)) (Bk.pL (Bk.pL b l) m) (by have := pl b (l ++ m); omega)
      have s2 : (l ++ m).length ≤ 60 → decide (Bk.pL b (l ++ m) = Bk.pL (Bk.pL b l) m) = true := fun h => decide_eq_true (sy h).2
      have s3 : (l ++ m).length ≤ 60 → Bk.pE b (l ++ m) = 0 := fun h => (sy h).1
      rw [hP] at c1
      rw [hQ] at c2
      clear sy P Q hP hQ pl
      generalize decide (Bk.pL b (l ++ m) = Bk.pL (Bk.pL b l) m) = o at *
      generalize Bk.pE b (l ++ m) = E at *
      generalize Bk.pL b (l ++ m) = Z at *
      generalize Bk.pL (Bk.pL b l) m = Y at *
      generalize Bk.pL b l = X at *
      refine V.Fn.mk_ V.Tok V.mixed Try.func8 rfl Try.ntmps8 (by kernel_rfl) rfl rfl ?_
      repeat' ((conv => whnf); first | (refine V.NIf.yes ?_ ?_; · (decide; done)) | (refine V.NIf.no ?_ ?_; · (decide; done)) | (refine V.NIf.yes ?_ ?_; · (simp only [true_and, and_true, and_self]; done)) | (refine V.NApp.to_ (en := encP) l (by simp) (by omega) (by simp; omega) (fun k hk => absurd hk (Nat.not_lt_zero _)) (fun k hk => by rw [Nat.zero_add]) ?_) | (refine V.NApp.to_ (en := encP) (l ++ m) (by simp) (by omega) (by simp; omega) (fun k hk => ga_left hk) (fun k hk => ga_right rfl hk) ?_) | refine V.NCond.mk ?_ | refine V.NIf.not_ ?_ | refine V.NIf.dec_ ?_ | refine V.NIf.no (by omega) ?_ | refine V.NIf.yes (by omega) ?_ | refine V.NIf.mk (fun _ => ?_) (fun _ => ?_) | refine V.NWrap.ok (by omega) (by omega) ?_ | refine V.NWrap.u64 (by omega) (by omega) ?_ | refine V.NLt.mk (by omega) ?_ | refine V.NBoth.mk ?_ ?_ | refine V.NTF.yes (by omega) ?_ | refine V.NTF.no (by omega) ?_ | refine V.NTF.dec ?_ | refine V.NDraw.q (by exact rfl) (by kernel_rfl) ?_ | refine V.NApp.one (by first | omega | (simp; omega)) (by first | omega | (simp; omega)) ?_ | (first | refine V.Fn.k0 (v_bkBegun) rfl ?_ | refine V.Fn.q0 (v_bkBegun) rfl ?_ | refine V.Fn.a0 (v_bkBegun) rfl ?_) | ((first | refine V.FnR.k_ (c1) [0, 1] rfl ?_ ?_ | refine V.FnR.a_ (c1) [0, 1] rfl ?_ ?_); · ((repeat' (first | exact rfl | exact Iff.rfl | exact trivial | exact (fun _ _ => rfl) | exact (fun _ h => absurd h (Nat.not_lt_zero _)) | refine ⟨?_, ?_⟩ | exact Iff.rfl | exact congrArg (fun z => V.SV.one (V.At.val (Value.int .i64 z))) (by omega))); done)) | ((first | refine V.FnR.k_ (c2) [3, 2] rfl ?_ ?_ | refine V.FnR.a_ (c2) [3, 2] rfl ?_ ?_); · ((repeat' (first | exact rfl | exact Iff.rfl | exact trivial | exact (fun _ _ => rfl) | exact (fun _ h => absurd h (Nat.not_lt_zero _)) | refine ⟨?_, ?_⟩ | exact Iff.rfl | exact congrArg (fun z => V.SV.one (V.At.val (Value.int .i64 z))) (by omega))); done)) | (refine NOne.mk ?_ ?_; · (intro k hk; rfl)) | ((first | refine V.FnR.k_ (c3) [0, 7] rfl ?_ ?_ | refine V.FnR.a_ (c3) [0, 7] rfl ?_ ?_); · ((repeat' (first | exact rfl | exact Iff.rfl | exact trivial | exact (fun _ _ => rfl) | exact (fun _ h => absurd h (Nat.not_lt_zero _)) | refine ⟨?_, ?_⟩ | exact Iff.rfl | exact congrArg (fun z => V.SV.one (V.At.val (Value.int .i64 z))) (by omega))); done)) | ((first | refine V.Fn.k (s1) [8, 4] rfl ?_ ?_ | refine V.Fn.q (s1) [8, 4] rfl ?_ ?_ | refine V.Fn.a (s1) [8, 4] rfl ?_ ?_); · ((repeat' (first | exact rfl | exact Iff.rfl | exact trivial | exact (fun _ _ => rfl) | exact (fun _ h => absurd h (Nat.not_lt_zero _)) | refine ⟨?_, ?_⟩ | exact Iff.rfl | exact congrArg (fun z => V.SV.one (V.At.val (Value.int .i64 z))) (by omega))); done)) | (refine V.NDraw.any (by kernel_rfl) ?_) | fail)
      all_goals (conv => whnf)
      all_goals first
        | (first | exact ⟨_, rfl, iff_of_true (by omega) rfl⟩ | (exfalso; omega) | exact ⟨_, rfl, by simp; omega⟩ | exact ⟨_, rfl, by simp⟩)
        | exact congrArg Value.bool (s2 (by omega))
        | (have := s2 (by omega); exact ⟨_, rfl, by simp [this]⟩)
        | trace_state
    · rw [hP] at c1
      clear hP
      generalize Bk.pE (Bk.pL b l) m = E at *
      generalize Bk.pL (Bk.pL b l) m = Y at *
      generalize Bk.pL b l = X at *
      refine V.Fn.mk_ V.Tok V.mixed Try.func8 rfl Try.ntmps8 (by kernel_rfl) rfl rfl ?_
      repeat' ((conv => whnf); first | (refine V.NIf.yes ?_ ?_; · (decide; done)) | (refine V.NIf.no ?_ ?_; · (decide; done)) | (refine V.NIf.yes ?_ ?_; · (simp only [true_and, and_true, and_self]; done)) | refine V.NCond.mk ?_ | refine V.NIf.not_ ?_ | refine V.NIf.dec_ ?_ | refine V.NIf.no (by omega) ?_ | refine V.NIf.yes (by omega) ?_ | refine V.NIf.mk (fun _ => ?_) (fun _ => ?_) | refine V.NWrap.ok (by omega) (by omega) ?_ | refine V.NWrap.u64 (by omega) (by omega) ?_ | refine V.NLt.mk (by omega) ?_ | refine V.NBoth.mk ?_ ?_ | refine V.NTF.yes (by omega) ?_ | refine V.NTF.no (by omega) ?_ | refine V.NTF.dec ?_ | refine V.NDraw.q (by exact rfl) (by kernel_rfl) ?_ | refine V.NApp.one (by first | omega | (simp; omega)) (by first | omega | (simp; omega)) ?_ | (first | refine V.Fn.k0 (v_bkBegun) rfl ?_ | refine V.Fn.q0 (v_bkBegun) rfl ?_ | refine V.Fn.a0 (v_bkBegun) rfl ?_) | ((first | refine V.FnR.k_ (c1) [0, 1] rfl ?_ ?_ | refine V.FnR.a_ (c1) [0, 1] rfl ?_ ?_); · ((repeat' (first | exact rfl | exact Iff.rfl | exact trivial | exact (fun _ _ => rfl) | exact (fun _ h => absurd h (Nat.not_lt_zero _)) | refine ⟨?_, ?_⟩ | exact Iff.rfl | exact congrArg (fun z => V.SV.one (V.At.val (Value.int .i64 z))) (by omega))); done)) | ((first | refine V.FnR.k_ (c2) [3, 2] rfl ?_ ?_ | refine V.FnR.a_ (c2) [3, 2] rfl ?_ ?_); · ((repeat' (first | exact rfl | exact Iff.rfl | exact trivial | exact (fun _ _ => rfl) | exact (fun _ h => absurd h (Nat.not_lt_zero _)) | refine ⟨?_, ?_⟩ | exact Iff.rfl | exact congrArg (fun z => V.SV.one (V.At.val (Value.int .i64 z))) (by omega))); done)) | (refine V.NDraw.any (by kernel_rfl) ?_) | fail)
      all_goals (conv => whnf)
      all_goals first
        | (first | exact ⟨_, rfl, iff_of_true (by omega) rfl⟩ | (exfalso; omega) | exact ⟨_, rfl, by simp; omega⟩ | exact ⟨_, rfl, by simp⟩)
        | trace_state
  · have z : Bk.pL b l = [] := if_neg hP
    rw [z] at c1 c2
    clear z
    generalize Bk.pE b l = E0 at *
    generalize Bk.pE [] m = E at *
    generalize Bk.pL [] m = Y at *
    refine V.Fn.mk_ V.Tok V.mixed Try.func8 rfl Try.ntmps8 (by kernel_rfl) rfl rfl ?_
    repeat' ((conv => whnf); first | (refine V.NIf.yes ?_ ?_; · (decide; done)) | (refine V.NIf.no ?_ ?_; · (decide; done)) | (refine V.NIf.yes ?_ ?_; · (simp only [true_and, and_true, and_self]; done)) | refine V.NCond.mk ?_ | refine V.NIf.not_ ?_ | refine V.NIf.dec_ ?_ | refine V.NIf.no (by omega) ?_ | refine V.NIf.yes (by omega) ?_ | refine V.NIf.mk (fun _ => ?_) (fun _ => ?_) | refine V.NWrap.ok (by omega) (by omega) ?_ | refine V.NWrap.u64 (by omega) (by omega) ?_ | refine V.NLt.mk (by omega) ?_ | refine V.NBoth.mk ?_ ?_ | refine V.NTF.yes (by omega) ?_ | refine V.NTF.no (by omega) ?_ | refine V.NTF.dec ?_ | refine V.NDraw.q (by exact rfl) (by kernel_rfl) ?_ | refine V.NApp.one (by first | omega | (simp; omega)) (by first | omega | (simp; omega)) ?_ | (first | refine V.Fn.k0 (v_bkBegun) rfl ?_ | refine V.Fn.q0 (v_bkBegun) rfl ?_ | refine V.Fn.a0 (v_bkBegun) rfl ?_) | ((first | refine V.FnR.k_ (c1) [0, 1] rfl ?_ ?_ | refine V.FnR.a_ (c1) [0, 1] rfl ?_ ?_); · ((repeat' (first | exact rfl | exact Iff.rfl | exact trivial | exact (fun _ _ => rfl) | exact (fun _ h => absurd h (Nat.not_lt_zero _)) | refine ⟨?_, ?_⟩ | exact Iff.rfl | exact congrArg (fun z => V.SV.one (V.At.val (Value.int .i64 z))) (by omega))); done)) | ((first | refine V.FnR.k_ (c2) [3, 2] rfl ?_ ?_ | refine V.FnR.a_ (c2) [3, 2] rfl ?_ ?_); · ((repeat' (first | exact rfl | exact Iff.rfl | exact trivial | exact (fun _ _ => rfl) | exact (fun _ h => absurd h (Nat.not_lt_zero _)) | refine ⟨?_, ?_⟩ | exact Iff.rfl | exact congrArg (fun z => V.SV.one (V.At.val (Value.int .i64 z))) (by omega))); done)) | (refine V.NDraw.any (by kernel_rfl) ?_) | fail)
    all_goals (conv => whnf)
    all_goals first
      | (first | exact ⟨_, rfl, iff_of_true (by omega) rfl⟩ | (exfalso; omega) | exact ⟨_, rfl, by simp; omega⟩ | exact ⟨_, rfl, by simp⟩)
      | trace_state
end Go.Proofs.Ytbaafjimlbodeaa

/- The statement of BookSplit: for every input the call returns true and its input reads as it did. No condition. -/
namespace Go.Proofs.Ytbaafjimlbodeaa.bookSplit
open Go.ChangeShapes Go.WideShapes Go.ChangeAt Go.RowKit

theorem own : ownKnob Try.prog.godebug = none := by kernel_rfl

set_option maxRecDepth 100000 in
theorem lifted (os : Os) (started : os.Started) (H : Type) (enc : TypeId × Value → H) :
    ReturnsInHanded {} Try.checked os 8 .any (Rows.bookSplitSpec.pre6 enc Try.prog Try.f8 Rows.bookSplitRow.domain false) (Rows.bookSplitSpec.post enc Try.prog Try.f8 false true false false) := by
  refine returnsInHanded_of_change (C := Try.checked) own started (by kernel_rfl) Try.func8
    (ChangeSpec.witness6 (enc := enc) (C := Try.checked) false ⟨#[], #[.slice none 0 0, .slice none 0 0, .slice none 0 0], []⟩ 8 (by kernel_rfl) (by kernel_rfl) (by kernel_rfl) (by kernel_rfl)) ?_
  intro W base args ds gs before hval0 hW _ _
  have hval : ∀ (j : Nat) t v, Try.f8.params[j]? = some t → args[j]? = some v → Value.okWide Try.prog W .any base t v := hval0
  have hW' := hW
  obtain ⟨p, q, hA0, hV, rfl, hfz, hnd⟩ := hW
  have hA : DataW.TrodAll enc Try.prog W 0 (fun _ => true) true Try.f8.params.toList args.toList ds p := hA0
  rw [Try.params8] at hA hval
  obtain ⟨v0, vs0, d0, ds0, p0, q0, hargs, rfl, rfl, h0, r0⟩ := trodAll_cons hA
  obtain ⟨v1, vs1, d1, ds1, p1, q1, rfl, rfl, rfl, h1, r1⟩ := trodAll_cons r0
  obtain ⟨v2, vs2, d2, ds2, p2, q2, rfl, rfl, rfl, h2, r2⟩ := trodAll_cons r1
  obtain ⟨rfl, rfl, rfl⟩ := trodAll_nil r2
  obtain rfl : args = #[v0, v1, v2] := by cases args; simp_all
  obtain ⟨rfl, rfl⟩ := trodVars_none hV
  obtain ⟨l0, hl0, w0⟩ := open_pos Try.underlying22 (hval 0 22 v0 rfl rfl) h0
  obtain ⟨l1, hl1, w1⟩ := open_pos Try.underlying22 (hval 1 22 v1 rfl rfl) h1
  obtain ⟨l2, hl2, w2⟩ := open_pos Try.underlying22 (hval 2 22 v2 rfl rfl) h2
  clear hval0
  simp only [List.append_nil] at hW'
  refine ((v_bookSplit l0 w0 l1 w1 l2 w2).c W (fun i => [v0, v1, v2][i]?) [_, _, _] (fun i o ho => by
      rcases i with _ | i
      · obtain rfl := Option.some.inj ho
        exact ⟨v0, rfl, hl0⟩
      rcases i with _ | i
      · obtain rfl := Option.some.inj ho
        exact ⟨v1, rfl, hl1⟩
      rcases i with _ | i
      · obtain rfl := Option.some.inj ho
        exact ⟨v2, rfl, hl2⟩
      simp at ho
) ⟨_, _, rfl, ⟨rfl, hl0.one⟩, ⟨_, _, rfl, ⟨rfl, hl1.one⟩, ⟨_, _, rfl, ⟨rfl, hl2.one⟩, rfl⟩⟩⟩).mono fun e W' ⟨he, hg⟩ => ?_
  subst he
  exact ⟨_, rfl, post_of_below (pa := _) (pv := []) hW' (fun _ _ _ => (trodAll_cons_mk (shut_bool Try.underlying4 _) trodAll_mk0)) (fun sp hsp => all_stays laidOut (by kernel_rfl) hA0 (fun x hx => hg.same (hW'.lt x (by revert hx; simp))) (fun x hx => hsp x (by revert hx; simp))) (fun _ _ => rfl) (by simp)
    hg (ok_one (by kernel_rfl) rfl (okWide_bool_mk Try.underlying4 _))⟩

theorem over : Rows.bookSplitRow.holds Try.pinned (OpenSpec.ofChange Rows.bookSplitSpec) :=
  OpenClaim.holds_of_wide 8 Try.f8 rfl rfl rfl rfl rfl rfl rfl ⟨rfl, rfl, rfl, rfl, rfl⟩ rfl rfl rfl rfl rfl (by kernel_rfl) Try.func8 (by kernel_rfl)
    (of_decide_eq_true (by kernel_rfl)) (by unfold Func.isWrapper; first | (rw [if_pos (by decide +kernel)]; kernel_rfl) | (rw [if_neg (by decide +kernel)]; exact ⟨rfl, rfl⟩))
    (fun os started H enc _ => lifted os started H enc)

theorem proved : Rows.BookSplitSaid :=
  over
end Go.Proofs.Ytbaafjimlbodeaa.bookSplit
