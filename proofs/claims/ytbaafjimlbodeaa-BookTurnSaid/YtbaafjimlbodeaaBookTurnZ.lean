/- The statement of BookTurn: the call returns true for every input, and its input reads as it did. No condition. -/
import Derived.Test.YtbaafjimlbodeaaRows
import Derived.WalkKit
import Derived.ProofKit
import Derived.OpenShut
import Derived.Test.YtbaafjimlbodeaaZ1
import Derived.Test.YtbaafjimlbodeaaZ2
import Derived.Test.YtbaafjimlbodeaaZ3
import Derived.Test.YtbaafjimlbodeaaZ4
import Derived.Test.YtbaafjimlbodeaaZ5

/- What BookTurn answers: true. -/
namespace Go.Proofs.Ytbaafjimlbodeaa
open Go Go.RowKit V
set_option maxRecDepth 100000
set_option linter.unusedVariables false
set_option linter.unusedSimpArgs false
theorem neg_neg_ (p : Po) : Bk.neg (Bk.neg p) = p := by
  cases p
  unfold Bk.neg
  simp only [Po.mk.injEq, true_and]
  omega
theorem key_neg (p : Po) : Bk.key (Bk.neg p) = Bk.key p := rfl
theorem right_neg {p : Po} (h : Bk.Right p) : Bk.Right (Bk.neg p) := by
  obtain ⟨h1, h2, h3⟩ := h
  unfold M.Amt at h2
  refine ⟨h1, ?_, ?_⟩
  · show M.Amt (0 - p.am)
    unfold M.Amt
    omega
  · show 0 - p.am ≠ 0
    omega
theorem tot_neg (k : Nat) : ∀ l : List Po, Bk.tot (l.map Bk.neg) k = 0 - Bk.tot l k
  | [] => rfl
  | p :: r => by
    have e1 : Bk.tot (p :: r) k = Bk.tot [p] k + Bk.tot r k := Bk.tot_app [p] r k
    have e2 : Bk.tot ((p :: r).map Bk.neg) k = Bk.tot [Bk.neg p] k + Bk.tot (r.map Bk.neg) k := Bk.tot_app [Bk.neg p] (r.map Bk.neg) k
    have e3 : Bk.tot [Bk.neg p] k = 0 - Bk.tot [p] k := by
      unfold Bk.tot
      by_cases q : Bk.key p = k
      · rw [Bk.amk_all fun x hx => by rw [List.mem_singleton.1 hx, key_neg]; exact q, Bk.amk_all fun x hx => by rw [List.mem_singleton.1 hx]; exact q]
        show 0 - p.am + 0 = 0 - (p.am + 0)
        omega
      · rw [Bk.amk_none fun x hx => by rw [List.mem_singleton.1 hx, key_neg]; exact q, Bk.amk_none fun x hx => by rw [List.mem_singleton.1 hx]; exact q]
        rfl
    rw [e1, e2, e3, tot_neg k r]
    omega
theorem tot_trn (l : List Po) (k : Nat) : Bk.tot (Bk.trn l) k = 0 - Bk.tot l k := by
  unfold Bk.trn
  rw [Bk.tot_perm (List.reverse_perm _), tot_neg]
theorem su_neg (T : Nat → Int) (u : Nat) : ∀ a, Bk.su (fun k => 0 - T k) u a = 0 - Bk.su T u a
  | 0 => rfl
  | a + 1 => by simp only [Bk.su, su_neg T u a]; omega
theorem trn_trn (l : List Po) : Bk.trn (Bk.trn l) = l := by
  unfold Bk.trn
  rw [List.map_reverse, List.reverse_reverse, List.map_map]
  have : Bk.neg ∘ Bk.neg = id := funext neg_neg_
  rw [this, List.map_id]
theorem trn_r {l : List Po} (h : ∀ p ∈ l, Bk.Right p) : ∀ p ∈ Bk.trn l, Bk.Right p := fun p hp => by
  unfold Bk.trn at hp
  rw [List.mem_reverse] at hp
  obtain ⟨q, hq, rfl⟩ := List.mem_map.1 hp
  exact right_neg (h q hq)
theorem trn_n (l : List Po) : (Bk.trn l).length = l.length := by simp [Bk.trn]
theorem trn_even {l : List Po} (h : ∀ p ∈ l, Bk.Right p) (e : Bk.even l = true) : Bk.even (Bk.trn l) = true := by
  rw [Bk.even_su (trn_r h)]
  intro u hu
  rw [Bk.su_congr (T := fun k => 0 - Bk.tot l k) fun j _ => tot_trn l _, su_neg, (Bk.even_su h).1 e u hu]
  rfl
theorem trn_chk {l : List Po} (h : Bk.chk l = 0) : Bk.chk (Bk.trn l) = 0 := by
  obtain ⟨a, b, c⟩ := Bk.chk_0 h
  exact Bk.chk_is (by rw [trn_n]; exact a) (trn_r b) (trn_even b c)
theorem back {b l : List Po} (P : Bk.Posted b l) : Bk.Posted (Bk.pL b l) (Bk.trn l) ∧ Bk.pL (Bk.pL b l) (Bk.trn l) = b := by
  have e : ∀ k, k < 2121 → Bk.tot (Bk.pL b l ++ Bk.trn l) k = Bk.tot b k := fun k hk => by
    rw [Bk.tot_app, Bk.po_tot P hk, tot_trn]; omega
  have o : Bk.out (Bk.tot (Bk.pL b l ++ Bk.trn l)) 2121 = b := by
    have : ∀ n, n ≤ 2121 → Bk.out (Bk.tot (Bk.pL b l ++ Bk.trn l)) n = Bk.out (Bk.tot b) n := fun n => by
      induction n with
      | zero => intro _; rfl
      | succ n ih => intro hn; rw [Bk.out_succ, Bk.out_succ, ih (by omega), e n (by omega)]
    rw [this 2121 (Nat.le_refl _), ← Bk.is_out P.bo]
  have Q : Bk.Posted (Bk.pL b l) (Bk.trn l) := ⟨Bk.po_lines P, Bk.po_even P, by rw [trn_n]; exact P.n, trn_r P.r, trn_even P.r P.le, fun k hk => by rw [e k hk]; exact Bk.tot_amt P.bo k, by rw [o]; exact P.bo.le⟩
  exact ⟨Q, by rw [Bk.po_pL Q, o]⟩
set_option maxHeartbeats 4000000 in
theorem v_bookTurn (b : List Po) (wb : ∀ f ∈ b, WfPo f) (l : List Po) (wl : ∀ f ∈ l, WfPo f) : V.Fn Try.prog 5 [.arr 3 b.length (ga encP b), .arr 3 l.length (ga encP l)] [.one (.ref 0), .one (.ref 1)] (.bool true) := by
  clear wb wl
  refine V.Fn.lim (by kernel_rfl) fun hl => ?_
  have hb : b.length ≤ 9223372036854775807 := by have := hl 0 _ _ _ rfl; omega
  have hn : l.length ≤ 9223372036854775807 := by have := hl 1 _ _ _ rfl; omega
  clear hl
  have c1 := v_bkTurn l hn
  by_cases hC : Bk.chk l = 0
  · have t0 : Bk.tL l = Bk.trn l := if_pos hC
    have tc := trn_chk hC
    have tt : Bk.tL (Bk.trn l) = l := (if_pos tc).trans (trn_trn l)
    have c2 := v_bkTurn (Bk.trn l) (by rw [trn_n]; exact hn)
    have c3 := v_bkPost b l hb hn
    have c4 := v_bkPost (Bk.pL b l) (Bk.trn l) (by
      unfold Bk.pL
      split
      · have := Bk.out_len (Bk.tot (b ++ l)) 2121; omega
      · decide) (by rw [trn_n]; exact hn)
    have s1 := v_sameposts l l hn
    have s2 := v_sameposts b b hb
    rw [decide_eq_true rfl] at s1 s2
    rw [t0, hC] at c1
    rw [tt, tc] at c2
    clear t0 tc tt hC
    by_cases hP : Bk.pE b l = 0
    · obtain ⟨Q, e⟩ := back (Bk.pE_0.1 hP)
      rw [hP] at c3
      rw [Bk.pE_0.2 Q, e] at c4
      clear Q e hP
      generalize Bk.pL b l = X at *
      generalize Bk.trn l = t at *
      refine V.Fn.mk_ V.Tok V.mixed Try.func5 rfl Try.ntmps5 (by kernel_rfl) rfl rfl ?_
      repeat' ((conv => whnf); first | (refine V.NIf.yes ?_ ?_; · (decide; done)) | (refine V.NIf.no ?_ ?_; · (decide; done)) | (refine V.NIf.yes ?_ ?_; · (simp only [true_and, and_true, and_self]; done)) | refine V.NCond.mk ?_ | refine V.NIf.not_ ?_ | refine V.NIf.dec_ ?_ | refine V.NIf.no (by omega) ?_ | refine V.NIf.yes (by omega) ?_ | refine V.NIf.mk (fun _ => ?_) (fun _ => ?_) | refine V.NWrap.ok (by omega) (by omega) ?_ | refine V.NWrap.u64 (by omega) (by omega) ?_ | refine V.NLt.mk (by omega) ?_ | refine V.NBoth.mk ?_ ?_ | refine V.NTF.yes (by omega) ?_ | refine V.NTF.no (by omega) ?_ | refine V.NTF.dec ?_ | refine V.NDraw.q (by exact rfl) (by kernel_rfl) ?_ | refine V.NApp.one (by first | omega | (simp; omega)) (by first | omega | (simp; omega)) ?_ | (first | refine V.Fn.k0 (v_bkBegun) rfl ?_ | refine V.Fn.q0 (v_bkBegun) rfl ?_ | refine V.Fn.a0 (v_bkBegun) rfl ?_) | ((first | refine V.FnR.k_ (c1) [1] rfl ?_ ?_ | refine V.FnR.a_ (c1) [1] rfl ?_ ?_); · ((repeat' (first | exact rfl | exact Iff.rfl | exact trivial | exact (fun _ _ => rfl) | exact (fun _ h => absurd h (Nat.not_lt_zero _)) | refine ⟨?_, ?_⟩ | exact Iff.rfl | exact congrArg (fun z => V.SV.one (V.At.val (Value.int .i64 z))) (by omega))); done)) | ((first | refine V.FnR.k_ (c2) [2] rfl ?_ ?_ | refine V.FnR.a_ (c2) [2] rfl ?_ ?_); · ((repeat' (first | exact rfl | exact Iff.rfl | exact trivial | exact (fun _ _ => rfl) | exact (fun _ h => absurd h (Nat.not_lt_zero _)) | refine ⟨?_, ?_⟩ | exact Iff.rfl | exact congrArg (fun z => V.SV.one (V.At.val (Value.int .i64 z))) (by omega))); done)) | ((first | refine V.FnR.k_ (c3) [0, 1] rfl ?_ ?_ | refine V.FnR.a_ (c3) [0, 1] rfl ?_ ?_); · ((repeat' (first | exact rfl | exact Iff.rfl | exact trivial | exact (fun _ _ => rfl) | exact (fun _ h => absurd h (Nat.not_lt_zero _)) | refine ⟨?_, ?_⟩ | exact Iff.rfl | exact congrArg (fun z => V.SV.one (V.At.val (Value.int .i64 z))) (by omega))); done)) | ((first | refine V.FnR.k_ (c4) [4, 2] rfl ?_ ?_ | refine V.FnR.a_ (c4) [4, 2] rfl ?_ ?_); · ((repeat' (first | exact rfl | exact Iff.rfl | exact trivial | exact (fun _ _ => rfl) | exact (fun _ h => absurd h (Nat.not_lt_zero _)) | refine ⟨?_, ?_⟩ | exact Iff.rfl | exact congrArg (fun z => V.SV.one (V.At.val (Value.int .i64 z))) (by omega))); done)) | ((first | refine V.Fn.k (s1) [3, 1] rfl ?_ ?_ | refine V.Fn.q (s1) [3, 1] rfl ?_ ?_ | refine V.Fn.a (s1) [3, 1] rfl ?_ ?_); · ((repeat' (first | exact rfl | exact Iff.rfl | exact trivial | exact (fun _ _ => rfl) | exact (fun _ h => absurd h (Nat.not_lt_zero _)) | refine ⟨?_, ?_⟩ | exact Iff.rfl | exact congrArg (fun z => V.SV.one (V.At.val (Value.int .i64 z))) (by omega))); done)) | ((first | refine V.Fn.k (s2) [5, 0] rfl ?_ ?_ | refine V.Fn.q (s2) [5, 0] rfl ?_ ?_ | refine V.Fn.a (s2) [5, 0] rfl ?_ ?_); · ((repeat' (first | exact rfl | exact Iff.rfl | exact trivial | exact (fun _ _ => rfl) | exact (fun _ h => absurd h (Nat.not_lt_zero _)) | refine ⟨?_, ?_⟩ | exact Iff.rfl | exact congrArg (fun z => V.SV.one (V.At.val (Value.int .i64 z))) (by omega))); done)) | (refine V.NDraw.any (by kernel_rfl) ?_) | fail)
      all_goals (conv => whnf)
      all_goals first
        | (first | exact ⟨_, rfl, iff_of_true (by omega) rfl⟩ | (exfalso; omega) | exact ⟨_, rfl, by simp; omega⟩ | exact ⟨_, rfl, by simp⟩)
        | trace_state
    · rw [show Bk.pL b l = [] from if_neg hP] at c3
      clear c4
      generalize Bk.pE b l = E at *
      generalize Bk.trn l = t at *
      refine V.Fn.mk_ V.Tok V.mixed Try.func5 rfl Try.ntmps5 (by kernel_rfl) rfl rfl ?_
      repeat' ((conv => whnf); first | (refine V.NIf.yes ?_ ?_; · (decide; done)) | (refine V.NIf.no ?_ ?_; · (decide; done)) | (refine V.NIf.yes ?_ ?_; · (simp only [true_and, and_true, and_self]; done)) | refine V.NCond.mk ?_ | refine V.NIf.not_ ?_ | refine V.NIf.dec_ ?_ | refine V.NIf.no (by omega) ?_ | refine V.NIf.yes (by omega) ?_ | refine V.NIf.mk (fun _ => ?_) (fun _ => ?_) | refine V.NWrap.ok (by omega) (by omega) ?_ | refine V.NWrap.u64 (by omega) (by omega) ?_ | refine V.NLt.mk (by omega) ?_ | refine V.NBoth.mk ?_ ?_ | refine V.NTF.yes (by omega) ?_ | refine V.NTF.no (by omega) ?_ | refine V.NTF.dec ?_ | refine V.NDraw.q (by exact rfl) (by kernel_rfl) ?_ | refine V.NApp.one (by first | omega | (simp; omega)) (by first | omega | (simp; omega)) ?_ | (first | refine V.Fn.k0 (v_bkBegun) rfl ?_ | refine V.Fn.q0 (v_bkBegun) rfl ?_ | refine V.Fn.a0 (v_bkBegun) rfl ?_) | ((first | refine V.FnR.k_ (c1) [1] rfl ?_ ?_ | refine V.FnR.a_ (c1) [1] rfl ?_ ?_); · ((repeat' (first | exact rfl | exact Iff.rfl | exact trivial | exact (fun _ _ => rfl) | exact (fun _ h => absurd h (Nat.not_lt_zero _)) | refine ⟨?_, ?_⟩ | exact Iff.rfl | exact congrArg (fun z => V.SV.one (V.At.val (Value.int .i64 z))) (by omega))); done)) | ((first | refine V.FnR.k_ (c2) [2] rfl ?_ ?_ | refine V.FnR.a_ (c2) [2] rfl ?_ ?_); · ((repeat' (first | exact rfl | exact Iff.rfl | exact trivial | exact (fun _ _ => rfl) | exact (fun _ h => absurd h (Nat.not_lt_zero _)) | refine ⟨?_, ?_⟩ | exact Iff.rfl | exact congrArg (fun z => V.SV.one (V.At.val (Value.int .i64 z))) (by omega))); done)) | ((first | refine V.FnR.k_ (c3) [0, 1] rfl ?_ ?_ | refine V.FnR.a_ (c3) [0, 1] rfl ?_ ?_); · ((repeat' (first | exact rfl | exact Iff.rfl | exact trivial | exact (fun _ _ => rfl) | exact (fun _ h => absurd h (Nat.not_lt_zero _)) | refine ⟨?_, ?_⟩ | exact Iff.rfl | exact congrArg (fun z => V.SV.one (V.At.val (Value.int .i64 z))) (by omega))); done)) | ((first | refine V.Fn.k (s1) [3, 1] rfl ?_ ?_ | refine V.Fn.q (s1) [3, 1] rfl ?_ ?_ | refine V.Fn.a (s1) [3, 1] rfl ?_ ?_); · ((repeat' (first | exact rfl | exact Iff.rfl | exact trivial | exact (fun _ _ => rfl) | exact (fun _ h => absurd h (Nat.not_lt_zero _)) | refine ⟨?_, ?_⟩ | exact Iff.rfl | exact congrArg (fun z => V.SV.one (V.At.val (Value.int .i64 z))) (by omega))); done)) | (refine V.NDraw.any (by kernel_rfl) ?_) | fail)
      all_goals (conv => whnf)
      all_goals first
        | (first | exact ⟨_, rfl, iff_of_true (by omega) rfl⟩ | (exfalso; omega) | exact ⟨_, rfl, by simp; omega⟩ | exact ⟨_, rfl, by simp⟩)
        | trace_state
  · rw [show Bk.tL l = [] from if_neg hC] at c1
    generalize Bk.chk l = C at *
    refine V.Fn.mk_ V.Tok V.mixed Try.func5 rfl Try.ntmps5 (by kernel_rfl) rfl rfl ?_
    repeat' ((conv => whnf); first | (refine V.NIf.yes ?_ ?_; · (decide; done)) | (refine V.NIf.no ?_ ?_; · (decide; done)) | (refine V.NIf.yes ?_ ?_; · (simp only [true_and, and_true, and_self]; done)) | refine V.NCond.mk ?_ | refine V.NIf.not_ ?_ | refine V.NIf.dec_ ?_ | refine V.NIf.no (by omega) ?_ | refine V.NIf.yes (by omega) ?_ | refine V.NIf.mk (fun _ => ?_) (fun _ => ?_) | refine V.NWrap.ok (by omega) (by omega) ?_ | refine V.NWrap.u64 (by omega) (by omega) ?_ | refine V.NLt.mk (by omega) ?_ | refine V.NBoth.mk ?_ ?_ | refine V.NTF.yes (by omega) ?_ | refine V.NTF.no (by omega) ?_ | refine V.NTF.dec ?_ | refine V.NDraw.q (by exact rfl) (by kernel_rfl) ?_ | refine V.NApp.one (by first | omega | (simp; omega)) (by first | omega | (simp; omega)) ?_ | (first | refine V.Fn.k0 (v_bkBegun) rfl ?_ | refine V.Fn.q0 (v_bkBegun) rfl ?_ | refine V.Fn.a0 (v_bkBegun) rfl ?_) | ((first | refine V.FnR.k_ (c1) [1] rfl ?_ ?_ | refine V.FnR.a_ (c1) [1] rfl ?_ ?_); · ((repeat' (first | exact rfl | exact Iff.rfl | exact trivial | exact (fun _ _ => rfl) | exact (fun _ h => absurd h (Nat.not_lt_zero _)) | refine ⟨?_, ?_⟩ | exact Iff.rfl | exact congrArg (fun z => V.SV.one (V.At.val (Value.int .i64 z))) (by omega))); done)) | (refine V.NDraw.any (by kernel_rfl) ?_) | fail)
    all_goals (conv => whnf)
    all_goals first
      | (first | exact ⟨_, rfl, iff_of_true (by omega) rfl⟩ | (exfalso; omega) | exact ⟨_, rfl, by simp; omega⟩ | exact ⟨_, rfl, by simp⟩)
      | trace_state
end Go.Proofs.Ytbaafjimlbodeaa

/- The statement of BookTurn: for every input the call returns true and its input reads as it did. No condition. -/
namespace Go.Proofs.Ytbaafjimlbodeaa.bookTurn
open Go.ChangeShapes Go.WideShapes Go.ChangeAt Go.RowKit

theorem own : ownKnob Try.prog.godebug = none := by kernel_rfl

set_option maxRecDepth 100000 in
theorem lifted (os : Os) (started : os.Started) (H : Type) (enc : TypeId × Value → H) :
    ReturnsInHanded {} Try.checked os 5 .any (Rows.bookTurnSpec.pre6 enc Try.prog Try.f5 Rows.bookTurnRow.domain false) (Rows.bookTurnSpec.post enc Try.prog Try.f5 false true false false) := by
  refine returnsInHanded_of_change (C := Try.checked) own started (by kernel_rfl) Try.func5
    (ChangeSpec.witness6 (enc := enc) (C := Try.checked) false ⟨#[], #[.slice none 0 0, .slice none 0 0], []⟩ 8 (by kernel_rfl) (by kernel_rfl) (by kernel_rfl) (by kernel_rfl)) ?_
  intro W base args ds gs before hval0 hW _ _
  have hval : ∀ (j : Nat) t v, Try.f5.params[j]? = some t → args[j]? = some v → Value.okWide Try.prog W .any base t v := hval0
  have hW' := hW
  obtain ⟨p, q, hA0, hV, rfl, hfz, hnd⟩ := hW
  have hA : DataW.TrodAll enc Try.prog W 0 (fun _ => true) true Try.f5.params.toList args.toList ds p := hA0
  rw [Try.params5] at hA hval
  obtain ⟨v0, vs0, d0, ds0, p0, q0, hargs, rfl, rfl, h0, r0⟩ := trodAll_cons hA
  obtain ⟨v1, vs1, d1, ds1, p1, q1, rfl, rfl, rfl, h1, r1⟩ := trodAll_cons r0
  obtain ⟨rfl, rfl, rfl⟩ := trodAll_nil r1
  obtain rfl : args = #[v0, v1] := by cases args; simp_all
  obtain ⟨rfl, rfl⟩ := trodVars_none hV
  obtain ⟨l0, hl0, w0⟩ := open_pos Try.underlying22 (hval 0 22 v0 rfl rfl) h0
  obtain ⟨l1, hl1, w1⟩ := open_pos Try.underlying22 (hval 1 22 v1 rfl rfl) h1
  clear hval0
  simp only [List.append_nil] at hW'
  refine ((v_bookTurn l0 w0 l1 w1).c W (fun i => [v0, v1][i]?) [_, _] (fun i o ho => by
      rcases i with _ | i
      · obtain rfl := Option.some.inj ho
        exact ⟨v0, rfl, hl0⟩
      rcases i with _ | i
      · obtain rfl := Option.some.inj ho
        exact ⟨v1, rfl, hl1⟩
      simp at ho
) ⟨_, _, rfl, ⟨rfl, hl0.one⟩, ⟨_, _, rfl, ⟨rfl, hl1.one⟩, rfl⟩⟩).mono fun e W' ⟨he, hg⟩ => ?_
  subst he
  exact ⟨_, rfl, post_of_below (pa := _) (pv := []) hW' (fun _ _ _ => (trodAll_cons_mk (shut_bool Try.underlying4 _) trodAll_mk0)) (fun sp hsp => all_stays laidOut (by kernel_rfl) hA0 (fun x hx => hg.same (hW'.lt x (by revert hx; simp))) (fun x hx => hsp x (by revert hx; simp))) (fun _ _ => rfl) (by simp)
    hg (ok_one (by kernel_rfl) rfl (okWide_bool_mk Try.underlying4 _))⟩

theorem over : Rows.bookTurnRow.holds Try.pinned (OpenSpec.ofChange Rows.bookTurnSpec) :=
  OpenClaim.holds_of_wide 5 Try.f5 rfl rfl rfl rfl rfl rfl rfl ⟨rfl, rfl, rfl, rfl, rfl⟩ rfl rfl rfl rfl rfl (by kernel_rfl) Try.func5 (by kernel_rfl)
    (of_decide_eq_true (by kernel_rfl)) (by unfold Func.isWrapper; first | (rw [if_pos (by decide +kernel)]; kernel_rfl) | (rw [if_neg (by decide +kernel)]; exact ⟨rfl, rfl⟩))
    (fun os started H enc _ => lifted os started H enc)

theorem proved : Rows.BookTurnSaid :=
  over
end Go.Proofs.Ytbaafjimlbodeaa.bookTurn
